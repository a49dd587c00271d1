/-
  A network: the laws of resting and spreading, in plain Lean.
-/
import Derived.Test.YthiiodbjmcafgaaNP
set_option linter.unusedVariables false
set_option linter.unusedSimpArgs false
set_option linter.unnecessarySimpa false
set_option maxRecDepth 10000
namespace Go.Ne
theorem sub_len' : ∀ {l m : List Tx}, l.Nodup → (∀ x ∈ l, x ∈ m) → l.length ≤ m.length
  | [], _, _, _ => Nat.zero_le _
  | x :: l, m, hn, hs => by
    rw [List.nodup_cons] at hn
    have hx : x ∈ m := hs x List.mem_cons_self
    have h1 := sub_len' (l := l) (m := m.erase x) hn.2 fun y hy => (List.mem_erase_of_ne (show y ≠ x from fun e => hn.1 (e ▸ hy))).2 (hs y (List.mem_cons_of_mem _ hy))
    have h2 := List.length_erase_of_mem hx
    have h3 : 0 < m.length := List.length_pos_of_mem hx
    rw [List.length_cons]; omega

/-! ### A message that is sent over an empty line, and arrives -/
def pass (s : Net) (a b : Nat) : Net := deliver (send s a b) a b false false
theorem pass_eq {s : Net} {a b : Nat} (hp : pair s a b = true) (hc : cutA s a b = false) (hq : s.q a b = []) :
    sendE s a b = 0 ∧ delivB (send s a b) a b = true ∧ ∃ q', pass s a b = recv { s with q := q' } a b (msg s a b) ∧ q' a b = [] ∧ ∀ x y, ¬ (x = a ∧ y = b) → q' x y = s.q x y := by
  have hE : sendE s a b = 0 := by
    unfold sendE
    rw [if_neg (by rw [hp]; decide), if_neg (by rw [hc]; decide), if_neg (by rw [hq]; decide)]
  have hs : send s a b = { s with q := upd2 s.q a b [msg s a b] } := by
    unfold send
    rw [if_neg (by rw [hE]; decide), hq]; rfl
  have hd : delivB (send s a b) a b = true := by
    rw [hs]
    refine delivB_iff.2 ⟨hp, hc, ?_⟩
    show upd2 s.q a b [msg s a b] a b ≠ []
    rw [upd2_same]; simp
  refine ⟨hE, hd, upd2 (upd2 s.q a b [msg s a b]) a b [], ?_, upd2_same _ _ _ _, fun x y h => by rw [upd2_ne _ _ h, upd2_ne _ _ h]⟩
  unfold pass deliver
  rw [if_pos hd]
  have e : (send s a b).q a b = [msg s a b] := by rw [hs]; exact upd2_same _ _ _ _
  rw [e, hs]
  rfl
/-- What holds when a line is whole and empty both ways. -/
structure Clear (s : Net) (a b : Nat) : Prop where
  p : pair s a b = true
  c : cutA s a b = false
  q1 : s.q a b = []
  q2 : s.q b a = []
theorem pair_comm (s : Net) (a b : Nat) : pair s a b = pair s b a := decide_eq_decide.2 ⟨fun ⟨h1, h2, h3⟩ => ⟨h2, h1, h3.symm⟩, fun ⟨h1, h2, h3⟩ => ⟨h2, h1, h3.symm⟩⟩
theorem cutA_comm (s : Net) (a b : Nat) : cutA s a b = cutA s b a := by
  unfold cutA
  rw [Nat.min_comm, Nat.max_comm]
theorem Clear.comm {s : Net} {a b : Nat} (h : Clear s a b) : Clear s b a := ⟨by rw [pair_comm]; exact h.p, by rw [cutA_comm]; exact h.c, h.q2, h.q1⟩
theorem Clear.pass {s : Net} {a b x y : Nat} (h : Clear s a b) (hx : Clear s x y) : Clear (pass s a b) x y := by
  obtain ⟨-, -, q', e, h1, h2⟩ := pass_eq h.p h.c h.q1
  rw [e]
  refine ⟨hx.p, hx.c, ?_, ?_⟩
  · show q' x y = []
    by_cases e : x = a ∧ y = b
    · obtain ⟨rfl, rfl⟩ := e; exact h1
    · rw [h2 _ _ e]; exact hx.q1
  · show q' y x = []
    by_cases e : y = a ∧ x = b
    · obtain ⟨rfl, rfl⟩ := e; exact h1
    · rw [h2 _ _ e]; exact hx.q2
theorem Inv.pass {s : Net} (h : Inv s) (a b : Nat) : Inv (pass s a b) := (h.send a b).deliver a b false false
theorem pass_grows (s : Net) (a b : Nat) : Grows s (pass s a b) := (Grows.of (send_node s a b)).trans (deliver_grows _ _ _ _ _)
theorem pass_n (s : Net) (a b : Nat) : (pass s a b).n = s.n := (n_deliver _ _ _ _ _).trans (n_send _ _ _)
theorem all_deliver (s : Net) (a b : Nat) (lost again : Bool) : (deliver s a b lost again).all = s.all := by
  unfold deliver
  split
  · cases s.q a b with
    | nil => rfl
    | cons m ms => cases again <;> cases lost <;> rfl
  · rfl
theorem all_send (s : Net) (a b : Nat) : (send s a b).all = s.all := by unfold send; split <;> rfl
theorem all_setCut (s : Net) (a b : Nat) (off : Bool) : (setCut s a b off).all = s.all := by unfold setCut; split <;> rfl
theorem pass_all (s : Net) (a b : Nat) : (pass s a b).all = s.all := (all_deliver _ _ _ _ _).trans (all_send _ _ _)
theorem pass_texts {s : Net} {a b : Nat} (h : Clear s a b) (x : Nat) : texts (pass s a b) x = if x = b then (lacks s a b).foldl addT (texts s b) else texts s x := by
  obtain ⟨-, -, q', e, -, -⟩ := pass_eq h.p h.c h.q1
  rw [e, recv_texts]; rfl
theorem pass_peer {s : Net} {a b : Nat} (h : Clear s a b) (x y : Nat) : ((pass s a b).node x).peer y = if x = b ∧ y = a then ⟨max ((s.node b).peer a).heard (texts s a).length, max ((s.node b).peer a).known ((s.node a).peer b).heard, (lacks s a b).foldl addT ((s.node b).peer a).got⟩ else (s.node x).peer y := by
  obtain ⟨-, -, q', e, -, -⟩ := pass_eq h.p h.c h.q1
  rw [e, recv_peer]; rfl
/-- After a message the receiver has all that the sender has. -/
theorem pass_sub {s : Net} {a b : Nat} (hi : Inv s) (h : Clear s a b) : ∀ t ∈ texts s a, t ∈ texts (pass s a b) b := fun t ht => by
  rw [pass_texts h, if_pos rfl, mem_foldT]
  exact (hi.knows h.p ht).symm
theorem pass_from {s : Net} {a b : Nat} (h : Clear s a b) : texts (pass s a b) a = texts s a := by
  rw [pass_texts h, if_neg (pair_ne h.p)]
theorem lacks_eq {s : Net} {a b : Nat} (hp : pair s a b = true) : lacks s a b = ((texts s a).drop ((s.node a).peer b).known).filter fun t => decide (t ∉ ((s.node a).peer b).got) := if_pos hp
theorem foldT_new : ∀ {ts l e : List Tx}, ts.foldl addT l = l ++ e → ∀ t ∈ e, l.Nodup → t ∈ ts := by
  intro ts l e he t ht hn
  have h1 : t ∈ ts.foldl addT l := by rw [he]; exact List.mem_append_right _ ht
  have h2 : (ts.foldl addT l).Nodup := nodup_foldT hn
  rw [he, List.nodup_append] at h2
  rcases mem_foldT.1 h1 with h3 | h3
  · exact absurd rfl (h2.2.2 t h3 t ht)
  · exact h3

/-! ### Three messages, and rest -/
structure Rest (s : Net) (a b : Nat) : Prop where
  l1 : lacks s a b = []
  l2 : lacks s b a = []
  n : (texts s a).length = (texts s b).length
theorem rests {s : Net} {a b : Nat} (hi : Inv s) (h : Clear s a b) : Rest (pass (pass (pass s a b) b a) a b) a b := by
  have hab := pair_ne h.p
  have i1 : Inv (pass s a b) := hi.pass a b
  have c1 : Clear (pass s a b) a b := h.pass h
  have c1' := c1.comm
  have ta1 : texts (pass s a b) a = texts s a := pass_from h
  have sub1 : ∀ t ∈ texts s a, t ∈ texts (pass s a b) b := pass_sub hi h
  have hd1 : (((pass s a b).node b).peer a).heard = (texts s a).length := by
    rw [pass_peer h, if_pos ⟨rfl, rfl⟩]
    have := hi.he a b
    show max _ _ = _
    omega
  generalize pass s a b = s1 at *
  have i2 : Inv (pass s1 b a) := i1.pass b a
  have c2 : Clear (pass s1 b a) a b := c1'.pass c1
  have tb2 : texts (pass s1 b a) b = texts s1 b := pass_from c1'
  have ta2 : texts (pass s1 b a) a = (lacks s1 b a).foldl addT (texts s a) := by
    rw [pass_texts c1', if_pos rfl, ta1]
  have p2 : ((pass s1 b a).node a).peer b = ⟨max ((s1.node a).peer b).heard (texts s1 b).length, max ((s1.node a).peer b).known (texts s a).length, (lacks s1 b a).foldl addT ((s1.node a).peer b).got⟩ := by
    rw [pass_peer c1', if_pos ⟨rfl, rfl⟩, hd1]
  have hk1 := i1.kn a b
  rw [ta1] at hk1
  generalize pass s1 b a = s2 at *
  have hl2 : lacks s2 a b = [] := by
    rw [lacks_eq c2.p, p2]
    show ((texts s2 a).drop (max ((s1.node a).peer b).known (texts s a).length)).filter _ = []
    obtain ⟨e, he⟩ := foldT_ext (lacks s1 b a) (texts s a)
    rw [Nat.max_eq_right hk1, ta2, he, List.drop_left]
    rw [List.filter_eq_nil_iff]
    intro t ht
    have h3 := foldT_new he t ht (hi.nd a)
    simp only [decide_eq_true_eq, Classical.not_not]
    exact mem_foldT.2 (.inr h3)
  have same : ∀ t, t ∈ texts s2 a ↔ t ∈ texts s2 b := fun t => by
    rw [tb2, ta2, mem_foldT]
    refine ⟨fun h' => h'.elim (sub1 t) lacks_mem, fun h' => ?_⟩
    rcases i1.knows c1'.p h' with h' | h'
    · exact .inr h'
    · rw [ta1] at h'; exact .inl h'
  have c3 : Clear (pass s2 a b) a b := c2.pass c2
  have ta3 : texts (pass s2 a b) a = texts s2 a := pass_from c2
  have tb3 : texts (pass s2 a b) b = texts s2 b := by
    rw [pass_texts c2, if_pos rfl, hl2]; rfl
  have p3 : (((pass s2 a b).node b).peer a).known = max ((s2.node b).peer a).known ((s2.node a).peer b).heard := by
    rw [pass_peer c2, if_pos ⟨rfl, rfl⟩]
  have p3' : ((pass s2 a b).node a).peer b = (s2.node a).peer b := by
    rw [pass_peer c2, if_neg (fun h => hab h.1)]
  have hh : (texts s1 b).length ≤ ((s2.node a).peer b).heard := by
    rw [p2]
    exact Nat.le_max_right _ _
  generalize pass s2 a b = s3 at *
  refine ⟨?_, ?_, ?_⟩
  · rw [lacks_eq c3.p, p3', ta3, ← lacks_eq c2.p]; exact hl2
  · rw [lacks_eq c3.comm.p, p3, tb3, tb2, List.drop_of_length_le (by omega)]
    rfl
  · rw [ta3, tb3]
    exact Nat.le_antisymm (sub_len' (i2.nd a) fun t ht => (same t).1 ht) (sub_len' (i2.nd b) fun t ht => (same t).2 ht)
/-- When both rest, a further message shows nothing new. -/
theorem Rest.comm {s : Net} {a b : Nat} (h : Rest s a b) : Rest s b a := ⟨h.l2, h.l1, h.n.symm⟩
theorem Rest.more {s : Net} {a b : Nat} (hc : Clear s a b) (h : Rest s a b) : VEq s (pass s a b) := by
  have hab := pair_ne hc.p
  have ht : ∀ x, texts (pass s a b) x = texts s x := fun x => by
    rw [pass_texts hc, h.l1]
    split
    · rename_i e; rw [e]; rfl
    · rfl
  refine ⟨pass_n s a b, ht, fun x y => ?_⟩
  by_cases e : x = b ∧ y = a
  · obtain ⟨rfl, rfl⟩ := e
    rw [h.l2]
    rw [lacks_eq (by unfold pair; rw [pass_n]; exact hc.comm.p), ht, pass_peer hc, if_pos ⟨rfl, rfl⟩, h.l1]
    have h2 := h.l2
    rw [lacks_eq hc.comm.p, List.filter_eq_nil_iff] at h2
    rw [List.filter_eq_nil_iff]
    intro t hm
    refine h2 t ?_
    have : ((texts s x).drop (max ((s.node x).peer y).known ((s.node y).peer x).heard)).Sublist ((texts s x).drop ((s.node x).peer y).known) := by
      have e : max ((s.node x).peer y).known ((s.node y).peer x).heard = ((s.node x).peer y).known + (max ((s.node x).peer y).known ((s.node y).peer x).heard - ((s.node x).peer y).known) := by omega
      rw [e, ← List.drop_drop]
      exact List.drop_sublist _ _
    exact this.subset hm
  · unfold lacks
    have hp : ((pass s a b).node x).peer y = (s.node x).peer y := by rw [pass_peer hc, if_neg e]
    have hpr : pair (pass s a b) x y = pair s x y := by unfold pair; rw [pass_n]
    have htx := ht x
    unfold texts at htx
    rw [hp, hpr, htx]
theorem Rest.pass {s : Net} {a b : Nat} (hc : Clear s a b) (h : Rest s a b) : Rest (pass s a b) a b := by
  have v := h.more hc
  exact ⟨by rw [v.l]; exact h.l1, by rw [v.l]; exact h.l2, by rw [v.t, v.t]; exact h.n⟩

/-! ### Dropping what is under way -/
theorem drop_eq {s : Net} {a b : Nat} (hp : pair s a b = true) (hc : cutA s a b = false) : delivB s a b = decide (s.q a b ≠ []) ∧ deliver s a b true false = { s with q := upd2 s.q a b (s.q a b).tail } := by
  have h1 : delivB s a b = decide (s.q a b ≠ []) := by unfold delivB; rw [hp, hc]; simp
  refine ⟨h1, ?_⟩
  unfold deliver
  rw [h1]
  cases hq : s.q a b with
  | nil =>
    rw [if_neg (by simp)]
    have : upd2 s.q a b [] = s.q := by
      funext x y
      by_cases e : x = a ∧ y = b
      · obtain ⟨rfl, rfl⟩ := e; rw [upd2_same, hq]
      · rw [upd2_ne _ _ e]
    show s = { s with q := upd2 s.q a b [] }
    rw [this]
  | cons m ms => rw [if_pos (by simp)]; rfl
theorem setCut_cut (s : Net) (a b : Nat) : setCut s a b false = { s with cut := (setCut s a b false).cut } := by
  unfold setCut
  split <;> rfl
theorem setCut_whole {s : Net} {a b : Nat} (hp : pair s a b = true) : cutA (setCut s a b false) a b = false := by
  unfold setCut
  rw [if_pos hp]
  exact upd2_same _ _ _ _
theorem setCut_keep {s : Net} {a b x y : Nat} (h : cutA s x y = false) : cutA (setCut s a b false) x y = false := by
  unfold setCut
  split
  · show upd2 s.cut (min a b) (max a b) false (min x y) (max x y) = false
    unfold upd2
    split
    · rfl
    · exact h
  · exact h
theorem setCut_pair (s : Net) (a b : Nat) (off : Bool) (x y : Nat) : pair (setCut s a b off) x y = pair s x y := by unfold pair; rw [n_setCut]
theorem setCut_q (s : Net) (a b : Nat) (off : Bool) : (setCut s a b off).q = s.q := by unfold setCut; split <;> rfl

/-! ### All texts that were put, each at some node -/
structure Held (s : Net) (k : Nat) : Prop where
  al : s.all.length ≤ k
  at' : ∀ t ∈ s.all, ∃ i, i < s.n ∧ t ∈ texts s i
theorem Held.of {s s' : Net} {k : Nat} (h : Held s k) (ha : s'.all = s.all) (hn : s'.n = s.n) (hg : Grows s s') : Held s' k := ⟨by rw [ha]; exact h.al, fun t ht => by
  rw [ha] at ht
  obtain ⟨i, h1, h2⟩ := h.at' t ht
  exact ⟨i, by rw [hn]; exact h1, hg.mem h2⟩⟩
theorem Held.mono {s : Net} {k k' : Nat} (h : Held s k) (hk : k ≤ k') : Held s k' := ⟨Nat.le_trans h.al hk, h.at'⟩
theorem Held.new (n : Nat) : Held (new n) 0 := ⟨Nat.le_refl _, fun t ht => nomatch ht⟩
theorem all_doOp {s : Net} {k : Nat} (h : Held s k) (hk : k < 1000) (hn : 0 < s.n) (o : Opn) (ho : o.text.length ≤ 20000) : (doOp s o).all = if o.kind % 4 = 0 then addT s.all o.text else s.all := by
  unfold doOp
  split
  · have hE : putE s (o.a % s.n) o.text = 0 := by
      unfold putE
      have := Nat.mod_lt o.a hn
      have := h.al
      rw [if_neg (by omega), if_neg (by omega), if_neg (fun h => by omega)]
    unfold put
    rw [if_neg (by rw [hE]; decide)]
  split
  · exact all_send _ _ _
  split
  · exact all_deliver _ _ _ _ _
  · exact all_setCut _ _ _ _
theorem addT_len (l : List Tx) (t : Tx) : (addT l t).length ≤ l.length + 1 := by
  unfold addT
  split
  · omega
  · simp
theorem Held.doOp {s : Net} {k : Nat} (h : Held s k) (hk : k < 1000) (hn : 0 < s.n) (o : Opn) (ho : o.text.length ≤ 20000) : Held (doOp s o) (k + 1) := by
  have ha := all_doOp h hk hn o ho
  by_cases h0 : o.kind % 4 = 0
  · rw [if_pos h0] at ha
    refine ⟨by rw [ha]; exact Nat.le_trans (addT_len _ _) (by have := h.al; omega), fun t ht => ?_⟩
    rw [ha, mem_addT] at ht
    rw [n_doOp]
    rcases ht with ht | rfl
    · obtain ⟨i, h1, h2⟩ := h.at' t ht
      exact ⟨i, h1, (doOp_grows s o).mem h2⟩
    · refine ⟨o.a % s.n, Nat.mod_lt _ hn, ?_⟩
      have hE : putE s (o.a % s.n) o.text = 0 := by
        unfold putE
        have := Nat.mod_lt o.a hn
        have := h.al
        rw [if_neg (by omega), if_neg (by omega), if_neg (fun h => by omega)]
      unfold Ne.doOp
      rw [if_pos h0]
      unfold put
      rw [if_neg (by rw [hE]; decide)]
      unfold texts
      simp only [upd_same]
      exact mem_addT.2 (.inr rfl)
  · rw [if_neg h0] at ha
    exact (h.of ha (n_doOp s o) (doOp_grows s o)).mono (by omega)

/-! ### Sweeps over the row -/
def swap2 (s : Net) (a : Nat) : Net := pass (pass s a (a + 1)) (a + 1) a
def sweep (s : Net) : Nat → Net
  | 0 => s
  | a + 1 => swap2 (sweep s a) a
def rounds (s : Net) : Nat → Net
  | 0 => s
  | r + 1 => sweep (rounds s r) (s.n - 1)
/-- All lines are whole, and nothing is under way. -/
structure Quiet (s : Net) : Prop where
  inv : Inv s
  cl : ∀ a b, pair s a b = true → Clear s a b
theorem pass_pair (s : Net) (a b x y : Nat) : pair (pass s a b) x y = pair s x y := by unfold pair; rw [pass_n]
theorem Quiet.pass {s : Net} (h : Quiet s) {a b : Nat} (hp : pair s a b = true) : Quiet (pass s a b) := ⟨h.inv.pass a b, fun x y hxy => (h.cl a b hp).pass (h.cl x y (by rw [pass_pair] at hxy; exact hxy))⟩
theorem pair_next {s : Net} {a : Nat} (h : a + 1 < s.n) : pair s a (a + 1) = true ∧ pair s (a + 1) a = true := ⟨decide_eq_true ⟨by omega, h, by omega⟩, decide_eq_true ⟨h, by omega, by omega⟩⟩
theorem swap2_n (s : Net) (a : Nat) : (swap2 s a).n = s.n := (pass_n _ _ _).trans (pass_n _ _ _)
theorem Quiet.swap2 {s : Net} (h : Quiet s) {a : Nat} (ha : a + 1 < s.n) : Quiet (swap2 s a) := (h.pass (pair_next ha).1).pass (by rw [pass_pair]; exact (pair_next ha).2)
theorem swap2_grows (s : Net) (a : Nat) : Grows s (swap2 s a) := (pass_grows _ _ _).trans (pass_grows _ _ _)
theorem swap2_right {s : Net} (h : Quiet s) {a : Nat} (ha : a + 1 < s.n) {t : Tx} (ht : t ∈ texts s a) : t ∈ texts (swap2 s a) (a + 1) := (pass_grows _ _ _).mem (pass_sub h.inv (h.cl _ _ (pair_next ha).1) t ht)
theorem swap2_left {s : Net} (h : Quiet s) {a : Nat} (ha : a + 1 < s.n) {t : Tx} (ht : t ∈ texts s (a + 1)) : t ∈ texts (swap2 s a) a := by
  have h1 := h.pass (pair_next ha).1
  exact pass_sub h1.inv (h1.cl _ _ (by rw [pass_pair]; exact (pair_next ha).2)) t ((pass_grows _ _ _).mem ht)
theorem sweep_n (s : Net) : ∀ a, (sweep s a).n = s.n
  | 0 => rfl
  | a + 1 => (swap2_n _ _).trans (sweep_n s a)
theorem Quiet.sweep {s : Net} (h : Quiet s) : ∀ {a : Nat}, a < s.n → Quiet (sweep s a)
  | 0, _ => h
  | a + 1, ha => (h.sweep (a := a) (by omega)).swap2 (by rw [sweep_n]; exact ha)
theorem sweep_step {s : Net} (h : Quiet s) {t : Tx} {j : Nat} (ht : t ∈ texts s j) (hj : j < s.n) : ∀ a, a < s.n → (∀ x, j ≤ x → x ≤ max j a → x < s.n → t ∈ texts (Ne.sweep s a) x) ∧ (j ≤ a → t ∈ texts (Ne.sweep s a) (j - 1))
  | 0, _ => by
    refine ⟨fun x h1 h2 _ => ?_, fun h0 => ?_⟩
    · obtain rfl : x = j := by omega
      exact ht
    · obtain rfl : j = 0 := by omega
      exact ht
  | a + 1, ha => by
    obtain ⟨h1, h2⟩ := sweep_step h ht hj a (by omega)
    have hq := h.sweep (a := a) (by omega)
    have hg := swap2_grows (Ne.sweep s a) a
    have hn : a + 1 < (Ne.sweep s a).n := by rw [sweep_n]; exact ha
    refine ⟨fun x hx1 hx2 hx3 => ?_, fun h0 => ?_⟩
    · rcases Nat.lt_or_ge (max j a) x with hlt | hge
      · obtain rfl : x = a + 1 := by omega
        exact swap2_right hq hn (h1 a (by omega) (by omega) (by omega))
      · exact hg.mem (h1 x hx1 hge hx3)
    · by_cases e : j = a + 1
      · subst e
        exact swap2_left hq hn (h1 (a + 1) (Nat.le_refl _) (by omega) ha)
      · exact hg.mem (h2 (by omega))
theorem rounds_n (s : Net) : ∀ r, (rounds s r).n = s.n
  | 0 => rfl
  | r + 1 => (sweep_n _ _).trans (rounds_n s r)
theorem Quiet.rounds {s : Net} (h : Quiet s) (hn : 0 < s.n) : ∀ r, Quiet (rounds s r)
  | 0 => h
  | r + 1 => (h.rounds hn r).sweep (by rw [rounds_n]; omega)
theorem rounds_left {s : Net} (h : Quiet s) (hn : 0 < s.n) {t : Tx} {i : Nat} (ht : t ∈ texts s i) (hi : i < s.n) : ∀ r, t ∈ texts (Ne.rounds s r) (i - r)
  | 0 => ht
  | r + 1 => by
    have h1 := rounds_left h hn ht hi r
    have h2 := sweep_step (h.rounds hn r) h1 (by rw [rounds_n]; omega) (s.n - 1) (by rw [rounds_n]; omega)
    have := h2.2 (by omega)
    rwa [show i - r - 1 = i - (r + 1) by omega] at this
theorem rounds_all {s : Net} (h : Quiet s) (hn : 0 < s.n) {t : Tx} {i : Nat} (ht : t ∈ texts s i) (hi : i < s.n) : ∀ x, x < s.n → t ∈ texts (Ne.rounds s s.n) x := by
  intro x hx
  obtain ⟨m, hm⟩ : ∃ m, s.n = m + 1 := ⟨s.n - 1, by omega⟩
  rw [hm]
  have h1 := rounds_left h hn ht hi m
  rw [show i - m = 0 by omega] at h1
  have h2 := sweep_step (h.rounds hn m) h1 (by rw [rounds_n]; omega) (s.n - 1) (by rw [rounds_n]; omega)
  exact h2.1 x (Nat.zero_le _) (by omega) (by rw [rounds_n]; exact hx)
theorem sweep_all (s : Net) : ∀ a, (sweep s a).all = s.all
  | 0 => rfl
  | a + 1 => ((pass_all _ _ _).trans (pass_all _ _ _)).trans (sweep_all s a)
theorem rounds_alls (s : Net) : ∀ r, (rounds s r).all = s.all
  | 0 => rfl
  | r + 1 => (sweep_all _ _).trans (rounds_alls s r)
end Go.Ne
namespace Go.Ne
/-! ### Messages in turn -/
def seqN (s : Net) (a b : Nat) : Nat → Net × Nat × Nat
  | 0 => (s, a, b)
  | k + 1 => (pass (seqN s a b k).1 (seqN s a b k).2.1 (seqN s a b k).2.2, (seqN s a b k).2.2, (seqN s a b k).2.1)
theorem seqN_clear {s : Net} {a b : Nat} (h : Clear s a b) : ∀ k, Clear (seqN s a b k).1 (seqN s a b k).2.1 (seqN s a b k).2.2
  | 0 => h
  | k + 1 => ((seqN_clear h k).pass (seqN_clear h k)).comm
theorem seqN_rest {s : Net} {a b : Nat} (h : Clear s a b) (hr : Rest s a b) : ∀ k, Rest (seqN s a b k).1 (seqN s a b k).2.1 (seqN s a b k).2.2 ∧ VEq s (seqN s a b k).1
  | 0 => ⟨hr, .refl s⟩
  | k + 1 => by
    obtain ⟨h1, h2⟩ := seqN_rest h hr k
    exact ⟨(h1.pass (seqN_clear h k)).comm, h2.trans (h1.more (seqN_clear h k))⟩
/-- Dropping on a line that is whole. -/
structure Drops (s : Net) (a b : Nat) (m : Nat) : Prop where
  p : pair s a b = true
  c : cutA s a b = false
  l : (s.q a b).length + (s.q b a).length ≤ m
theorem Drops.q1 {s : Net} {a b m : Nat} (h : Drops s a b m) (hd : delivB s a b = true) : Drops (deliver s a b true false) a b (m - 1) ∧ 0 < m := by
  obtain ⟨h1, h2⟩ := drop_eq h.p h.c
  rw [h1] at hd
  have hne := of_decide_eq_true hd
  have hpos : 0 < (s.q a b).length := List.length_pos_iff.2 hne
  have hl := h.l
  rw [h2]
  have hab := pair_ne h.p
  refine ⟨⟨h.p, h.c, ?_⟩, by omega⟩
  show (upd2 s.q a b (s.q a b).tail a b).length + (upd2 s.q a b (s.q a b).tail b a).length ≤ m - 1
  rw [upd2_same, upd2_ne _ _ (fun e => hab e.1.symm), List.length_tail]
  omega
theorem Drops.comm {s : Net} {a b m : Nat} (h : Drops s a b m) : Drops s b a m := ⟨by rw [pair_comm]; exact h.p, by rw [cutA_comm]; exact h.c, by rw [Nat.add_comm]; exact h.l⟩
theorem Drops.none {s : Net} {a b m : Nat} (h : Drops s a b m) (hd : delivB s a b = false) : s.q a b = [] ∧ deliver s a b true false = s := by
  obtain ⟨h1, h2⟩ := drop_eq h.p h.c
  rw [h1] at hd
  have hne := of_decide_eq_false hd
  have hq : s.q a b = [] := Classical.not_not.1 hne
  refine ⟨hq, ?_⟩
  unfold deliver
  rw [h1, if_neg (by simp [hq])]
theorem Drops.clear {s : Net} {a b m : Nat} (h : Drops s a b m) (h1 : s.q a b = []) (h2 : s.q b a = []) : Clear s a b := ⟨h.p, h.c, h1, h2⟩
end Go.Ne
