/-
  A network: making all lines whole and dropping what is under way, in plain Lean.
-/
import Derived.Test.YthiiodbjmcafgaaNeY
set_option linter.unusedVariables false
set_option linter.unusedSimpArgs false
set_option linter.unnecessarySimpa false
set_option maxRecDepth 10000
namespace Go.Ne
/-- What was done so far with the pairs P. -/
structure Mid (s s' : Net) (Q : Nat → Nat → Prop) : Prop where
  n : s'.n = s.n
  node : s'.node = s.node
  all : s'.all = s.all
  done : ∀ x y, Q x y → pair s x y = true → cutA s' x y = false ∧ s'.q x y = []
theorem Mid.start (s : Net) : Mid s s (fun _ _ => False) := ⟨rfl, rfl, rfl, fun _ _ h => h.elim⟩
theorem Mid.pair {s s' : Net} {Q : Nat → Nat → Prop} (h : Mid s s' Q) (a b : Nat) : pair s' a b = pair s a b := by unfold Ne.pair; rw [h.n]
theorem Mid.mono {s s' : Net} {Q Q' : Nat → Nat → Prop} (h : Mid s s' Q) (hq : ∀ x y, Q' x y → Ne.pair s x y = true → Q x y) : Mid s s' Q' := ⟨h.n, h.node, h.all, fun x y hxy hp => h.done x y (hq x y hxy hp) hp⟩
theorem Mid.cut {s s' : Net} {Q : Nat → Nat → Prop} (h : Mid s s' Q) (a b : Nat) : Mid s (setCut s' a b false) Q := ⟨(n_setCut _ _ _ _).trans h.n, (setCut_node _ _ _ _).trans h.node, (all_setCut _ _ _ _).trans h.all, fun x y hxy hp => by
  obtain ⟨h1, h2⟩ := h.done x y hxy hp
  exact ⟨setCut_keep h1, by rw [setCut_q]; exact h2⟩⟩
theorem deliver_drop (s : Net) (a b : Nat) : (delivB s a b = false ∧ deliver s a b true false = s) ∨ (delivB s a b = true ∧ Ne.pair s a b = true ∧ 0 < (s.q a b).length ∧ deliver s a b true false = { s with q := upd2 s.q a b (s.q a b).tail }) := by
  cases hd : delivB s a b
  · left
    refine ⟨rfl, ?_⟩
    unfold deliver
    rw [hd, if_neg (by decide)]
  · right
    obtain ⟨h1, h2, h3⟩ := delivB_iff.1 hd
    exact ⟨rfl, h1, List.length_pos_iff.2 h3, (drop_eq h1 h2).2⟩
theorem Mid.drop {s s' : Net} {Q : Nat → Nat → Prop} (h : Mid s s' Q) (a b : Nat) : Mid s (deliver s' a b true false) Q := by
  rcases deliver_drop s' a b with ⟨-, e⟩ | ⟨-, -, -, e⟩
  · rw [e]; exact h
  · rw [e]
    refine ⟨h.n, h.node, h.all, fun x y hxy hp => ?_⟩
    obtain ⟨h1, h2⟩ := h.done x y hxy hp
    refine ⟨h1, ?_⟩
    show upd2 s'.q a b (s'.q a b).tail x y = []
    by_cases e : x = a ∧ y = b
    · obtain ⟨rfl, rfl⟩ := e
      rw [upd2_same, h2]; rfl
    · rw [upd2_ne _ _ e]; exact h2
theorem Mid.add {s s' : Net} {Q Q' : Nat → Nat → Prop} (h : Mid s s' Q) {a b : Nat} (hd : Ne.pair s' a b = true → cutA s' a b = false ∧ s'.q a b = []) (hq : ∀ x y, Q' x y → Q x y ∨ (x = a ∧ y = b)) : Mid s s' Q' := ⟨h.n, h.node, h.all, fun x y hxy hp => by
  rcases hq x y hxy with h1 | ⟨rfl, rfl⟩
  · exact h.done x y h1 hp
  · exact hd (by rw [h.pair]; exact hp)⟩
/-- The pairs before a and b. -/
def Bef (a b : Nat) : Nat → Nat → Prop := fun x y => x < a ∨ (x = a ∧ y < b)
/-- What is left on the line of a and b. -/
def Lft (s : Net) (a b m : Nat) : Prop := Ne.pair s a b = true → cutA s a b = false ∧ (s.q a b).length ≤ m
theorem Lft.step {s : Net} {a b m : Nat} (h : Lft s a b m) (hd : delivB s a b = true) : Lft (deliver s a b true false) a b (m - 1) := by
  rcases deliver_drop s a b with ⟨e, -⟩ | ⟨-, hp, hl, e⟩
  · rw [hd] at e; cases e
  · rw [e]
    intro _
    obtain ⟨h1, h2⟩ := h hp
    refine ⟨h1, ?_⟩
    show (upd2 s.q a b (s.q a b).tail a b).length ≤ m - 1
    rw [upd2_same, List.length_tail]; omega
theorem Lft.none {s : Net} {a b m : Nat} (h : Lft s a b m) (hd : delivB s a b = false) : Ne.pair s a b = true → cutA s a b = false ∧ s.q a b = [] := fun hp => by
  obtain ⟨h1, h2⟩ := h hp
  refine ⟨h1, ?_⟩
  rw [(drop_eq hp h1).1] at hd
  exact Classical.not_not.1 (of_decide_eq_false hd)
theorem Lft.zero {s : Net} {a b : Nat} (h : Lft s a b 0) : Ne.pair s a b = true → cutA s a b = false ∧ s.q a b = [] := fun hp => by
  obtain ⟨h1, h2⟩ := h hp
  exact ⟨h1, List.length_eq_zero_iff.1 (by omega)⟩
theorem Mid.quiet {s s' : Net} (h : Mid s s' (Bef s.n 0)) (hi : Inv s') : Quiet s' := ⟨hi, fun a b hp => by
  have hp' : Ne.pair s a b = true := by rw [← h.pair]; exact hp
  have hp2 : Ne.pair s b a = true := by rw [pair_comm]; exact hp'
  have ha : a < s.n := (of_decide_eq_true hp').1
  have hb : b < s.n := (of_decide_eq_true hp').2.1
  obtain ⟨h1, h2⟩ := h.done a b (.inl ha) hp'
  obtain ⟨-, h3⟩ := h.done b a (.inl hb) hp2
  exact ⟨hp, h1, h2, h3⟩⟩
/-- The steps of an exchange. -/
theorem swap2_steps {s : Net} (h : Quiet s) {a : Nat} (ha : a + 1 < s.n) :
    sendE s a (a + 1) = 0 ∧ delivB (send s a (a + 1)) a (a + 1) = true ∧ sendE (pass s a (a + 1)) (a + 1) a = 0 ∧ delivB (send (pass s a (a + 1)) (a + 1) a) (a + 1) a = true := by
  have c1 := h.cl _ _ (pair_next ha).1
  obtain ⟨h1, h2, -⟩ := pass_eq c1.p c1.c c1.q1
  have hq := h.pass (pair_next ha).1
  have c2 := hq.cl (a + 1) a (by rw [pass_pair]; exact (pair_next ha).2)
  obtain ⟨h3, h4, -⟩ := pass_eq c2.p c2.c c2.q1
  exact ⟨h1, h2, h3, h4⟩
/-- At the end all have all. -/
theorem spread {s s' : Net} {k : Nat} (hH : Held s k) (hm : Mid s s' (Bef s.n 0)) (hi : Inv s') (hn : 0 < s.n) (hon : ∀ a, ∀ t ∈ texts (rounds s' s.n) a, t ∈ s.all) (hnd : s.all.Nodup) :
    ∀ a, a < s.n → (texts (rounds s' s.n) a).length = s.all.length ∧ ∀ t ∈ texts (rounds s' s.n) a, t ∈ s.all := by
  intro a ha
  have hq := hm.quiet hi
  have hnn : s'.n = s.n := hm.n
  have hin : ∀ t ∈ s.all, t ∈ texts (rounds s' s.n) a := fun t ht => by
    obtain ⟨i, h1, h2⟩ := hH.at' t ht
    have h3 : t ∈ texts s' i := by rw [texts_of hm.node]; exact h2
    have := rounds_all hq (by omega) h3 (by omega) a (by omega)
    rwa [hnn] at this
  have hndr := (hq.rounds (by omega) s.n).inv.nd a
  exact ⟨Nat.le_antisymm (sub_len' hndr (hon a)) (sub_len' hnd hin), hon a⟩
end Go.Ne
