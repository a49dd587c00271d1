/-
  Conditions of commencement: the canonical text, and that it is read back; plain Lean.
-/
import Derived.Test.YtebaoilkpedppaaDoorLX
import Derived.Test.YtebaoilkpedppaaDoorP2
import Derived.Test.YtebaoilkpedppaaDoorStPa
import Derived.Test.YtebaoilkpedppaaDoorStPb
set_option linter.unusedVariables false
set_option linter.unusedSimpArgs false
set_option linter.unnecessarySimpa false
set_option maxRecDepth 10000
namespace Go.Sta
open Go.Lexs
/-! ### Digits -/
def decS (n : Nat) : Tx := if h : n < 10 then [(48 + n).toUInt8] else decS (n / 10) ++ [(48 + n % 10).toUInt8]
theorem decS_small {n : Nat} (h : n < 10) : decS n = [(48 + n).toUInt8] := by rw [decS, dif_pos h]
theorem decS_big {n : Nat} (h : ¬ n < 10) : decS n = decS (n / 10) ++ [(48 + n % 10).toUInt8] := by rw [decS, dif_neg h]
theorem decS_digits (n : Nat) : (decS n).all isDigit = true := by
  induction n using Nat.strongRecOn with
  | _ n ih =>
    have hdg : ∀ k, k < 10 → isDigit (48 + k).toUInt8 = true := by decide
    by_cases h : n < 10
    · rw [decS_small h]
      simp only [List.all_cons, List.all_nil, Bool.and_true]
      exact hdg n h
    · rw [decS_big h, List.all_append, ih (n / 10) (by omega)]
      simp only [List.all_cons, List.all_nil, Bool.and_true, Bool.true_and]
      exact hdg (n % 10) (by omega)
theorem value_snoc (s : List UInt8) (c : UInt8) : value (s ++ [c]) = 10 * value s + (c.toNat - 48) := by
  simp [value, List.foldl_append]
theorem decS_value (n : Nat) : value (decS n) = n := by
  induction n using Nat.strongRecOn with
  | _ n ih =>
    have hdg : ∀ k, k < 10 → ((48 + k).toUInt8.toNat - 48) = k := by decide
    by_cases h : n < 10
    · rw [decS_small h]
      simp only [value, List.foldl_cons, List.foldl_nil, hdg n h]
      omega
    · rw [decS_big h, value_snoc, ih (n / 10) (by omega), hdg (n % 10) (by omega)]
      omega
theorem decS_len (k : Nat) : ∀ n, n < 10 ^ (k + 1) → (decS n).length ≤ k + 1 := by
  induction k with
  | zero => intro n h; rw [decS_small (by omega)]; simp
  | succ k ih =>
    intro n h
    by_cases h10 : n < 10
    · rw [decS_small h10]; simp
    · rw [decS_big h10, List.length_append]
      have := ih (n / 10) (by rw [Nat.pow_succ] at h; omega)
      simp only [List.length_singleton]
      omega
theorem decS_pos (n : Nat) : 0 < (decS n).length := by
  by_cases h : n < 10
  · rw [decS_small h]; simp
  · rw [decS_big h]; simp
/-! ### The canonical text -/
def wordS (op : Int) : Tx := if op = 1 then [97, 108, 119, 97, 121, 115] else if op = 2 then [110, 101, 118, 101, 114] else if op = 3 then [100, 97, 121] else if op = 4 then [111, 114, 100, 101, 114] else if op = 5 then [101, 118, 101, 110, 116] else if op = 6 then [98, 101, 103, 117, 110] else [111, 118, 101, 114]
def sepS (op : Int) : Tx := if op = 8 then kAnd else kOr
def paren (inner : Bool) (t : Tx) : Tx := if inner then 40 :: t ++ [41] else t
mutual
def wr : Bool → Sn → Tx
  | inner, .node op name day ks => if op = 3 then wordS 3 ++ 32 :: decS day.toNat else if op < 3 then wordS op else if op ≤ 7 then wordS op ++ 32 :: name else paren inner (wrL (sepS op) ks)
def wrL (sep : Tx) : List Sn → Tx
  | [] => []
  | k :: ks => wr true k ++ wrT sep ks
def wrT (sep : Tx) : List Sn → Tx
  | [] => []
  | k :: ks => 32 :: sep ++ 32 :: (wr true k ++ wrT sep ks)
end
theorem wr_eq (inner : Bool) (s : Sn) : wr inner s = if s.op = 3 then wordS 3 ++ 32 :: decS s.day.toNat else if s.op < 3 then wordS s.op else if s.op ≤ 7 then wordS s.op ++ 32 :: s.name else paren inner (wrL (sepS s.op) s.kids) := by
  cases s
  simp only [wr]
  rfl
/-! ### Its tokens -/
def tw (w : Tx) : Tok := ⟨1, w, 0, 0⟩
def tp (c : UInt8) : Tok := ⟨3, [c], 0, 0⟩
def tn (n : Nat) : Tok := ⟨2, decS n, n, 0⟩
def parenT (inner : Bool) (l : List Tok) : List Tok := if inner then tp 40 :: l ++ [tp 41] else l
mutual
def tk : Bool → Sn → List Tok
  | inner, .node op name day ks => if op = 3 then [tw (wordS 3), tn day.toNat] else if op < 3 then [tw (wordS op)] else if op ≤ 7 then [tw (wordS op), tw name] else parenT inner (tkL (sepS op) ks)
def tkL (sep : Tx) : List Sn → List Tok
  | [] => []
  | k :: ks => tk true k ++ tkT sep ks
def tkT (sep : Tx) : List Sn → List Tok
  | [] => []
  | k :: ks => tw sep :: (tk true k ++ tkT sep ks)
end
theorem tk_eq (inner : Bool) (s : Sn) : tk inner s = if s.op = 3 then [tw (wordS 3), tn s.day.toNat] else if s.op < 3 then [tw (wordS s.op)] else if s.op ≤ 7 then [tw (wordS s.op), tw s.name] else parenT inner (tkL (sepS s.op) s.kids) := by
  cases s
  simp only [tk]
  rfl
/-! ### Lexing it -/
/-- What follows does not lengthen a word. -/
def Bd (g : Tx) : Prop := ∀ c g', g = c :: g' → isWord c = false
theorem Bd.nil : Bd [] := fun _ _ h => nomatch h
theorem Bd.blank (g : Tx) : Bd (32 :: g) := fun c g' h => by cases h; decide
theorem Bd.shut (g : Tx) : Bd (41 :: g) := fun c g' h => by cases h; decide
/-- A text with these tokens, whatever follows within limits. -/
def Lxs (t : Tx) (l : List Tok) : Prop := ∀ (a : Nat) (g : Tx) (l2 : List Tok), Bd g → Lx (a + t.length) g l2 none → ∃ l1, Lx a (t ++ g) (l1 ++ l2) none ∧ Like l1 l
theorem Lxs.app {t u : Tx} {l m : List Tok} (h1 : Lxs t l) (h2 : Lxs u m) (hb : ∀ g, Bd g → Bd (u ++ g)) : Lxs (t ++ u) (l ++ m) := by
  intro a g l2 hg hx
  obtain ⟨m1, h3, h4⟩ := h2 (a + t.length) g l2 hg (hx.cast (by simp; omega) rfl)
  obtain ⟨l1, h5, h6⟩ := h1 a (u ++ g) (m1 ++ l2) (hb g hg) h3
  exact ⟨l1 ++ m1, h5.cast rfl (by rw [List.append_assoc]) |> fun h => (List.append_assoc l1 m1 l2).symm ▸ h, h6.app h4⟩
theorem lxs_word {t : Tx} (h1 : t.all isWord = true) (h2 : hd t = 3) (h3 : t.length ≤ 24) : Lxs t [tw t] := by
  intro a g l2 hg hx
  have h4 : 0 < t.length := by
    cases t with
    | nil => simp [hd] at h2
    | cons c t => simp
  have e1 : spanLen isWord (t ++ g) = t.length := by rw [span_app _ _ _ hg, spanLen_all _ h1]
  have hh1 : hd (t ++ g) = 3 := by
    cases t with
    | nil => simp at h4
    | cons a t => exact h2
  have o1 : one (t ++ g) = ⟨1, t.length, 0, 0⟩ := by
    unfold one
    rw [hh1]
    simp only [e1]
    rw [if_neg (by omega)]
  have k1 : skip false (t ++ g) = t ++ g := by
    cases t with
    | nil => simp at h4
    | cons a t => simp only [hd] at h2; exact skip_of_head (by omega) (by omega)
  have := @Lx.tok a (t ++ g) (t ++ g) l2 none k1 (by intro e; rw [List.append_eq_nil_iff] at e; rw [e.1] at h4; simp at h4) (by rw [o1]) (hx.cast (by rw [o1]; simp) (by rw [o1]; simp))
  refine ⟨[(found (a + ((t ++ g).length - (t ++ g).length)) (t ++ g)).tok], this, .cons ⟨?_, ?_, ?_⟩ .nil⟩
  · simp [found, o1, tw]
  · simp [found, o1, tw]
  · simp [found, o1, tw]
theorem lxs_num (n : Nat) (hn : n < 10000000) : Lxs (decS n) [tn n] := by
  intro a g l2 hg hx
  have hd1 := decS_digits n
  have hd2 := decS_pos n
  have hd3 := decS_len 6 n (by omega)
  have hv := decS_value n
  have hgd : ∀ c g', g = c :: g' → isDigit c = false := fun c g' e => isWord_digit (hg c g' e)
  have e1 : spanLen isDigit (decS n ++ g) = (decS n).length := by rw [span_app _ _ _ hgd, spanLen_all _ hd1]
  have hh1 : hd (decS n ++ g) = 4 := by
    cases hs : decS n with
    | nil => rw [hs] at hd2; simp at hd2
    | cons c t => rw [hs] at hd1; simp only [List.all_cons, Bool.and_eq_true] at hd1; exact cls_digit hd1.1
  have hg0 : hd g ≠ 3 ∧ hd g ≠ 5 := by
    cases g with
    | nil => simp [hd]
    | cons c g =>
      have := hg c g rfl
      simp only [isWord, Bool.or_eq_false_iff, beq_eq_false_iff_ne] at this
      exact ⟨this.1.1, this.2⟩
  have o1 : one (decS n ++ g) = ⟨2, (decS n).length, n, 0⟩ := by
    unfold one
    rw [hh1]
    simp only [e1]
    rw [List.drop_append_of_le_length (Nat.le_refl _), List.drop_of_length_le (Nat.le_refl _), List.nil_append, List.take_append_of_le_length (Nat.le_refl _), List.take_of_length_le (Nat.le_refl _), hv, if_neg]
    omega
  have k1 : skip false (decS n ++ g) = decS n ++ g := by
    cases hs : decS n with
    | nil => rw [hs] at hd2; simp at hd2
    | cons c t => rw [hs] at hh1; simp only [List.cons_append, hd] at hh1; exact skip_of_head (by omega) (by omega)
  have := @Lx.tok a (decS n ++ g) (decS n ++ g) l2 none k1 (by intro e; rw [List.append_eq_nil_iff] at e; rw [e.1] at hd2; simp at hd2) (by rw [o1]) (hx.cast (by rw [o1]; simp) (by rw [o1]; simp))
  refine ⟨[(found (a + ((decS n ++ g).length - (decS n ++ g).length)) (decS n ++ g)).tok], this, .cons ⟨?_, ?_, ?_⟩ .nil⟩
  · simp [found, o1, tn]
  · simp [found, o1, tn]
  · simp [found, o1, tn]
theorem lx_sym {c : UInt8} (hc : cls c = 6) (a : Nat) (g : Tx) (l2 : List Tok) (hx : Lx (a + 1) g l2 none) : ∃ t, Lx a (c :: g) (t :: l2) none ∧ t.like (tp c) := by
  have o1 : one (c :: g) = ⟨3, 1, 0, 0⟩ := by
    unfold one
    simp only [hd, hc]
  have k1 : skip false (c :: g) = c :: g := skip_of_head (by omega) (by omega)
  have := @Lx.tok a (c :: g) (c :: g) l2 none k1 (List.cons_ne_nil _ _) (by rw [o1]) (hx.cast (by rw [o1]; simp) (by rw [o1]; rfl))
  refine ⟨_, this, ?_, ?_, ?_⟩
  · simp [found, o1, tp]
  · simp [found, o1, tp]
  · simp [found, o1, tp]
theorem lxs_blank {t : Tx} {l : List Tok} (h : Lxs t l) : Lxs (32 :: t) l := by
  intro a g l2 hg hx
  obtain ⟨l1, h1, h2⟩ := h (a + 1) g l2 hg (hx.cast (by simp only [List.length_cons]; omega) rfl)
  refine ⟨l1, ?_, h2⟩
  refine Lx.congr (s1 := t ++ g) (a1 := a + 1) ?_ ?_ h1
  · show _ = skip false (32 :: (t ++ g))
    simp only [skip]
    rw [if_pos (by decide)]
  · simp only [List.cons_append, List.length_cons]; omega
theorem lxs_nil : Lxs [] [] := fun a g l2 hg hx => ⟨[], hx, .nil⟩
theorem lxs_paren {t : Tx} {l : List Tok} (h : Lxs t l) : Lxs (paren true t) (parenT true l) := by
  intro a g l2 hg hx
  simp only [paren, if_true, List.length_append, List.length_cons, List.length_nil] at hx ⊢
  obtain ⟨t1, h1, h2⟩ := lx_sym (c := 41) (by decide) (a + 1 + t.length) g l2 (hx.cast (by omega) rfl)
  obtain ⟨l1, h3, h4⟩ := h (a + 1) (41 :: g) (t1 :: l2) (Bd.shut g) h1
  obtain ⟨t0, h5, h6⟩ := lx_sym (c := 40) (by decide) a _ _ h3
  refine ⟨t0 :: (l1 ++ [t1]), ?_, .cons h6 (h4.app (.cons h2 .nil))⟩
  simpa using h5
/-! ### Reading it -/
theorem isT_like {w : Tx} {l m : List Tok} (h : Like l m) : isT w l = isT w m := by
  cases h with
  | nil => rfl
  | cons h _ => simp only [isT, h.1, h.2.1]
theorem like_cons {l m : List Tok} {t : Tok} (h : Like l (t :: m)) : ∃ u r, l = u :: r ∧ u.like t ∧ Like r m := by
  cases h with
  | cons h1 h2 => exact ⟨_, _, rfl, h1, h2⟩
theorem like_app {l m n : List Tok} (h : Like l (m ++ n)) : ∃ a b, l = a ++ b ∧ Like a m ∧ Like b n := by
  induction m generalizing l with
  | nil => exact ⟨[], l, rfl, .nil, h⟩
  | cons t m ih =>
    obtain ⟨u, r, rfl, h1, h2⟩ := like_cons h
    obtain ⟨a, b, rfl, h3, h4⟩ := ih h2
    exact ⟨u :: a, b, rfl, .cons h1 h3, h4⟩
theorem isT_w {w v : Tx} {t : Tok} {r : List Tok} (h : t.like (tw v)) : isT w (t :: r) = decide (v = w) := by
  simp only [isT, h.1, h.2.1, tw]
  simp
theorem isT_p {w : Tx} {c : UInt8} {t : Tok} {r : List Tok} (h : t.like (tp c)) : isT w (t :: r) = decide ([c] = w) := by
  simp only [isT, h.1, h.2.1, tp]
  simp
/-- Nothing follows that goes on. -/
def NoT (w : Tx) (r : List Tok) : Prop := isT w r = false
theorem sevTail_no {w : Tx} {read : List Tok → Rd Sn} {r : List Tok} (h : NoT w r) (n : Nat) (acc : List Sn) : sevTail w read n acc r = .ok acc r := by
  cases n with
  | zero => rfl
  | succ n => simp only [sevTail]; rw [h]; rfl
theorem sev_one {w : Tx} {op : Int} {read : List Tok → Rd Sn} {l r : List Tok} {s : Sn} (h : read l = .ok s r) (hn : NoT w r) : sev w op read l = .ok s r := by
  unfold sev
  rw [h]
  simp only [sevTail_no hn]
  rfl
/-- Reading the kids behind the first one. -/
theorem sevTail_kids {w : Tx} {read : List Tok → Rd Sn} (rest : List Tok) (hr : NoT w rest) : ∀ (ks : List Sn) (l : List Tok), (∀ k ∈ ks, ∀ l1 r, Like l1 (tk true k) → (r = rest ∨ isT w r = true) → read (l1 ++ r) = .ok k r) → Like l (tkT w ks) → ∀ (n : Nat), (l ++ rest).length ≤ n → ∀ acc, sevTail w read n acc (l ++ rest) = .ok (acc ++ ks) rest
  | [], l, hk, hl, n, hn, acc => by
    simp only [tkT] at hl
    cases hl
    rw [List.nil_append, sevTail_no hr, List.append_nil]
  | k :: ks, l, hk, hl, n, hn, acc => by
    simp only [tkT] at hl
    obtain ⟨t, l', rfl, h1, h2⟩ := like_cons hl
    obtain ⟨l1, l2, rfl, h3, h4⟩ := like_app h2
    cases n with
    | zero => simp at hn
    | succ n =>
      rw [List.cons_append]
      simp only [sevTail]
      rw [isT_w h1, decide_eq_true rfl, if_pos rfl, List.tail_cons, List.append_assoc]
      have hnext : l2 ++ rest = rest ∨ isT w (l2 ++ rest) = true := by
        cases ks with
        | nil => simp only [tkT] at h4; cases h4; exact .inl rfl
        | cons k2 ks =>
          simp only [tkT] at h4
          obtain ⟨t2, l3, rfl, h5, -⟩ := like_cons h4
          exact .inr (by rw [List.cons_append, isT_w h5, decide_eq_true rfl])
      rw [hk k List.mem_cons_self l1 _ h3 hnext]
      simp only
      rw [sevTail_kids rest hr ks l2 (fun q hq => hk q (List.mem_cons_of_mem _ hq)) h4 n (by simp at hn ⊢; omega)]
      simp
theorem sev_kids {w : Tx} {op : Int} {read : List Tok → Rd Sn} (rest : List Tok) (hr : NoT w rest) (ks : List Sn) (h2 : 2 ≤ ks.length) (l : List Tok) (hk : ∀ k ∈ ks, ∀ l1 r, Like l1 (tk true k) → (r = rest ∨ isT w r = true) → read (l1 ++ r) = .ok k r) (hl : Like l (tkL w ks)) : sev w op read (l ++ rest) = .ok (.node op [] 0 ks) rest := by
  match ks, h2, hk, hl with
  | k :: k2 :: ks, h2, hk, hl =>
    simp only [tkL] at hl
    obtain ⟨l1, l2, rfl, h3, h4⟩ := like_app hl
    unfold sev
    rw [List.append_assoc]
    have hnext : isT w (l2 ++ rest) = true := by
      simp only [tkT] at h4
      obtain ⟨t2, l3, rfl, h5, -⟩ := like_cons h4
      rw [List.cons_append, isT_w h5, decide_eq_true rfl]
    rw [hk k List.mem_cons_self l1 _ h3 (.inr hnext)]
    simp only
    rw [sevTail_kids rest hr (k2 :: ks) l2 (fun q hq => hk q (List.mem_cons_of_mem _ hq)) h4 _ (Nat.le_refl _)]
    rfl
/-! ### Valid ones -/
theorem wordS_ok : ∀ op : Int, (wordS op).all isWord = true ∧ hd (wordS op) = 3 ∧ (wordS op).length ≤ 6 := by
  intro op
  unfold wordS
  (repeat' split) <;> decide
theorem isLet_eq (c : UInt8) : isLet c = isLetter c := rfl
theorem nameB_ok {t : Tx} (h : nameB t = true) : t.all isWord = true ∧ hd t = 3 ∧ t.length ≤ 24 := by
  cases t with
  | nil => cases h
  | cons c l =>
    simp only [nameB, Bool.and_eq_true, decide_eq_true_eq] at h
    obtain ⟨⟨h1, h2⟩, h3⟩ := h
    have hc : cls c = 3 := by rw [isLet_eq] at h1; simp [cls, h1]
    have hw : ∀ d : UInt8, (isLet d || isDig d) = true → isWord d = true := by
      intro d hd
      rw [Bool.or_eq_true] at hd
      rcases hd with hd | hd
      · rw [isLet_eq] at hd; simp [isWord, cls, hd]
      · unfold isDig at hd
        rw [Bool.or_eq_true] at hd
        rcases hd with hd | hd
        · have : cls d = 4 := cls_digit hd
          simp [isWord, this]
        · rw [beq_iff_eq] at hd; subst hd; decide
    refine ⟨?_, hc, by simpa using h3⟩
    rw [List.all_cons, Bool.and_eq_true]
    refine ⟨by simp [isWord, hc], ?_⟩
    rw [List.all_eq_true] at h2 ⊢
    exact fun d hd => hw d (h2 d hd)
theorem sepS_lxs (op : Int) : Lxs (sepS op) [tw (sepS op)] := by
  unfold sepS
  split
  · exact lxs_word (by decide) (by decide) (by decide)
  · exact lxs_word (by decide) (by decide) (by decide)
theorem bd_blank (t : Tx) : ∀ g, Bd g → Bd (32 :: t ++ g) := fun g _ => Bd.blank _
/-- What is required of a valid node, by its kind. -/
theorem node_cases {s : Sn} (h : okB s = true) : (s.op = 3 ∧ s.name = [] ∧ s.kids = [] ∧ 0 ≤ s.day ∧ s.day ≤ 1000000) ∨ (s.op ≠ 3 ∧ 1 ≤ s.op ∧ s.op < 3 ∧ s.name = [] ∧ s.kids = [] ∧ s.day = 0) ∨ (3 < s.op ∧ s.op ≤ 7 ∧ nameB s.name = true ∧ s.kids = [] ∧ s.day = 0) ∨ ((s.op = 8 ∨ s.op = 9) ∧ s.name = [] ∧ 2 ≤ s.kids.length ∧ s.day = 0 ∧ ∀ k ∈ s.kids, okB k = true) := by
  rw [okB_eq, Bool.and_eq_true] at h
  obtain ⟨n1, n2, n3, n4⟩ := (nodeB_iff s).1 h.1
  unfold named at n2
  unfold many at n4
  by_cases h3 : s.op = 3
  · rw [decide_eq_false (by omega), if_neg (by decide), decide_eq_true_eq] at n2 n4
    exact .inl ⟨h3, n2, n4, by omega, by omega⟩
  by_cases h2 : s.op < 3
  · rw [decide_eq_false (by omega), if_neg (by decide), decide_eq_true_eq] at n2 n4
    exact .inr (.inl ⟨h3, n1.1, h2, n2, n4, by omega⟩)
  by_cases h7 : s.op ≤ 7
  · rw [decide_eq_true (by omega), if_pos rfl] at n2
    rw [decide_eq_false (by omega), if_neg (by decide), decide_eq_true_eq] at n4
    exact .inr (.inr (.inl ⟨by omega, h7, n2, n4, by omega⟩))
  · rw [decide_eq_false (by omega), if_neg (by decide), decide_eq_true_eq] at n2
    rw [decide_eq_true (by omega), if_pos rfl, decide_eq_true_eq] at n4
    exact .inr (.inr (.inr ⟨by omega, n2, n4, by omega, okL_mem h.2⟩))
mutual
theorem lxs_wr : ∀ (s : Sn), okB s = true → Lxs (wr true s) (tk true s)
  | .node op name day ks, h => by
    have hc := node_cases h
    simp only [Sn.op, Sn.name, Sn.day, Sn.kids] at hc
    simp only [wr, tk]
    rcases hc with ⟨h1, -, -, h4, h5⟩ | ⟨h1, h2, h3, -, -, -⟩ | ⟨h1, h2, h3, -, -⟩ | ⟨h1, -, -, -, h5⟩
    · rw [if_pos h1, if_pos h1]
      exact (lxs_word (wordS_ok 3).1 (wordS_ok 3).2.1 (by decide)).app (lxs_blank (lxs_num _ (by omega))) (bd_blank _)
    · rw [if_neg h1, if_pos h3, if_neg h1, if_pos h3]
      have := (wordS_ok op).2.2
      exact lxs_word (wordS_ok op).1 (wordS_ok op).2.1 (by omega)
    · rw [if_neg (by omega), if_neg (by omega), if_pos h2, if_neg (by omega), if_neg (by omega), if_pos h2]
      have := (wordS_ok op).2.2
      obtain ⟨n1, n2, n3⟩ := nameB_ok h3
      exact (lxs_word (wordS_ok op).1 (wordS_ok op).2.1 (by omega)).app (lxs_blank (lxs_word n1 n2 n3)) (bd_blank _)
    · rw [if_neg (by omega), if_neg (by omega), if_neg (by omega), if_neg (by omega), if_neg (by omega), if_neg (by omega)]
      exact lxs_paren (lxs_wrL op ks h5)
theorem lxs_wrL : ∀ (op : Int) (ks : List Sn), (∀ k ∈ ks, okB k = true) → Lxs (wrL (sepS op) ks) (tkL (sepS op) ks)
  | op, [], h => by simp only [wrL, tkL]; exact lxs_nil
  | op, k :: ks, h => by
    simp only [wrL, tkL]
    exact (lxs_wr k (h k List.mem_cons_self)).app (lxs_wrT op ks fun q hq => h q (List.mem_cons_of_mem _ hq)) (bd_wrT _ ks)
theorem lxs_wrT : ∀ (op : Int) (ks : List Sn), (∀ k ∈ ks, okB k = true) → Lxs (wrT (sepS op) ks) (tkT (sepS op) ks)
  | op, [], h => by simp only [wrT, tkT]; exact lxs_nil
  | op, k :: ks, h => by
    simp only [wrT, tkT]
    have h1 := (lxs_wr k (h k List.mem_cons_self)).app (lxs_wrT op ks fun q hq => h q (List.mem_cons_of_mem _ hq)) (bd_wrT _ ks)
    exact (lxs_blank (sepS_lxs op)).app (lxs_blank h1) (bd_blank _)
theorem bd_wrT : ∀ (sep : Tx) (ks : List Sn), ∀ g, Bd g → Bd (wrT sep ks ++ g)
  | sep, [], g, h => by simp only [wrT, List.nil_append]; exact h
  | sep, k :: ks, g, h => by simp only [wrT]; exact Bd.blank _
end
theorem okn {s : Sn} (op : Int) (name : Tx) (day : Int) (ks : List Sn) (h1 : s.op = op) (h2 : s.name = name) (h3 : s.day = day) (h4 : s.kids = ks) : Sn.node op name day ks = s := by
  rw [s.eta, h1, h2, h3, h4]
theorem find_word (op : Int) (h1 : 1 ≤ op) (h2 : op ≤ 7) {t : Tok} {r : List Tok} (h : t.like (tw (wordS op))) : wordL.find? (fun p => isT p.1 (t :: r)) = some (wordS op, op) ∧ isT kOpen (t :: r) = false := by
  have hw : ∀ w, isT w (t :: r) = decide (wordS op = w) := fun w => isT_w h
  simp only [hw]
  have : op = 1 ∨ op = 2 ∨ op = 3 ∨ op = 4 ∨ op = 5 ∨ op = 6 ∨ op = 7 := by omega
  rcases this with rfl | rfl | rfl | rfl | rfl | rfl | rfl <;> exact ⟨by decide, by decide⟩
/-- A kid, or a condition of one node, is read. -/
theorem read_wr (en : Int) : ∀ (s : Sn), okB s = true → ∀ f, dep s ≤ f → (∀ l rest, Like l (tk true s) → pOne en f (l ++ rest) = .ok s rest) ∧ ((s.op = 8 ∨ s.op = 9) → ∀ l rest, Like l (tkL (sepS s.op) s.kids) → NoT kAnd rest → NoT kOr rest → pStart en (f - 1) (l ++ rest) = .ok s rest) := Sn.ind fun s ih => by
  intro h f hf
  have hc := node_cases h
  rw [dep_eq] at hf
  obtain ⟨f, rfl⟩ : ∃ g, f = g + 1 := ⟨f - 1, by omega⟩
  have hin : (s.op = 8 ∨ s.op = 9) → ∀ l rest, Like l (tkL (sepS s.op) s.kids) → NoT kAnd rest → NoT kOr rest → pStart en f (l ++ rest) = .ok s rest := by
    intro ho l rest hl h1 h2
    rcases hc with ⟨h3, -⟩ | ⟨-, h3, h4, -⟩ | ⟨h3, h4, -⟩ | ⟨-, h4, h5, h6, h7⟩
    · omega
    · omega
    · omega
    have hkid : ∀ k ∈ s.kids, ∀ l1 r, Like l1 (tk true k) → pOne en f (l1 ++ r) = .ok k r := fun k hk l1 r hl1 => ((ih k hk (h7 k hk) f (by have := dep_le_of_mem hk; omega)).1) l1 r hl1
    unfold pStart
    rcases ho with ho | ho
    · have e : sepS s.op = kAnd := by unfold sepS; rw [if_pos ho]
      rw [e] at hl
      refine sev_one ?_ h2
      unfold pAll
      rw [sev_kids (w := kAnd) (op := 8) rest h1 s.kids h5 l (fun k hk l1 r hl1 _ => hkid k hk l1 r hl1) hl, okn 8 [] 0 s.kids ho h4 h6 rfl]
    · have e : sepS s.op = kOr := by unfold sepS; rw [if_neg (by omega)]
      rw [e] at hl
      rw [sev_kids (w := kOr) (op := 9) (read := pAll en f) rest h2 s.kids h5 l ?_ hl, okn 9 [] 0 s.kids ho h4 h6 rfl]
      refine fun k hk l1 r hl1 hr => sev_one (hkid k hk l1 r hl1) ?_
      rcases hr with rfl | hr
      · exact h1
      · cases r with
        | nil => rfl
        | cons t r =>
          simp only [isT, Bool.and_eq_true, decide_eq_true_eq] at hr
          unfold NoT
          simp only [isT, hr.2]
          rw [show decide (kOr = kAnd) = false from by decide, Bool.and_false]
  refine ⟨fun l rest hl => ?_, fun ho => by rw [Nat.add_sub_cancel]; exact hin ho⟩
  rw [tk_eq] at hl
  rcases hc with ⟨h1, h2, h3, h4, h5⟩ | ⟨h1, h2, h3, h4, h5, h6⟩ | ⟨h1, h2, h3, h4, h5⟩ | ⟨h1, -⟩
  · rw [if_pos h1] at hl
    obtain ⟨t, l', rfl, q1, q2⟩ := like_cons hl
    obtain ⟨u, l', rfl, q3, q4⟩ := like_cons q2
    cases q4
    obtain ⟨f1, f2⟩ := find_word 3 (by omega) (by omega) (r := [u] ++ rest) q1
    have e : t :: [u] ++ rest = t :: ([u] ++ rest) := rfl
    rw [e]
    simp only [pOne, f1, f2, Bool.false_eq_true, if_false, List.tail_cons]
    unfold wordR
    rw [if_pos rfl]
    simp only [List.cons_append, List.nil_append, takeT]
    rw [if_pos (by rw [q3.1]; rfl)]
    simp only
    have hn : (u.num : Nat) = s.day.toNat := q3.2.2
    rw [if_neg (by omega), okn 3 [] _ [] h1 h2 (by omega) h3]
  · rw [if_neg h1, if_pos h3] at hl
    obtain ⟨t, l', rfl, q1, q2⟩ := like_cons hl
    cases q2
    obtain ⟨f1, f2⟩ := find_word s.op (by omega) (by omega) (r := rest) q1
    have e : [t] ++ rest = t :: rest := rfl
    rw [e]
    simp only [pOne, f1, f2, Bool.false_eq_true, if_false, List.tail_cons]
    unfold wordR
    have hnm : named s.op = false := by unfold named; rw [decide_eq_false (by omega)]
    rw [if_neg h1, hnm, if_neg (by decide), okn s.op [] 0 [] rfl h4 h6 h5]
  · rw [if_neg (by omega), if_neg (by omega), if_pos h2] at hl
    obtain ⟨t, l', rfl, q1, q2⟩ := like_cons hl
    obtain ⟨u, l', rfl, q3, q4⟩ := like_cons q2
    cases q4
    obtain ⟨f1, f2⟩ := find_word s.op (by omega) (by omega) (r := [u] ++ rest) q1
    have e : t :: [u] ++ rest = t :: ([u] ++ rest) := rfl
    rw [e]
    simp only [pOne, f1, f2, Bool.false_eq_true, if_false, List.tail_cons]
    unfold wordR
    have hnm : named s.op = true := by unfold named; rw [decide_eq_true (by omega)]
    rw [if_neg (by omega), hnm, if_pos rfl]
    simp only [List.cons_append, List.nil_append, takeT]
    rw [if_pos (by rw [q3.1]; rfl)]
    simp only
    have hn : u.text = s.name := q3.2.1
    rw [hn, okn s.op s.name 0 [] rfl rfl h5 h4]
  · rw [if_neg (by omega), if_neg (by omega), if_neg (by omega)] at hl
    simp only [parenT, if_true] at hl
    rw [List.cons_append] at hl
    obtain ⟨t, l', rfl, q1, q2⟩ := like_cons hl
    obtain ⟨l1, l2, rfl, q3, q4⟩ := like_app q2
    obtain ⟨u, l', rfl, q5, q6⟩ := like_cons q4
    cases q6
    have e : t :: (l1 ++ [u]) ++ rest = t :: (l1 ++ (u :: rest)) := by simp
    rw [e]
    simp only [pOne]
    rw [isT_p q1, if_pos (by decide), List.tail_cons]
    have := hin h1 l1 (u :: rest) q3 (by unfold NoT; rw [isT_p q5]; decide) (by unfold NoT; rw [isT_p q5]; decide)
    unfold pStart pAll at this
    rw [this]
    simp only
    rw [isT_p q5, if_pos (by decide), List.tail_cons]
/-- A valid condition is read from the tokens of its text. -/
theorem read_top (en : Int) {s : Sn} (h : okB s = true) {f : Nat} (hf : dep s ≤ f) {l : List Tok} (hl : Like l (tk false s)) : pStart en f l = .ok s [] := by
  have hc := node_cases h
  obtain ⟨r1, r2⟩ := read_wr en s h f hf
  have r2' := (read_wr en s h (f + 1) (by omega)).2
  rw [Nat.add_sub_cancel] at r2'
  have hleaf : Like l (tk true s) → pStart en f l = .ok s [] := fun hl => by
    have := r1 l [] hl
    rw [List.append_nil] at this
    exact sev_one (sev_one this rfl) rfl
  rw [tk_eq] at hl hleaf
  rcases hc with ⟨h1, -⟩ | ⟨h1, h2, h3, -⟩ | ⟨h1, h2, h3, -⟩ | ⟨h1, -⟩
  · rw [if_pos h1] at hl hleaf; exact hleaf hl
  · rw [if_neg h1, if_pos h3] at hl hleaf; exact hleaf hl
  · rw [if_neg (by omega), if_neg (by omega), if_pos h2] at hl hleaf; exact hleaf hl
  · rw [if_neg (by omega), if_neg (by omega), if_neg (by omega)] at hl
    have := r2' h1 l [] hl rfl rfl
    rw [List.append_nil] at this
    exact this
/-! ### How long it is -/
theorem tkT_len (sep : Tx) : ∀ (ks : List Sn), (∀ k ∈ ks, dep k ≤ (tk true k).length ∧ (tk true k).length + 1 ≤ 5 * cnt k) → (tkT sep ks).length ≤ 5 * cntL ks ∧ depL ks ≤ (tkT sep ks).length
  | [], _ => by simp [tkT, cntL, depL]
  | k :: ks, h => by
    have h1 := h k List.mem_cons_self
    have h2 := tkT_len sep ks fun q hq => h q (List.mem_cons_of_mem _ hq)
    simp only [tkT, cntL, depL, List.length_cons, List.length_append]
    omega
theorem tkL_len (sep : Tx) (ks : List Sn) (h : ∀ k ∈ ks, dep k ≤ (tk true k).length ∧ (tk true k).length + 1 ≤ 5 * cnt k) : (tkL sep ks).length ≤ 5 * cntL ks ∧ depL ks ≤ (tkL sep ks).length := by
  cases ks with
  | nil => simp [tkL, cntL, depL]
  | cons k ks =>
    have h1 := h k List.mem_cons_self
    have h2 := tkT_len sep ks fun q hq => h q (List.mem_cons_of_mem _ hq)
    simp only [tkL, cntL, depL, List.length_append]
    omega
theorem tk_len : ∀ (s : Sn), okB s = true → dep s ≤ (tk true s).length ∧ (tk true s).length + 1 ≤ 5 * cnt s := Sn.ind fun s ih h => by
  have hc := node_cases h
  rw [tk_eq, dep_eq, cnt_eq]
  rcases hc with ⟨h1, h2, h3, h4, h5⟩ | ⟨h1, h2, h3, h4, h5, h6⟩ | ⟨h1, h2, h3, h4, h5⟩ | ⟨h1, -, -, -, h7⟩
  · rw [if_pos h1, h3]; simp [depL, cntL]
  · rw [if_neg h1, if_pos h3, h5]; simp [depL, cntL]
  · rw [if_neg (by omega), if_neg (by omega), if_pos h2, h4]; simp [depL, cntL]
  · rw [if_neg (by omega), if_neg (by omega), if_neg (by omega)]
    have := tkL_len (sepS s.op) s.kids fun k hk => ih k hk (h7 k hk)
    simp only [parenT, if_true, List.length_append, List.length_cons, List.length_nil]
    omega
theorem wrT_len (op : Int) : ∀ (ks : List Sn), (∀ k ∈ ks, (wr true k).length + 5 ≤ 40 * cnt k) → (wrT (sepS op) ks).length ≤ 40 * cntL ks
  | [], _ => by simp [wrT, cntL]
  | k :: ks, h => by
    have h1 := h k List.mem_cons_self
    have h2 := wrT_len op ks fun q hq => h q (List.mem_cons_of_mem _ hq)
    have h3 : (sepS op).length ≤ 3 := by unfold sepS; split <;> decide
    simp only [wrT, cntL, List.length_cons, List.length_append]
    omega
theorem wrL_len (op : Int) (ks : List Sn) (h : ∀ k ∈ ks, (wr true k).length + 5 ≤ 40 * cnt k) : (wrL (sepS op) ks).length ≤ 40 * cntL ks := by
  cases ks with
  | nil => simp [wrL]
  | cons k ks =>
    have h1 := h k List.mem_cons_self
    have h2 := wrT_len op ks fun q hq => h q (List.mem_cons_of_mem _ hq)
    simp only [wrL, cntL, List.length_append]
    omega
theorem wr_len : ∀ (s : Sn), okB s = true → (wr true s).length + 5 ≤ 40 * cnt s := Sn.ind fun s ih h => by
  have hc := node_cases h
  rw [wr_eq, cnt_eq]
  rcases hc with ⟨h1, h2, h3, h4, h5⟩ | ⟨h1, h2, h3, h4, h5, h6⟩ | ⟨h1, h2, h3, h4, h5⟩ | ⟨h1, -, -, -, h7⟩
  · have h8 := (wordS_ok 3).2.2
    have h9 := decS_len 6 s.day.toNat (by omega)
    rw [if_pos h1]
    simp only [List.length_append, List.length_cons]
    omega
  · have h8 := (wordS_ok s.op).2.2
    rw [if_neg h1, if_pos h3]
    omega
  · have h8 := (wordS_ok s.op).2.2
    have h9 := (nameB_ok h3).2.2
    rw [if_neg (by omega), if_neg (by omega), if_pos h2]
    simp only [List.length_append, List.length_cons]
    omega
  · rw [if_neg (by omega), if_neg (by omega), if_neg (by omega)]
    have := wrL_len s.op s.kids fun k hk => ih k hk (h7 k hk)
    simp only [paren, if_true, List.length_append, List.length_cons, List.length_nil]
    omega
theorem wr_false_len (s : Sn) : (wr false s).length ≤ (wr true s).length := by
  rw [wr_eq false, wr_eq true]
  (repeat' split) <;> simp [paren] <;> omega
theorem tk_false_len (s : Sn) : (tk false s).length ≤ (tk true s).length := by
  rw [tk_eq false, tk_eq true]
  (repeat' split) <;> simp [parenT] <;> omega
theorem tk_false_dep {s : Sn} (h : okB s = true) : dep s ≤ (tk false s).length + 1 := by
  have hc := node_cases h
  have h0 := (tk_len s h).1
  rw [tk_eq] at h0 ⊢
  rcases hc with ⟨h1, -⟩ | ⟨h1, h2, h3, -⟩ | ⟨h1, h2, -⟩ | ⟨h1, -, -, -, h7⟩
  · rw [if_pos h1] at h0 ⊢; omega
  · rw [if_neg h1, if_pos h3] at h0 ⊢; omega
  · rw [if_neg (by omega), if_neg (by omega), if_pos h2] at h0 ⊢; omega
  · rw [if_neg (by omega), if_neg (by omega), if_neg (by omega), dep_eq]
    have := tkL_len (sepS s.op) s.kids fun k hk => tk_len k (h7 k hk)
    simp only [parenT, Bool.false_eq_true, if_false]
    omega
theorem lx_lex {s : Tx} {l : List Tok} (h : Lx 0 s l none) (hl : s.length ≤ 20000) (hn : l.length ≤ 5000) : lex s = .ok l := by
  obtain ⟨t, h1, h2⟩ := h.founds s.length (Nat.le_refl _)
  unfold Lexs.lex
  rw [if_neg (by omega), h1, gather_map l [] t (by simp; omega)]
  simp only at h2
  subst h2
  rfl
/-- The text as a whole. -/
theorem lxs_top {s : Sn} (h : okB s = true) : Lxs (wr false s) (tk false s) := by
  have hc := node_cases h
  have h0 := lxs_wr s h
  rw [wr_eq, tk_eq] at h0 ⊢
  rcases hc with ⟨h1, -, -, h4, h5⟩ | ⟨h1, h2, h3, -, -, -⟩ | ⟨h1, h2, h3, -, -⟩ | ⟨h1, -, -, -, h5⟩
  · rw [if_pos h1, if_pos h1] at h0 ⊢; exact h0
  · rw [if_neg h1, if_pos h3, if_neg h1, if_pos h3] at h0 ⊢; exact h0
  · rw [if_neg (by omega), if_neg (by omega), if_pos h2, if_neg (by omega), if_neg (by omega), if_pos h2] at h0 ⊢; exact h0
  · rw [if_neg (by omega), if_neg (by omega), if_neg (by omega), if_neg (by omega), if_neg (by omega), if_neg (by omega)]
    exact lxs_wrL s.op s.kids h5
/-- A valid condition's text. -/
def textS (s : Sn) : Tx := wr false s
theorem textS_len {s : Sn} (h : validB s = true) : (textS s).length ≤ 8000 := by
  obtain ⟨h1, h2, h3⟩ := (valid_iff s).1 h
  have := wr_len s h3
  have := wr_false_len s
  unfold textS
  omega
/-- Parsed again. -/
theorem parse_text {s : Sn} (h : validB s = true) : parse (textS s) = .inl s := by
  obtain ⟨h1, h2, h3⟩ := (valid_iff s).1 h
  have hlen := textS_len h
  obtain ⟨l, hl1, hl2⟩ := lxs_top h3 0 [] [] Bd.nil (.nil rfl)
  rw [List.append_nil, List.append_nil] at hl1
  have hll := hl2.length
  have h4 := (tk_len s h3).2
  have h5 := tk_false_len s
  have h6 := tk_false_dep h3
  have hlex : lex (textS s) = .ok l := lx_lex hl1 (by unfold textS at hlen; unfold textS; omega) (by omega)
  unfold parse
  rw [hlex]
  simp only
  unfold parseT
  rw [read_top _ h3 (by omega) hl2]
  simp only [if_true]
  rw [h, if_pos rfl]
theorem text_inj {a b : Sn} (ha : validB a = true) (hb : validB b = true) (h : textS a = textS b) : a = b := by
  have h1 := parse_text ha
  rw [h, parse_text hb] at h1
  cases h1
  rfl
theorem parse_valid {t : Tx} {s : Sn} (h : parse t = .inl s) : validB s = true := by
  unfold parse at h
  split at h
  · cases h
  · unfold parseT at h
    split at h
    · cases h
    · split at h
      · split at h
        · cases h; assumption
        · cases h
      · cases h
end Go.Sta
