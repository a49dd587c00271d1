/-
  Texts and their tokens: digits, words, symbols, line feeds, places; plain Lean.
-/
import Derived.Test.YtcanaadgcgophaaDoorLX
import Derived.Test.YtcanaadgcgophaaDoorP2
import Derived.Test.YtcanaadgcgophaaDoorNm
set_option linter.unusedVariables false
set_option linter.unusedSimpArgs false
set_option linter.unnecessarySimpa false
set_option maxRecDepth 10000
namespace Go.Fac
open Go.Lexs
open Go.Fin (Nm)
abbrev Tx := List UInt8
def decS (n : Nat) : Tx := if h : n < 10 then [(48 + n).toUInt8] else decS (n / 10) ++ [(48 + n % 10).toUInt8]
theorem decS_small {n : Nat} (h : n < 10) : decS n = [(48 + n).toUInt8] := by rw [decS, dif_pos h]
theorem decS_big {n : Nat} (h : ¬ n < 10) : decS n = decS (n / 10) ++ [(48 + n % 10).toUInt8] := by rw [decS, dif_neg h]
theorem decS_digits (n : Nat) : (decS n).all isDigit = true := by
  induction n using Nat.strongRecOn with
  | _ n ih =>
    have hdg : ∀ k, k < 10 → isDigit (48 + k).toUInt8 = true := by decide
    by_cases h : n < 10
    · rw [decS_small h]
      simp only [List.all_cons, List.all_nil, Bool.and_true]
      exact hdg n h
    · rw [decS_big h, List.all_append, ih (n / 10) (by omega)]
      simp only [List.all_cons, List.all_nil, Bool.and_true, Bool.true_and]
      exact hdg (n % 10) (by omega)
theorem value_snoc (s : List UInt8) (c : UInt8) : value (s ++ [c]) = 10 * value s + (c.toNat - 48) := by
  simp [value, List.foldl_append]
theorem decS_value (n : Nat) : value (decS n) = n := by
  induction n using Nat.strongRecOn with
  | _ n ih =>
    have hdg : ∀ k, k < 10 → ((48 + k).toUInt8.toNat - 48) = k := by decide
    by_cases h : n < 10
    · rw [decS_small h]
      simp only [value, List.foldl_cons, List.foldl_nil, hdg n h]
      omega
    · rw [decS_big h, value_snoc, ih (n / 10) (by omega), hdg (n % 10) (by omega)]
      omega
theorem decS_len (k : Nat) : ∀ n, n < 10 ^ (k + 1) → (decS n).length ≤ k + 1 := by
  induction k with
  | zero => intro n h; rw [decS_small (by omega)]; simp
  | succ k ih =>
    intro n h
    by_cases h10 : n < 10
    · rw [decS_small h10]; simp
    · rw [decS_big h10, List.length_append]
      have := ih (n / 10) (by rw [Nat.pow_succ] at h; omega)
      simp only [List.length_singleton]
      omega
theorem decS_pos (n : Nat) : 0 < (decS n).length := by
  by_cases h : n < 10
  · rw [decS_small h]; simp
  · rw [decS_big h]; simp
def tw (w : Tx) : Tok := ⟨1, w, 0, 0⟩
def tp (c : UInt8) : Tok := ⟨3, [c], 0, 0⟩
def tn (n : Nat) : Tok := ⟨2, decS n, n, 0⟩
/-- What follows does not lengthen a word. -/
def Bd (g : Tx) : Prop := ∀ c g', g = c :: g' → isWord c = false
theorem Bd.nil : Bd [] := fun _ _ h => nomatch h
theorem Bd.blank (g : Tx) : Bd (32 :: g) := fun c g' h => by cases h; decide
/-- A text with these tokens, whatever follows within limits. -/
def Lxs (t : Tx) (l : List Tok) : Prop := ∀ (a : Nat) (g : Tx) (l2 : List Tok), Bd g → Lx (a + t.length) g l2 none → ∃ l1, Lx a (t ++ g) (l1 ++ l2) none ∧ Like l1 l
theorem Lxs.app {t u : Tx} {l m : List Tok} (h1 : Lxs t l) (h2 : Lxs u m) (hb : ∀ g, Bd g → Bd (u ++ g)) : Lxs (t ++ u) (l ++ m) := by
  intro a g l2 hg hx
  obtain ⟨m1, h3, h4⟩ := h2 (a + t.length) g l2 hg (hx.cast (by simp; omega) rfl)
  obtain ⟨l1, h5, h6⟩ := h1 a (u ++ g) (m1 ++ l2) (hb g hg) h3
  exact ⟨l1 ++ m1, h5.cast rfl (by rw [List.append_assoc]) |> fun h => (List.append_assoc l1 m1 l2).symm ▸ h, h6.app h4⟩
theorem lxs_word {t : Tx} (h1 : t.all isWord = true) (h2 : hd t = 3) (h3 : t.length ≤ 24) : Lxs t [tw t] := by
  intro a g l2 hg hx
  have h4 : 0 < t.length := by
    cases t with
    | nil => simp [hd] at h2
    | cons c t => simp
  have e1 : spanLen isWord (t ++ g) = t.length := by rw [span_app _ _ _ hg, spanLen_all _ h1]
  have hh1 : hd (t ++ g) = 3 := by
    cases t with
    | nil => simp at h4
    | cons a t => exact h2
  have o1 : one (t ++ g) = ⟨1, t.length, 0, 0⟩ := by
    unfold one
    rw [hh1]
    simp only [e1]
    rw [if_neg (by omega)]
  have k1 : skip false (t ++ g) = t ++ g := by
    cases t with
    | nil => simp at h4
    | cons a t => simp only [hd] at h2; exact skip_of_head (by omega) (by omega)
  have := @Lx.tok a (t ++ g) (t ++ g) l2 none k1 (by intro e; rw [List.append_eq_nil_iff] at e; rw [e.1] at h4; simp at h4) (by rw [o1]) (hx.cast (by rw [o1]; simp) (by rw [o1]; simp))
  refine ⟨[(found (a + ((t ++ g).length - (t ++ g).length)) (t ++ g)).tok], this, .cons ⟨?_, ?_, ?_⟩ .nil⟩
  · simp [found, o1, tw]
  · simp [found, o1, tw]
  · simp [found, o1, tw]
theorem lxs_num (n : Nat) (hn : n < 10000000) : Lxs (decS n) [tn n] := by
  intro a g l2 hg hx
  have hd1 := decS_digits n
  have hd2 := decS_pos n
  have hd3 := decS_len 6 n (by omega)
  have hv := decS_value n
  have hgd : ∀ c g', g = c :: g' → isDigit c = false := fun c g' e => isWord_digit (hg c g' e)
  have e1 : spanLen isDigit (decS n ++ g) = (decS n).length := by rw [span_app _ _ _ hgd, spanLen_all _ hd1]
  have hh1 : hd (decS n ++ g) = 4 := by
    cases hs : decS n with
    | nil => rw [hs] at hd2; simp at hd2
    | cons c t => rw [hs] at hd1; simp only [List.all_cons, Bool.and_eq_true] at hd1; exact cls_digit hd1.1
  have hg0 : hd g ≠ 3 ∧ hd g ≠ 5 := by
    cases g with
    | nil => simp [hd]
    | cons c g =>
      have := hg c g rfl
      simp only [isWord, Bool.or_eq_false_iff, beq_eq_false_iff_ne] at this
      exact ⟨this.1.1, this.2⟩
  have o1 : one (decS n ++ g) = ⟨2, (decS n).length, n, 0⟩ := by
    unfold one
    rw [hh1]
    simp only [e1]
    rw [List.drop_append_of_le_length (Nat.le_refl _), List.drop_of_length_le (Nat.le_refl _), List.nil_append, List.take_append_of_le_length (Nat.le_refl _), List.take_of_length_le (Nat.le_refl _), hv, if_neg]
    omega
  have k1 : skip false (decS n ++ g) = decS n ++ g := by
    cases hs : decS n with
    | nil => rw [hs] at hd2; simp at hd2
    | cons c t => rw [hs] at hh1; simp only [List.cons_append, hd] at hh1; exact skip_of_head (by omega) (by omega)
  have := @Lx.tok a (decS n ++ g) (decS n ++ g) l2 none k1 (by intro e; rw [List.append_eq_nil_iff] at e; rw [e.1] at hd2; simp at hd2) (by rw [o1]) (hx.cast (by rw [o1]; simp) (by rw [o1]; simp))
  refine ⟨[(found (a + ((decS n ++ g).length - (decS n ++ g).length)) (decS n ++ g)).tok], this, .cons ⟨?_, ?_, ?_⟩ .nil⟩
  · simp [found, o1, tn]
  · simp [found, o1, tn]
  · simp [found, o1, tn]
theorem lx_sym {c : UInt8} (hc : cls c = 6) (a : Nat) (g : Tx) (l2 : List Tok) (hx : Lx (a + 1) g l2 none) : ∃ t, Lx a (c :: g) (t :: l2) none ∧ t.like (tp c) := by
  have o1 : one (c :: g) = ⟨3, 1, 0, 0⟩ := by
    unfold one
    simp only [hd, hc]
  have k1 : skip false (c :: g) = c :: g := skip_of_head (by omega) (by omega)
  have := @Lx.tok a (c :: g) (c :: g) l2 none k1 (List.cons_ne_nil _ _) (by rw [o1]) (hx.cast (by rw [o1]; simp) (by rw [o1]; rfl))
  refine ⟨_, this, ?_, ?_, ?_⟩
  · simp [found, o1, tp]
  · simp [found, o1, tp]
  · simp [found, o1, tp]
theorem lxs_blank {t : Tx} {l : List Tok} (h : Lxs t l) : Lxs (32 :: t) l := by
  intro a g l2 hg hx
  obtain ⟨l1, h1, h2⟩ := h (a + 1) g l2 hg (hx.cast (by simp only [List.length_cons]; omega) rfl)
  refine ⟨l1, ?_, h2⟩
  refine Lx.congr (s1 := t ++ g) (a1 := a + 1) ?_ ?_ h1
  · show _ = skip false (32 :: (t ++ g))
    simp only [skip]
    rw [if_pos (by decide)]
  · simp only [List.cons_append, List.length_cons]; omega
theorem lxs_nil : Lxs [] [] := fun a g l2 hg hx => ⟨[], hx, .nil⟩
theorem like_cons {l m : List Tok} {t : Tok} (h : Like l (t :: m)) : ∃ u r, l = u :: r ∧ u.like t ∧ Like r m := by
  cases h with
  | cons h1 h2 => exact ⟨_, _, rfl, h1, h2⟩
theorem like_app {l m n : List Tok} (h : Like l (m ++ n)) : ∃ a b, l = a ++ b ∧ Like a m ∧ Like b n := by
  induction m generalizing l with
  | nil => exact ⟨[], l, rfl, .nil, h⟩
  | cons t m ih =>
    obtain ⟨u, r, rfl, h1, h2⟩ := like_cons h
    obtain ⟨a, b, rfl, h3, h4⟩ := ih h2
    exact ⟨u :: a, b, rfl, .cons h1 h3, h4⟩
theorem lx_lex {s : Tx} {l : List Tok} (h : Lx 0 s l none) (hl : s.length ≤ 20000) (hn : l.length ≤ 5000) : lex s = .ok l := by
  obtain ⟨t, h1, h2⟩ := h.founds s.length (Nat.le_refl _)
  unfold Lexs.lex
  rw [if_neg (by omega), h1, gather_map l [] t (by simp; omega)]
  simp only at h2
  subst h2
  rfl
theorem nm_ok {t : Tx} (h : Nm t = true) : t.all isWord = true ∧ hd t = 3 ∧ t.length ≤ 24 := by
  unfold Nm at h
  rw [Bool.and_eq_true, decide_eq_true_eq] at h
  exact ⟨h.1, h.2.2.2, h.2.2.1⟩
theorem nm_ne {t : Tx} (h : Nm t = true) : t ≠ [] := by
  rintro rfl
  simp [Nm] at h
theorem lxs_name {t : Tx} (h : Nm t = true) : Lxs t [tw t] := lxs_word (nm_ok h).1 (nm_ok h).2.1 (nm_ok h).2.2
/-- A symbol and what follows. -/
theorem lxs_sym {c : UInt8} (hc : cls c = 6) : Lxs [c] [tp c] := by
  intro a g l2 hg hx
  obtain ⟨t, h1, h2⟩ := lx_sym hc a g l2 hx
  exact ⟨[t], h1, .cons h2 .nil⟩
/-- A line feed ahead. -/
theorem lxs_feed {t : Tx} {l : List Tok} (h : Lxs t l) : Lxs (10 :: t) l := by
  intro a g l2 hg hx
  obtain ⟨l1, h1, h2⟩ := h (a + 1) g l2 hg (hx.cast (by simp only [List.length_cons]; omega) rfl)
  refine ⟨l1, ?_, h2⟩
  refine Lx.congr (s1 := t ++ g) (a1 := a + 1) ?_ ?_ h1
  · show _ = skip false (10 :: (t ++ g))
    simp only [skip]
    rw [if_pos (by decide)]
  · simp only [List.cons_append, List.length_cons]; omega
theorem Bd.of {c : UInt8} (h : isWord c = false) (g : Tx) : Bd (c :: g) := fun c g' e => by cases e; exact h
def feed (l : List Tok) : Tx := l.flatMap fun t => t.text ++ [10]
theorem feed_cons (t : Tok) (l : List Tok) : feed (t :: l) = t.text ++ 10 :: feed l := by simp [feed]
theorem Lx.feed {a : Nat} {s : List UInt8} {l : List Tok} {r : Option (Nat × Nat)} (h : Lx a s l r) : ∀ b g l2, Lx (b + (feed l).length) g l2 none → ∃ m, Lx b (feed l ++ g) (m ++ l2) none ∧ Like l m := by
  induction h with
  | nil h => exact fun b g l2 hx => ⟨[], hx, .nil⟩
  | bad => exact fun b g l2 hx => ⟨[], hx, .nil⟩
  | tok hs hne he hx ih =>
    rename_i a s s' l r
    intro b g l2 hg
    have hsk : skip false s' = s' := by rw [← hs]; exact skip_skip false s
    have htl : ((found (a + (s.length - s'.length)) s').tok).text = s'.take (one s').len := rfl
    have hle := one_len_le s' hne
    rw [feed_cons, htl] at hg ⊢
    obtain ⟨m, hm1, hm2⟩ := ih (b + (one s').len + 1) g l2 (hg.cast (by simp; omega) rfl)
    have h10 : Lx (b + (one s').len) (10 :: (Go.Fac.feed l ++ g)) (m ++ l2) none := Lx.congr (s1 := Go.Fac.feed l ++ g) (a1 := b + (one s').len + 1) (by simp only [skip]; rw [if_pos (by decide)]) (by simp only [List.length_cons]; omega) hm1
    have := Lx.head hne he hsk (g := 10 :: (Go.Fac.feed l ++ g)) ⟨10, _, rfl, .inl (by decide)⟩ b h10
    refine ⟨(found b s').tok :: m, ?_, .cons ⟨rfl, rfl, rfl⟩ hm2⟩
    simpa using this
theorem feed_length {a : Nat} {s : List UInt8} {l : List Tok} {r : Option (Nat × Nat)} (h : Lx a s l r) : (feed l).length ≤ 2 * s.length := by
  have := write_length h
  have e : ∀ l : List Tok, (feed l).length = (write l).length := by
    intro l
    induction l with
    | nil => rfl
    | cons t l ih => rw [feed_cons, write_cons]; simp [ih]
  rw [e]; exact this
def AtLe (en : Int) (ts : List Tok) : Prop := ∀ t ∈ ts, (t.pos : Int) ≤ en
theorem AtLe.suf {en : Int} {ts r : List Tok} (h : AtLe en ts) (hs : r <:+ ts) : AtLe en r := fun t ht => h t (hs.subset ht)
theorem AtLe.tail {en : Int} {ts : List Tok} (h : AtLe en ts) : AtLe en ts.tail := h.suf (List.tail_suffix _)
theorem gather_at : ∀ (fs : List Lexs.Found) (acc : List Tok) (n : Nat), (∀ x ∈ fs, x.tok.pos ≤ n) → (∀ t ∈ acc, t.pos ≤ n) → (∀ l, gather acc fs = .ok l → ∀ t ∈ l, t.pos ≤ n) ∧ ∀ e a, gather acc fs = .bad e a → a ≤ (n : Int)
  | [], acc, n, h, ha => ⟨fun l hl => by cases hl; exact ha, fun e a hl => by cases hl⟩
  | f :: fs, acc, n, h, ha => by
    have hf := h f List.mem_cons_self
    simp only [gather]
    split
    · exact ⟨fun _ hl => (by cases hl), fun e a hl => (by cases hl; omega)⟩
    · split
      · exact ⟨fun _ hl => (by cases hl), fun e a hl => (by cases hl; omega)⟩
      · refine gather_at fs _ n (fun x hx => h x (List.mem_cons_of_mem _ hx)) fun t ht => ?_
        rcases List.mem_append.1 ht with ht | ht
        · exact ha t ht
        · rw [List.mem_singleton.1 ht]; exact hf
theorem founds_at : ∀ (n a : Nat) (s : List UInt8), ∀ x ∈ founds n a s, x.tok.pos ≤ a + s.length
  | 0, a, s, x, hx => by simp [founds] at hx
  | n + 1, a, s, x, hx => by
    have hk := skip_length false s
    simp only [founds] at hx
    cases hs : skip false s with
    | nil => rw [hs] at hx; simp at hx
    | cons c s' =>
      rw [hs] at hx hk
      simp only [List.mem_cons] at hx
      rcases hx with rfl | hx
      · simp only [found]; omega
      · split at hx
        · rename_i he
          have h1 := founds_at n _ _ x hx
          rw [List.length_drop] at h1
          have h2 := one_len_le (c :: s') (List.cons_ne_nil _ _)
          omega
        · cases hx
theorem lex_at {s : Tx} : (∀ l, lex s = .ok l → AtLe s.length l) ∧ ∀ e a, lex s = .bad e a → a ≤ (s.length : Int) := by
  unfold lex
  split
  · exact ⟨fun l h => (by cases h), fun e a h => (by cases h; omega)⟩
  · have := gather_at (founds s.length 0 s) [] s.length (fun x hx => by have := founds_at _ _ _ x hx; omega) (fun t h => nomatch h)
    exact ⟨fun l hl t ht => by have := this.1 l hl t ht; omega, this.2⟩
/-- A property of all found. -/
theorem gather_all {Q : Tok → Prop} : ∀ (fs : List Lexs.Found) (acc l : List Tok), (∀ x ∈ fs, x.err = 0 → Q x.tok) → (∀ t ∈ acc, Q t) → acc.length ≤ 5000 → gather acc fs = .ok l → (∀ t ∈ l, Q t) ∧ l.length ≤ 5000
  | [], acc, l, h, ha, hn, hg => by cases hg; exact ⟨ha, hn⟩
  | f :: fs, acc, l, h, ha, hn, hg => by
    simp only [gather] at hg
    split at hg
    · cases hg
    · rename_i he
      split at hg
      · cases hg
      · refine gather_all fs _ l (fun x hx => h x (List.mem_cons_of_mem _ hx)) (fun t ht => ?_) (by simp; omega) hg
        rcases List.mem_append.1 ht with ht | ht
        · exact ha t ht
        · rw [List.mem_singleton.1 ht]
          exact h f List.mem_cons_self (by simpa using he)
theorem founds_all {Q : Tok → Prop} (hq : ∀ (a : Nat) (s : Tx), s ≠ [] → skip false s = s → (one s).err = 0 → Q (found a s).tok) : ∀ (n a : Nat) (s : Tx), ∀ x ∈ founds n a s, x.err = 0 → Q x.tok
  | 0, a, s, x, hx, _ => by simp [founds] at hx
  | n + 1, a, s, x, hx, he => by
    simp only [founds] at hx
    cases hs : skip false s with
    | nil => rw [hs] at hx; simp at hx
    | cons c s' =>
      have hk : skip false (c :: s') = c :: s' := by rw [← hs]; exact skip_skip false s
      rw [hs] at hx
      simp only [List.mem_cons] at hx
      rcases hx with rfl | hx
      · exact hq _ _ (List.cons_ne_nil _ _) hk he
      · split at hx
        · exact founds_all hq n _ _ x hx he
        · cases hx
theorem lex_all {Q : Tok → Prop} (hq : ∀ (a : Nat) (s : Tx), s ≠ [] → skip false s = s → (one s).err = 0 → Q (found a s).tok) {s : Tx} {l : List Tok} (h : lex s = .ok l) : (∀ t ∈ l, Q t) ∧ l.length ≤ 5000 := by
  unfold lex at h
  split at h
  · cases h
  · exact gather_all _ [] l (founds_all hq _ _ _) (fun t ht => nomatch ht) (by decide) h
theorem spanLen_all_take {p : UInt8 → Bool} : ∀ (s : Tx), (s.take (spanLen p s)).all p = true
  | [] => rfl
  | c :: s => by
    simp only [spanLen]
    by_cases h : p c = true
    · rw [if_pos h, List.take_succ_cons, List.all_cons, h, spanLen_all_take s]; rfl
    · rw [if_neg h]; rfl
theorem one_if {q : Prop} [Decidable q] {a b : One} (ha : a.kind = 2) (hb : b.kind = 2) : (if q then a else b).kind = 2 := by split <;> assumption
theorem found_name (a : Nat) (s : Tx) (hne : s ≠ []) (he : (one s).err = 0) (hk : (one s).kind = 1) : Nm (found a s).tok.text = true := by
  show Nm (s.take (one s).len) = true
  cases s with
  | nil => exact absurd rfl hne
  | cons c s =>
    have hd3 : cls c = 3 := by
      unfold one at hk
      simp only [hd] at hk
      split at hk
      · assumption
      · exact absurd (hk.symm.trans (one_if rfl rfl)) (by decide)
      · cases hk
      · cases hk
      · split at hk <;> cases hk
      · cases hk
    have ho : one (c :: s) = ⟨1, spanLen isWord (c :: s), 0, if 24 < spanLen isWord (c :: s) then 2 else 0⟩ := by
      unfold one
      simp only [hd, hd3]
    rw [ho] at he ⊢
    simp only at he ⊢
    have hlen : spanLen isWord (c :: s) ≤ 24 := by
      by_cases h : 24 < spanLen isWord (c :: s)
      · rw [if_pos h] at he; cases he
      · omega
    have hw : isWord c = true := by simp [isWord, hd3]
    have hall := spanLen_all_take (p := isWord) (c :: s)
    have e : spanLen isWord (c :: s) = spanLen isWord s + 1 := by simp only [spanLen]; rw [if_pos hw]
    have hl := List.length_take_le (spanLen isWord (c :: s)) (c :: s)
    unfold Nm
    rw [Bool.and_eq_true, decide_eq_true_eq]
    refine ⟨hall, ?_, by omega, ?_⟩
    · rw [e, List.take_succ_cons]; simp
    · rw [e, List.take_succ_cons]; exact hd3
/-- A token that is a name is one; every token is short. -/
def TokOk (t : Tok) : Prop := t.text.length ≤ 1000000 ∧ (t.kind = 1 → Nm t.text = true)
theorem lex_tok {s : Tx} {l : List Tok} (h : lex s = .ok l) : (∀ t ∈ l, TokOk t) ∧ l.length ≤ 5000 := by
  have hs : s.length ≤ 20000 := by
    unfold lex at h
    split at h
    · cases h
    · omega
  have h1 : (∀ t ∈ l, t.kind = 1 → Nm t.text = true) ∧ l.length ≤ 5000 := lex_all (fun a s hne _ he hk => found_name a s hne he hk) h
  refine ⟨fun t ht => ⟨?_, h1.1 t ht⟩, h1.2⟩
  have h2 : ∀ (n a : Nat) (s : Tx), ∀ x ∈ founds n a s, x.tok.text.length ≤ s.length := by
    intro n
    induction n with
    | zero => intro a s x hx; simp [founds] at hx
    | succ n ih =>
      intro a s x hx
      have hk := skip_length false s
      simp only [founds] at hx
      cases hs : skip false s with
      | nil => rw [hs] at hx; simp at hx
      | cons c s' =>
        rw [hs] at hx hk
        simp only [List.mem_cons] at hx
        rcases hx with rfl | hx
        · have := List.length_take_le (one (c :: s')).len (c :: s')
          have := List.length_take_le' (one (c :: s')).len (c :: s')
          simp only [found]
          omega
        · split at hx
          · have h3 := ih _ _ x hx
            rw [List.length_drop] at h3
            omega
          · cases hx
  have h4 : (∀ t ∈ l, t.text.length ≤ s.length) ∧ l.length ≤ 5000 := by
    unfold lex at h
    rw [if_neg (by omega)] at h
    exact gather_all _ [] l (fun x hx _ => h2 _ _ _ x hx) (fun t ht => nomatch ht) (by decide) h
  have := h4.1 t ht
  omega
theorem gather_ne : ∀ (fs : List Lexs.Found) (acc : List Tok) (e : Nat) (a : Int), Lexs.gather acc fs = .bad e a → e ≠ 0
  | [], acc, e, a, h => by cases h
  | f :: fs, acc, e, a, h => by
    simp only [Lexs.gather] at h
    split at h
    · cases h; assumption
    · split at h
      · cases h; decide
      · exact gather_ne fs _ e a h
theorem lex_ne {s : Tx} {e : Nat} {a : Int} (h : lex s = .bad e a) : e ≠ 0 := by
  unfold Lexs.lex at h
  split at h
  · cases h; decide
  · exact gather_ne _ _ _ _ h
end Go.Fac
