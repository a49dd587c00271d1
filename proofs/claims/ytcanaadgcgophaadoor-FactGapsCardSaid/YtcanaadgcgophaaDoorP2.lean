/-
  Laws of tokens, in plain Lean, second part: gaps, words.
-/
import Derived.Test.YtcanaadgcgophaaDoorLX
set_option linter.unusedVariables false
set_option linter.unusedSimpArgs false
set_option linter.unnecessarySimpa false
set_option maxRecDepth 10000
namespace Go.Lexs

theorem Like.symm {a b : List Tok} (h : Like a b) : Like b a := by
  induction h with
  | nil => exact .nil
  | cons h _ ih => exact .cons ⟨h.1.symm, h.2.1.symm, h.2.2.symm⟩ ih

theorem gapHead_line {g t : List UInt8} (h : skip false g = []) : gapHead (g ++ 10 :: t) := by
  cases g with
  | nil => exact ⟨10, t, rfl, .inl rfl⟩
  | cons c g =>
    refine ⟨c, g ++ 10 :: t, rfl, ?_⟩
    simp only [skip] at h
    split at h
    · rename_i h1; exact .inl h1
    · split at h
      · rename_i h2; exact .inr h2
      · cases h

/-- A line of gaps ahead. -/
theorem Lx.line {g X : List UInt8} {a : Nat} {l : List Tok} {r : Option (Nat × Nat)} (hg : skip false g = []) (h : Lx (a + g.length + 1) X l r) : Lx a (g ++ 10 :: X) l r :=
  h.congr (skip_app_nil false g X hg).symm (by simp; omega)

theorem gaps_law {text gaps : List UInt8} {l : List Tok} (hL : Lx 0 text l none) (hg : skip false gaps = []) (m : Nat) (hm : (l = [] ∧ m = 0) ∨ ∃ (i : Nat) (t : Tok), l[i]? = some t ∧ m = t.pos + t.text.length) :
    ∃ b, Lx 0 (gaps ++ 10 :: (text.take m ++ (gaps ++ 10 :: (text.drop m ++ 10 :: gaps)))) b none ∧ Like l b := by
  rcases hm with ⟨rfl, rfl⟩ | ⟨i, t, hi, rfl⟩
  · have h1 := hL.shift (0 + gaps.length + 1 + gaps.length + 1)
    have h2 := h1.app (t := gaps) (.nil hg)
    simp only [List.map_nil, Option.map_none, List.append_nil] at h2
    refine ⟨[], ?_, .nil⟩
    rw [List.take_zero, List.drop_zero, List.nil_append]
    exact Lx.line hg (Lx.line hg (h2.cast (by omega) rfl))
  · obtain ⟨h1, h2, h3, h4⟩ := hL.split i t hi
    rw [Nat.sub_zero] at h3 h4
    have h5 := (h3.shift (0 + gaps.length + 1 + gaps.length + 1)).app (t := gaps) (.nil hg)
    simp only [Option.map_none, List.append_nil] at h5
    have h6 : Lx (0 + gaps.length + 1 + (t.pos + t.text.length)) (gaps ++ 10 :: (text.drop (t.pos + t.text.length) ++ 10 :: gaps)) _ none := Lx.line hg (h5.cast (by omega) rfl)
    obtain ⟨q, hq1, hq2⟩ := h4 _ (0 + gaps.length + 1) _ (gapHead_line hg) h6
    refine ⟨q, Lx.line hg hq1, ?_⟩
    refine Like.trans ?_ hq2.symm
    conv => lhs; rw [← List.take_append_drop (i + 1) l]
    exact (Like.refl _).app (like_shift _ _)

/-! ### Words -/

theorem spanLen_all {p : UInt8 → Bool} : ∀ (s : List UInt8), s.all p = true → spanLen p s = s.length
  | [], _ => rfl
  | c :: s, h => by
    simp only [List.all_cons, Bool.and_eq_true] at h
    simp only [spanLen, h.1, if_true, spanLen_all s h.2, List.length_cons]

theorem cls_digit {c : UInt8} (h : isDigit c = true) : cls c = 4 := by
  have hl : isLetter c = false := by
    cases hl : isLetter c
    · rfl
    · exfalso
      simp [isLetter, isDigit, UInt8.le_iff_toNat_le] at h hl
      omega
  simp [cls, hl, h]

/-- A name, a symbol, digits. -/
theorem words_law {name dec : List UInt8} {c : UInt8} {n : Nat} (h1 : name.all isWord = true) (h2 : hd name = 3) (h3 : name.length ≤ 24) (h4 : 0 < name.length) (hc : cls c = 6 ∨ cls c = 7) (hd1 : dec.all isDigit = true) (hd2 : 0 < dec.length) (hd3 : dec.length ≤ 7) (hv : value dec = n) :
    Lx 0 (name ++ c :: dec) [⟨1, name, 0, 0⟩, ⟨3, [c], 0, name.length⟩, ⟨2, dec, n, name.length + 1⟩] none := by
  have hcw : ∀ d g', c :: dec = d :: g' → isWord d = false := by
    intro d g' he
    simp only [List.cons.injEq] at he
    obtain ⟨rfl, -⟩ := he
    rcases hc with h | h <;> simp [isWord, h]
  have e1 : spanLen isWord (name ++ c :: dec) = name.length := by rw [span_app _ _ _ hcw, spanLen_all _ h1]
  have hh1 : hd (name ++ c :: dec) = 3 := by
    cases name with
    | nil => simp at h4
    | cons a t => exact h2
  have o1 : one (name ++ c :: dec) = ⟨1, name.length, 0, 0⟩ := by
    unfold one
    rw [hh1]
    simp only [e1]
    rw [if_neg (by omega)]
  have hd0 : hd dec = 4 := by
    cases dec with
    | nil => simp at hd2
    | cons a t => simp only [List.all_cons, Bool.and_eq_true] at hd1; exact cls_digit hd1.1
  have o2 : one (c :: dec) = ⟨3, 1, 0, 0⟩ := by
    unfold one
    rcases hc with h | h
    · simp only [hd, h]
    · have : (c :: dec)[1]? ≠ some 61 := by
        cases dec with
        | nil => simp at hd2
        | cons a t =>
          simp only [List.getElem?_cons_succ, List.getElem?_cons_zero, ne_eq, Option.some.injEq]
          rintro rfl
          simp only [hd] at hd0
          cases hd0
      simp only [hd, h, this, if_false]
  have o3 : one dec = ⟨2, dec.length, n, 0⟩ := by
    unfold one
    rw [hd0]
    simp only [spanLen_all _ hd1]
    rw [List.drop_of_length_le (Nat.le_refl _), List.take_of_length_le (Nat.le_refl _), hv]
    rw [if_neg]
    simp [hd]; omega
  have k1 : skip false (name ++ c :: dec) = name ++ c :: dec := by
    cases name with
    | nil => simp at h4
    | cons a t => simp only [hd] at h2; exact skip_of_head (by omega) (by omega)
  have k2 : skip false (c :: dec) = c :: dec := skip_of_head (by omega) (by omega)
  have k3 : skip false dec = dec := by
    cases dec with
    | nil => rfl
    | cons a t => simp only [hd] at hd0; exact skip_of_head (by omega) (by omega)
  have l3 : Lx (name.length + 1) dec [⟨2, dec, n, name.length + 1⟩] none := by
    have := @Lx.tok (name.length + 1) dec dec [] none k3 (by intro h; rw [h] at hd2; simp at hd2) (by rw [o3]) (.nil (by rw [o3, List.drop_of_length_le (Nat.le_refl _)]; rfl))
    simp only [found, o3, Nat.sub_self, Nat.add_zero, List.take_of_length_le (Nat.le_refl dec.length)] at this
    exact this
  have l2 : Lx name.length (c :: dec) [⟨3, [c], 0, name.length⟩, ⟨2, dec, n, name.length + 1⟩] none := by
    have := @Lx.tok name.length (c :: dec) (c :: dec) _ none k2 (List.cons_ne_nil _ _) (by rw [o2]) (l3.cast (by rw [o2]; simp) (by rw [o2]; rfl))
    simp only [found, o2, Nat.sub_self, Nat.add_zero, List.take_succ_cons, List.take_zero] at this
    exact this
  have := @Lx.tok 0 (name ++ c :: dec) (name ++ c :: dec) _ none k1 (by simp) (by rw [o1]) (l2.cast (by rw [o1]; simp) (by rw [o1]; simp))
  simp only [found, o1, Nat.sub_self, Nat.add_zero, List.take_left'] at this
  exact this
end Go.Lexs
