/-
  Names, in plain Lean: what the lexer says of a text that is one token.
-/
import Derived.Test.YtcanaadgcgophaaDoorLX
set_option linter.unusedVariables false
set_option linter.unusedSimpArgs false
set_option linter.unnecessarySimpa false
set_option maxRecDepth 10000
namespace Go.Fin
open Go.Lexs

/-- Is a text a name? -/
def Nm (s : List UInt8) : Bool := s.all isWord && decide (0 < s.length ∧ s.length ≤ 24 ∧ hd s = 3)

theorem spanLen_all' {p : UInt8 → Bool} : ∀ (s : List UInt8), s.all p = true → spanLen p s = s.length
  | [], _ => rfl
  | c :: s, h => by
    simp only [List.all_cons, Bool.and_eq_true] at h
    simp only [spanLen, h.1, if_true, spanLen_all' s h.2, List.length_cons]

theorem spanLen_all_of {p : UInt8 → Bool} : ∀ (s : List UInt8), spanLen p s = s.length → s.all p = true
  | [], _ => rfl
  | c :: s, h => by
    simp only [spanLen] at h
    split at h
    · rename_i hc
      simp only [List.length_cons] at h
      rw [List.all_cons, hc, spanLen_all_of s (by omega)]
      rfl
    · simp at h

/-- One token that is the whole text, and a name. -/
theorem lex_name (s : List UInt8) : (∃ t, lex s = .ok [t] ∧ t.kind = 1 ∧ t.text = s) ↔ Nm s = true := by
  constructor
  · rintro ⟨t, h, hk, ht⟩
    have hlen : ¬ 20000 < s.length := fun hl => by unfold lex at h; rw [if_pos hl] at h; cases h
    obtain ⟨l, r, hx⟩ := Lx.exists s.length 0 s (Nat.le_refl _)
    -- the first token is the whole text
    obtain ⟨fs, hf1, hf2⟩ := hx.founds s.length (Nat.le_refl _)
    unfold lex at h
    rw [if_neg hlen, hf1] at h
    have hshape : ∃ s', skip false s = s' ∧ s' ≠ [] ∧ (one s').err = 0 ∧ t = (found (0 + (s.length - s'.length)) s').tok := by
      cases l with
      | nil =>
        simp only [List.map_nil, List.nil_append] at h
        cases r with
        | none => simp only at hf2; subst hf2; simp [gather] at h
        | some ep =>
          obtain ⟨e, p⟩ := ep
          obtain ⟨he, k, rfl, -⟩ := hf2
          simp [gather, he] at h
      | cons u l =>
        obtain ⟨s', h1, h2, h3, h4, -⟩ := hx.next_ne
        refine ⟨s', h1, h2, h3, ?_⟩
        rw [← h4]
        simp only [List.map_cons, List.cons_append, gather, ne_eq, not_true_eq_false, if_false, List.length_nil, List.nil_append] at h
        rw [if_neg (by omega)] at h
        have key : ∀ (fs : List Found) (acc : List Tok), (∃ a b, acc = a :: b) → gather acc fs = .ok [t] → ∃ b, acc = t :: b := by
          intro fs
          induction fs with
          | nil =>
            rintro acc ⟨a, b, rfl⟩ h
            simp only [gather, Res.ok.injEq] at h
            exact ⟨b, by rw [h]; simp at h; rw [h.2]⟩
          | cons f fs ih =>
            rintro acc ⟨a, b, rfl⟩ h
            simp only [gather] at h
            split at h
            · cases h
            · split at h
              · cases h
              · obtain ⟨b', hb⟩ := ih _ ⟨a, b ++ [f.tok], rfl⟩ h
                simp at hb
                exact ⟨b, by rw [hb.1]⟩
        obtain ⟨b', hb⟩ := key _ _ ⟨u, [], rfl⟩ h
        simp at hb
        exact hb.1.symm
    obtain ⟨s', h1, h2, h3, rfl⟩ := hshape
    simp only [found] at hk ht
    have hl := skip_length false s
    rw [h1] at hl
    have hle := one_len_le s' h2
    have htl : (s'.take (one s').len).length = s.length := by rw [ht]
    rw [List.length_take] at htl
    have hs' : s' = s := by
      have := skip_drop h1
      rw [show s.length - s'.length = 0 by omega] at this
      simpa using this.symm
    subst hs'
    have hfull : (one s').len = s'.length := by omega
    have hpos := List.length_pos_iff.2 h2
    unfold one at hk h3 hfull
    unfold Nm
    split at hk
    · rename_i hh
      rw [hh] at h3 hfull
      simp only at h3 hfull
      rw [spanLen_all_of s' hfull]
      rw [hfull] at h3
      simp only [Bool.true_and, decide_eq_true_eq]
      refine ⟨hpos, ?_, hh⟩
      split at h3
      · cases h3
      · omega
    · simp only at hk; split at hk <;> cases hk
    · cases hk
    · cases hk
    · split at hk <;> cases hk
    · cases hk
  · intro h
    unfold Nm at h
    simp only [Bool.and_eq_true, decide_eq_true_eq] at h
    obtain ⟨h1, h2, h3, h4⟩ := h
    have o1 : one s = ⟨1, s.length, 0, 0⟩ := by
      unfold one
      rw [h4]
      simp only [spanLen_all' s h1]
      rw [if_neg (by omega)]
    have k1 : skip false s = s := by
      cases s with
      | nil => rfl
      | cons a t => simp only [hd] at h4; exact skip_of_head (by omega) (by omega)
    have hx : Lx 0 s [(found (0 + (s.length - s.length)) s).tok] none :=
      .tok k1 (by intro h; rw [h] at h2; simp at h2) (by rw [o1]) (.nil (by rw [o1, List.drop_of_length_le (Nat.le_refl _)]; rfl))
    refine ⟨_, hx.lex (by omega), by simp only [found, o1], by simp only [found, o1, List.take_of_length_le (Nat.le_refl _)]⟩

theorem gather_err : ∀ (fs : List Found) (acc : List Tok) (e : Nat) (off : Int), gather acc fs = .bad e off → e ≠ 0
  | [], acc, e, off, h => by cases h
  | f :: fs, acc, e, off, h => by
    simp only [gather] at h
    split at h
    · rename_i hf
      cases h
      exact hf
    · split at h
      · cases h; omega
      · exact gather_err fs _ e off h

theorem lex_err {s : List UInt8} {e : Nat} {off : Int} (h : lex s = .bad e off) : e ≠ 0 := by
  unfold lex at h
  split at h
  · cases h; omega
  · exact gather_err _ _ _ _ h

end Go.Fin
