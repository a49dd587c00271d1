/-
  The next case; plain Lean.
-/
import Derived.Test.YtcanaadgcgophaaDoorFaPc
set_option linter.unusedVariables false
set_option linter.unusedSimpArgs false
set_option linter.unnecessarySimpa false
set_option maxRecDepth 10000
namespace Go.Fac
open Go.Fo
/-- Is a case less than another one? -/
def lessL : List Int → List Int → Bool
  | a :: A, b :: B => if a ≠ b then decide (a < b) else lessL A B
  | _, _ => false
theorem less_irrefl : ∀ c : List Int, lessL c c = false
  | [] => rfl
  | a :: c => by simp only [lessL]; rw [if_neg (by simp)]; exact less_irrefl c
theorem fits_cons {f : Fact} {F : List Fact} {z : Int} {c : List Int} : fitsC (f :: F) (z :: c) = true ↔ f.lo ≤ z ∧ z ≤ f.hi ∧ fitsC F c = true := by
  simp only [fitsC, Bool.and_eq_true, decide_eq_true_eq, and_assoc]
/-- The least case is not greater. -/
theorem least_le : ∀ (F : List Fact) (c : List Int), fitsC F c = true → lessL c (F.map (·.lo)) = false
  | [], c, h => by cases c <;> rfl
  | f :: F, [], h => rfl
  | f :: F, z :: c, h => by
    obtain ⟨h1, h2, h3⟩ := fits_cons.1 h
    simp only [List.map_cons, lessL]
    by_cases e : z = f.lo
    · rw [if_neg (by simp [e])]; exact least_le F c h3
    · rw [if_pos e, decide_eq_false (by omega)]
theorem least_fits : ∀ (F : List Fact), (∀ f ∈ F, f.lo ≤ f.hi) → fitsC F (F.map (·.lo)) = true
  | [], h => rfl
  | f :: F, h => by
    rw [List.map_cons]
    exact fits_cons.2 ⟨Int.le_refl _, h f List.mem_cons_self, least_fits F fun g hg => h g (List.mem_cons_of_mem _ hg)⟩
/-- The greatest values. -/
theorem next_none : ∀ (F : List Fact) (c : List Int), fitsC F c = true → (nextL F c = none ↔ c = F.map (·.hi))
  | [], [], h => by simp [nextL]
  | [], z :: c, h => by cases h
  | f :: F, [], h => by cases h
  | f :: F, z :: c, h => by
    obtain ⟨h1, h2, h3⟩ := fits_cons.1 h
    have ih := next_none F c h3
    simp only [nextL, List.map_cons, List.cons.injEq]
    cases hn : nextL F c with
    | some d =>
      simp only [reduceCtorEq, false_iff, not_and]
      intro _ e
      rw [ih.2 e] at hn
      cases hn
    | none =>
      simp only
      have := ih.1 hn
      constructor
      · intro h4
        split at h4
        · cases h4
        · exact ⟨by omega, this⟩
      · rintro ⟨h4, -⟩
        rw [if_neg (by omega)]
theorem next_fits : ∀ (F : List Fact) (c d : List Int), (∀ f ∈ F, f.lo ≤ f.hi) → fitsC F c = true → nextL F c = some d → fitsC F d = true ∧ lessL c d = true
  | [], c, d, hF, h, hn => by cases c <;> cases hn
  | f :: F, [], d, hF, h, hn => by cases h
  | f :: F, z :: c, d, hF, h, hn => by
    obtain ⟨h1, h2, h3⟩ := fits_cons.1 h
    have hF2 : ∀ g ∈ F, g.lo ≤ g.hi := fun g hg => hF g (List.mem_cons_of_mem _ hg)
    simp only [nextL] at hn
    cases hn2 : nextL F c with
    | some d2 =>
      rw [hn2] at hn
      cases hn
      obtain ⟨h4, h5⟩ := next_fits F c d2 hF2 h3 hn2
      refine ⟨fits_cons.2 ⟨h1, h2, h4⟩, ?_⟩
      simp only [lessL]
      rw [if_neg (by simp)]
      exact h5
    | none =>
      rw [hn2] at hn
      simp only at hn
      split at hn
      · cases hn
        refine ⟨fits_cons.2 ⟨by omega, by omega, least_fits F hF2⟩, ?_⟩
        simp only [lessL]
        rw [if_pos (by omega), decide_eq_true (by omega)]
      · cases hn
theorem greatest_ge : ∀ (F : List Fact) (c : List Int), fitsC F c = true → lessL (F.map (·.hi)) c = false
  | [], c, h => by cases c <;> rfl
  | f :: F, [], h => rfl
  | f :: F, z :: c, h => by
    obtain ⟨h1, h2, h3⟩ := fits_cons.1 h
    simp only [List.map_cons, lessL]
    by_cases e : f.hi = z
    · rw [if_neg (by simp [e])]; exact greatest_ge F c h3
    · rw [if_pos e, decide_eq_false (by omega)]
/-- Nothing lies between. -/
theorem next_least : ∀ (F : List Fact) (c b : List Int), fitsC F c = true → fitsC F b = true → lessL c b = true → ∃ d, nextL F c = some d ∧ lessL b d = false
  | [], [], b, h, hb, hl => by cases hl
  | [], z :: c, b, h, hb, hl => by cases h
  | f :: F, [], b, h, hb, hl => by cases h
  | f :: F, z :: c, [], h, hb, hl => by cases hb
  | f :: F, z :: c, y :: b, h, hb, hl => by
    obtain ⟨h1, h2, h3⟩ := fits_cons.1 h
    obtain ⟨h4, h5, h6⟩ := fits_cons.1 hb
    simp only [lessL] at hl
    by_cases e : z = y
    · subst e
      rw [if_neg (by simp)] at hl
      obtain ⟨d, h7, h8⟩ := next_least F c b h3 h6 hl
      refine ⟨z :: d, by simp only [nextL, h7], ?_⟩
      simp only [lessL]
      rw [if_neg (by simp)]
      exact h8
    · rw [if_pos e, decide_eq_true_eq] at hl
      simp only [nextL]
      cases hn : nextL F c with
      | some d =>
        refine ⟨z :: d, rfl, ?_⟩
        simp only [lessL]
        rw [if_pos (by omega), decide_eq_false (by omega)]
      | none =>
        refine ⟨(z + 1) :: F.map (·.lo), by simp only; rw [if_pos (by omega)], ?_⟩
        simp only [lessL]
        by_cases e2 : y = z + 1
        · rw [if_neg (by simp [e2])]
          exact least_le F b h6
        · rw [if_pos e2, decide_eq_false (by omega)]
/-! ### From behind -/
theorem fits_drop {F : List Fact} {c : List Int} (h : fitsC F c = true) (i : Nat) : fitsC (F.drop i) (c.drop i) = true := by
  induction i generalizing F c with
  | zero => simpa using h
  | succ i ih =>
    match F, c, h with
    | [], [], h => simp [fitsC]
    | f :: F, z :: c, h => exact ih (fits_cons.1 h).2.2
theorem next_take : ∀ (F : List Fact) (c : List Int) (i : Nat) (d : List Int), c.length = F.length → i ≤ F.length → nextL (F.drop i) (c.drop i) = some d → nextL F c = some (c.take i ++ d)
  | F, c, 0, d, hl, hi, h => by simpa using h
  | [], c, i + 1, d, hl, hi, h => by simp at hi
  | f :: F, [], i + 1, d, hl, hi, h => by simp at hl
  | f :: F, z :: c, i + 1, d, hl, hi, h => by
    simp only [List.drop_succ_cons] at h
    have := next_take F c i d (by simpa using hl) (by simpa using hi) h
    simp only [nextL, this, List.take_succ_cons, List.cons_append]
/-- One step towards the head. -/
theorem next_at {F : List Fact} {c : List Int} {i : Nat} (h1 : i < F.length) (h2 : i < c.length) (h : nextL (F.drop (i + 1)) (c.drop (i + 1)) = none) : nextL (F.drop i) (c.drop i) = if c[i] < F[i].hi then some ((c[i] + 1) :: (F.drop (i + 1)).map (·.lo)) else none := by
  rw [List.drop_eq_getElem_cons h1, List.drop_eq_getElem_cons h2]
  simp only [nextL, h]
theorem valid_lohi {F : List Fact} (h : validD F = true) : ∀ f ∈ F, f.lo ≤ f.hi := fun f hf => by
  obtain ⟨-, h1⟩ := factOk_parts (((valid_iff F).1 h).1 f hf)
  omega
end Go.Fac
