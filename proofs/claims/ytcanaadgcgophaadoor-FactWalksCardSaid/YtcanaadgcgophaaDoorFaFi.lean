/-
  Cases in memory; does a case fit (the reference).
-/
import Derived.Test.YtcanaadgcgophaaDoorFaDo
set_option linter.unusedVariables false
set_option linter.unusedSimpArgs false
set_option linter.unnecessarySimpa false
set_option maxRecDepth 10000
namespace Go.Fo
open Go.Lexs Go.Fin

theorem fitsC_iff : ∀ (F : List Fact) (c : List Int), fitsC F c = true ↔ c.length = F.length ∧ ∀ i (h : i < F.length) (h' : i < c.length), F[i].lo ≤ c[i] ∧ c[i] ≤ F[i].hi
  | [], [] => by simp [fitsC]
  | [], _ :: _ => by simp [fitsC]
  | _ :: _, [] => by simp [fitsC]
  | f :: F, z :: c => by
    simp only [fitsC, Bool.and_eq_true, decide_eq_true_eq, fitsC_iff F c, List.length_cons, Nat.add_right_cancel_iff]
    constructor
    · rintro ⟨⟨h1, h2⟩, h3, h4⟩
      refine ⟨h3, fun i h h' => ?_⟩
      cases i with
      | zero => exact ⟨h1, h2⟩
      | succ i => exact h4 i (by omega) (by omega)
    · rintro ⟨h1, h2⟩
      refine ⟨h2 0 (by omega) (by omega), h1, fun i h h' => h2 (i + 1) (by omega) (by omega)⟩

theorem fitsC_false {F : List Fact} {c : List Int} {i : Nat} (h : i < F.length) (h' : i < c.length) (hn : ¬ (F[i].lo ≤ c[i] ∧ c[i] ≤ F[i].hi)) : fitsC F c = false := by
  cases he : fitsC F c
  · rfl
  · exact absurd (((fitsC_iff F c).1 he).2 i h h') hn
theorem fitsC_len {F : List Fact} {c : List Int} (h : c.length ≠ F.length) : fitsC F c = false := by
  cases he : fitsC F c
  · rfl
  · exact absurd ((fitsC_iff F c).1 he).1 h
end Go.Fo

namespace Go.Proofs
open Go Go.Pd Go.Lexs Go.Fin Go.Fo
attribute [local irreducible] OpsL W RetQ OpsQ OpsC

def intL (z : Int) : List Value := [.int .i64 z]
theorem intL_len (z : Int) : (intL z).length = 1 := rfl
def intsL (c : List Int) : List Value := c.flatMap intL
theorem intsL_len (c : List Int) : (intsL c).length = c.length * 1 := flat_length intL_len c

theorem Sl.intAt {w : World} {a : Option Addr} {m n : Nat} {c : List Int} (hv : Sl w (.slice a m n) 1 (intsL c)) (hm : m = c.length) {k : Nat} (hk : k < c.length) : ∃ b o, a = some ⟨b, o, none⟩ ∧ Row w b (o + k * 1) [.int .i64 c[k]] := by
  subst hm
  obtain ⟨b, o, hp, hr⟩ := hv.at (intsL_len c) (by omega) (by omega)
  exact ⟨b, o, hp, hr.elem intL_len (k := k) (t := c[k]) (by simp)⟩

end Go.Proofs
