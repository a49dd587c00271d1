/-
  A list of verdicts that came in.
-/
import Derived.Test.YtjijmehighoonaaDoorOpen
import Derived.Test.YtjijmehighoonaaDoorR
set_option linter.unusedVariables false
set_option linter.unusedSimpArgs false
set_option linter.unnecessarySimpa false
set_option maxRecDepth 10000
namespace Go.Proofs
open Go Go.Pd Go.Lexs Go.Fin

/-- The texts of a verdict are within the reach. -/
def Reach (u : Ver) : Prop := u.id.length ≤ 140737488351232 ∧ u.matter.length ≤ 140737488351232 ∧ u.question.length ≤ 140737488351232 ∧ u.reopens.length ≤ 140737488351232

theorem open_vers {H : Type} {enc : TypeId × Value → H} {W : World} {r : Go.Reach} {base n : Nat} {v : Value} (hv : Value.okWide Tryd.prog W r base 22 v) (h : Rd enc Tryd.prog W n 22 v.cells.toList) :
    ∃ L : List Ver, Sl W v 7 (versL L) ∧ L.length ≤ 140737488351232 ∧ ∀ u ∈ L, Reach u := by
  refine Rd.sl (f := verL) (Q := Reach) Tryd.underlying22 (by kernel_rfl) (by decide) (by decide +kernel) hv h fun n' cs hr => ?_
  have hs : flatSh Tryd.prog 3 32 = some [.str, .str, .str, .int .i64, .int .i64, .bool, .str] := by kernel_rfl
  obtain ⟨hl, hc⟩ := Rd.flat 3 hs hr
  match cs, hl with
  | [c0, c1, c2, c3, c4, c5, c6], _ =>
    obtain ⟨s0, rfl, h0⟩ := hc 0 _ c0 rfl rfl
    obtain ⟨s1, rfl, h1⟩ := hc 1 _ c1 rfl rfl
    obtain ⟨s2, rfl, h2⟩ := hc 2 _ c2 rfl rfl
    obtain ⟨z3, rfl, h3⟩ := hc 3 _ c3 rfl rfl
    obtain ⟨z4, rfl, h4⟩ := hc 4 _ c4 rfl rfl
    obtain ⟨b5, rfl⟩ := hc 5 _ c5 rfl rfl
    obtain ⟨s6, rfl, h6⟩ := hc 6 _ c6 rfl rfl
    exact ⟨⟨s0, s1, s2, z3, z4, b5, s6⟩, rfl, h0, h1, h2, h6⟩
end Go.Proofs
