/-
  A network: the laws' arguments opened.
-/
import Derived.Test.YthiiodbjmcafgaaNeT
import Derived.Test.YthiiodbjmcafgaaLE
set_option linter.unusedVariables false
set_option linter.unusedSimpArgs false
set_option linter.unnecessarySimpa false
set_option maxRecDepth 10000
namespace Go.Proofs
open Go Go.Pd Go.Ne
variable {H : Type} {enc : TypeId × Value → H} {W : World}
def OpsIn (w : World) (l : List Opn) (v : Value) : Prop := Sl w v 6 (opsC l) ∧ l.length ≤ 140737488351232 ∧ ∀ o ∈ l, OpOK o
theorem open_ops {r : Go.Reach} {base n : Nat} {v : Value} (hv : Value.okWide Try.prog W r base 22 v) (h : Rd enc Try.prog W n 22 v.cells.toList) : ∃ l : List Opn, OpsIn W l v :=
  Rd.sl (f := opC) (Q := OpOK) Try.underlying22 (show Try.prog.cellsOf 33 = 6 by kernel_rfl) (by decide) (by decide +kernel) hv h fun n' cs hr => by
    have hs : flatSh Try.prog 3 33 = some [.int .u8, .int .u8, .int .u8, .bool, .bool, .str] := by kernel_rfl
    obtain ⟨hl, hc⟩ := Rd.flat 3 hs hr
    match cs, hl with
    | [c0, c1, c2, c3, c4, c5], _ =>
      obtain ⟨z0, rfl, h0⟩ := hc 0 _ c0 rfl rfl
      obtain ⟨z1, rfl, h1⟩ := hc 1 _ c1 rfl rfl
      obtain ⟨z2, rfl, h2⟩ := hc 2 _ c2 rfl rfl
      obtain ⟨b3, rfl⟩ := hc 3 _ c3 rfl rfl
      obtain ⟨b4, rfl⟩ := hc 4 _ c4 rfl rfl
      obtain ⟨s5, rfl, h5⟩ := hc 5 _ c5 rfl rfl
      obtain ⟨n0, rfl, h0⟩ := wf_u8 h0
      obtain ⟨n1, rfl, h1⟩ := wf_u8 h1
      obtain ⟨n2, rfl, h2⟩ := wf_u8 h2
      exact ⟨⟨n0, n1, n2, b3, b4, s5⟩, rfl, by simp only; omega, by simp only; omega, by simp only; omega, by simp only; omega⟩
end Go.Proofs
