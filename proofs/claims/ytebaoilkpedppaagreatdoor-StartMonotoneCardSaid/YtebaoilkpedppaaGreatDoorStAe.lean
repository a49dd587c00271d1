/-
  A status, a happening that came in.
-/
import Derived.Test.YtebaoilkpedppaaGreatDoorStAb
set_option linter.unusedVariables false
set_option linter.unusedSimpArgs false
set_option linter.unnecessarySimpa false
set_option maxRecDepth 10000
namespace Go.Proofs
open Go Go.Pd Go.Sta
section
variable {H : Type} {enc : TypeId × Value → H} {W : World}
theorem open_stu {r : Go.Reach} {base n : Nat} {v : Value} (hv : Value.okWide Tryz.prog W r base 41 v) (h : Rd enc Tryz.prog W n 41 v.cells.toList) : ∃ x : Stu, v = .agg (stuL x).toArray ∧ True := by
  obtain ⟨cs, rfl, -⟩ := okWide_agg hv (by kernel_rfl)
  have hs : flatSh Tryz.prog 3 41 = some [.str, .int .i64, .int .i64, .int .i64] := by kernel_rfl
  obtain ⟨hl, hc⟩ := Rd.flat 3 hs h
  obtain ⟨l⟩ := cs
  match l, hl with
  | [c0, c1, c2, c3], _ =>
    obtain ⟨s0, rfl, -⟩ := hc 0 _ c0 rfl rfl
    obtain ⟨z1, rfl, -⟩ := hc 1 _ c1 rfl rfl
    obtain ⟨z2, rfl, -⟩ := hc 2 _ c2 rfl rfl
    obtain ⟨z3, rfl, -⟩ := hc 3 _ c3 rfl rfl
    exact ⟨⟨s0, z1, z2, z3⟩, rfl, trivial⟩
theorem open_hap {r : Go.Reach} {base n : Nat} {v : Value} (hv : Value.okWide Tryz.prog W r base 38 v) (h : Rd enc Tryz.prog W n 38 v.cells.toList) : ∃ x : Hap, v = .agg (hapL x).toArray ∧ True := by
  obtain ⟨cs, rfl, -⟩ := okWide_agg hv (by kernel_rfl)
  have hs : flatSh Tryz.prog 3 38 = some [.bool, .str, .int .i64, .int .i64] := by kernel_rfl
  obtain ⟨hl, hc⟩ := Rd.flat 3 hs h
  obtain ⟨l⟩ := cs
  match l, hl with
  | [c0, c1, c2, c3], _ =>
    obtain ⟨b0, rfl⟩ := hc 0 _ c0 rfl rfl
    obtain ⟨s1, rfl, -⟩ := hc 1 _ c1 rfl rfl
    obtain ⟨z2, rfl, -⟩ := hc 2 _ c2 rfl rfl
    obtain ⟨z3, rfl, -⟩ := hc 3 _ c3 rfl rfl
    exact ⟨⟨b0, s1, z2, z3⟩, rfl, trivial⟩
end
end Go.Proofs
