/-
  Conditions of commencement: plain laws about holding.
-/
import Derived.Test.YtebaoilkpedppaaGreatDoorQSA
import Derived.Test.YtebaoilkpedppaaGreatDoorQSB
set_option linter.unusedVariables false
set_option linter.unusedSimpArgs false
set_option linter.unnecessarySimpa false
set_option maxRecDepth 10000
namespace Go.Sta
/-! ### Structure -/
theorem okL_mem {l : List Sn} (h : okL l = true) : ∀ k ∈ l, okB k = true := by
  rw [okL_all] at h
  exact List.all_eq_true.1 h
theorem valid_iff (s : Sn) : validB s = true ↔ cnt s ≤ 200 ∧ dep s ≤ 20 ∧ okB s = true := by
  unfold validB
  rw [decide_eq_true_eq]
  unfold Valid Proper
  constructor
  · rintro ⟨h1, h2, h3⟩; exact ⟨by omega, h2, h3⟩
  · rintro ⟨h1, h2, h3⟩; exact ⟨by omega, h2, h3⟩
/-! ### More -/
/-! ### Names -/
end Go.Sta
