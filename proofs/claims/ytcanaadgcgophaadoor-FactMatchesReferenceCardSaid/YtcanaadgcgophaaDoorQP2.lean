/-
  Laws of tokens, in plain Lean, second part: gaps, words.
-/
import Derived.Test.YtcanaadgcgophaaDoorQLX
set_option linter.unusedVariables false
set_option linter.unusedSimpArgs false
set_option linter.unnecessarySimpa false
set_option maxRecDepth 10000
namespace Go.Lexs

/-! ### Words -/

theorem cls_digit {c : UInt8} (h : isDigit c = true) : cls c = 4 := by
  have hl : isLetter c = false := by
    cases hl : isLetter c
    · rfl
    · exfalso
      simp [isLetter, isDigit, UInt8.le_iff_toNat_le] at h hl
      omega
  simp [cls, hl, h]

end Go.Lexs
