/-
  The statement about texts, walked.
-/
import Derived.Test.YtebaoilkpedppaaGreatDoorQStAf
import Derived.Test.YtebaoilkpedppaaGreatDoorQStY
set_option linter.unusedVariables false
set_option linter.unusedSimpArgs false
set_option linter.unnecessarySimpa false
set_option maxRecDepth 10000
namespace Go.Sta
open Go.Lexs (Tok lex)
/-! ### Errors are errors -/
theorem parse_fit {t : Tx} {s : Sn} (h : parse t = .inl s) : fitS s := by
  unfold parse at h
  cases hl : lex t with
  | bad e2 a2 => rw [hl] at h; cases h
  | ok ts =>
    rw [hl] at h
    simp only at h
    obtain ⟨h1, h2⟩ := lex_tok hl
    unfold parseT at h
    cases hr : pStart t.length (ts.length + 1) ts with
    | bad e2 a2 => rw [hr] at h; cases h
    | ok s2 r =>
      rw [hr] at h
      simp only at h
      have := pStart_good _ _ _ _ _ h1 h2 hr
      split at h
      · split at h
        · cases h; exact this.1
        · cases h
      · cases h
end Go.Sta
namespace Go.Proofs
open Go Go.Pd Go.Sta
attribute [local irreducible] OpsL W RetQ OpsQ OpsC
end Go.Proofs
