/-
  The statement about gaps, walked.
-/
import Derived.Test.YtebaoilkpedppaaGreatDoorQStAg
set_option linter.unusedVariables false
set_option linter.unusedSimpArgs false
set_option linter.unnecessarySimpa false
set_option maxRecDepth 10000
namespace Go.Sta
open Go.Lexs
def snO : Sn ⊕ (Int × Int) → Sn
  | .inl s => s
  | .inr _ => .node 0 [] 0 []
def erO : Sn ⊕ (Int × Int) → Int
  | .inl _ => 0
  | .inr p => p.1
theorem snO_fit (t : Tx) : fitS (snO (parse t)) := by
  cases hp : parse t with
  | inl s => exact parse_fit hp
  | inr p => rw [fitS_eq]; exact ⟨by simp [snO, Sn.name], by simp [snO, Sn.kids], trivial⟩
end Go.Sta
namespace Go.Proofs
open Go Go.Pd Go.Sta
open Go.Lexs (Tok lex)
attribute [local irreducible] OpsL W RetQ OpsQ OpsC
end Go.Proofs
