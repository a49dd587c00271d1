/-
  Conditions of commencement: few (the sizes that the laws ask for).
-/
import Derived.Test.YtebaoilkpedppaaDoorStV
set_option linter.unusedVariables false
set_option linter.unusedSimpArgs false
set_option linter.unnecessarySimpa false
set_option maxRecDepth 10000
namespace Go.Proofs
open Go Go.Pd Go.Sta
attribute [local irreducible] OpsL W RetQ OpsQ OpsC
/-- At most some depth, at most 250 kids in each node, and names of at most 100 bytes. -/
def Small : Nat → Sn → Prop
  | 0, _ => False
  | d + 1, s => s.name.length ≤ 100 ∧ s.kids.length ≤ 250 ∧ ∀ k ∈ s.kids, Small d k
theorem Small.fit : ∀ {d : Nat} {s : Sn}, Small d s → fitS s
  | d + 1, s, h => (fitS_eq s).2 ⟨by have := h.1; omega, by have := h.2.1; omega, fitL_all fun k hk => (h.2.2 k hk).fit⟩
end Go.Proofs
