/-
  Interface values, deferred calls and recovering ones.
-/
import Derived.Test.YtcanaadgcgophaaDoorLD
set_option linter.unusedVariables false
set_option linter.unusedSimpArgs false
set_option linter.unnecessarySimpa false
set_option maxRecDepth 10000
namespace Go.Pd
open Go
section
variable {P : Program} {r : Option Nat} {n : Nat} {ops : Array Oper} {K : St → World → Prop} {X : List PanicEntry → St → World → Prop} {l : List Oper} {s : St} {w : World} {k : Nat} {ty : TypeId} {p : String} {af : Array Edge} {g : Option (Nat × Bool)}
/-- Whether a type is no interface. -/
def plainT (P : Program) (t : TypeId) : Bool := match P.underlying t with
  | some (.interface _) => false
  | some _ => true
  | none => false
theorem run_mif {t : TypeId} (h : plainT P t = true) (v : Value) (w : World) : (Instr.makeInterface t v).run P w = .ok (.iface t v) w := by
  unfold plainT at h
  cases hu : P.underlying t with
  | none => rw [hu] at h; cases h
  | some d =>
    rw [hu] at h
    unfold Instr.makeInterface
    rw [sem_bind (run_underlying hu w)]
    cases d <;> first | rfl | cases h
theorem r_mif {t : TypeId} {x : Operand} {v : Value} (hx : rd n s x = v) (ht : plainT P t = true) : (Oper.semAt r (rd n s) ⟨some k, .makeInterface t x, ty, p, af, g⟩).run P w = .ok (.value (.iface t v)) w := by
  rw [Oper.semAt_eq _ _ _ (fun c e => by cases e)]
  simp only [execOp, hx]
  rw [sem_bind (run_mif ht v w)]
  rfl
theorem a_mif {t : TypeId} {x : Operand} {v : Value} (hk : OpsL P r n ops K X l (s.set k (.iface t v)) w) (hw : Region.wanted ⟨some k, .makeInterface t x, ty, p, af, g⟩ (yieldedE ops n s) = true := by rfl) (hx : rd n s x = v := by conv => lhs; whnf) (ht : plainT P t = true := by kernel_rfl) : OpsL P r n ops K X (⟨some k, .makeInterface t x, ty, p, af, g⟩ :: l) s w := by
  refine o_val (w' := w) hw ?_ hk
  rw [Oper.semAt_eq _ _ _ (fun c e => by cases e)]
  simp only [execOp, hx]
  rw [sem_bind (run_mif ht v w)]
  rfl
end
end Go.Pd
