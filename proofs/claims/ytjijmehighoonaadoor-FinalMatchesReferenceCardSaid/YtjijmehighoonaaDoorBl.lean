/-
  Comparisons of two truth values.
-/
import Derived.Test.YtjijmehighoonaaDoorPtr
set_option linter.unusedVariables false
set_option linter.unusedSimpArgs false
set_option linter.unnecessarySimpa false
set_option maxRecDepth 10000
namespace Go.Pd
open Go
variable {P : Program} {r : Option Nat} {n : Nat}
variable {s : St} {w : World} {d : Nat} {ty : TypeId} {p : String} {af : Array Edge} {g : Option (Nat × Bool)}

theorem run_equalB {t : TypeId} {a b : Bool} (hu : P.underlying t = some .bool) (w : World) : (Op.equal t (.bool a) (.bool b)).run P w = .ok (a == b) w := by
  have h9 : Op.equal t (.bool a) (.bool b) = Op.equalIn (9999 + 1) t (.bool a) (.bool b) := rfl
  rw [h9]
  exact (Sc.bool hu).run 9999 w

theorem r_neB {xt yt : TypeId} {x y : Operand} {a b : Bool} (hx : rd n s x = .bool a) (hy : rd n s y = .bool b) (hu : P.underlying xt = some .bool) :
    (Oper.semAt r (rd n s) ⟨some d, .binOp .neq xt x y yt, ty, p, af, g⟩).run P w = .ok (.value (.bool (!(a == b)))) w := by
  rw [Oper.semAt_eq _ _ _ (fun c e => by cases e)]
  have h1 : (eqGuard .neq xt x y (.bool a) (.bool b)).run P w = .ok () w := rfl
  have h2 : (binOp .neq xt (.bool a) (.bool b)).run P w = .ok (.bool (!(a == b))) w := by
    show (do pure (Value.bool (!(← Op.equal xt (.bool a) (.bool b)))) : Sem Value).run P w = _
    rw [sem_bind (run_equalB hu w)]
    rfl
  simp only [execOp, hx, hy]
  have h3 : (do eqGuard .neq xt x y (.bool a) (.bool b); binOp .neq xt (.bool a) (.bool b) : Sem Value).run P w = .ok (.bool (!(a == b))) w := by
    rw [sem_bind h1]; exact h2
  rw [sem_bind h3]
  rfl

theorem r_eqB {xt yt : TypeId} {x y : Operand} {a b : Bool} (hx : rd n s x = .bool a) (hy : rd n s y = .bool b) (hu : P.underlying xt = some .bool) :
    (Oper.semAt r (rd n s) ⟨some d, .binOp .eql xt x y yt, ty, p, af, g⟩).run P w = .ok (.value (.bool (a == b))) w := by
  rw [Oper.semAt_eq _ _ _ (fun c e => by cases e)]
  have h1 : (eqGuard .eql xt x y (.bool a) (.bool b)).run P w = .ok () w := rfl
  have h2 : (binOp .eql xt (.bool a) (.bool b)).run P w = .ok (.bool (a == b)) w := by
    show (do pure (Value.bool (← Op.equal xt (.bool a) (.bool b))) : Sem Value).run P w = _
    rw [sem_bind (run_equalB hu w)]
    rfl
  simp only [execOp, hx, hy]
  have h3 : (do eqGuard .eql xt x y (.bool a) (.bool b); binOp .eql xt (.bool a) (.bool b) : Sem Value).run P w = .ok (.bool (a == b)) w := by
    rw [sem_bind h1]; exact h2
  rw [sem_bind h3]
  rfl

variable {ops : Array Oper} {K : St → World → Prop} {X : List PanicEntry → St → World → Prop} {l : List Oper}

theorem o_neB {xt yt : TypeId} {x y : Operand} {a b : Bool} (hw : Region.wanted ⟨some d, .binOp .neq xt x y yt, ty, p, af, g⟩ (yieldedE ops n s) = true) (hx : rd n s x = .bool a) (hy : rd n s y = .bool b) (hu : P.underlying xt = some .bool)
    (hk : OpsL P r n ops K X l (s.set d (.bool (!(a == b)))) w) : OpsL P r n ops K X (⟨some d, .binOp .neq xt x y yt, ty, p, af, g⟩ :: l) s w := o_pur hw (fun w => r_neB hx hy hu) hk

theorem o_eqB {xt yt : TypeId} {x y : Operand} {a b : Bool} (hw : Region.wanted ⟨some d, .binOp .eql xt x y yt, ty, p, af, g⟩ (yieldedE ops n s) = true) (hx : rd n s x = .bool a) (hy : rd n s y = .bool b) (hu : P.underlying xt = some .bool)
    (hk : OpsL P r n ops K X l (s.set d (.bool (a == b))) w) : OpsL P r n ops K X (⟨some d, .binOp .eql xt x y yt, ty, p, af, g⟩ :: l) s w := o_pur hw (fun w => r_eqB hx hy hu) hk
end Go.Pd
