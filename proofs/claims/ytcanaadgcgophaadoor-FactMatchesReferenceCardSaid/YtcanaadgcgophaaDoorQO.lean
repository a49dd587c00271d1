/-
  Interface values, deferred calls and recovering ones.
-/
import Derived.Test.YtcanaadgcgophaaDoorQLD
import Derived.RecoverIn
set_option linter.unusedVariables false
set_option linter.unusedSimpArgs false
set_option linter.unnecessarySimpa false
set_option maxRecDepth 10000
namespace Go.Pd
open Go
section
variable {P : Program} {r : Option Nat} {n : Nat} {ops : Array Oper} {K : St → World → Prop} {X : List PanicEntry → St → World → Prop} {l : List Oper} {s : St} {w : World} {k : Nat} {ty : TypeId} {p : String} {af : Array Edge} {g : Option (Nat × Bool)}
def plainT (P : Program) (t : TypeId) : Bool := match P.underlying t with
  | some (.interface _) => false
  | some _ => true
  | none => false
theorem run_mif {t : TypeId} (h : plainT P t = true) (v : Value) (w : World) : (Instr.makeInterface t v).run P w = .ok (.iface t v) w := by
  unfold plainT at h
  cases hu : P.underlying t with
  | none => rw [hu] at h; cases h
  | some d =>
    rw [hu] at h
    unfold Instr.makeInterface
    rw [sem_bind (run_underlying hu w)]
    cases d <;> first | rfl | cases h
theorem a_mif {t : TypeId} {x : Operand} {v : Value} (hk : OpsL P r n ops K X l (s.set k (.iface t v)) w) (hw : Region.wanted ⟨some k, .makeInterface t x, ty, p, af, g⟩ (yieldedE ops n s) = true := by rfl) (hx : rd n s x = v := by conv => lhs; whnf) (ht : plainT P t = true := by kernel_rfl) : OpsL P r n ops K X (⟨some k, .makeInterface t x, ty, p, af, g⟩ :: l) s w := by
  refine o_val (w' := w) hw ?_ hk
  rw [Oper.semAt_eq _ _ _ (fun c e => by cases e)]
  simp only [execOp, hx]
  rw [sem_bind (run_mif ht v w)]
  rfl
end
end Go.Pd

set_option linter.unusedSimpArgs false
set_option linter.unnecessarySimpa false
set_option maxRecDepth 10000
set_option linter.unusedVariables false
namespace Go.Pd
variable {P : Program} {r : Option Nat} {n : Nat}
end Go.Pd

set_option linter.unusedVariables false
set_option linter.unusedSimpArgs false
set_option linter.unnecessarySimpa false
set_option maxRecDepth 10000
namespace Go.Pd
open Go
end Go.Pd

set_option linter.unusedVariables false
set_option linter.unusedSimpArgs false
set_option linter.unnecessarySimpa false
set_option maxRecDepth 10000
namespace Go.Pd
open Go
variable {P : Program}
section
variable {r : Option Nat} {n : Nat} {ops : Array Oper} {K : St → World → Prop} {X : List PanicEntry → St → World → Prop} {l : List Oper} {s : St} {w : World} {ty : TypeId} {p : String} {af : Array Edge} {g : Option (Nat × Bool)}
theorem a_defer {f : FuncId} {x : Operand} {ats : Array TypeId} {fi ca : Array Value} (hk : OpsL P none n ops K X l { s with d := { target := .fn (.func f) ca, args := fi ++ #[] } :: s.d } w) (hx : rd n s x = .func (.func f) fi ca) (hw : Region.wanted ⟨none, .defer ⟨.value x, #[], ats⟩, ty, p, af, g⟩ (yieldedE ops n s) = true := by rfl) : OpsL P none n ops K X (⟨none, .defer ⟨.value x, #[], ats⟩, ty, p, af, g⟩ :: l) s w := by
  refine o_wanted hw ?_
  unfold OpW
  have e : (Oper.semAt none (rd n s) ⟨none, .defer ⟨.value x, #[], ats⟩, ty, p, af, g⟩).run P w = .ok (.defer { target := .fn (.func f) ca, args := fi ++ #[] }) w := by
    rw [Oper.semAt_none]
    simp only [execOp, resolve, hx, Array.map_empty]
    rfl
  rw [e]
  exact hk
theorem a_tas {k : Nat} {xt t : TypeId} {x : Operand} {v : Value} (hk : OpsL P r n ops K X l (s.set k v) w) (hx : rd n s x = .iface t v) (ht : plainT P t = true := by kernel_rfl) (hw : Region.wanted ⟨some k, .typeAssert x xt t false, ty, p, af, g⟩ (yieldedE ops n s) = true := by rfl) : OpsL P r n ops K X (⟨some k, .typeAssert x xt t false, ty, p, af, g⟩ :: l) s w := by
  refine o_val (w' := w) hw ?_ hk
  rw [Oper.semAt_eq _ _ _ (fun c e => by cases e)]
  have h1 : (Instr.typeAssert (.iface t v) xt t false).run P w = .ok v w := by
    unfold plainT at ht
    cases hu : P.underlying t with
    | none => rw [hu] at ht; cases ht
    | some d =>
      rw [hu] at ht
      unfold Instr.typeAssert
      simp only
      rw [sem_bind (run_underlying' hu w)]
      cases d <;> first | (simp only [if_true]; rfl) | cases ht
  simp only [execOp, hx]
  rw [sem_bind h1]
  rfl
end
theorem leaves_rec {fn : Func} {tmps : Array Value} {f : FuncId} {fi ca : Array Value} {u : FrameMode} {w : World} {R : Ending → World → Prop} (hu : u ≠ .run) (hen : ∀ w, (callFunc f (fi ++ ca)).run P w = .ok (.enter f (fi ++ ca)) w)
    (h : CallsDIn (FR none) 0 P f (fi ++ ca) u w (fun e u' w' => (∃ v, e = .returned v) ∧ settle u' = .returning ∧ ∃ x, (results fn tmps).run P w' = .ok x w' ∧ R (.returned x) w')) : LeavesInM (FR none) 0 P fn tmps R [{ target := .fn (.func f) ca, args := fi }] u w := by
  refine ⟨hu, .inr ⟨fun h => (by simp at h), .func f, ca, f, fi ++ ca, rfl, ?_, fun g _ => trivial, ?_⟩⟩
  · simp only [invoke]
    exact hen w
  · refine CallsDIn.mono h ?_
    rintro e u' w' ⟨⟨v, rfl⟩, hs, x, hx, hR⟩
    simp only
    rw [hs]
    exact ⟨x, hx, hR⟩
end Go.Pd
