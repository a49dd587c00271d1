/-
  A field of a struct value.
-/
import Derived.Test.YtcanaadgcgophaaDoorLD
set_option linter.unusedVariables false
set_option linter.unusedSimpArgs false
set_option linter.unnecessarySimpa false
set_option maxRecDepth 10000
namespace Go.Pd
open Go
section
variable {P : Program} {r : Option Nat} {n : Nat} {ops : Array Oper} {K : St → World → Prop} {X : List PanicEntry → St → World → Prop} {l : List Oper} {s : St} {w : World} {k : Nat} {ty : TypeId} {p : String} {af : Array Edge} {g : Option (Nat × Bool)}
/-- The place of a field that is no struct or array. -/
def fldT (P : Program) (st : TypeId) (f : Nat) : Option Nat :=
  match P.underlying st with
  | some (.struct fs) => (fs[f]?).bind fun x => (aggT P x.type).bind fun b => if b then none else some x.offset
  | _ => none
theorem run_field {st f off : Nat} {cs : Array Value} {v : Value} (h : fldT P st f = some off) (hv : cs[off]? = some v) (w : World) : (Instr.field st (.agg cs) f).run P w = .ok v w := by
  unfold fldT at h
  cases hu : P.underlying st with
  | none => rw [hu] at h; cases h
  | some d =>
    rw [hu] at h
    cases d with
    | struct fs =>
      simp only at h
      cases hf : fs[f]? with
      | none => rw [hf] at h; cases h
      | some x =>
        rw [hf] at h
        simp only [Option.bind_some] at h
        cases ha : aggT P x.type with
        | none => rw [ha] at h; cases h
        | some b =>
          rw [ha] at h
          simp only [Option.bind_some] at h
          cases b with
          | true => cases h
          | false =>
            cases h
            unfold Instr.field
            rw [sem_bind (run_underlying' hu w)]
            simp only [hf]
            rw [sem_bind (a := cs) (w' := w) rfl]
            unfold part
            rw [sem_bind (run_isAgg ha w)]
            simp only [Bool.false_eq_true, if_false, hv]
            rfl
    | _ => cases h
theorem a_fld {st : TypeId} {x : Operand} {f off : Nat} {cs : Array Value} {v : Value} (hk : OpsL P r n ops K X l (s.set k v) w) (hw : Region.wanted ⟨some k, .field st x f, ty, p, af, g⟩ (yieldedE ops n s) = true := by rfl) (hx : rd n s x = .agg cs := by rfl) (hf : fldT P st f = some off := by conv => lhs; whnf) (hv : cs[off]? = some v := by conv => lhs; whnf) : OpsL P r n ops K X (⟨some k, .field st x f, ty, p, af, g⟩ :: l) s w := by
  refine o_val (w' := w) hw ?_ hk
  rw [Oper.semAt_eq _ _ _ (fun c e => by cases e)]
  simp only [execOp, hx]
  rw [sem_bind (run_field hf hv w)]
  rfl
end
end Go.Pd
