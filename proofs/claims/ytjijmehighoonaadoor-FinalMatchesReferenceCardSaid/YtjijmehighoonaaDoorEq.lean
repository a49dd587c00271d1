/-
  '==' and '!=' on structs of plain cells.
-/
import Derived.Test.YtjijmehighoonaaDoorAuto
import Derived.Laws.StructEq
set_option linter.unusedSimpArgs false
set_option linter.unnecessarySimpa false
set_option maxRecDepth 10000
set_option linter.unusedVariables false
namespace Go.Pd
variable {P : Program} {r : Option Nat} {n : Nat}

/-- Equality of two values of a plain type. -/
inductive Sc (P : Program) (t : TypeId) : Value → Value → Bool → Prop
  | int {k k' : IntKind} {a b : Int} : P.underlying t = some (.int k') → Sc P t (.int k a) (.int k b) (decide (a = b))
  | bool {a b : Bool} : P.underlying t = some .bool → Sc P t (.bool a) (.bool b) (a == b)
  | str {a b : List UInt8} : P.underlying t = some .string → Sc P t (str a) (str b) (decide (a = b))

/-- .. of two structs, field by field. -/
inductive ScF (P : Program) (xs ys : List Value) : List Field → Bool → Prop
  | nil : ScF P xs ys [] true
  | cons {f : Field} {fs : List Field} {a b : Value} {r r' : Bool} : (f.name == "_") = false → aggT P f.type = some false → xs[f.offset]? = some a → ys[f.offset]? = some b → Sc P f.type a b r → ScF P xs ys fs r' → ScF P xs ys (f :: fs) (r && r')

theorem ScF.cast {xs ys : List Value} {fs : List Field} {r : Bool} (h : ScF P xs ys fs r) (e : r = true) : ScF P xs ys fs true := e ▸ h

theorem run_part {t : TypeId} {xs : List Value} {o : Nat} {a : Value} (hA : aggT P t = some false) (h : xs[o]? = some a) (w : World) : (part t xs.toArray o).run P w = .ok a w := by
  unfold part
  rw [sem_bind (run_isAgg hA w)]
  have : xs.toArray[o]? = some a := by simpa using h
  simp [this, pure, Sem.run]

theorem Sc.run {t : TypeId} {a b : Value} {r : Bool} (h : Sc P t a b r) (d : Nat) (w : World) : (Op.equalIn (d + 1) t a b).run P w = .ok r w := by
  cases h with
  | int h => rw [run_equalIn_int w d t _ _ _ _ h]; congr 1
  | bool h => exact run_equalIn_bool' w d t _ _ h
  | str h =>
    rw [str_eq, str_eq, run_equalIn_string w d t _ _ h, toList_mk, toList_mk]
    rename_i a b
    congr 1
    by_cases hab : a = b <;> simp [hab]

theorem ScF.run {xs ys : List Value} {fs : List Field} {r : Bool} (h : ScF P xs ys fs r) (d : Nat) (w : World) : (Op.eqFields (d + 1) xs.toArray ys.toArray fs).run P w = .ok r w := by
  induction h with
  | nil => rfl
  | @cons f fs a b r r' h1 h2 h3 h4 h5 h6 ih =>
    unfold Op.eqFields
    have hne : f.name ≠ "_" := fun e => by rw [e] at h1; simp at h1
    simp only [hne, ne_eq, not_false_eq_true, if_true]
    rw [sem_bind (run_part h2 h3 w), sem_bind (run_part h2 h4 w), sem_bind (h5.run d w)]
    cases r with
    | true => simpa using ih
    | false => rfl

theorem run_eqS {bo : BinOp} {t : TypeId} {fs : List Field} {xs ys : List Value} {e : Bool} (hu : P.underlying t = some (.struct fs.toArray)) (hp : P.stoodInHeld t = false) (h : ScF P xs ys fs e) (w : World) :
    (Op.equal t (.agg xs.toArray) (.agg ys.toArray)).run P w = .ok e w := by
  have hf : P.fieldsOf t = fs.toArray := by simp [Program.fieldsOf, hu]
  have := run_equalIn_struct w 9999 t xs.toArray ys.toArray (by rw [hf]; exact hu) hp
  rw [hf] at this
  rw [show Op.equal t (.agg xs.toArray) (.agg ys.toArray) = Op.equalIn (9999 + 1) t (.agg xs.toArray) (.agg ys.toArray) from rfl, this]
  exact h.run 9998 w

section
variable {ops : Array Oper} {K : St → World → Prop} {X : List PanicEntry → St → World → Prop} {l : List Oper} {s : St} {w : World}
variable {d : Nat} {ty : TypeId} {p : String} {af : Array Edge} {g : Option (Nat × Bool)}

theorem r_eqS {t yt : TypeId} {x y : Operand} {fs : List Field} {xs ys : List Value} {e : Bool} (hx : rd n s x = .agg xs.toArray) (hy : rd n s y = .agg ys.toArray) (hg : P.eqGuardType P.depth t = false) (hu : P.underlying t = some (.struct fs.toArray)) (hp : P.stoodInHeld t = false) (h : ScF P xs ys fs e) :
    (Oper.semAt r (rd n s) ⟨some d, .binOp .eql t x y yt, ty, p, af, g⟩).run P w = .ok (.value (.bool e)) w := by
  rw [Oper.semAt_eq _ _ _ (fun c e => by cases e)]
  simp only [execOp, hx, hy]
  have h1 := run_eqGuard_agg (P := P) w .eql t x y xs.toArray ys.toArray hg
  have h2 : (binOp .eql t (.agg xs.toArray) (.agg ys.toArray)).run P w = .ok (.bool e) w := by
    show (do pure (Value.bool (← Op.equal t (.agg xs.toArray) (.agg ys.toArray))) : Sem Value).run P w = _
    rw [sem_bind (run_eqS (bo := .eql) hu hp h w)]
    rfl
  have h3 : (do eqGuard .eql t x y (.agg xs.toArray) (.agg ys.toArray); binOp .eql t (.agg xs.toArray) (.agg ys.toArray) : Sem Value).run P w = .ok (.bool e) w := by
    rw [sem_bind h1]; exact h2
  rw [sem_bind h3]
  rfl

theorem r_neS {t yt : TypeId} {x y : Operand} {fs : List Field} {xs ys : List Value} {e : Bool} (hx : rd n s x = .agg xs.toArray) (hy : rd n s y = .agg ys.toArray) (hg : P.eqGuardType P.depth t = false) (hu : P.underlying t = some (.struct fs.toArray)) (hp : P.stoodInHeld t = false) (h : ScF P xs ys fs e) :
    (Oper.semAt r (rd n s) ⟨some d, .binOp .neq t x y yt, ty, p, af, g⟩).run P w = .ok (.value (.bool (!e))) w := by
  rw [Oper.semAt_eq _ _ _ (fun c e => by cases e)]
  simp only [execOp, hx, hy]
  have h1 := run_eqGuard_agg (P := P) w .neq t x y xs.toArray ys.toArray hg
  have h2 : (binOp .neq t (.agg xs.toArray) (.agg ys.toArray)).run P w = .ok (.bool (!e)) w := by
    show (do pure (Value.bool (!(← Op.equal t (.agg xs.toArray) (.agg ys.toArray)))) : Sem Value).run P w = _
    rw [sem_bind (run_eqS (bo := .neq) hu hp h w)]
    rfl
  have h3 : (do eqGuard .neq t x y (.agg xs.toArray) (.agg ys.toArray); binOp .neq t (.agg xs.toArray) (.agg ys.toArray) : Sem Value).run P w = .ok (.bool (!e)) w := by
    rw [sem_bind h1]; exact h2
  rw [sem_bind h3]
  rfl

theorem o_eqS {t yt : TypeId} {x y : Operand} {fs : List Field} {xs ys : List Value} {e : Bool} (hw : Region.wanted ⟨some d, .binOp .eql t x y yt, ty, p, af, g⟩ (yieldedE ops n s) = true) (hx : rd n s x = .agg xs.toArray) (hy : rd n s y = .agg ys.toArray) (hg : P.eqGuardType P.depth t = false) (hu : P.underlying t = some (.struct fs.toArray)) (hp : P.stoodInHeld t = false) (h : ScF P xs ys fs e)
    (hk : OpsL P r n ops K X l (s.set d (.bool e)) w) : OpsL P r n ops K X (⟨some d, .binOp .eql t x y yt, ty, p, af, g⟩ :: l) s w := o_pur hw (fun w => r_eqS hx hy hg hu hp h) hk

theorem o_neS {t yt : TypeId} {x y : Operand} {fs : List Field} {xs ys : List Value} {e : Bool} (hw : Region.wanted ⟨some d, .binOp .neq t x y yt, ty, p, af, g⟩ (yieldedE ops n s) = true) (hx : rd n s x = .agg xs.toArray) (hy : rd n s y = .agg ys.toArray) (hg : P.eqGuardType P.depth t = false) (hu : P.underlying t = some (.struct fs.toArray)) (hp : P.stoodInHeld t = false) (h : ScF P xs ys fs e)
    (hk : OpsL P r n ops K X l (s.set d (.bool (!e))) w) : OpsL P r n ops K X (⟨some d, .binOp .neq t x y yt, ty, p, af, g⟩ :: l) s w := o_pur hw (fun w => r_neS hx hy hg hu hp h) hk

end
end Go.Pd
