/-
  Small steps more.
-/
import Derived.Test.YtjijmehighoonaaDoorMore
set_option linter.unusedSimpArgs false
set_option linter.unnecessarySimpa false
set_option maxRecDepth 10000
set_option linter.unusedVariables false
namespace Go.Pd
variable {P : Program} {r : Option Nat} {n : Nat}
section
variable {ops : Array Oper} {K : St → World → Prop} {X : List PanicEntry → St → World → Prop} {l : List Oper} {s : St} {w w0 : World} {M : Nat → Prop} {bl : List (Nat × Obj)}
variable {d : Nat} {ty : TypeId} {p : String} {af : Array Edge} {g : Option (Nat × Bool)} {k : Nat}

/-- Arithmetic of whatever kind that stays in its range. -/
theorem o_binK {bo : BinOp} {xt yt : TypeId} {x y : Operand} {kk : IntKind} {a b c : Int} (hw : Region.wanted ⟨some k, .binOp bo xt x y yt, ty, p, af, g⟩ (yieldedE ops n s) = true) (hx : rd n s x = .int kk a) (hy : rd n s y = .int kk b) (hv : binN bo a b = some c) (hc : kk.wrap c = c)
    (hk : OpsL P r n ops K X l (s.set k (.int kk c)) w) : OpsL P r n ops K X (⟨some k, .binOp bo xt x y yt, ty, p, af, g⟩ :: l) s w := by
  refine o_binI hw hx hy ?_ hk
  cases bo <;> simp only [binN, Option.some.injEq, reduceCtorEq] at hv <;> subst hv <;> simp only [binI] <;> rw [hc]

/-- Remainder and quotient of what is not negative. -/
theorem o_rem {xt yt : TypeId} {x y : Operand} {kk : IntKind} {a b : Int} (hw : Region.wanted ⟨some k, .binOp .rem xt x y yt, ty, p, af, g⟩ (yieldedE ops n s) = true) (hx : rd n s x = .int kk a) (hy : rd n s y = .int kk b) (ha : 0 ≤ a) (hb : 0 < b)
    (hk : OpsL P r n ops K X l (s.set k (.int kk (a % b))) w) : OpsL P r n ops K X (⟨some k, .binOp .rem xt x y yt, ty, p, af, g⟩ :: l) s w := by
  refine o_val hw ?_ hk
  rw [Oper.semAt_eq _ _ _ (fun c e => by cases e)]
  have h1 : b ≠ 0 := by omega
  have h2 : a.tmod b = a % b := Int.tmod_eq_emod_of_nonneg ha
  simp [execOp, hx, hy, eqGuard, binOp, Op.intDiv, h1, h2, bind, Sem.bind, pure, Sem.run]

theorem o_quo {xt yt : TypeId} {x y : Operand} {kk : IntKind} {a b : Int} (hw : Region.wanted ⟨some k, .binOp .quo xt x y yt, ty, p, af, g⟩ (yieldedE ops n s) = true) (hx : rd n s x = .int kk a) (hy : rd n s y = .int kk b) (ha : 0 ≤ a) (hb : 0 < b) (hc : kk.wrap (a / b) = a / b)
    (hk : OpsL P r n ops K X l (s.set k (.int kk (a / b))) w) : OpsL P r n ops K X (⟨some k, .binOp .quo xt x y yt, ty, p, af, g⟩ :: l) s w := by
  refine o_val hw ?_ hk
  rw [Oper.semAt_eq _ _ _ (fun c e => by cases e)]
  have h1 : b ≠ 0 := by omega
  have h2 : a.tdiv b = a / b := Int.tdiv_eq_ediv_of_nonneg ha
  simp [execOp, hx, hy, eqGuard, binOp, Op.intDiv, h1, h2, hc, bind, Sem.bind, pure, Sem.run]

theorem run_equalNil {t : TypeId} {ms : Array (String × TypeId)} (hu : P.underlying t = some (.interface ms)) (w : World) : (Op.equal t .nilIface .nilIface).run P w = .ok true w := by
  have h9 : Op.equal t .nilIface .nilIface = Op.equalIn (9999 + 1) t .nilIface .nilIface := rfl
  rw [h9, Op.equalIn, sem_bind (run_underlying' hu w)]
  rfl

/-- An interface value against nil. -/
theorem o_neqnil {xt yt : TypeId} {x : Operand} {ms : Array (String × TypeId)} (hw : Region.wanted ⟨some k, .binOp .neq xt x (.const .nilIface) yt, ty, p, af, g⟩ (yieldedE ops n s) = true) (hu : P.underlying xt = some (.interface ms)) (hx : rd n s x = .nilIface)
    (hk : OpsL P r n ops K X l (s.set k (.bool false)) w) : OpsL P r n ops K X (⟨some k, .binOp .neq xt x (.const .nilIface) yt, ty, p, af, g⟩ :: l) s w := by
  refine o_val hw ?_ hk
  rw [Oper.semAt_eq _ _ _ (fun c e => by cases e)]
  have h1 : (eqGuard .neq xt x (.const .nilIface) .nilIface .nilIface).run P w = .ok () w := by
    cases x <;> rfl
  have h2 : (binOp .neq xt .nilIface .nilIface).run P w = .ok (.bool false) w := by
    show (do pure (Value.bool (!(← Op.equal xt .nilIface .nilIface))) : Sem Value).run P w = _
    rw [sem_bind (run_equalNil hu w)]
    rfl
  simp only [execOp, hx, rd_const]
  have h3 : (do eqGuard .neq xt x (.const .nilIface) .nilIface .nilIface; binOp .neq xt .nilIface .nilIface : Sem Value).run P w = .ok (.bool false) w := by
    rw [sem_bind h1]; exact h2
  rw [sem_bind h3]
  rfl
end
end Go.Pd
