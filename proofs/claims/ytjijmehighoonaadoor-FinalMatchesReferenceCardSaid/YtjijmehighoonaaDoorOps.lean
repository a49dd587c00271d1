/-
  One lemma an operation, over heaps that are known in part.
-/
import Derived.Test.YtjijmehighoonaaDoorCore
set_option linter.unusedSimpArgs false
set_option linter.unnecessarySimpa false
set_option maxRecDepth 10000
set_option linter.unusedVariables false
namespace Go.Pd
variable {P : Program} {r : Option Nat} {n : Nat}

/-! ### Regions as lists -/

def OpsL (P : Program) (r : Option Nat) (n : Nat) (ops : Array Oper) (K : St → World → Prop) (X : List PanicEntry → St → World → Prop) : List Oper → St → World → Prop
  | [], s, w => K s w
  | o :: l, s, w =>
      if Region.wanted o (yieldedE ops n s) then OpW P r n o s w (fun s' w' => OpsL P r n ops K X l s' w') (fun ch w' => X ch s w')
      else OpsL P r n ops K X l (s.put o.dst undef) w

theorem opsL_ops {ops : Array Oper} {K : St → World → Prop} {X : List PanicEntry → St → World → Prop} : ∀ (l : List Oper) (k : Nat) (s : St) (w : World), (∀ j, l[j]? = ops[k + j]?) →
    OpsL P r n ops K X l s w → Ops P r n ops K X (List.range' k l.length) s w
  | [], k, s, w, _, h => h
  | o :: l, k, s, w, hl, h => by
    have h0 : ops[k]? = some o := by have := hl 0; simpa using this.symm
    have hr : ∀ j, l[j]? = ops[k + 1 + j]? := fun j => by have := hl (j + 1); simpa [Nat.add_comm, Nat.add_left_comm, Nat.add_assoc] using this
    simp only [List.length_cons, List.range'_succ, Ops, h0]
    simp only [OpsL] at h
    split
    · rename_i hw
      rw [if_pos hw] at h
      exact opW_mono (fun s w h => opsL_ops l (k + 1) s w hr h) (fun _ _ h => h) h
    · rename_i hw
      rw [if_neg hw] at h
      exact opsL_ops l (k + 1) _ w hr h

theorem w_regionL {id : Nat} {l : List Oper} {Q : Exit → St → World → Prop} {s : St} {w : World} (h : OpsL P r n l.toArray (Q .normal) (fun c => Q (.panic c)) l s w) : W P r n (.region id l.toArray false) Q s w := by
  refine w_region ?_
  have := opsL_ops l 0 s w (fun j => by simp) h
  simpa [List.range_eq_range'] using this

theorem w_seq_k {x y : Code} {Q : Exit → St → World → Prop} {s : St} {w : World} (h : ∀ K : St → World → Prop, (∀ s w, W P r n y Q s w → K s w) → W P r n x (ThenQ K Q) s w) : W P r n (.seq x y) Q s w := w_seq (h _ fun _ _ h => h)

/-- A region at the head of a sequence: what follows is kept behind a letter. -/
theorem w_reg {id : Nat} {l : List Oper} {y : Code} {Q : Exit → St → World → Prop} {s : St} {w : World}
    (h : ∀ K : St → World → Prop, (∀ s w, W P r n y Q s w → K s w) → OpsL P r n l.toArray K (fun c => Q (.panic c)) l s w) : W P r n (.seq (.region id l.toArray false) y) Q s w :=
  w_seq_k fun K hK => w_regionL (h K hK)

/-! ### Reading the temporaries -/

theorem rd_tmp (s : St) (i : Nat) : rd n s (.tmp i) = if i < n then s.t i else undef := by
  simp only [rd]
  by_cases h : i < n
  · rw [blt_t h, if_pos h]; rfl
  · rw [blt_f h, if_neg h]; rfl
theorem rd_const (s : St) (v : Value) : rd n s (.const v) = v := rfl
theorem rd_global (s : St) (g : Nat) : rd n s (.global g) = .pointer (some ⟨g, 0, none⟩) := rfl
theorem rd_func (s : St) (f : FuncId) : rd n s (.func f) = .func (.func f) #[] #[] := rfl
theorem put_some (s : St) (k : Nat) (v : Value) : s.put (some k) v = s.set k v := rfl
theorem put_none (s : St) (v : Value) : s.put none v = s := rfl
theorem set_d (s : St) (k : Nat) (v : Value) : (s.set k v).d = s.d := rfl
theorem set_same (s : St) (k : Nat) (v u : Value) : (s.set k v).set k u = s.set k u := by
  ext i
  · simp only [St.set_t]; split <;> rfl
  · rfl
theorem st0_t (args : Array Value) (i : Nat) : (st0 args).t i = args.getD i undef := rfl
theorem st0_d (args : Array Value) : (st0 args).d = [] := rfl

section
variable {ops : Array Oper} {K : St → World → Prop} {X : List PanicEntry → St → World → Prop} {l : List Oper} {s : St} {w : World} {o : Oper}

theorem o_nil (h : K s w) : OpsL P r n ops K X [] s w := h

theorem o_wanted (hw : Region.wanted o (yieldedE ops n s) = true) (h : OpW P r n o s w (fun s' w' => OpsL P r n ops K X l s' w') (fun ch w' => X ch s w')) : OpsL P r n ops K X (o :: l) s w := by
  simp only [OpsL, hw, if_true]; exact h

theorem o_skip (hw : Region.wanted o (yieldedE ops n s) = false) (h : OpsL P r n ops K X l (s.put o.dst undef) w) : OpsL P r n ops K X (o :: l) s w := by
  simp only [OpsL, hw]; exact h

theorem o_val0 {v : Value} {w' : World} (hw : Region.wanted o (yieldedE ops n s) = true) (h : (o.semAt r (rd n s)).run P w = .ok (.value v) w') (hk : OpsL P r n ops K X l (s.put o.dst v) w') : OpsL P r n ops K X (o :: l) s w := by
  refine o_wanted hw ?_
  unfold OpW
  rw [h]
  exact hk

theorem o_unit0 {w' : World} (hw : Region.wanted o (yieldedE ops n s) = true) (h : (o.semAt r (rd n s)).run P w = .ok .skip w') (hk : OpsL P r n ops K X l (s.put o.dst undef) w') : OpsL P r n ops K X (o :: l) s w := by
  refine o_wanted hw ?_
  unfold OpW
  rw [h]
  exact hk

variable {k : Nat} {op : Op} {ty : TypeId} {p : String} {af : Array Edge} {g : Option (Nat × Bool)}

/-- An operation that yields a value whatever the world. -/
theorem o_pur {v : Value} (hw : Region.wanted ⟨some k, op, ty, p, af, g⟩ (yieldedE ops n s) = true) (h : ∀ w, (Oper.semAt r (rd n s) ⟨some k, op, ty, p, af, g⟩).run P w = .ok (.value v) w) (hk : OpsL P r n ops K X l (s.set k v) w) :
    OpsL P r n ops K X (⟨some k, op, ty, p, af, g⟩ :: l) s w := o_val0 hw (h w) hk

/-- A guarded operation that is not carried out. -/
theorem o_not (hw : Region.wanted ⟨some k, op, ty, p, af, g⟩ (yieldedE ops n s) = false) (hk : OpsL P r n ops K X l (s.set k undef) w) : OpsL P r n ops K X (⟨some k, op, ty, p, af, g⟩ :: l) s w := o_skip hw hk

theorem o_mov {x : Operand} {v : Value} (hw : Region.wanted ⟨some k, .move x, ty, p, af, g⟩ (yieldedE ops n s) = true) (hx : rd n s x = v) (hk : OpsL P r n ops K X l (s.set k v) w) :
    OpsL P r n ops K X (⟨some k, .move x, ty, p, af, g⟩ :: l) s w := by
  subst hx
  refine o_pur hw (fun w => ?_) hk
  rw [Oper.semAt_eq _ _ _ (fun c e => by cases e)]
  rfl

theorem o_asg {x : Operand} {v : Value} (hw : Region.wanted ⟨some k, .assign x, ty, p, af, g⟩ (yieldedE ops n s) = true) (hx : rd n s x = v) (hk : OpsL P r n ops K X l (s.set k v) w) :
    OpsL P r n ops K X (⟨some k, .assign x, ty, p, af, g⟩ :: l) s w := by
  subst hx
  refine o_pur hw (fun w => ?_) hk
  rw [Oper.semAt_eq _ _ _ (fun c e => by cases e)]
  rfl

theorem o_pick {c a b : Operand} {t : Bool} {v u : Value} (hw : Region.wanted ⟨some k, .pick c a b, ty, p, af, g⟩ (yieldedE ops n s) = true) (hc : rd n s c = .bool t) (ha : rd n s a = v) (hb : rd n s b = u) (hk : OpsL P r n ops K X l (s.set k (bif t then v else u)) w) :
    OpsL P r n ops K X (⟨some k, .pick c a b, ty, p, af, g⟩ :: l) s w := by
  subst ha hb
  refine o_pur hw (fun w => ?_) hk
  rw [Oper.semAt_eq _ _ _ (fun c e => by cases e)]
  simp only [execOp, hc, asBool]
  cases t <;> rfl

theorem o_pick_t {c a b : Operand} {v : Value} (hw : Region.wanted ⟨some k, .pick c a b, ty, p, af, g⟩ (yieldedE ops n s) = true) (hc : rd n s c = .bool true) (ha : rd n s a = v) (hk : OpsL P r n ops K X l (s.set k v) w) :
    OpsL P r n ops K X (⟨some k, .pick c a b, ty, p, af, g⟩ :: l) s w := o_pick hw hc ha rfl hk
theorem o_pick_f {c a b : Operand} {v : Value} (hw : Region.wanted ⟨some k, .pick c a b, ty, p, af, g⟩ (yieldedE ops n s) = true) (hc : rd n s c = .bool false) (hb : rd n s b = v) (hk : OpsL P r n ops K X l (s.set k v) w) :
    OpsL P r n ops K X (⟨some k, .pick c a b, ty, p, af, g⟩ :: l) s w := o_pick hw hc rfl hb hk

theorem o_ext {x : Operand} {i : Nat} {vs : Array Value} {v : Value} (hw : Region.wanted ⟨some k, .extract x i, ty, p, af, g⟩ (yieldedE ops n s) = true) (hx : rd n s x = .tuple vs) (hv : vs[i]? = some v) (hk : OpsL P r n ops K X l (s.set k v) w) :
    OpsL P r n ops K X (⟨some k, .extract x i, ty, p, af, g⟩ :: l) s w := by
  refine o_pur hw (fun w => ?_) hk
  rw [Oper.semAt_eq _ _ _ (fun c e => by cases e)]
  simp only [execOp, hx, Instr.extract, hv]
  rfl

theorem o_nilc {x : Operand} {a : Addr} (hw : Region.wanted ⟨some k, .nilCheck x, ty, p, af, g⟩ (yieldedE ops n s) = true) (hx : rd n s x = .pointer (some a)) (hk : OpsL P r n ops K X l (s.set k (.pointer (some a))) w) :
    OpsL P r n ops K X (⟨some k, .nilCheck x, ty, p, af, g⟩ :: l) s w := by
  refine o_pur hw (fun w => ?_) hk
  rw [Oper.semAt_eq _ _ _ (fun c e => by cases e)]
  simp only [execOp, hx]
  rfl

theorem o_nilf {x : Operand} {f : FuncId} {fi ca : Array Value} (hw : Region.wanted ⟨some k, .nilCheck x, ty, p, af, g⟩ (yieldedE ops n s) = true) (hx : rd n s x = .func (.func f) fi ca) (hk : OpsL P r n ops K X l (s.set k (.func (.func f) fi ca)) w) :
    OpsL P r n ops K X (⟨some k, .nilCheck x, ty, p, af, g⟩ :: l) s w := by
  refine o_pur hw (fun w => ?_) hk
  rw [Oper.semAt_eq _ _ _ (fun c e => by cases e)]
  simp only [execOp, hx]
  rfl

section
variable {bo : BinOp} {uo : UnOp} {x y : Operand} {xt yt : TypeId} {v : Value} {kk kl : IntKind} {a b : Int}

def binI (bo : BinOp) (kk : IntKind) (a b : Int) : Option Value :=
  match bo with
  | .add => some (.int kk (kk.wrap (a + b)))
  | .sub => some (.int kk (kk.wrap (a - b)))
  | .mul => some (.int kk (kk.wrap (a * b)))
  | .eql => some (.bool (decide (a = b)))
  | .neq => some (.bool (decide (a ≠ b)))
  | .lss => some (.bool (decide (a < b)))
  | .leq => some (.bool (decide (a ≤ b)))
  | .gtr => some (.bool (decide (a > b)))
  | .geq => some (.bool (decide (a ≥ b)))
  | _ => none

theorem o_binI (hw : Region.wanted ⟨some k, .binOp bo xt x y yt, ty, p, af, g⟩ (yieldedE ops n s) = true) (hx : rd n s x = .int kk a) (hy : rd n s y = .int kk b) (hv : binI bo kk a b = some v) (hk : OpsL P r n ops K X l (s.set k v) w) :
    OpsL P r n ops K X (⟨some k, .binOp bo xt x y yt, ty, p, af, g⟩ :: l) s w := by
  refine o_pur hw (fun w => ?_) hk
  rw [Oper.semAt_eq _ _ _ (fun c e => by cases e)]
  cases bo <;> simp only [binI, Option.some.injEq, reduceCtorEq] at hv <;> subst hv <;> simp [execOp, hx, hy, eqGuard, binOp, Op.intArith, Op.intCmp, bind, Sem.bind, pure, Sem.run, BEq.beq, bne, decide_not]

/-- Sums, differences and products that stay within the bounds of an int. -/
def binN (bo : BinOp) (a b : Int) : Option Int :=
  match bo with
  | .add => some (a + b)
  | .sub => some (a - b)
  | .mul => some (a * b)
  | _ => none

theorem wrap_i64 {x : Int} (h : -9223372036854775808 ≤ x ∧ x ≤ 9223372036854775807) : IntKind.wrap .i64 x = x := by
  simp only [IntKind.wrap, IntKind.bits, IntKind.signed]
  simp
  omega

theorem o_binN {c : Int} (hw : Region.wanted ⟨some k, .binOp bo xt x y yt, ty, p, af, g⟩ (yieldedE ops n s) = true) (hx : rd n s x = .int .i64 a) (hy : rd n s y = .int .i64 b) (hv : binN bo a b = some c) (hc : -9223372036854775808 ≤ c ∧ c ≤ 9223372036854775807) (hk : OpsL P r n ops K X l (s.set k (.int .i64 c)) w) :
    OpsL P r n ops K X (⟨some k, .binOp bo xt x y yt, ty, p, af, g⟩ :: l) s w := by
  refine o_binI hw hx hy ?_ hk
  cases bo <;> simp only [binN, Option.some.injEq, reduceCtorEq] at hv <;> subst hv <;> simp only [binI] <;> rw [wrap_i64 hc]

/-- Tests of ints. -/
def binC (bo : BinOp) (a b : Int) : Option Bool :=
  match bo with
  | .eql => some (decide (a = b))
  | .neq => some (decide (a ≠ b))
  | .lss => some (decide (a < b))
  | .leq => some (decide (a ≤ b))
  | .gtr => some (decide (a > b))
  | .geq => some (decide (a ≥ b))
  | _ => none

theorem o_binC {c : Bool} (hw : Region.wanted ⟨some k, .binOp bo xt x y yt, ty, p, af, g⟩ (yieldedE ops n s) = true) (hx : rd n s x = .int kk a) (hy : rd n s y = .int kk b) (hv : binC bo a b = some c) (hk : OpsL P r n ops K X l (s.set k (.bool c)) w) :
    OpsL P r n ops K X (⟨some k, .binOp bo xt x y yt, ty, p, af, g⟩ :: l) s w := by
  refine o_binI hw hx hy ?_ hk
  cases bo <;> simp only [binC, Option.some.injEq, reduceCtorEq] at hv <;> subst hv <;> rfl

theorem o_notb {b : Bool} (hw : Region.wanted ⟨some k, .unOp .not xt x, ty, p, af, g⟩ (yieldedE ops n s) = true) (hx : rd n s x = .bool b) (hk : OpsL P r n ops K X l (s.set k (.bool (!b))) w) :
    OpsL P r n ops K X (⟨some k, .unOp .not xt x, ty, p, af, g⟩ :: l) s w := by
  refine o_pur hw (fun w => ?_) hk
  rw [Oper.semAt_eq _ _ _ (fun c e => by cases e)]
  simp only [execOp, hx, Op.unary]
  rfl

theorem o_notd {q : Prop} [Decidable q] (hw : Region.wanted ⟨some k, .unOp .not xt x, ty, p, af, g⟩ (yieldedE ops n s) = true) (hx : rd n s x = .bool (decide q)) (hk : OpsL P r n ops K X l (s.set k (.bool (decide (¬ q)))) w) :
    OpsL P r n ops K X (⟨some k, .unOp .not xt x, ty, p, af, g⟩ :: l) s w := o_notb hw hx (by rw [← decide_not]; exact hk)

theorem o_mf {fn : Fn} {fi ca : Array Operand} (vf vc : List Value) (hw : Region.wanted ⟨some k, .makeFunc fn fi ca, ty, p, af, g⟩ (yieldedE ops n s) = true) (hf : fi.toList.map (rd n s) = vf) (hc : ca.toList.map (rd n s) = vc) (hk : OpsL P r n ops K X l (s.set k (.func fn vf.toArray vc.toArray)) w) :
    OpsL P r n ops K X (⟨some k, .makeFunc fn fi ca, ty, p, af, g⟩ :: l) s w := by
  have e1 : fi.map (rd n s) = vf.toArray := Array.ext' (by simpa using hf)
  have e2 : ca.map (rd n s) = vc.toArray := Array.ext' (by simpa using hc)
  refine o_pur hw (fun w => ?_) hk
  rw [Oper.semAt_eq _ _ _ (fun c e => by cases e)]
  simp only [execOp, e1, e2]
  rfl
end

/-- One that yields a value in this world, and leaves another. -/
theorem o_val {v : Value} {w' : World} (hw : Region.wanted ⟨some k, op, ty, p, af, g⟩ (yieldedE ops n s) = true) (h : (Oper.semAt r (rd n s) ⟨some k, op, ty, p, af, g⟩).run P w = .ok (.value v) w') (hk : OpsL P r n ops K X l (s.set k v) w') :
    OpsL P r n ops K X (⟨some k, op, ty, p, af, g⟩ :: l) s w := o_val0 hw h hk

theorem o_unit {w' : World} (hw : Region.wanted ⟨none, op, ty, p, af, g⟩ (yieldedE ops n s) = true) (h : (Oper.semAt r (rd n s) ⟨none, op, ty, p, af, g⟩).run P w = .ok .skip w') (hk : OpsL P r n ops K X l s w') :
    OpsL P r n ops K X (⟨none, op, ty, p, af, g⟩ :: l) s w := o_unit0 hw h hk

/-- A call of a function of the program. -/
theorem o_call {f : FuncId} {args : Array Value} {R : Value → World → Prop} (hw : Region.wanted ⟨some k, op, ty, p, af, g⟩ (yieldedE ops n s) = true) (h : ∀ w, (Oper.semAt r (rd n s) ⟨some k, op, ty, p, af, g⟩).run P w = .ok (.enter f args) w)
    (hc : Calls P f args w (fun e w' => ∃ v, e = .returned v ∧ R v w')) (hk : ∀ v w', R v w' → OpsL P r n ops K X l (s.set k v) w') : OpsL P r n ops K X (⟨some k, op, ty, p, af, g⟩ :: l) s w := by
  refine o_wanted hw ?_
  unfold OpW
  rw [h]
  refine Calls.mono hc ?_
  rintro e w' ⟨v, rfl, hR⟩
  exact hk v w' hR

theorem run_callOp {f : FuncId} {xs : Array Operand} {ats : Array TypeId} {args : Array Value} {dst : Option Nat} (hargs : xs.toList.map (rd n s) = args.toList) (hen : (callFunc f args).run P w = .ok (.enter f args) w) :
    (Oper.semAt r (rd n s) ⟨dst, .call ⟨.value (.func f), xs, ats⟩, ty, p, af, g⟩).run P w = .ok (.enter f args) w := by
  rw [Oper.semAt_eq _ _ _ (fun c e => by cases e)]
  have hargs' : xs.map (rd n s) = args := Array.ext' (by simpa using hargs)
  clear hargs
  subst hargs'
  simp only [execOp, resolve, rd_func]
  have e1 : ∀ (e : Sem Deferred) (F : Deferred → Sem Next) (a : Deferred), e.run P w = .ok a w → (e >>= F).run P w = (F a).run P w := fun e F a h => by rw [Sem.run_bind, h]; rfl
  rw [e1 _ _ { target := .fn (.func f) #[], args := #[] ++ xs.map (rd n s) } rfl]
  simp only [invoke, Array.empty_append, Array.append_empty]
  exact hen

/-- A call of a named function, by its contract. -/
theorem o_fn {f : FuncId} {xs : Array Operand} {ats : Array TypeId} {args : Array Value} {R : Value → World → Prop} (hc : Calls P f args w (fun e w' => ∃ v, e = .returned v ∧ R v w')) (hw : Region.wanted ⟨some k, .call ⟨.value (.func f), xs, ats⟩, ty, p, af, g⟩ (yieldedE ops n s) = true)
    (hen : ∀ w, (callFunc f args).run P w = .ok (.enter f args) w) (hargs : xs.toList.map (rd n s) = args.toList) (hk : ∀ v w', R v w' → OpsL P r n ops K X l (s.set k v) w') : OpsL P r n ops K X (⟨some k, .call ⟨.value (.func f), xs, ats⟩, ty, p, af, g⟩ :: l) s w := by
  refine o_wanted hw ?_
  unfold OpW
  rw [run_callOp hargs (hen w)]
  refine Calls.mono hc ?_
  rintro e w' ⟨v, rfl, hR⟩
  exact hk v w' hR

theorem o_fn0 {f : FuncId} {xs : Array Operand} {ats : Array TypeId} {args : Array Value} {R : Value → World → Prop} (hc : Calls P f args w (fun e w' => ∃ v, e = .returned v ∧ R v w')) (hw : Region.wanted ⟨none, .call ⟨.value (.func f), xs, ats⟩, ty, p, af, g⟩ (yieldedE ops n s) = true)
    (hen : ∀ w, (callFunc f args).run P w = .ok (.enter f args) w) (hargs : xs.toList.map (rd n s) = args.toList) (hk : ∀ v w', R v w' → OpsL P r n ops K X l s w') : OpsL P r n ops K X (⟨none, .call ⟨.value (.func f), xs, ats⟩, ty, p, af, g⟩ :: l) s w := by
  refine o_wanted hw ?_
  unfold OpW
  rw [run_callOp hargs (hen w)]
  refine Calls.mono hc ?_
  rintro e w' ⟨v, rfl, hR⟩
  exact hk v w' hR

theorem o_call0 {f : FuncId} {args : Array Value} {R : Value → World → Prop} (hw : Region.wanted ⟨none, op, ty, p, af, g⟩ (yieldedE ops n s) = true) (h : ∀ w, (Oper.semAt r (rd n s) ⟨none, op, ty, p, af, g⟩).run P w = .ok (.enter f args) w)
    (hc : Calls P f args w (fun e w' => ∃ v, e = .returned v ∧ R v w')) (hk : ∀ v w', R v w' → OpsL P r n ops K X l s w') : OpsL P r n ops K X (⟨none, op, ty, p, af, g⟩ :: l) s w := by
  refine o_wanted hw ?_
  unfold OpW
  rw [h]
  refine Calls.mono hc ?_
  rintro e w' ⟨v, rfl, hR⟩
  exact hk v w' hR

end
end Go.Pd
