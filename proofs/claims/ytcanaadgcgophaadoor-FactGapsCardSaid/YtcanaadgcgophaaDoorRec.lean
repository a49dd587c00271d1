/-
  Deferred calls, and closures that recover.
-/
import Derived.Test.YtcanaadgcgophaaDoorPan2
import Derived.RecoverIn
set_option linter.unusedVariables false
set_option linter.unusedSimpArgs false
set_option linter.unnecessarySimpa false
set_option maxRecDepth 10000
namespace Go.Pd
open Go
variable {P : Program}
section
variable {r : Option Nat} {n : Nat} {ops : Array Oper} {K : St → World → Prop} {X : List PanicEntry → St → World → Prop} {l : List Oper} {s : St} {w : World} {ty : TypeId} {p : String} {af : Array Edge} {g : Option (Nat × Bool)}
/-- A function value's call, deferred. -/
theorem a_defer {f : FuncId} {x : Operand} {ats : Array TypeId} {fi ca : Array Value} (hk : OpsL P none n ops K X l { s with d := { target := .fn (.func f) ca, args := fi ++ #[] } :: s.d } w) (hx : rd n s x = .func (.func f) fi ca) (hw : Region.wanted ⟨none, .defer ⟨.value x, #[], ats⟩, ty, p, af, g⟩ (yieldedE ops n s) = true := by rfl) : OpsL P none n ops K X (⟨none, .defer ⟨.value x, #[], ats⟩, ty, p, af, g⟩ :: l) s w := by
  refine o_wanted hw ?_
  unfold OpW
  have e : (Oper.semAt none (rd n s) ⟨none, .defer ⟨.value x, #[], ats⟩, ty, p, af, g⟩).run P w = .ok (.defer { target := .fn (.func f) ca, args := fi ++ #[] }) w := by
    rw [Oper.semAt_none]
    simp only [execOp, resolve, hx, Array.map_empty]
    rfl
  rw [e]
  exact hk
/-- A value in an interface is not nil. -/
theorem o_neqiface {k : Nat} {xt yt : TypeId} {x : Operand} {ms : Array (String × TypeId)} {t : TypeId} {v : Value} (hk : OpsL P r n ops K X l (s.set k (.bool true)) w) (hx : rd n s x = .iface t v) (hu : P.underlying xt = some (.interface ms)) (hw : Region.wanted ⟨some k, .binOp .neq xt x (.const .nilIface) yt, ty, p, af, g⟩ (yieldedE ops n s) = true := by rfl) : OpsL P r n ops K X (⟨some k, .binOp .neq xt x (.const .nilIface) yt, ty, p, af, g⟩ :: l) s w := by
  refine o_val (w' := w) hw ?_ hk
  rw [Oper.semAt_eq _ _ _ (fun c e => by cases e)]
  have h0 : (Op.equal xt (.iface t v) .nilIface).run P w = .ok false w := by
    have h9 : Op.equal xt (.iface t v) .nilIface = Op.equalIn (9999 + 1) xt (.iface t v) .nilIface := rfl
    rw [h9, Op.equalIn, sem_bind (run_underlying' hu w)]
    rfl
  have h2 : (binOp .neq xt (.iface t v) .nilIface).run P w = .ok (.bool true) w := by
    show (do pure (Value.bool (!(← Op.equal xt (.iface t v) .nilIface))) : Sem Value).run P w = _
    rw [sem_bind h0]
    rfl
  simp only [execOp, hx, rd_const]
  have h3 : (do eqGuard .neq xt x (.const .nilIface) (.iface t v) .nilIface; binOp .neq xt (.iface t v) .nilIface : Sem Value).run P w = .ok (.bool true) w := by
    rw [sem_bind (a := ()) (w' := w) rfl]; exact h2
  rw [sem_bind h3]
  rfl
/-- A value in an interface, of the type that is asserted. -/
theorem a_tas {k : Nat} {xt t : TypeId} {x : Operand} {v : Value} (hk : OpsL P r n ops K X l (s.set k v) w) (hx : rd n s x = .iface t v) (ht : plainT P t = true := by kernel_rfl) (hw : Region.wanted ⟨some k, .typeAssert x xt t false, ty, p, af, g⟩ (yieldedE ops n s) = true := by rfl) : OpsL P r n ops K X (⟨some k, .typeAssert x xt t false, ty, p, af, g⟩ :: l) s w := by
  refine o_val (w' := w) hw ?_ hk
  rw [Oper.semAt_eq _ _ _ (fun c e => by cases e)]
  have h1 : (Instr.typeAssert (.iface t v) xt t false).run P w = .ok v w := by
    unfold plainT at ht
    cases hu : P.underlying t with
    | none => rw [hu] at ht; cases ht
    | some d =>
      rw [hu] at ht
      unfold Instr.typeAssert
      simp only
      rw [sem_bind (run_underlying' hu w)]
      cases d <;> first | (simp only [if_true]; rfl) | cases ht
  simp only [execOp, hx]
  rw [sem_bind h1]
  rfl
end
/-- A function that leaves with one deferred call of a closure, behind which it returns. -/
theorem leaves_rec {fn : Func} {tmps : Array Value} {f : FuncId} {fi ca : Array Value} {u : FrameMode} {w : World} {R : Ending → World → Prop} (hu : u ≠ .run) (hen : ∀ w, (callFunc f (fi ++ ca)).run P w = .ok (.enter f (fi ++ ca)) w)
    (h : CallsDIn (FR none) 0 P f (fi ++ ca) u w (fun e u' w' => (∃ v, e = .returned v) ∧ settle u' = .returning ∧ ∃ x, (results fn tmps).run P w' = .ok x w' ∧ R (.returned x) w')) : LeavesInM (FR none) 0 P fn tmps R [{ target := .fn (.func f) ca, args := fi }] u w := by
  refine ⟨hu, .inr ⟨fun h => (by simp at h), .func f, ca, f, fi ++ ca, rfl, ?_, fun g _ => trivial, ?_⟩⟩
  · simp only [invoke]
    exact hen w
  · refine CallsDIn.mono h ?_
    rintro e u' w' ⟨⟨v, rfl⟩, hs, x, hx, hR⟩
    simp only
    rw [hs]
    exact ⟨x, hx, hR⟩
/-- What the rest of a recovering closure must achieve. -/
def RecQ (R : World → Prop) : Exit → St → World → Prop
  | .normal, s, w | .ret, s, w => s.d = [] ∧ R w
  | _, _, _ => False
/-- A closure that recovers first. -/
theorem callsD_rec {f : FuncId} {fn : Func} {id k1 k2 : Nat} {ats : Array TypeId} {ty ty2 : TypeId} {p p2 : String} {af af2 : Array Edge} {rest : Code} {args : Array Value} {u u2 : FrameMode} {v : Value} {w : World} {R : World → Prop}
    (hf : P.funcs[f]? = some fn) (hb : fn.body = some (.seq (.region id #[⟨some k1, .call ⟨.builtin .recover, #[], ats⟩, ty, p, af, none⟩, ⟨some k2, .assign (.tmp k1), ty2, p2, af2, none⟩] false) rest)) (hn : args.size ≤ fn.ntmps) (hres : fn.results = #[]) (hk1 : k1 < fn.ntmps)
    (hrec : ∀ (c₀ : Frame) (cs : List Frame), c₀.mode = u → recoverD (c₀ :: cs) = some (v, { c₀ with mode := u2 } :: cs) ∨ (recoverD (c₀ :: cs) = none ∧ v = .nilIface ∧ u2 = u))
    (h : W P none fn.ntmps rest (RecQ R) (((st0 args).set k1 v).set k2 v) w) : CallsDIn (FR none) 0 P f args u w (fun e u' w' => (∃ x, e = .returned x) ∧ u' = u2 ∧ R w') := by
  refine callsDIn_of_wpSIn hf hb trivial fun c₀ cs hc => ?_
  refine wpSIn_seq (wpSIn_region ?_)
  have hfit0 : Fits fn.ntmps (st0 args) { tmps := args ++ Array.replicate (fn.ntmps - args.size) undef, defers := [] } := by
    refine ⟨by simp; omega, fun i hi => ?_, rfl⟩
    show (args ++ Array.replicate (fn.ntmps - args.size) undef).getD i undef = args.getD i undef
    simp only [Array.getD_eq_getD_getElem?, Array.getElem?_append, Array.getElem?_replicate]
    by_cases h1 : i < args.size
    · simp [h1]
    · simp [h1]
      split <;> simp
  generalize ha0 : ({ tmps := args ++ Array.replicate (fn.ntmps - args.size) undef, defers := [] } : Act) = a0 at hfit0
  clear ha0
  have hrest : ∀ (cs' : List Frame), cs' = { c₀ with mode := u2 } :: cs → wpOpsSIn (FR none) 0 P #[⟨some k1, .call ⟨.builtin .recover, #[], ats⟩, ty, p, af, none⟩, ⟨some k2, .assign (.tmp k1), ty2, p2, af2, none⟩] (Exit.thenS (rest.wpSIn (FR none) 0 P (bodyPostS P fn c₀ cs fun e u' w' => (∃ x, e = .returned x) ∧ u' = u2 ∧ R w')) (bodyPostS P fn c₀ cs fun e u' w' => (∃ x, e = .returned x) ∧ u' = u2 ∧ R w')) [1] (a0.put (some k1) v) cs' w := by
    intro cs' hcs
    have hf1 := hfit0.put (some k1) v
    have hev : (a0.put (some k1) v).eval (.tmp k1) = v := by
      rw [hf1.eval]
      simp only [rd, blt_t hk1, cond_true, St.put, St.set_t, if_true]
    simp only [wpOpsSIn, List.getElem?_toArray, List.getElem?_cons_succ, List.getElem?_cons_zero]
    refine ⟨fun _ _ => trivial, ?_⟩
    rw [if_pos (show Region.wanted _ _ = true from rfl)]
    have hrun : (execOp (a0.put (some k1) v).eval ⟨some k2, .assign (.tmp k1), ty2, p2, af2, none⟩).run P w = .ok (.value v) w := by
      simp only [execOp, hev]
      rfl
    rw [hrun]
    simp only
    refine wpSIn_of_wpIn rfl ?_
    refine wpIn_mono (h _ (hf1.put (some k2) v)) ?_
    rintro e a' w' ⟨s', hf', hQ⟩
    cases e with
    | normal =>
      refine ⟨hf'.defs.trans hQ.1, u2, hcs, .tuple #[], ?_, ⟨_, rfl⟩, rfl, hQ.2⟩
      simp [results, hres, pure, Sem.run]
    | ret =>
      refine ⟨hf'.defs.trans hQ.1, u2, hcs, .tuple #[], ?_, ⟨_, rfl⟩, rfl, hQ.2⟩
      simp [results, hres, pure, Sem.run]
    | _ => exact hQ.elim
  show wpOpsSIn _ _ _ _ _ [0, 1] a0 (c₀ :: cs) w
  rw [wpOpsSIn]
  simp only [List.getElem?_toArray, List.getElem?_cons_zero]
  refine ⟨fun _ _ => trivial, ?_⟩
  rw [if_pos (show Region.wanted _ _ = true from rfl)]
  have hrun : (execOp a0.eval ⟨some k1, .call ⟨.builtin .recover, #[], ats⟩, ty, p, af, none⟩).run P w = .ok .recover w := by
    simp only [execOp, resolve, Array.map_empty]
    rfl
  rw [hrun]
  simp only
  rcases hrec c₀ cs hc with h1 | ⟨h1, rfl, rfl⟩
  · rw [h1]
    exact hrest _ rfl
  · rw [h1]
    refine hrest _ ?_
    rw [← hc]
end Go.Pd
