/-
  Function values, ranging over a function, results in memory.
-/
import Derived.Test.YtjijmehighoonaaDoorNew
set_option linter.unusedSimpArgs false
set_option linter.unnecessarySimpa false
set_option maxRecDepth 10000
set_option linter.unusedVariables false
namespace Go.Pd
variable {P : Program} {r : Option Nat} {n : Nat}

/-- Calling a function value. -/
def CallV (P : Program) (fv : Value) (args : Array Value) (w : World) (R : Value → World → Prop) : Prop :=
  (∃ f ca, fv = .func (.func f) #[] ca ∧ (∀ w, (callFunc f (args ++ ca)).run P w = .ok (.enter f (args ++ ca)) w) ∧ Calls P f (args ++ ca) w (fun e w' => ∃ v, e = .returned v ∧ R v w')) ∨
  (∃ L rec, fv = .func (.yield L) #[] #[] ∧ w.heap[L]? = some (.loop rec) ∧ args.size = rec.params.size ∧
    RoundIn (FR none) 0 P L rec.fn ((rec.params.zip args).foldl (fun tmps (t, a) => tmps.setIfInBounds t a) rec.tmps) rec.assign rec.body w (fun e w' => ∃ v, e = .returned v ∧ R v w'))

theorem callV_mono {fv : Value} {args : Array Value} {w : World} {R R' : Value → World → Prop} (h : CallV P fv args w R) (hr : ∀ v w, R v w → R' v w) : CallV P fv args w R' := by
  rcases h with ⟨f, ca, h1, h2, h3⟩ | ⟨L, rec, h1, h2, h3, h4⟩
  · exact .inl ⟨f, ca, h1, h2, h3.mono fun e w ⟨v, he, hR⟩ => ⟨v, he, hr _ _ hR⟩⟩
  · exact .inr ⟨L, rec, h1, h2, h3, h4.mono fun e w ⟨v, he, hR⟩ => ⟨v, he, hr _ _ hR⟩⟩

theorem callV_func {f : FuncId} {ca args : Array Value} {w : World} {R : Value → World → Prop} (h : ∀ w, (callFunc f (args ++ ca)).run P w = .ok (.enter f (args ++ ca)) w) (hc : Calls P f (args ++ ca) w (fun e w' => ∃ v, e = .returned v ∧ R v w')) : CallV P (.func (.func f) #[] ca) args w R :=
  .inl ⟨f, ca, rfl, h, hc⟩

section
variable {ops : Array Oper} {K : St → World → Prop} {X : List PanicEntry → St → World → Prop} {l : List Oper} {s : St} {w w0 : World} {M : Nat → Prop} {bl : List (Nat × Obj)}
variable {d : Nat} {ty : TypeId} {p : String} {af : Array Edge} {g : Option (Nat × Bool)}

theorem o_callv {x : Operand} {xs : Array Operand} {ats : Array TypeId} {fv : Value} {args : Array Value} {R : Value → World → Prop} (hw : Region.wanted ⟨some d, .call ⟨.value x, xs, ats⟩, ty, p, af, g⟩ (yieldedE ops n s) = true)
    (hx : rd n s x = fv) (hargs : xs.toList.map (rd n s) = args.toList) (hc : CallV P fv args w R) (hk : ∀ v w', R v w' → OpsL P r n ops K X l (s.set d v) w') : OpsL P r n ops K X (⟨some d, .call ⟨.value x, xs, ats⟩, ty, p, af, g⟩ :: l) s w := by
  refine o_wanted hw ?_
  unfold OpW
  rw [Oper.semAt_eq _ _ _ (fun c e => by cases e)]
  have hargs' : xs.map (rd n s) = args := Array.ext' (by simpa using hargs)
  simp only [execOp, resolve, hargs', hx]
  rcases hc with ⟨f, ca, rfl, h2, h3⟩ | ⟨L, rec, rfl, h2, h3, h4⟩
  · rw [sem_bind (a := { target := .fn (.func f) ca, args := #[] ++ args }) (w' := w) rfl]
    simp only [invoke, Array.empty_append]
    rw [h2 w]
    exact Calls.mono h3 fun e w' ⟨v, he, hR⟩ => by subst he; exact hk v w' hR
  · rw [sem_bind (a := { target := .fn (.yield L) #[], args := #[] ++ args }) (w' := w) rfl]
    simp only [invoke, Array.empty_append]
    rw [run_yield h2 h3]
    exact RoundIn.mono h4 fun e w' ⟨v, he, hR⟩ => by subst he; exact hk v w' hR

end

/-! ### Rounds -/

theorem Fits.params {s : St} {tm : Array Value} : ∀ (ps : List Nat) (vs : List Value) (s : St) (tm : Array Value), Fits n s ⟨tm, s.d⟩ → Fits n ((ps.zip vs).foldl (fun s (q : Nat × Value) => s.set q.1 q.2) s) ⟨(ps.zip vs).foldl (fun tmps (q : Nat × Value) => tmps.setIfInBounds q.1 q.2) tm, s.d⟩
  | [], _, s, tm, h => by simpa using h
  | _ :: _, [], s, tm, h => by simpa using h
  | p :: ps, v :: vs, s, tm, h => by
    simp only [List.zip_cons_cons, List.foldl_cons]
    exact Fits.params (s := s) (tm := tm) ps vs (s.set p v) (tm.setIfInBounds p v) (h.put (some p) v)

def RoundQ (L : Nat) (R : Value → World → Prop) : Exit → St → World → Prop
  | .normal, _, w => ∃ rec, w.heap[L]? = some (.loop rec) ∧ ∀ w', SetAt w w' L (.loop { rec with state := .ready, pending := none }) → R (.bool true) w'
  | .ret, _, w => ∃ rec, w.heap[L]? = some (.loop rec) ∧ ∀ w', SetAt w w' L (.loop { rec with state := .done, pending := some .ret }) → R (.bool false) w'
  | .exit id, _, w => ∃ rec, w.heap[L]? = some (.loop rec) ∧ ∀ w', SetAt w w' L (.loop { rec with state := .done, pending := some (.exit id) }) → R (.bool false) w'
  | .goto id, _, w => ∃ rec, w.heap[L]? = some (.loop rec) ∧ ∀ w', SetAt w w' L (.loop { rec with state := .done, pending := some (.goto id) }) → R (.bool false) w'
  | _, _, _ => False

theorem callV_yield {L : Nat} {rec : Loop} {args : Array Value} {s : St} {w : World} {R : Value → World → Prop} (h : w.heap[L]? = some (.loop rec)) (hs : args.size = rec.params.size) (hf : Fits n s ⟨rec.tmps, s.d⟩)
    (hb : W P (some L) n rec.assign (ThenQ (fun s1 w1 => ∃ rec1, w1.heap[L]? = some (.loop rec1) ∧ rec1.state = .ready ∧ ∀ w2, SetAt w1 w2 L (.loop { rec1 with state := .busy }) → W P (some L) n rec.body (RoundQ L R) s1 w2) (fun _ _ _ => False))
      ((rec.params.toList.zip args.toList).foldl (fun s (q : Nat × Value) => s.set q.1 q.2) (⟨s.t, []⟩ : St)) w) : CallV P (.func (.yield L) #[] #[]) args w R := by
  refine .inr ⟨L, rec, rfl, h, hs, ?_⟩
  refine roundIn_of_wpIn (F := FR none) trivial ?_
  have hf' : Fits n (⟨s.t, []⟩ : St) ⟨rec.tmps, []⟩ := ⟨hf.size, hf.val, rfl⟩
  have hfp := Fits.params (s := (⟨s.t, []⟩ : St)) (tm := rec.tmps) rec.params.toList args.toList (⟨s.t, []⟩ : St) rec.tmps hf'
  have e : (rec.params.zip args).foldl (fun tmps (x : Tmp × Value) => tmps.setIfInBounds x.1 x.2) rec.tmps = (rec.params.toList.zip args.toList).foldl (fun tmps (q : Nat × Value) => tmps.setIfInBounds q.1 q.2) rec.tmps := by
    rw [← Array.foldl_toList, Array.toList_zip]
  have hw := hb _ hfp
  rw [← e] at hw
  refine wpIn_mono hw ?_
  rintro ex a' w' ⟨s', hfs, hQ⟩
  cases ex with
  | normal =>
    obtain ⟨rec1, h1, h2, h3⟩ := hQ
    refine ⟨_, run_beginRound h1 h2, ?_⟩
    refine wpIn_mono (h3 (w'.putObj L (.loop { rec1 with state := .busy })) ⟨rfl, rfl, rfl⟩ a' hfs) ?_
    rintro ex2 a2 w2 ⟨s2, hfs2, hQ2⟩
    cases ex2 with
    | normal =>
      obtain ⟨rec3, h4, h5⟩ := hQ2
      exact ⟨_, _, run_endRound none h4, _, rfl, h5 _ ⟨rfl, rfl, rfl⟩⟩
    | ret =>
      obtain ⟨rec3, h4, h5⟩ := hQ2
      exact ⟨_, _, run_endRound _ h4, _, rfl, h5 _ ⟨rfl, rfl, rfl⟩⟩
    | exit id =>
      obtain ⟨rec3, h4, h5⟩ := hQ2
      exact ⟨_, _, run_endRound _ h4, _, rfl, h5 _ ⟨rfl, rfl, rfl⟩⟩
    | goto id =>
      obtain ⟨rec3, h4, h5⟩ := hQ2
      exact ⟨_, _, run_endRound _ h4, _, rfl, h5 _ ⟨rfl, rfl, rfl⟩⟩
    | panic => exact hQ2.elim
    | outgrown => exact hQ2.elim
  | _ => exact hQ.elim

section
variable {K : St → World → Prop} {Q : Ex} {s : St} {w : World}

theorem wk_rangeFunc {gop : Operand} {gf : FuncId} {lb : Array Value} {ps : Array Tmp} {asn body : Code} (hg : rd n s gop = .func (.func gf) #[] lb) (hen : ∀ args w, (callFunc gf args).run P w = .ok (.enter gf args) w)
    (h : ∀ (fn : FuncId) (tm : Array Value) (w1 : World), Fits n s ⟨tm, s.d⟩ →
      To w w1 ((w.heap.push (.deferred (some []))).push (.loop ⟨.ready, none, fn, tm, ps, asn, body, w.heap.size⟩)) →
      Calls P gf (#[.func (.yield (w.heap.size + 1)) #[] #[]] ++ lb) w1 (fun e w3 => ∃ v, e = .returned v ∧ ∃ rec, w3.heap[w.heap.size + 1]? = some (.loop rec) ∧ rec.state ≠ .busy ∧
        ∀ w4, SetAt w3 w4 (w.heap.size + 1) (.loop { rec with state := .exhausted }) →
          match rec.pending with
          | none => K ⟨s.t, ⟨.collected w.heap.size, #[]⟩ :: s.d⟩ w4
          | some c => WK P none n c K Q ⟨s.t, ⟨.collected w.heap.size, #[]⟩ :: s.d⟩ w4)) : WK P none n (.rangeFunc gop ps asn body) K Q s w := by
  unfold WK
  intro a hf
  refine wpIn_rangeFunc (F := FR none) fun fn _ => ?_
  have hft : Fits n s ⟨a.tmps, s.d⟩ := ⟨hf.size, hf.val, rfl⟩
  let W1 : World := (w.alloc (.deferred (some []))).alloc (.loop ⟨.ready, none, fn, a.tmps, ps, asn, body, w.heap.size⟩)
  refine ⟨w.heap.size + 1, [{ target := .collected w.heap.size, args := #[] }], W1, { target := .fn (.func gf) lb, args := #[] ++ #[.func (.yield (w.heap.size + 1)) #[] #[]] }, W1, gf, #[.func (.yield (w.heap.size + 1)) #[] #[]] ++ lb, W1, run_enterLoop_outer (P := P) (w := w) fn a.tmps ps asn body, ?_, fun _ _ => trivial, ?_, (fun h0 => by simp at h0), ?_⟩
  · simp only [resolve, rangeCall]
    rw [hf.eval, hg]
    simp [Deferred.ofValue, pure, Sem.run, Act.eval]
    rfl
  · simp only [invoke, Array.empty_append]
    exact hen _ _
  · have h1 := h fn a.tmps ((w.alloc (.deferred (some []))).alloc (.loop ⟨.ready, none, fn, a.tmps, ps, asn, body, w.heap.size⟩)) hft ⟨rfl, rfl, rfl⟩
    refine (callsIn_wide (n := 0)).2 (h1.mono ?_)
    rintro e w3 ⟨v, rfl, rec, h2, h3, h4⟩
    refine ⟨rec.pending, _, run_endLoop h2 h3, ?_⟩
    have h5 := h4 (w3.putObj (w.heap.size + 1) (.loop { rec with state := .exhausted })) ⟨rfl, rfl, rfl⟩
    have hf2 : Fits n (⟨s.t, ⟨.collected w.heap.size, #[]⟩ :: s.d⟩ : St) { a with defers := [{ target := .collected w.heap.size, args := #[] }] ++ a.defers } := ⟨hf.size, hf.val, by simp [hf.defs]⟩
    cases hp : rec.pending with
    | none => rw [hp] at h5; exact ⟨_, hf2, h5⟩
    | some c =>
      rw [hp] at h5
      unfold WK at h5
      exact h5 _ hf2
end

/-! ### Results -/

def ResOK (P : Program) (n : Nat) (s : St) (w : World) : List ResultVar → List Value → Prop
  | [], [] => True
  | .tmp k :: rs, v :: vs => k < n ∧ s.t k = v ∧ ResOK P n s w rs vs
  | .cell k t :: rs, v :: vs => k < n ∧ (∃ a, s.t k = .pointer (some a) ∧ (loadVar t a).run P w = .ok v w) ∧ ResOK P n s w rs vs
  | _, _ => False

def tupleOf : List Value → Value
  | [v] => v
  | vs => .tuple vs.toArray

theorem run_resOK {s : St} {a : Act} {w : World} (hf : Fits n s a) : ∀ (rs : List ResultVar) (vs : List Value), ResOK P n s w rs vs →
    (rs.mapM fun rv => (match rv with
      | .tmp t => pure (a.tmps.getD t undef)
      | .cell ad t => do loadVar t (← asAddr (a.tmps.getD ad undef)) : Sem Value)).run P w = .ok vs w
  | [], [], _ => by simp [pure, Sem.run]
  | [], _ :: _, h => h.elim
  | .tmp k :: rs, [], h => h.elim
  | .cell k t :: rs, [], h => h.elim
  | .tmp k :: rs, v :: vs, ⟨h1, h2, h3⟩ => by
    rw [List.mapM_cons]
    rw [sem_bind (a := v) (w' := w) (by simp only [hf.val k h1, h2]; rfl)]
    rw [sem_bind (run_resOK hf rs vs h3)]
    rfl
  | .cell k t :: rs, v :: vs, ⟨h1, ⟨ad, h2, h4⟩, h3⟩ => by
    rw [List.mapM_cons]
    rw [sem_bind (a := v) (w' := w) (by
      simp only [hf.val k h1, h2]
      rw [sem_bind (a := ad) (w' := w) rfl]
      exact h4)]
    rw [sem_bind (run_resOK hf rs vs h3)]
    rfl

theorem run_results {fn : Func} {s : St} {a : Act} {w : World} {rs : List ResultVar} {vs : List Value} (hr : fn.results = rs.toArray) (hf : Fits n s a) (h : ResOK P n s w rs vs) : (results fn a.tmps).run P w = .ok (tupleOf vs) w := by
  unfold results
  rw [hr, Array.mapM_eq_mapM_toList]
  have h1 := run_resOK hf rs vs h
  rw [sem_bind (a := vs.toArray) (w' := w)]
  · match vs with
    | [] => simp [tupleOf, pure, Sem.run]
    | [v] => simp [tupleOf, pure, Sem.run]
    | _ :: _ :: _ => simp [tupleOf, pure, Sem.run]
  · rw [← bind_pure_comp]
    refine (sem_bind (w' := w) (a := vs) ?_).trans rfl
    exact h1

theorem retQ_res {fn : Func} {R : Value → World → Prop} {s : St} {w : World} {rs : List ResultVar} (vs : List Value) (hr : fn.results = rs.toArray) (hd : s.d = []) (h : ResOK P n s w rs vs) (hR : R (tupleOf vs) w) : RetQ P fn n R .ret s w := by
  unfold RetQ
  intro a hf
  rw [hd]
  exact leaves_nil (run_results hr hf h) ⟨_, rfl, hR⟩

/-- Returning behind one range over a function. -/
theorem retQ_res1 {fn : Func} {R : Value → World → Prop} {s : St} {w : World} {rs : List ResultVar} {D : Nat} (vs : List Value) (hr : fn.results = rs.toArray) (hd : s.d = [⟨.collected D, #[]⟩]) (hD : w.heap[D]? = some (.deferred (some [])))
    (h : ∀ w', SetAt w w' D (.deferred none) → ResOK P n s w' rs vs ∧ R (tupleOf vs) w') : RetQ P fn n R .ret s w := by
  unfold RetQ
  intro a hf
  rw [hd]
  refine ⟨by simp, .inl ⟨D, _, rfl, run_takeDeferred hD, ?_⟩⟩
  obtain ⟨h1, h2⟩ := h (w.putObj D (.deferred none)) ⟨rfl, rfl, rfl⟩
  exact leaves_nil (run_results hr hf h1) ⟨_, rfl, h2⟩

end Go.Pd
