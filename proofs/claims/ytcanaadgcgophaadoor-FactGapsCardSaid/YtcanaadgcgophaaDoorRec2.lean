/-
  Closures that recover first, and go on in the same region, with calls.
-/
import Derived.Test.YtcanaadgcgophaaDoorRec
set_option linter.unusedVariables false
set_option linter.unusedSimpArgs false
set_option linter.unnecessarySimpa false
set_option maxRecDepth 10000
namespace Go.Pd
open Go
variable {P : Program}
/-- A region that begins with recover, and goes on as any other. -/
theorem wpSIn_rec1 {n : Nat} {id : Nat} {o : Oper} {l : List Oper} {Q : Exit → Act → List Frame → World → Prop} {a : Act} {cs cs' : List Frame} {v : Value} {w : World}
    (hw : Region.wanted o (yielded (o :: l).toArray a.tmps) = true) (hrun : (execOp a.eval o).run P w = .ok .recover w) (hrec : recoverD cs = some (v, cs') ∨ (recoverD cs = none ∧ v = .nilIface ∧ cs' = cs))
    (h : wpOpsIn (FR none) n P (o :: l).toArray (fun e a' w' => Q e a' cs' w') (List.range' 1 l.length) (a.put o.dst v) w) : (Code.region id (o :: l).toArray false).wpSIn (FR none) n P Q a cs w := by
  intro b k hb hro hF hroom
  have hlen : cs'.length = cs.length := by
    rcases hrec with h1 | ⟨-, -, rfl⟩
    · exact recoverD_length h1
    · rfl
  obtain ⟨e, a', w', hq, harr⟩ := wp_opsIn _ _ _ h b k cs' (hro.trans rfl) hF (hlen ▸ hroom)
  refine ⟨e, a', cs', w', hlen, hq, ?_⟩
  have ho : (o :: l).toArray[0]? = some o := by simp
  have h0 : (lone (b.atR a (.inRegion (o :: l).toArray (0 :: List.range' 1 l.length) :: k)) cs w).fenced P (FR none) := fenced_oper hF hroom ho (fun _ _ => trivial)
  have hg := stepGR_op (P := P) (b := b) (k := k) (cs := cs) (w := w) (rest := List.range' 1 l.length) ho hw
  rw [hro, Oper.semAt_none] at hg
  have hfin : ∀ v, (b.atR a (.inRegion (o :: l).toArray (0 :: List.range' 1 l.length) :: k)).finish v = b.atR (a.put o.dst v) (.inRegion (o :: l).toArray (List.range' 1 l.length) :: k) := by
    intro v; rw [Frame.finish_atR, ho]; rfl
  have hk : (b.atR a (.inRegion (o :: l).toArray (0 :: List.range' 1 l.length) :: k)).kind = .deferred := hb
  have htr := tryRecover_deferred hk cs
  have hrng : List.range (o :: l).toArray.size = 0 :: List.range' 1 l.length := by
    rw [List.range_eq_range']
    simp [List.range'_succ]
  have hreg := stepR_region (P := P) (b := b) (a := a) (k := k) (cs := cs) (w := w) (id := id) (ops := (o :: l).toArray)
  rw [hrng] at hreg
  refine .of_steps (.one (fenced_calm hF hroom rfl) hreg) (.of_steps (.one h0 (step_lone_go ?_)) harr)
  rw [hg, ← hfin]
  rcases hrec with h1 | ⟨h1, rfl, rfl⟩
  · simp only [Frame.atR, hro] at htr ⊢
    simp [stepG.apply, hrun, htr, h1]
  · simp only [Frame.atR, hro] at htr ⊢
    simp [stepG.apply, hrun, htr, h1]
/-- A closure that is one region, with recover at its head. -/
theorem callsD_rec1 {f : FuncId} {fn : Func} {id k1 : Nat} {ats : Array TypeId} {ty : TypeId} {p : String} {af : Array Edge} {l : List Oper} {args : Array Value} {u u2 : FrameMode} {v : Value} {w : World} {R : World → Prop}
    (hf : P.funcs[f]? = some fn) (hb : fn.body = some (.region id (⟨some k1, .call ⟨.builtin .recover, #[], ats⟩, ty, p, af, none⟩ :: l).toArray false)) (hn : args.size ≤ fn.ntmps) (hres : fn.results = #[])
    (hrec : ∀ (c₀ : Frame) (cs : List Frame), c₀.mode = u → recoverD (c₀ :: cs) = some (v, { c₀ with mode := u2 } :: cs) ∨ (recoverD (c₀ :: cs) = none ∧ v = .nilIface ∧ u2 = u))
    (h : OpsL P none fn.ntmps (⟨some k1, .call ⟨.builtin .recover, #[], ats⟩, ty, p, af, none⟩ :: l).toArray (fun s w => s.d = [] ∧ R w) (fun _ _ _ => False) l ((st0 args).set k1 v) w) : CallsDIn (FR none) 0 P f args u w (fun e u' w' => (∃ x, e = .returned x) ∧ u' = u2 ∧ R w') := by
  refine callsDIn_of_wpSIn hf hb trivial fun c₀ cs hc => ?_
  have hfit0 : Fits fn.ntmps (st0 args) { tmps := args ++ Array.replicate (fn.ntmps - args.size) undef, defers := [] } := by
    refine ⟨by simp; omega, fun i hi => ?_, rfl⟩
    show (args ++ Array.replicate (fn.ntmps - args.size) undef).getD i undef = args.getD i undef
    simp only [Array.getD_eq_getD_getElem?, Array.getElem?_append, Array.getElem?_replicate]
    by_cases h1 : i < args.size
    · simp [h1]
    · simp [h1]
      split <;> simp
  generalize ha0 : ({ tmps := args ++ Array.replicate (fn.ntmps - args.size) undef, defers := [] } : Act) = a0 at hfit0
  clear ha0
  have hrun : (execOp a0.eval ⟨some k1, .call ⟨.builtin .recover, #[], ats⟩, ty, p, af, none⟩).run P w = .ok .recover w := by
    simp only [execOp, resolve, Array.map_empty]
    rfl
  have hrec' : recoverD (c₀ :: cs) = some (v, { c₀ with mode := u2 } :: cs) ∨ (recoverD (c₀ :: cs) = none ∧ v = .nilIface ∧ ({ c₀ with mode := u2 } :: cs : List Frame) = c₀ :: cs) := by
    rcases hrec c₀ cs hc with h1 | ⟨h1, h2, rfl⟩
    · exact .inl h1
    · refine .inr ⟨h1, h2, ?_⟩
      rw [← hc]
  refine wpSIn_rec1 (v := v) (cs' := { c₀ with mode := u2 } :: cs) rfl hrun hrec' ?_
  refine ops_sound _ (K := fun s w => s.d = [] ∧ R w) (X := fun _ _ _ => False) (fun s a w hfit hK => ?_) (fun c s a w hfit hX => hX.elim) _ _ _ _ (hfit0.put (some k1) v) (opsL_ops l 1 _ _ (fun j => by simp [Nat.add_comm]) h)
  refine ⟨hfit.defs.trans hK.1, u2, rfl, .tuple #[], ?_, ⟨_, rfl⟩, rfl, hK.2⟩
  simp [results, hres, pure, Sem.run]
end Go.Pd
