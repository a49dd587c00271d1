/-
  Closures that recover first, and go on in the same region, with calls.
-/
import Derived.Test.YtcanaadgcgophaaDoorQO
import Derived.Test.YtcanaadgcgophaaDoorQLD
import Derived.Test.YtcanaadgcgophaaDoorQLA
import Derived.Test.YtcanaadgcgophaaDoorQLC
import Derived.Laws.MakeOwn
set_option linter.unusedVariables false
set_option linter.unusedSimpArgs false
set_option linter.unnecessarySimpa false
set_option maxRecDepth 10000
namespace Go.Pd
open Go
variable {P : Program}
theorem wpSIn_rec1 {n : Nat} {id : Nat} {o : Oper} {l : List Oper} {Q : Exit → Act → List Frame → World → Prop} {a : Act} {cs cs' : List Frame} {v : Value} {w : World}
    (hw : Region.wanted o (yielded (o :: l).toArray a.tmps) = true) (hrun : (execOp a.eval o).run P w = .ok .recover w) (hrec : recoverD cs = some (v, cs') ∨ (recoverD cs = none ∧ v = .nilIface ∧ cs' = cs))
    (h : wpOpsIn (FR none) n P (o :: l).toArray (fun e a' w' => Q e a' cs' w') (List.range' 1 l.length) (a.put o.dst v) w) : (Code.region id (o :: l).toArray false).wpSIn (FR none) n P Q a cs w := by
  intro b k hb hro hF hroom
  have hlen : cs'.length = cs.length := by
    rcases hrec with h1 | ⟨-, -, rfl⟩
    · exact recoverD_length h1
    · rfl
  obtain ⟨e, a', w', hq, harr⟩ := wp_opsIn _ _ _ h b k cs' (hro.trans rfl) hF (hlen ▸ hroom)
  refine ⟨e, a', cs', w', hlen, hq, ?_⟩
  have ho : (o :: l).toArray[0]? = some o := by simp
  have h0 : (lone (b.atR a (.inRegion (o :: l).toArray (0 :: List.range' 1 l.length) :: k)) cs w).fenced P (FR none) := fenced_oper hF hroom ho (fun _ _ => trivial)
  have hg := stepGR_op (P := P) (b := b) (k := k) (cs := cs) (w := w) (rest := List.range' 1 l.length) ho hw
  rw [hro, Oper.semAt_none] at hg
  have hfin : ∀ v, (b.atR a (.inRegion (o :: l).toArray (0 :: List.range' 1 l.length) :: k)).finish v = b.atR (a.put o.dst v) (.inRegion (o :: l).toArray (List.range' 1 l.length) :: k) := by
    intro v; rw [Frame.finish_atR, ho]; rfl
  have hk : (b.atR a (.inRegion (o :: l).toArray (0 :: List.range' 1 l.length) :: k)).kind = .deferred := hb
  have htr := tryRecover_deferred hk cs
  have hrng : List.range (o :: l).toArray.size = 0 :: List.range' 1 l.length := by
    rw [List.range_eq_range']
    simp [List.range'_succ]
  have hreg := stepR_region (P := P) (b := b) (a := a) (k := k) (cs := cs) (w := w) (id := id) (ops := (o :: l).toArray)
  rw [hrng] at hreg
  refine .of_steps (.one (fenced_calm hF hroom rfl) hreg) (.of_steps (.one h0 (step_lone_go ?_)) harr)
  rw [hg, ← hfin]
  rcases hrec with h1 | ⟨h1, rfl, rfl⟩
  · simp only [Frame.atR, hro] at htr ⊢
    simp [stepG.apply, hrun, htr, h1]
  · simp only [Frame.atR, hro] at htr ⊢
    simp [stepG.apply, hrun, htr, h1]
theorem callsD_rec1 {f : FuncId} {fn : Func} {id k1 : Nat} {ats : Array TypeId} {ty : TypeId} {p : String} {af : Array Edge} {l : List Oper} {args : Array Value} {u u2 : FrameMode} {v : Value} {w : World} {R : World → Prop}
    (hf : P.funcs[f]? = some fn) (hb : fn.body = some (.region id (⟨some k1, .call ⟨.builtin .recover, #[], ats⟩, ty, p, af, none⟩ :: l).toArray false)) (hn : args.size ≤ fn.ntmps) (hres : fn.results = #[])
    (hrec : ∀ (c₀ : Frame) (cs : List Frame), c₀.mode = u → recoverD (c₀ :: cs) = some (v, { c₀ with mode := u2 } :: cs) ∨ (recoverD (c₀ :: cs) = none ∧ v = .nilIface ∧ u2 = u))
    (h : OpsL P none fn.ntmps (⟨some k1, .call ⟨.builtin .recover, #[], ats⟩, ty, p, af, none⟩ :: l).toArray (fun s w => s.d = [] ∧ R w) (fun _ _ _ => False) l ((st0 args).set k1 v) w) : CallsDIn (FR none) 0 P f args u w (fun e u' w' => (∃ x, e = .returned x) ∧ u' = u2 ∧ R w') := by
  refine callsDIn_of_wpSIn hf hb trivial fun c₀ cs hc => ?_
  have hfit0 : Fits fn.ntmps (st0 args) { tmps := args ++ Array.replicate (fn.ntmps - args.size) undef, defers := [] } := by
    refine ⟨by simp; omega, fun i hi => ?_, rfl⟩
    show (args ++ Array.replicate (fn.ntmps - args.size) undef).getD i undef = args.getD i undef
    simp only [Array.getD_eq_getD_getElem?, Array.getElem?_append, Array.getElem?_replicate]
    by_cases h1 : i < args.size
    · simp [h1]
    · simp [h1]
      split <;> simp
  generalize ha0 : ({ tmps := args ++ Array.replicate (fn.ntmps - args.size) undef, defers := [] } : Act) = a0 at hfit0
  clear ha0
  have hrun : (execOp a0.eval ⟨some k1, .call ⟨.builtin .recover, #[], ats⟩, ty, p, af, none⟩).run P w = .ok .recover w := by
    simp only [execOp, resolve, Array.map_empty]
    rfl
  have hrec' : recoverD (c₀ :: cs) = some (v, { c₀ with mode := u2 } :: cs) ∨ (recoverD (c₀ :: cs) = none ∧ v = .nilIface ∧ ({ c₀ with mode := u2 } :: cs : List Frame) = c₀ :: cs) := by
    rcases hrec c₀ cs hc with h1 | ⟨h1, h2, rfl⟩
    · exact .inl h1
    · refine .inr ⟨h1, h2, ?_⟩
      rw [← hc]
  refine wpSIn_rec1 (v := v) (cs' := { c₀ with mode := u2 } :: cs) rfl hrun hrec' ?_
  refine ops_sound _ (K := fun s w => s.d = [] ∧ R w) (X := fun _ _ _ => False) (fun s a w hfit hK => ?_) (fun c s a w hfit hX => hX.elim) _ _ _ _ (hfit0.put (some k1) v) (opsL_ops l 1 _ _ (fun j => by simp [Nat.add_comm]) h)
  refine ⟨hfit.defs.trans hK.1, u2, rfl, .tuple #[], ?_, ⟨_, rfl⟩, rfl, hK.2⟩
  simp [results, hres, pure, Sem.run]
end Go.Pd

set_option linter.unusedVariables false
set_option linter.unusedSimpArgs false
set_option linter.unnecessarySimpa false
set_option maxRecDepth 10000
namespace Go.Pd
open Go
variable {P : Program} {r : Option Nat} {n : Nat}
theorem op1_monoX {ops : Array Oper} {K K' : St → World → Prop} {X X' : List PanicEntry → St → World → Prop} {i : Nat} {s : St} {w : World} (hk : ∀ s w, K s w → K' s w) (hx : ∀ c s w, X c s w → X' c s w) (h : Op1 P r n ops K X i s w) : Op1 P r n ops K' X' i s w := by
  unfold Op1 at *
  cases ho : ops[i]? with
  | none => simp only [ho] at h ⊢; exact hk _ _ h
  | some o =>
    simp only [ho] at h ⊢
    split
    · rename_i hw
      rw [if_pos hw] at h
      exact opW_mono hk (fun c w h => hx c s w h) h
    · rename_i hw
      rw [if_neg hw] at h
      exact hk _ _ h
theorem anyO_monoX {ops : Array Oper} {K : St → World → Prop} {X X' : List PanicEntry → St → World → Prop} (hx : ∀ c s w, X c s w → X' c s w) : ∀ (f : Nat) (listed : Array Bool) (s : St) (w : World), AnyO P r n ops K X f listed s w → AnyO P r n ops K X' f listed s w
  | 0, listed, s, w, h => h
  | f + 1, listed, s, w, h => ⟨h.1, fun i hi => op1_monoX (fun s w h => anyO_monoX hx f _ s w h) hx (h.2 i hi)⟩
theorem wk_lastQ {id : Nat} {ol ol' : List Oper} {o : Oper} {K : St → World → Prop} {Q : Exit → St → World → Prop} {s : St} {w : World} (H : List Nat) (hl : ol = ol' ++ [o]) (hchk : lastOk ol'.toArray o = true) (hok : regOk ol'.toArray H [] [] = true)
    (h : OpsQ P r n ol'.toArray [] (fun w' => Ext w w') (fun _ => True) (fun sT => ∀ w', Ext w w' → OpsL P r n ol.toArray K (fun c => Q (.panic c)) [o] sT w') H s) (hm : P.follows .mixedOrders = true := by rfl) : WK P r n (.region id ol.toArray true) K Q s w := by
  refine wk_last hl hchk (fun w' hw' => anyO_monoX (X := fun _ _ _ => False) (fun _ _ _ h => h.elim) _ _ _ _ ?_) hm
  exact any_draw H [] [] (fun w' => Ext w w') (fun _ => True) hok (fun _ _ _ _ h => h) (fun _ h => Upd.of_heap h) (fun _ _ => trivial) h w' hw'
end Go.Pd

set_option linter.unusedVariables false
set_option linter.unusedSimpArgs false
set_option linter.unnecessarySimpa false
set_option maxRecDepth 10000
namespace Go.Pd
open Go
section
variable {P : Program} {r : Option Nat} {n : Nat} {ops : Array Oper} {K : St → World → Prop} {X : List PanicEntry → St → World → Prop} {l : List Oper} {s : St} {w w0 : World} {M : Nat → Prop} {bl : List (Nat × Obj)}
variable {d : Nat} {ty : TypeId} {p : String} {af : Array Edge} {g : Option (Nat × Bool)}
theorem made_one (z : Value) (m : Nat) : madeCells #[z] (m * 1) = (List.replicate m z).toArray := by
  apply Array.ext'
  apply List.ext_getElem
  · simp [madeCells]
  · intro i h1 h2
    simp [madeCells, Nat.mod_one]
theorem o_makeSlice {t e bytes m : Nat} {x y : Operand} {z : Value} {kk kc : IntKind} (hl : LH w0 M w bl) (hw : Region.wanted ⟨some d, .makeSlice t x y, ty, p, af, g⟩ (yieldedE ops n s) = true) (hu : P.underlying t = some (.slice e)) (hi : infoT P e = some (1, bytes, 1)) (hz : zeroV P e = some z) (hz1 : z.cells = #[z])
    (hx : rd n s x = .int kk (m : Int)) (hy : rd n s y = .int kc (m : Int)) (hb : bytes * m ≤ 140737488355328) (hm : m ≤ 9223372036854775807)
    (hk : ∀ b w', w0.heap.size ≤ b → LH w0 M w' ((b, .cells (List.replicate m z).toArray e (0, 0)) :: bl) → OpsL P r n ops K X l (s.set d (.slice (some ⟨b, 0, none⟩) m m)) w') : OpsL P r n ops K X (⟨some d, .makeSlice t x y, ty, p, af, g⟩ :: l) s w := by
  obtain ⟨inf, z', hi1, hz', hs1, hs2, hs3⟩ := infoT_some hi
  have hzz : z' = z := by
    unfold zeroV at hz
    rw [hi1] at hz
    simp only [Option.bind_some] at hz
    rw [hz'] at hz
    exact Option.some.inj hz
  subst hzz
  have hr := run_make (P := P) w t e inf z' hu hi1 hz' kk kc (m : Int) (m : Int) (by omega) (by omega) (by have h5 : ((bytes * m : Nat) : Int) ≤ 140737488355328 := (by omega); rw [hs2]; rw [Int.natCast_mul] at h5; omega) (by omega)
  simp only [Int.toNat_natCast] at hr
  rw [hz1, hs1, made_one] at hr
  refine o_val (w' := { w with heap := w.heap.push (.cells (List.replicate m z').toArray e) }) hw ?_ (hk w.heap.size _ hl.upd.size (hl.alloc _))
  rw [Oper.semAt_eq _ _ _ (fun c e => by cases e)]
  simp only [execOp, hx, hy]
  rw [sem_bind hr]
  rfl
end
section
variable {α : Type} [DecidableEq α] {f : α → Value}
variable {P : Program} {r : Option Nat} {n : Nat} {ops : Array Oper} {K : St → World → Prop} {X : List PanicEntry → St → World → Prop} {lo : List Oper} {s : St} {w w0 : World} {M : Nat → Prop} {bl : List (Nat × Obj)}
variable {d : Nat} {ty : TypeId} {p : String} {af : Array Edge} {g : Option (Nat × Bool)}
theorem o_delete {at_ : Array TypeId} {mt kt et : TypeId} {m kx : Operand} {b : Nat} {es : Array MapEntry} {c : Nat} {l : List (α × Value)} (a : α) (hl : LH w0 M w bl) (i : Nat) (hi : bl[i]? = some (b, .map es c)) (hm : MapR f es l) (hk : Key P kt f) (hw : Region.wanted ⟨none, .call ⟨.builtin .delete, #[m, kx], at_⟩, ty, p, af, g⟩ (yieldedE ops n s) = true) (ht : at_[0]? = some mt) (hu : P.underlying mt = some (.map kt et))
    (hx : rd n s m = .map (some b)) (hix : rd n s kx = f a) (hkk : ∀ w' es', MapR f es' (del l a) → LH w0 M w' (bl.set i (b, .map es' c)) → OpsL P r n ops K X lo s w') : OpsL P r n ops K X (⟨none, .call ⟨.builtin .delete, #[m, kx], at_⟩, ty, p, af, g⟩ :: lo) s w := by
  obtain ⟨es', hr, hm'⟩ := run_delete (P := P) (a := a) (ty' := ty) (at_ := at_) ht hu hk hm (hl.get i hi)
  refine o_wanted hw ?_
  unfold OpW
  rw [Oper.semAt_eq _ _ _ (fun c e => by cases e)]
  simp only [execOp, resolve, List.map_toArray, List.map_cons, List.map_nil, hx, hix]
  rw [sem_bind (w' := w) rfl]
  simp only [invoke, builtin]
  rw [sem_bind hr]
  exact hkk _ es' hm' (hl.put i hi ⟨rfl, rfl, rfl⟩)
end
end Go.Pd
