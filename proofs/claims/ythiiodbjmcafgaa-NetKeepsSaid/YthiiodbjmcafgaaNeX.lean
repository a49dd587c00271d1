/-
  A network among what a caller has, slices that the caller keeps, and a map of texts of the caller's own.
-/
import Derived.Test.YthiiodbjmcafgaaNeS
import Derived.Test.YthiiodbjmcafgaaNeY
set_option linter.unusedVariables false
set_option linter.unusedSimpArgs false
set_option linter.unnecessarySimpa false
set_option maxRecDepth 10000
namespace Go.Pd
variable {P : Program} {r : Option Nat} {n : Nat}
/-- A slice is not in a map's block. -/
theorem Sl.offMap {w w' : World} {v : Value} {k : Nat} {vs : List Value} {mb : Nat} {es : Array MapEntry} {c : Nat} (h : Sl w v k vs) (hm : w.heap[mb]? = some (.map es c)) (e : Upd (In [(mb, Obj.map es c)]) w w') : Sl w' v k vs := by
  by_cases hv : vs = []
  · subst hv; exact h.upd0
  · refine h.upd e ?_
    rcases h with ⟨-, h⟩ | ⟨a, m, c', rfl, h1, h2, hs, h3⟩
    · exact absurd h hv
    · intro hi
      simp only [In, List.map_cons, List.map_nil, List.mem_singleton] at hi
      cases vs with
      | nil => exact hv rfl
      | cons u us =>
        have h4 := h3 0 u rfl
        rw [hi] at h4
        simp [World.cell?, hm] at h4
theorem SlO.offMap {D : Nat → Prop} {w w' : World} {v : Value} {k : Nat} {vs : List Value} {mb : Nat} {es : Array MapEntry} {c : Nat} (h : SlO D w v k vs) (hm : w.heap[mb]? = some (.map es c)) (e : Upd (In [(mb, Obj.map es c)]) w w') : SlO D w' v k vs := ⟨h.1.offMap hm e, h.2⟩

/-- The first elements of a slice, whatever the world. -/
theorem r_cutvH {t e k m : Nat} {v : Value} {kk : IntKind} {i : Int} {hi : Nat} {vs : List Value} {w0 : World} (hv : Sl w0 v k vs) (hm : vs.length = m * k) (hk : 0 < k) (h1 : hi ≤ m) (hu : P.underlying t = some (.slice e)) (hs : sizeT P e = some k) (hi1 : i = (hi : Int)) :
    ∃ v', (∀ w, (Instr.sliceAt t v none (some (.int kk i)) none).run P w = Result.ok v' w) ∧ ∀ w, Sl w v k vs → Sl w v' k (vs.take (hi * k)) := by
  have hv' := hv
  obtain ⟨a, c, rfl, hc⟩ := hv.shape hm hk
  have key : ∀ w, (Instr.sliceAt t (.slice a m c) none (some (.int kk i)) none).run P w = Result.ok (.slice (if c = 0 then a else a.map (·.add (0 * k))) (hi - 0) (c - 0)) w := fun w => by
    have hb : (Instr.sliceBounds true m c none (some (.int kk i)) none).run P w = Result.ok (0, hi, c) w := by
      unfold Instr.sliceBounds
      rw [sem_bind (a := c) (w' := w) (by simp [pure, Sem.run])]
      simp only
      rw [sem_bind (a := hi) (w' := w) (run_sliceBound hi1 (by omega) w)]
      rfl
    unfold Instr.sliceAt
    rw [sem_bind (run_underlying' hu w)]
    simp only
    unfold Instr.slice
    rw [sem_bind (run_underlying' hu w)]
    simp only
    rw [sem_bind hb]
    simp only
    rw [sem_bind (run_sizeT hs w)]
    rfl
  refine ⟨_, key, fun w hw => ?_⟩
  obtain ⟨v', h2, h3, -⟩ := run_slice_slH (kk := kk) hu hs hw hm hk hi1 h1
  rw [key w] at h2
  injection h2 with h2 _
  rw [h2]
  exact h3
section
variable {ops : Array Oper} {E : List Nat} {C C2 : World → Prop} {K : St → Prop} {i : Nat} {l : List Nat} {s : St} {d : Nat} {ty : TypeId} {p : String} {af : Array Edge} {g : Option (Nat × Bool)}
theorem q_cutvH {t e k m : Nat} {x hi : Operand} {v : Value} {vs : List Value} {kk : IntKind} {z : Int} {w0 : World} (a : Nat) (hv : Sl w0 v k vs) (hm : vs.length = m * k) (h1 : a ≤ m) (hk0 : 0 < k) (ho : ops[i]? = some ⟨some d, .slice t x none (some hi) none, ty, p, af, g⟩) (hw : Region.wanted ⟨some d, .slice t x none (some hi) none, ty, p, af, g⟩ (yieldedE ops n s) = true) (hu : P.underlying t = some (.slice e)) (hs : sizeT P e = some k)
    (hx : rd n s x = v) (hlo : rd n s hi = .int kk z) (hi1 : z = (a : Int))
    (hk : ∀ v', (∀ w, Sl w v k vs → Sl w v' k (vs.take (a * k))) → OpsQ P r n ops E C C2 K l (s.set d v')) : OpsQ P r n ops E C C2 K (i :: l) s := by
  obtain ⟨v', hr, hv'⟩ := r_cutvH (kk := kk) hv hm hk0 h1 hu hs hi1
  refine q_pur ho hw rfl (fun w => ?_) (hk v' hv')
  rw [Oper.semAt_eq _ _ _ (fun c e => by cases e)]
  simp only [execOp, hx, hlo, Option.map_some, Option.map_none]
  rw [sem_bind (hr w)]
  rfl
end
end Go.Pd
namespace Go.Proofs
open Go Go.Pd Go.Ne
attribute [local irreducible] OpsL W RetQ OpsQ OpsC
def HasM (w0 : World) (s : Net) (p : Nat) (ks : List (Value × List Value)) (mb : Nat) (l : List Tx) (w : World) : Prop :=
  Bd s ∧ ∃ bl es c, LH w0 (fun _ => False) w (bl ++ [(mb, Obj.map es c)]) ∧ NetR s p bl w ∧ MapR str es (boolM l) ∧ ∀ q ∈ ks, SlO (Go.Pd.In bl) w q.1 1 q.2
section
variable {w0 : World} {s : Net} {p : Nat} {ks : List (Value × List Value)} {mb : Nat} {l : List Tx} {w : World}
theorem NetOK.offMap {D : NetB} {s : Net} {w w' : World} {mb : Nat} {es : Array MapEntry} {c : Nat} (h : NetOK D s w) (hm : w.heap[mb]? = some (.map es c)) (e : Upd (Go.Pd.In [(mb, Obj.map es c)]) w w') : NetOK D s w' :=
  ⟨h.np, h.nv, h.nd, h.qm, h.qg, fun a b ha hb => ⟨(h.qu a b ha hb).a, (h.qu a b ha hb).l, fun q hq => ((h.qu a b ha hb).s q hq).offMap hm e⟩, h.cm, h.ck, h.am⟩
theorem HasM.mk {w1 : World} (h : HasK w0 s p [] w) (h1 : LH w (fun _ => False) w1 [(mb, .map #[] 0)]) : HasM w0 s p [] mb [] w1 := by
  obtain ⟨h0, bl, h2, h3, -⟩ := h
  exact ⟨h0, bl, #[], 0, (h2.join h1).perm List.perm_append_comm, h3.ext h1.done, MapR.nil, fun _ h => nomatch h⟩
theorem HasM.ext {w' : World} (h : HasM w0 s p ks mb l w) (e : Ext w w') : HasM w0 s p ks mb l w' := by
  obtain ⟨h0, bl, es, c, h1, h2, h3, h4⟩ := h
  exact ⟨h0, bl, es, c, h1.ext e, h2.ext e, h3, fun q hq => (h4 q hq).ext e⟩
theorem HasM.done (h : HasM w0 s p ks mb l w) : Ext w0 w := by
  obtain ⟨-, bl, es, c, h1, -⟩ := h
  exact h1.done
theorem HasM.np (h : HasM w0 s p ks mb l w) : 1 ≤ s.n ∧ s.n ≤ 8 := by
  obtain ⟨-, bl, es, c, -, ⟨D, -, -, hok, -⟩, -⟩ := h
  exact hok.np
theorem HasM.sl (h : HasM w0 s p ks mb l w) {q : Value × List Value} (hq : q ∈ ks) : Sl w q.1 1 q.2 := by
  obtain ⟨-, bl, es, c, -, -, -, h3⟩ := h
  exact (h3 q hq).1
theorem HasM.drop (h : HasM w0 s p ks mb l w) {ks' : List (Value × List Value)} (hk : ∀ q ∈ ks', q ∈ ks) : HasM w0 s p ks' mb l w := by
  obtain ⟨h0, bl, es, c, h1, h2, h3, h4⟩ := h
  exact ⟨h0, bl, es, c, h1, h2, h3, fun q hq => h4 q (hk q hq)⟩
/-- A slice in memory made since is kept. -/
theorem HasM.keep {w' : World} {v : Value} {vs : List Value} {acc : List (Nat × Obj)} {E : TypeId} {m : Nat} (h : HasM w0 s p ks mb l w) (hl : LH w (fun _ => False) w' acc) (ha : Acc v 1 E m vs acc) : HasM w0 s p ((v, vs) :: ks) mb l w' := by
  obtain ⟨h0, bl, es, c, h1, h2, h3, h4⟩ := h
  refine ⟨h0, bl, es, c, h1.ext hl.done, h2.ext hl.done, h3, fun q hq => ?_⟩
  rcases List.mem_cons.1 hq with rfl | hq
  · exact SlO.fresh hl ha fun z hz => h1.lt (List.mem_append_left _ hz)
  · exact (h4 q hq).ext hl.done
/-- The map alone. -/
theorem HasM.map (h : HasM w0 s p ks mb l w) : ∃ es c, w.heap[mb]? = some (.map es c) ∧ MapR str es (boolM l) ∧ Own w [(mb, Obj.map es c)] ∧
    ∀ w' es' c' l', LH w (Go.Pd.In [(mb, Obj.map es c)]) w' [(mb, .map es' c')] → MapR str es' (boolM l') → HasM w0 s p ks mb l' w' := by
  obtain ⟨h0, bl, es, c, h1, h2, h3, h4⟩ := h
  have h5 : LH w0 (fun _ => False) w ([(mb, Obj.map es c)] ++ bl) := h1.perm List.perm_append_comm
  have hm : w.heap[mb]? = some (.map es c) := h5.get 0 rfl
  refine ⟨es, c, hm, h3, Own.part h5.owned, fun w' es' c' l' hl hm' => ?_⟩
  have h6 := (h5.focus hl).perm List.perm_append_comm
  obtain ⟨D, rfl, rfl, hok, hown⟩ := h2
  exact ⟨h0, _, es', c', h6, ⟨D, rfl, rfl, NetOK.offMap hok hm hl.upd, (h6.sub (List.sublist_append_left _ _)).owned⟩, hm', fun q hq => (h4 q hq).offMap hm hl.upd⟩
theorem HasM.step {s' : Net} {w' : World} {bl bl' : List (Nat × Obj)} {es : Array MapEntry} {c : Nat} (h1 : LH w0 (fun _ => False) w (bl ++ [(mb, Obj.map es c)])) (h2 : MapR str es (boolM l)) (h3 : ∀ q ∈ ks, SlO (Go.Pd.In bl) w q.1 1 q.2) (hb : Bd s') (h4 : LH w (Go.Pd.In bl) w' bl') (h5 : NetR s' p bl' w') : HasM w0 s' p ks mb l w' :=
  ⟨hb, bl', es, c, h1.focus h4, h5, h2, fun q hq => (h3 q hq).step h4⟩
theorem HasM.send (h : HasM w0 s p ks mb l w) (a b : Nat) : Calls Try.prog 15 #[.pointer (some ⟨p, 0, none⟩), .int .i64 (a : Int), .int .i64 (b : Int)] w (fun e w' => ∃ v, e = .returned v ∧ v = .int .i64 (sendE s a b : Int) ∧ HasM w0 (send s a b) p ks mb l w') := by
  obtain ⟨h0, bl, es, c, h1, h2, hm, h3⟩ := h
  refine (send_calls h2 a b (fun a => Nat.le_trans (h0.len a) (by omega)) h0.q).mono ?_
  rintro e w' ⟨v, rfl, rfl, bl', h4, h5⟩
  exact ⟨_, rfl, rfl, .step h1 hm h3 (h0.send a b) h4 h5⟩
theorem HasM.deliver (h : HasM w0 s p ks mb l w) (a b : Nat) (lost again : Bool) : Calls Try.prog 17 #[.pointer (some ⟨p, 0, none⟩), .int .i64 (a : Int), .int .i64 (b : Int), .bool lost, .bool again] w (fun e w' => ∃ v, e = .returned v ∧ v = .bool (delivB s a b) ∧ HasM w0 (deliver s a b lost again) p ks mb l w') := by
  obtain ⟨h0, bl, es, c, h1, h2, hm, h3⟩ := h
  refine (deliver_calls h2 a b lost again (fun a => Nat.le_trans (h0.len a) (by omega)) (fun x y m hm => Nat.le_trans (h0.m x y m hm) (by omega))).mono ?_
  rintro e w' ⟨v, rfl, rfl, bl', h4, h5⟩
  exact ⟨_, rfl, rfl, .step h1 hm h3 (h0.deliver a b lost again) h4 h5⟩
theorem HasM.cut (h : HasM w0 s p ks mb l w) (a b : Nat) (off : Bool) : Calls Try.prog 19 #[.pointer (some ⟨p, 0, none⟩), .int .i64 (a : Int), .int .i64 (b : Int), .bool off] w (fun e w' => ∃ v, e = .returned v ∧ v = .int .i64 (setE s a b : Int) ∧ HasM w0 (setCut s a b off) p ks mb l w') := by
  obtain ⟨h0, bl, es, c, h1, h2, hm, h3⟩ := h
  refine (cut_calls h2 a b off).mono ?_
  rintro e w' ⟨v, rfl, rfl, bl', h4, h5⟩
  exact ⟨_, rfl, rfl, .step h1 hm h3 (h0.setCut a b off) h4 h5⟩
theorem HasM.has (h : HasM w0 s p ks mb l w) (i : Nat) : Calls Try.prog 22 #[.pointer (some ⟨p, 0, none⟩), .int .i64 (i : Int)] w (fun e w' => ∃ v, e = .returned v ∧ HasM w0 s p ((v, strL (has s i)) :: ks) mb l w') := by
  have hk := h
  obtain ⟨h0, bl, es, c, h1, h2, hm, h3⟩ := h
  refine (has_calls h2 i (fun a => Nat.le_trans (h0.len a) (by omega))).mono ?_
  rintro e w' ⟨v, rfl, acc, hl, ha⟩
  exact ⟨v, rfl, hk.keep hl ha⟩
theorem HasM.doOp (h : HasM w0 s p ks mb l w) (o : Opn) (ho : OpOK o) {n : Nat} (hn : n = s.n) : Calls Try.prog 27 #[.pointer (some ⟨p, 0, none⟩), .int .i64 (n : Int), .agg (opC o).toArray] w (fun e w' => ∃ v, e = .returned v ∧ HasM w0 (doOp s o) p ks mb l w') := by
  subst hn
  obtain ⟨h0, bl, es, c, h1, h2, hm, h3⟩ := h
  refine (do_calls h2 ⟨fun a => Nat.le_trans (h0.len a) (by omega), h0.q, fun x y m hm => Nat.le_trans (h0.m x y m hm) (by omega)⟩ o ho).mono ?_
  rintro e w' ⟨v, rfl, bl', h4, h5⟩
  exact ⟨_, rfl, .step h1 hm h3 (h0.doOp o) h4 h5⟩
end
theorem Sl.lenv {w : World} {v : Value} {l : List Tx} (hv : Sl w v 1 (strL l)) : ∃ a c, v = .slice a l.length c := by
  obtain ⟨pa, ca, rfl, -⟩ := hv.shape (strL_len l) (by omega)
  exact ⟨pa, ca, rfl⟩
end Go.Proofs
