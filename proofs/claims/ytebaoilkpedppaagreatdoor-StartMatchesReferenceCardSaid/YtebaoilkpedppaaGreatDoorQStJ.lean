/-
  Conditions of commencement: Holds.
-/
import Derived.Test.YtebaoilkpedppaaGreatDoorQSF
set_option linter.unusedVariables false
set_option linter.unusedSimpArgs false
set_option linter.unnecessarySimpa false
set_option maxRecDepth 10000
namespace Go.Sta
theorem stuOf_cons (x : Stu) (l : List Stu) (id : Tx) : stuOf (x :: l) id = if x.id = id then some x else stuOf l id := by
  unfold stuOf
  rw [List.find?_cons]
  by_cases h : x.id = id <;> simp [h]
theorem drop_back {α : Type} (l : List α) {k : Nat} (h : k < l.length) : l.drop (l.length - (k + 1)) = l[l.length - 1 - k] :: l.drop (l.length - k) := by
  have e : l.length - (k + 1) = l.length - 1 - k := by omega
  rw [e, List.drop_eq_getElem_cons (by omega)]
  congr 2
  omega
end Go.Sta
namespace Go.Pd
open Go
section
variable {P : Program} {r : Option Nat} {n : Nat} {ops : Array Oper} {T : List Nat} {C : Nat → World → Prop} {K : St → Prop} {i : Nat} {l : List Nat} {s : St} {k : Nat} {ty : TypeId} {p : String} {af : Array Edge} {g : Option (Nat × Bool)}
theorem s_ent {mt : TypeId} {x y : Operand} {v a m : Value} (j0 j1 : Nat) (ho : ops[i]? = some ⟨some k, .mapEntry mt x y, ty, p, af, g⟩) (hw : Region.wanted ⟨some k, .mapEntry mt x y, ty, p, af, g⟩ (yieldedE ops n s) = true) (hT : T.contains i = true) (hst : stagesOf ops T i = [j0]) (hnx : nextS T i j0 = j1) (hx : rd n s x = m) (hy : rd n s y = a)
    (h : ∀ w, C j0 w → ∃ w', (Instr.mapEntry mt m a).run P w = .ok v w' ∧ C j1 w') (hk : OpsS P r n ops T C K l (s.set k v)) : OpsS P r n ops T C K (i :: l) s := by
  have hp : (isPur (Op.mapEntry mt x y) && !T.contains i) = false := by rw [hT]; simp
  simp only [OpsS, ho, hw, if_true, hp, Bool.false_eq_true, if_false]
  refine ⟨v, fun j hj w hC => ?_, hk⟩
  rw [hst] at hj
  obtain rfl := List.mem_singleton.1 hj
  rw [hnx]
  obtain ⟨w', h1, h2⟩ := h w hC
  have hr : (Oper.semAt r (rd n s) ⟨some k, .mapEntry mt x y, ty, p, af, g⟩).run P w = .ok (.value v) w' := by
    rw [Oper.semAt_eq _ _ _ (fun c e => by cases e)]
    simp only [execOp, hx, hy]
    rw [sem_bind h1]
    rfl
  rw [hr]
  exact ⟨rfl, h2⟩
theorem s_est {mt : TypeId} {x y z : Operand} {v a m : Value} (j0 j1 : Nat) (ho : ops[i]? = some ⟨none, .entryStore mt x y z, ty, p, af, g⟩) (hw : Region.wanted ⟨none, .entryStore mt x y z, ty, p, af, g⟩ (yieldedE ops n s) = true) (hT : T.contains i = true) (hst : stagesOf ops T i = [j0]) (hnx : nextS T i j0 = j1) (hx : rd n s x = m) (hy : rd n s y = a) (hz : rd n s z = v)
    (h : ∀ w, C j0 w → ∃ w', (Instr.entryStore mt m a v).run P w = .ok () w' ∧ C j1 w') (hk : OpsS P r n ops T C K l s) : OpsS P r n ops T C K (i :: l) s := by
  have hp : (isPur (Op.entryStore mt x y z) && !T.contains i) = false := by rw [hT]; simp
  refine s_unit ho hw hp (fun j hj w hC => ?_) hk
  rw [hst] at hj
  obtain rfl := List.mem_singleton.1 hj
  rw [hnx]
  obtain ⟨w', h1, h2⟩ := h w hC
  refine ⟨w', ?_, h2⟩
  rw [Oper.semAt_eq _ _ _ (fun c e => by cases e)]
  simp only [execOp, hx, hy, hz]
  rw [sem_bind h1]
  rfl
end
end Go.Pd
namespace Go.Proofs
open Go Go.Pd Go.Sta
attribute [local irreducible] OpsL W RetQ OpsQ OpsC
def MapS (es : Array MapEntry) (c : Nat) (g : Tx → Option Int) : Prop := ∃ l, MapB str es c l ∧ ∀ id, get l id = (g id).map (Value.int .i64 ·)
def hoL (s : Sn) (kv : Value) (E : Env) (hv lv : Value) (b5 mb mo wb pb bl D : Nat) (o1 o2 : Obj) (rec : Loop) : List (Nat × Obj) :=
  [(D + 1, .loop rec), (D, .deferred (some [])), (bl, .cells [lv].toArray 36 (0, 0)), (pb, .cells [.pointer (some ⟨wb, 0, none⟩)].toArray 61 (0, 0)), (wb, .cells (worldL E hv mb mo).toArray 64 (0, 0)), (mo, o2), (mb, o1), (b5, .cells (snL s kv).toArray 24 (0, 0))]
def HoJ (w : World) (s : Sn) (kv : Value) (E : Env) (hv lv : Value) (b5 mb mo wb pb bl D : Nat) (rec : Loop) (k : Nat) (w' : World) : Prop := ∃ es1 c1 es2 c2, MapS es1 c1 (fun id => (stuOf (E.l.drop (E.l.length - k)) id).map (·.begin_)) ∧ MapS es2 c2 (fun id => (stuOf (E.l.drop (E.l.length - k)) id).map (·.end_)) ∧ LH w (fun _ => False) w' (hoL s kv E hv lv b5 mb mo wb pb bl D (.map es1 c1) (.map es2 c2) rec)
set_option maxHeartbeats 2000000 in
theorem holds_calls {s : Sn} {E : Env} {w : World} {kv hv lv : Value} (hk : KA w s.kids kv) (hfit : fitS s) (hH : Sl w hv 4 (E.h.flatMap hapL)) (hL : Sl w lv 4 (E.l.flatMap stuL)) (h1 : E.h.length ≤ 1000000) (h2 : E.l.length ≤ 1000000) :
    Calls Tryz.prog 14 #[.agg (snL s kv).toArray, .int .i64 E.day, hv, .int .i64 E.known, lv] w (fun e w' => ∃ v, e = .returned v ∧ v = .bool (holds E s) ∧ Ext w w') := by
  obtain ⟨ha, hc, rfl, hcap⟩ := hH.shape (flat_length hapL_len E.h) (by omega)
  obtain ⟨la, lc, rfl, lcap⟩ := hL.shape (flat_length stuL_len E.l) (by omega)
  refine calls_of Tryz.func14 rfl Tryz.ntmps14 rfl ?_
  refine wk_seq fun K hK => ?_
  refine wk_reg ?_
  refine o_box (LH.start w (fun _ => False)) (snL s kv) rfl rfl rfl ?_
  intro b5 w1 hb5 hl
  repeat' (first | refine a_mov ?_ | refine a_asg ?_ | refine a_binN ?_ | refine a_notd ?_ | refine a_notb ?_ | refine a_nilc ?_ | refine a_fa ?_ | refine a_ext ?_ | refine a_lenv ?_ | refine a_lens ?_ | refine a_pick_t ?_ | refine a_pick_f ?_ | refine a_not ?_ | refine a_nilf ?_ | (refine o_nil (hK _ _ ?_); clear hK K) | refine wk_reg ?_ | refine wk_seq fun K hK => ?_ | (refine wk_skip (hK _ _ ?_); clear hK K) | (refine wk_label (hK _ _ ?_); clear hK K) | refine wk_scope ?_ | refine wk_block ?_ | refine wk_cond_t rfl ?_ | refine wk_cond_f rfl ?_ | (refine wk_exit ?_; (repeat (refine blockK_other rfl ?_)); refine blockK_same ?_; try ((repeat ((fail_if_success (refine hK _ _ ?_)); clear hK K)); refine hK _ _ ?_; clear hK K)) | (refine a_bin ?_ ?_ <;> intro _ <;> try (exfalso; omega)) | refine a_ld hl ?_ | (refine a_st hl ?_; clear hl; intro _ hl) | refine a_ix (fun _ => ?_) | fail)
  refine o_makeMap hl rfl ?_
  clear hl
  intro mb w2 hmb hl
  refine o_makeMap hl rfl ?_
  clear hl
  intro mo w3 hmo hl
  refine o_build [.int .i64 E.day, .int .i64 E.known, .slice ha E.h.length hc, .map (some mb), .map (some mo)] rfl rfl ?_
  refine o_box hl [.int .i64 E.day, .int .i64 E.known, .slice ha E.h.length hc, .map (some mb), .map (some mo)] rfl rfl rfl ?_
  clear hl
  intro wb w4 hwb hl
  refine o_alloc hl [.pointer none] (by kernel_rfl) rfl ?_
  clear hl
  intro pb w5 hpb hl
  refine o_put1 (b := pb) (o := 0) (v := .pointer (some ⟨wb, 0, none⟩)) hl rfl rfl rfl ⟨rfl, rfl⟩ rfl (.here rfl rfl) ?_
  clear hl
  intro w6 hl
  repeat' (first | refine a_mov ?_ | refine a_asg ?_ | refine a_binN ?_ | refine a_notd ?_ | refine a_notb ?_ | refine a_nilc ?_ | refine a_fa ?_ | refine a_ext ?_ | refine a_lenv ?_ | refine a_lens ?_ | refine a_pick_t ?_ | refine a_pick_f ?_ | refine a_not ?_ | refine a_nilf ?_ | (refine o_nil (hK _ _ ?_); clear hK K) | refine wk_reg ?_ | refine wk_seq fun K hK => ?_ | (refine wk_skip (hK _ _ ?_); clear hK K) | (refine wk_label (hK _ _ ?_); clear hK K) | refine wk_scope ?_ | refine wk_block ?_ | refine wk_cond_t rfl ?_ | refine wk_cond_f rfl ?_ | (refine wk_exit ?_; (repeat (refine blockK_other rfl ?_)); refine blockK_same ?_; try ((repeat ((fail_if_success (refine hK _ _ ?_)); clear hK K)); refine hK _ _ ?_; clear hK K)) | (refine a_bin ?_ ?_ <;> intro _ <;> try (exfalso; omega)) | refine a_ld hl ?_ | (refine a_st hl ?_; clear hl; intro _ hl) | refine a_ix (fun _ => ?_) | fail)
  refine a_fn (back_calls (lv := .slice la E.l.length lc) rfl) ?_
  rintro _ w7 ⟨bl, rfl, hl7⟩
  replace hl := hl.join hl7
  clear hl7
  repeat' (first | refine a_mov ?_ | refine a_asg ?_ | refine a_binN ?_ | refine a_notd ?_ | refine a_notb ?_ | refine a_nilc ?_ | refine a_fa ?_ | refine a_ext ?_ | refine a_lenv ?_ | refine a_lens ?_ | refine a_pick_t ?_ | refine a_pick_f ?_ | refine a_not ?_ | refine a_nilf ?_ | (refine o_nil (hK _ _ ?_); clear hK K) | refine wk_reg ?_ | refine wk_seq fun K hK => ?_ | (refine wk_skip (hK _ _ ?_); clear hK K) | (refine wk_label (hK _ _ ?_); clear hK K) | refine wk_scope ?_ | refine wk_block ?_ | refine wk_cond_t rfl ?_ | refine wk_cond_f rfl ?_ | (refine wk_exit ?_; (repeat (refine blockK_other rfl ?_)); refine blockK_same ?_; try ((repeat ((fail_if_success (refine hK _ _ ?_)); clear hK K)); refine hK _ _ ?_; clear hK K)) | (refine a_bin ?_ ?_ <;> intro _ <;> try (exfalso; omega)) | refine a_ld hl ?_ | (refine a_st hl ?_; clear hl; intro _ hl) | refine a_ix (fun _ => ?_) | fail)
  refine wk_rangeFunc rfl (fun _ _ => rfl) ?_
  intro fn tm w8 hfits hheap
  generalize hD : w7.heap.size = D at hheap ⊢
  generalize hrec : Loop.mk _ _ _ _ _ _ _ _ = rec at hheap
  have hl8 : LH w (fun _ => False) w8 (hoL s kv E (.slice ha E.h.length hc) (.slice la E.l.length lc) b5 mb mo wb pb bl D (.map #[] 0) (.map #[] 0) rec) := by
    have h1 := ((hl.alloc (.deferred (some []))).alloc (.loop rec)).heap hheap
    simp only [Array.size_push] at h1
    rw [hD] at h1
    exact h1
  clear hl hheap
  have hdrop : E.l.drop (E.l.length - 0) = [] := by simp
  refine Calls.mono (back1_calls (l := E.l) (lv := .slice la E.l.length lc) (b1 := bl) (HoJ w s kv E (.slice ha E.h.length hc) (.slice la E.l.length lc) b5 mb mo wb pb bl D rec) ?_ (by omega) ?_ ⟨#[], 0, #[], 0, ⟨[], MapB.nil 0, fun id => by rw [hdrop]; rfl⟩, ⟨[], MapB.nil 0, fun id => by rw [hdrop]; rfl⟩, hl8⟩) ?_
  · rintro k w' ⟨es1, c1, es2, c2, -, -, h⟩
    exact ⟨h.rowL (vs := [.slice la E.l.length lc]) 2 0 1 rfl, hL.ext h.done⟩
  · rintro k hk1 wa ⟨es1, c1, es2, c2, hM1, hM2, hb⟩
    refine callV_round (n := 52) (hb.get 0 rfl) (congrArg Loop.params hrec.symm) (congrArg Loop.assign hrec.symm) (congrArg Loop.body hrec.symm) rfl (by rw [show rec.tmps = tm from congrArg Loop.tmps hrec.symm]; exact hfits) ?_
    have hready : rec.state = .ready := congrArg Loop.state hrec.symm
    have hpend : rec.pending = none := congrArg Loop.pending hrec.symm
    have hrr : ({ rec with state := .ready, pending := none } : Loop) = rec := by
      cases rec
      simp only at hready hpend
      rw [hready, hpend]
    clear hl8 hfits hrec
    dsimp only
    refine wk_reg ?_
    refine o_alloc hb.rb [.string "".toByteArray, .int .i64 0, .int .i64 0, .int .i64 0] (by kernel_rfl) rfl ?_
    intro b13 w13 hb13 hl
    generalize hx : E.l[E.l.length - 1 - k] = x
    refine o_putN (us := stuL x) hl rfl rfl rfl (by simp only [stuL, List.all_cons, List.all_nil, oneCell_str]; rfl) rfl (.here rfl rfl) ?_
    clear hl
    intro w14 hl
    refine o_nil ⟨_, hl.get 1 rfl, hready, ?_⟩
    intro w15 hw15
    replace hl := hl.put 1 rfl hw15
    obtain ⟨l1, m1, g1⟩ := hM1
    obtain ⟨l2, m2, g2⟩ := hM2
    obtain ⟨fs1, d1, k1, j1, e1, u1, run1, n1, at1, lt1, set1⟩ := run_mapEntry (P := Tryz.prog) (mt := 62) (b := mb) (a := x.id) rfl (key_str rfl) rfl m1
    obtain ⟨fs2, d2, k2, j2, e2, u2, run2, n2, at2, lt2, set2⟩ := run_mapEntry (P := Tryz.prog) (mt := 62) (b := mo) (a := x.id) rfl (key_str rfl) rfl m2
    repeat' (first | refine a_mov ?_ | refine a_asg ?_ | refine a_binN ?_ | refine a_notd ?_ | refine a_notb ?_ | refine a_nilc ?_ | refine a_fa ?_ | refine a_ext ?_ | refine a_lenv ?_ | refine a_lens ?_ | refine a_pick_t ?_ | refine a_pick_f ?_ | refine a_not ?_ | refine a_nilf ?_ | (refine o_nil (hK _ _ ?_); clear hK K) | refine wk_reg ?_ | refine wk_seq fun K hK => ?_ | (refine wk_skip (hK _ _ ?_); clear hK K) | (refine wk_label (hK _ _ ?_); clear hK K) | refine wk_scope ?_ | refine wk_block ?_ | refine wk_cond_t rfl ?_ | refine wk_cond_f rfl ?_ | (refine wk_exit ?_; (repeat (refine blockK_other rfl ?_)); refine blockK_same ?_; try ((repeat ((fail_if_success (refine hK _ _ ?_)); clear hK K)); refine hK _ _ ?_; clear hK K)) | (refine a_bin ?_ ?_ <;> intro _ <;> try (exfalso; omega)) | refine a_ld hl ?_ | (refine a_st hl ?_; clear hl; intro _ hl) | refine a_ix (fun _ => ?_) | fail)
    obtain ⟨O1, hO1⟩ : ∃ O1 : Nat → Obj, O1 = fun q => if q = 0 then .map es1 c1 else if q = 1 then .map fs1 d1 else .map (fs1.modify j1 fun e => { e with val := .int .i64 x.begin_ }) d1 := ⟨_, rfl⟩
    obtain ⟨O2, hO2⟩ : ∃ O2 : Nat → Obj, O2 = fun q => if q ≤ 2 then .map es2 c2 else if q = 3 then .map fs2 d2 else .map (fs2.modify j2 fun e => { e with val := .int .i64 x.end_ }) d2 := ⟨_, rfl⟩
    refine wk_stage (List.range 22) [16, 18, 19, 21] (fun q w' => LH wa _ w' ((b13, .cells (stuL x).toArray 41 (0, 0)) :: hoL s kv E (.slice ha E.h.length hc) (.slice la E.l.length lc) b5 mb mo wb pb bl D (O1 q) (O2 q) { rec with state := .busy })) rfl (by kernel_rfl) (fun w' h => by rw [hO1, hO2]; exact hl.heap h) ?_
    repeat' (first | refine t_mov ?_ | refine t_asg ?_ | refine t_fa ?_ | refine t_ext ?_ | refine t_notb ?_ | refine t_pick_t ?_ | refine t_pick_f ?_ | refine t_nilc ?_ | refine t_skip ?_ | refine s_nil ?_ | refine t_row (fun q w_ h_ => h_.rowL (vs := stuL x) 0 0 4 rfl) ?_ | refine t_row (fun q w_ h_ => h_.rowL (vs := [.pointer (some ⟨wb, 0, none⟩)]) 4 0 1 rfl) ?_ | refine t_row (fun q w_ h_ => h_.rowL (vs := worldL E (.slice ha E.h.length hc) mb mo) 5 0 5 rfl) ?_)
    have p0 : O1 0 = .map es1 c1 := by rw [hO1]; rfl
    have p1 : O1 1 = .map fs1 d1 := by rw [hO1]; rfl
    have p2 : ∀ q, 2 ≤ q → O1 q = .map (fs1.modify j1 fun e => { e with val := .int .i64 x.begin_ }) d1 := fun q hq => by rw [hO1]; simp only; rw [if_neg (by omega), if_neg (by omega)]
    have r0 : ∀ q, q ≤ 2 → O2 q = .map es2 c2 := fun q hq => by rw [hO2]; simp only; rw [if_pos hq]
    have r3 : O2 3 = .map fs2 d2 := by rw [hO2]; rfl
    have r4 : O2 4 = .map (fs2.modify j2 fun e => { e with val := .int .i64 x.end_ }) d2 := by rw [hO2]; rfl
    refine s_ent (v := .tuple #[(get l1 x.id).getD (.int .i64 0), .int .i64 (e1.born : Int)]) (m := .map (some mb)) (a := str x.id) 0 1 rfl rfl rfl (by kernel_rfl) (by kernel_rfl) rfl rfl (fun w_ h_ => ?_) ?_
    rotate_left
    refine t_ext ?_
    refine s_est (m := .map (some mb)) (a := .int .i64 (e1.born : Int)) (v := .int .i64 x.begin_) 1 2 rfl rfl rfl (by kernel_rfl) (by kernel_rfl) rfl rfl rfl (fun w_ h_ => ?_) ?_
    rotate_left
    refine s_ent (v := .tuple #[(get l2 x.id).getD (.int .i64 0), .int .i64 (e2.born : Int)]) (m := .map (some mo)) (a := str x.id) 2 3 rfl rfl rfl (by kernel_rfl) (by kernel_rfl) rfl rfl (fun w_ h_ => ?_) ?_
    rotate_left
    refine t_ext ?_
    refine s_est (m := .map (some mo)) (a := .int .i64 (e2.born : Int)) (v := .int .i64 x.end_) 3 4 rfl rfl rfl (by kernel_rfl) (by kernel_rfl) rfl rfl rfl (fun w_ h_ => ?_) ?_
    rotate_left
    refine s_nil ?_
    · intro w' h
      have h : LH wa _ w' ((b13, .cells (stuL x).toArray 41 (0, 0)) :: hoL s kv E (.slice ha E.h.length hc) (.slice la E.l.length lc) b5 mb mo wb pb bl D (O1 4) (O2 4) { rec with state := .busy }) := h
      rw [p2 4 (by omega), r4] at h
      refine ⟨_, h.get 1 rfl, fun w2 hw2 => ⟨rfl, ?_⟩⟩
      have h2 := h.put 1 rfl hw2
      have h3 : LH wa _ w2 (hoL s kv E (.slice ha E.h.length hc) (.slice la E.l.length lc) b5 mb mo wb pb bl D (.map (fs1.modify j1 fun e => { e with val := .int .i64 x.begin_ }) d1) (.map (fs2.modify j2 fun e => { e with val := .int .i64 x.end_ }) d2) { rec with state := .ready, pending := none }) := h2.sub (List.sublist_cons_self _ _)
      rw [hrr] at h3
      have hdr : E.l.drop (E.l.length - (k + 1)) = x :: E.l.drop (E.l.length - k) := by rw [drop_back E.l hk1, hx]
      refine ⟨_, d1, _, d2, ⟨_, MapB.store n1 lt1 _, fun id => ?_⟩, ⟨_, MapB.store n2 lt2 _, fun id => ?_⟩, hb.bk h3⟩
      · rw [set1, get_ins, hdr]
        simp only [stuOf_cons]
        by_cases hid : id = x.id
        · subst hid; simp
        · rw [if_neg hid, if_neg (fun e => hid e.symm)]; exact g1 id
      · rw [set2, get_ins, hdr]
        simp only [stuOf_cons]
        by_cases hid : id = x.id
        · subst hid; simp
        · rw [if_neg hid, if_neg (fun e => hid e.symm)]; exact g2 id
    · rw [p0, r0 0 (by omega)] at h_
      rw [p1, r0 1 (by omega)]
      exact ⟨_, run1 w_ (h_.get 7 rfl), h_.put 7 rfl ⟨rfl, rfl, rfl⟩⟩
    · rw [p1, r0 1 (by omega)] at h_
      rw [p2 2 (by omega), r0 2 (by omega)]
      exact ⟨_, run_entryStore n1 at1 rfl (h_.get 7 rfl), h_.put 7 rfl ⟨rfl, rfl, rfl⟩⟩
    · rw [p2 2 (by omega), r0 2 (by omega)] at h_
      rw [p2 3 (by omega), r3]
      exact ⟨_, run2 w_ (h_.get 6 rfl), h_.put 6 rfl ⟨rfl, rfl, rfl⟩⟩
    · rw [p2 3 (by omega), r3] at h_
      rw [p2 4 (by omega), r4]
      exact ⟨_, run_entryStore n2 at2 rfl (h_.get 6 rfl), h_.put 6 rfl ⟨rfl, rfl, rfl⟩⟩
  · rintro e w9 ⟨v, rfl, es1, c1, es2, c2, hM1, hM2, h⟩
    refine ⟨v, rfl, rec, h.get 0 rfl, by rw [← hrec]; exact fun h => (nomatch h), ?_⟩
    intro w10 hw10
    have hp : rec.pending = none := by rw [← hrec]
    rw [hp]
    dsimp only
    refine hK _ _ ?_
    clear hK K
    have hl := h.put 0 rfl hw10
    clear h
    have hl : LH w (fun _ => False) w10 (hoL s kv E (.slice ha E.h.length hc) (.slice la E.l.length lc) b5 mb mo wb pb bl D (.map es1 c1) (.map es2 c2) { rec with state := .exhausted }) := hl
    have hwm : WM w10 E wb := by
      rw [show E.l.length - E.l.length = 0 by omega, List.drop_zero] at hM1 hM2
      obtain ⟨l1, m1, g1⟩ := hM1
      obtain ⟨l2, m2, g2⟩ := hM2
      exact ⟨_, mb, mo, hl.rowL (vs := worldL E (.slice ha E.h.length hc) mb mo) 4 0 5 rfl, hH.ext hl.done, ⟨es1, c1, l1, hl.get 6 rfl, m1.r, g1⟩, ⟨es2, c2, l2, hl.get 5 rfl, m2.r, g2⟩⟩
    have hr5 : Row w10 b5 0 (snL s kv) := hl.rowL (vs := snL s kv) 7 0 4 rfl
    have hx10 := hl.done
    repeat' (first | refine a_mov ?_ | refine a_asg ?_ | refine a_binN ?_ | refine a_notd ?_ | refine a_notb ?_ | refine a_nilc ?_ | refine a_fa ?_ | refine a_ext ?_ | refine a_lenv ?_ | refine a_lens ?_ | refine a_pick_t ?_ | refine a_pick_f ?_ | refine a_not ?_ | refine a_nilf ?_ | (refine o_nil (hK _ _ ?_); clear hK K) | refine wk_reg ?_ | refine wk_seq fun K hK => ?_ | (refine wk_skip (hK _ _ ?_); clear hK K) | (refine wk_label (hK _ _ ?_); clear hK K) | refine wk_scope ?_ | refine wk_block ?_ | refine wk_cond_t rfl ?_ | refine wk_cond_f rfl ?_ | (refine wk_exit ?_; (repeat (refine blockK_other rfl ?_)); refine blockK_same ?_; try ((repeat ((fail_if_success (refine hK _ _ ?_)); clear hK K)); refine hK _ _ ?_; clear hK K)) | (refine a_bin ?_ ?_ <;> intro _ <;> try (exfalso; omega)) | refine a_ld hl ?_ | (refine a_st hl ?_; clear hl; intro _ hl) | refine a_ix (fun _ => ?_) | refine a_all hr5 ?_ | fail)
    have hpr10 : Row w10 pb 0 [.pointer (some ⟨wb, 0, none⟩)] := hl.rowL (vs := [.pointer (some ⟨wb, 0, none⟩)]) 3 0 1 rfl
    have hD10 : w10.heap[D]? = some (.deferred (some [])) := hl.get 1 rfl
    refine a_fn (valid_calls (hk.ext hx10) hfit) ?_
    rintro _ w11 ⟨rfl, hx11⟩
    have hho : holds E s = (validB s && hol E s) := rfl
    cases hval : validB s
    · repeat' (first | refine a_mov ?_ | refine a_asg ?_ | refine a_binN ?_ | refine a_notd ?_ | refine a_notb ?_ | refine a_nilc ?_ | refine a_fa ?_ | refine a_ext ?_ | refine a_lenv ?_ | refine a_lens ?_ | refine a_pick_t ?_ | refine a_pick_f ?_ | refine a_not ?_ | refine a_nilf ?_ | (refine o_nil (hK _ _ ?_); clear hK K) | refine wk_reg ?_ | refine wk_seq fun K hK => ?_ | (refine wk_skip (hK _ _ ?_); clear hK K) | (refine wk_label (hK _ _ ?_); clear hK K) | refine wk_scope ?_ | refine wk_block ?_ | refine wk_cond_t rfl ?_ | refine wk_cond_f rfl ?_ | (refine wk_exit ?_; (repeat (refine blockK_other rfl ?_)); refine blockK_same ?_; try ((repeat ((fail_if_success (refine hK _ _ ?_)); clear hK K)); refine hK _ _ ?_; clear hK K)) | (refine a_bin ?_ ?_ <;> intro _ <;> try (exfalso; omega)) | refine a_ld hl ?_ | (refine a_st hl ?_; clear hl; intro _ hl) | refine a_ix (fun _ => ?_) | fail)
      replace hl := hl.ext hx11
      refine wk_ret (retQ_res1 [.bool false] rfl rfl (hl.get 1 rfl) ?_)
      intro w13 hw13
      exact ⟨⟨by decide, rfl, trivial⟩, by rw [hho, hval]; rfl, (hl.put 1 rfl hw13).done⟩
    · repeat' (first | refine a_mov ?_ | refine a_asg ?_ | refine a_binN ?_ | refine a_notd ?_ | refine a_notb ?_ | refine a_nilc ?_ | refine a_fa ?_ | refine a_ext ?_ | refine a_lenv ?_ | refine a_lens ?_ | refine a_pick_t ?_ | refine a_pick_f ?_ | refine a_not ?_ | refine a_nilf ?_ | (refine o_nil (hK _ _ ?_); clear hK K) | refine wk_reg ?_ | refine wk_seq fun K hK => ?_ | (refine wk_skip (hK _ _ ?_); clear hK K) | (refine wk_label (hK _ _ ?_); clear hK K) | refine wk_scope ?_ | refine wk_block ?_ | refine wk_cond_t rfl ?_ | refine wk_cond_f rfl ?_ | (refine wk_exit ?_; (repeat (refine blockK_other rfl ?_)); refine blockK_same ?_; try ((repeat ((fail_if_success (refine hK _ _ ?_)); clear hK K)); refine hK _ _ ?_; clear hK K)) | (refine a_bin ?_ ?_ <;> intro _ <;> try (exfalso; omega)) | refine a_ld hl ?_ | (refine a_st hl ?_; clear hl; intro _ hl) | refine a_ix (fun _ => ?_) | refine a_row (hpr10.ext hx11) ?_ | refine a_all (hr5.ext hx11) ?_ | fail)
      refine a_fn (hol_calls E s w11 kv wb (hk.ext (hx10.trans hx11)) (hwm.ext hx11) hfit (by omega)) ?_
      rintro _ w12 ⟨rfl, hx12⟩
      repeat' (first | refine a_mov ?_ | refine a_asg ?_ | refine a_binN ?_ | refine a_notd ?_ | refine a_notb ?_ | refine a_nilc ?_ | refine a_fa ?_ | refine a_ext ?_ | refine a_lenv ?_ | refine a_lens ?_ | refine a_pick_t ?_ | refine a_pick_f ?_ | refine a_not ?_ | refine a_nilf ?_ | (refine o_nil (hK _ _ ?_); clear hK K) | refine wk_reg ?_ | refine wk_seq fun K hK => ?_ | (refine wk_skip (hK _ _ ?_); clear hK K) | (refine wk_label (hK _ _ ?_); clear hK K) | refine wk_scope ?_ | refine wk_block ?_ | refine wk_cond_t rfl ?_ | refine wk_cond_f rfl ?_ | (refine wk_exit ?_; (repeat (refine blockK_other rfl ?_)); refine blockK_same ?_; try ((repeat ((fail_if_success (refine hK _ _ ?_)); clear hK K)); refine hK _ _ ?_; clear hK K)) | (refine a_bin ?_ ?_ <;> intro _ <;> try (exfalso; omega)) | refine a_ld hl ?_ | (refine a_st hl ?_; clear hl; intro _ hl) | refine a_ix (fun _ => ?_) | fail)
      replace hl := (hl.ext hx11).ext hx12
      refine wk_ret (retQ_res1 [.bool (hol E s)] rfl rfl (hl.get 1 rfl) ?_)
      intro w13 hw13
      exact ⟨⟨by decide, rfl, trivial⟩, by rw [hho, hval]; rfl, (hl.put 1 rfl hw13).done⟩
end Go.Proofs
