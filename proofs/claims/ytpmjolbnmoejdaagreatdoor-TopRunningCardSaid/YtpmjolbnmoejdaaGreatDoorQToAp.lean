/-
  Migrations carried out (Apply).
-/
import Derived.Test.YtpmjolbnmoejdaaGreatDoorQToAp0
set_option linter.unusedVariables false
set_option linter.unusedSimpArgs false
set_option linter.unnecessarySimpa false
set_option maxRecDepth 10000
namespace Go.Proofs
open Go Go.Pd Go.Top
attribute [local irreducible] OpsL W RetQ OpsQ OpsC
def zeroMt : List Value := [.string ⟨#[]⟩, .int .i64 0, .slice none 0 0, .string ⟨#[]⟩, .int .i64 0, .slice none 0 0, .slice none 0 0, .slice none 0 0]
def AppOut (o : Option Mat) (v : Value) (w : World) : Prop := match o with
  | some b => ∃ z : MV, v = .tuple #[.agg (matL b z).toArray, .int .i64 0] ∧ MatIn w b z
  | none => ∃ e : Int, e ≠ 0 ∧ v = .tuple #[.agg zeroMt.toArray, .int .i64 e]
theorem mv_shape {w : World} {m : Mat} {x : MV} (h : MatIn w m x) : ∃ ca cc ma mc ra rc la lc, x = ⟨.slice ca m.cas.length cc, .slice ma m.moved.length mc, .slice ra m.rights.length rc, .slice la m.limits.length lc⟩ := by
  obtain ⟨xc, xm, xr, xl⟩ := x
  obtain ⟨⟨h1, -⟩, ⟨h2, -⟩, ⟨h3, -⟩, ⟨lp, hlp, h4, -⟩, -⟩ := h
  obtain ⟨ca, cc, rfl, -⟩ := sl_each intL_len (by decide) h1
  obtain ⟨ma, mc, rfl, -⟩ := sl_each intL_len (by decide) h2
  obtain ⟨ra, rc, rfl, -⟩ := sl_each rightL_len (by decide) h3
  obtain ⟨la, lc, rfl, -⟩ := sl_each limL_len (by decide) h4
  have : lp.length = m.limits.length := by rw [← hlp, List.length_map]
  rw [this]
  exact ⟨ca, cc, ma, mc, ra, rc, la, lc, rfl⟩
theorem apply_eq (m : Mat) (g : Mig) (p q : Proc) (day : Int) : applyB m g p q day = (if readyB m g p q day then
    match steps g.terms day m.limits with
    | none => none
    | some ls => some { m with proc := g.dst, stage := g.stages.getD m.stage.toNat (-1), rights := carry (renB g.rights) m.rights [], limits := ls }
  else none) := rfl
theorem ready_eq (m : Mat) (g : Mig) (p q : Proc) (day : Int) : readyB m g p q day = (validB g p q && formB m && decide (m.proc = g.src ∧ m.stage < p.stages.length) && isD day && decide (0 ≤ g.stages.getD m.stage.toNat (-1)) && decide (m.opened ≤ day) && decide (m.moved = [] ∨ m.moved.getLastD 0 ≤ day)) := rfl
set_option maxHeartbeats 16000000 in
theorem apply_calls {m : Mat} {g : Mig} {p q : Proc} {x : MV} {y : GV} {u v : PV} {day : Int} {w : World} (hm : MatIn w m x) (hg : MigIn w g y) (hp : ProcIn w p u) (hq : ProcIn w q v) (ht : Tabs w) :
    Calls Tryz.prog 9 #[.agg (matL m x).toArray, .agg (migL g y).toArray, .agg (procL p u).toArray, .agg (procL q v).toArray, .int .i64 day, .slice none 0 0] w (fun e w' => ∃ v, e = .returned v ∧ AppOut (applyB m g p q day) v w' ∧ Ext w w') := by
  have hap := apply_eq m g p q day
  have hrd := ready_eq m g p q day
  obtain ⟨ca, cc, ma, mc, ra, rc, la, lc, rfl⟩ := mv_shape hm
  obtain ⟨sa, sc, ga, gc, ta, tc, rfl⟩ := gv_shape hg
  obtain ⟨pa, pc, pma, pmc, rfl⟩ := pv_shape hp
  obtain ⟨qa, qc, qma, qmc, rfl⟩ := pv_shape hq
  refine calls_of Tryz.func9 rfl Tryz.ntmps9 rfl ?_
  repeat' (first | refine a_mov ?_ | refine a_asg ?_ | refine a_binN ?_ | refine a_notb ?_ | refine a_fa ?_ | refine a_ext ?_ | refine a_lenv ?_ | refine a_pick_t ?_ | refine a_pick_f ?_ | refine a_not ?_ | (refine o_nil (hK _ _ ?_); clear hK K) | refine wk_reg ?_ | refine wk_seq fun K hK => ?_ | (refine wk_skip (hK _ _ ?_); clear hK K) | (refine wk_label (hK _ _ ?_); clear hK K) | refine wk_scope ?_ | refine wk_block ?_ | refine wk_cond_t rfl ?_ | refine wk_cond_f rfl ?_ | (refine wk_exit ?_; (repeat (refine blockK_other rfl ?_)); refine blockK_same ?_; try ((repeat ((fail_if_success (refine hK _ _ ?_)); clear hK K)); refine hK _ _ ?_; clear hK K)) | (refine a_bin ?_ ?_ <;> intro _ <;> try (exfalso; omega)) | refine a_ld hl ?_ | (refine a_st hl ?_; clear hl; intro _ hl) | fail)
  refine o_box (LH.start w (fun _ => False)) (matL m ⟨.slice ca m.cas.length cc, .slice ma m.moved.length mc, .slice ra m.rights.length rc, .slice la m.limits.length lc⟩) (by rfl) rfl rfl ?_
  intro b6 w01 hb6 hl
  refine o_box hl (migL g ⟨.slice sa g.stages.length sc, .slice ga g.rights.length gc, .slice ta g.terms.length tc⟩) (by rfl) rfl rfl ?_
  clear hl
  intro b7 w02 hb7 hl
  refine o_box hl (procL p ⟨.slice pa p.stages.length pc, .slice pma p.moves.length pmc⟩) (by rfl) rfl rfl ?_
  clear hl
  intro b8 w03 hb8 hl
  refine o_box hl (procL q ⟨.slice qa q.stages.length qc, .slice qma q.moves.length qmc⟩) (by rfl) rfl rfl ?_
  clear hl
  intro b9 w1 hb9 hl
  have e1 : Ext w w1 := hl.done
  have r6 : Row w1 b6 0 [str m.id, .int .i64 m.opened, .slice ca m.cas.length cc, str m.proc, .int .i64 m.stage, .slice ma m.moved.length mc, .slice ra m.rights.length rc, .slice la m.limits.length lc] := hl.rowL (vs := matL m ⟨.slice ca m.cas.length cc, .slice ma m.moved.length mc, .slice ra m.rights.length rc, .slice la m.limits.length lc⟩) 3 0 8 rfl
  have r7 : Row w1 b7 0 [str g.src, str g.dst, .slice sa g.stages.length sc, .slice ga g.rights.length gc, .slice ta g.terms.length tc] := hl.rowL (vs := migL g ⟨.slice sa g.stages.length sc, .slice ga g.rights.length gc, .slice ta g.terms.length tc⟩) 2 0 5 rfl
  have r8 : Row w1 b8 0 [str p.name, .slice pa p.stages.length pc, .slice pma p.moves.length pmc] := hl.rowL (vs := procL p ⟨.slice pa p.stages.length pc, .slice pma p.moves.length pmc⟩) 1 0 3 rfl
  have r9 : Row w1 b9 0 [str q.name, .slice qa q.stages.length qc, .slice qma q.moves.length qmc] := hl.rowL (vs := procL q ⟨.slice qa q.stages.length qc, .slice qma q.moves.length qmc⟩) 0 0 3 rfl
  clear hl
  replace hm := hm.ext e1
  replace hg := hg.ext e1
  replace hp := hp.ext e1
  replace hq := hq.ext e1
  replace ht := ht.ext e1
  refine o_alloc (LH.start w1 (fun _ => False)) zeroMt (by kernel_rfl) rfl ?_
  intro b12 w2 hb12 hl
  repeat' (first | refine a_mov ?_ | refine a_asg ?_ | refine a_binN ?_ | refine a_notb ?_ | refine a_fa ?_ | refine a_ext ?_ | refine a_lenv ?_ | refine a_pick_t ?_ | refine a_pick_f ?_ | refine a_not ?_ | (refine o_nil (hK _ _ ?_); clear hK K) | refine wk_reg ?_ | refine wk_seq fun K hK => ?_ | (refine wk_skip (hK _ _ ?_); clear hK K) | (refine wk_label (hK _ _ ?_); clear hK K) | refine wk_scope ?_ | refine wk_block ?_ | refine wk_cond_t rfl ?_ | refine wk_cond_f rfl ?_ | (refine wk_exit ?_; (repeat (refine blockK_other rfl ?_)); refine blockK_same ?_; try ((repeat ((fail_if_success (refine hK _ _ ?_)); clear hK K)); refine hK _ _ ?_; clear hK K)) | (refine a_bin ?_ ?_ <;> intro _ <;> try (exfalso; omega)) | refine a_ld hl ?_ | (refine a_st hl ?_; clear hl; intro _ hl) | fail)
  refine a_all (r6.ext hl.done) ?_
  refine a_fn (text_calls (hm.ext hl.done) (ht.ext hl.done)) ?_
  rintro v w3 ⟨⟨s, rfl⟩, e3⟩
  replace hl := hl.ext e3
  repeat' (first | refine a_mov ?_ | refine a_asg ?_ | refine a_binN ?_ | refine a_notb ?_ | refine a_fa ?_ | refine a_ext ?_ | refine a_lenv ?_ | refine a_pick_t ?_ | refine a_pick_f ?_ | refine a_not ?_ | (refine o_nil (hK _ _ ?_); clear hK K) | refine wk_reg ?_ | refine wk_seq fun K hK => ?_ | (refine wk_skip (hK _ _ ?_); clear hK K) | (refine wk_label (hK _ _ ?_); clear hK K) | refine wk_scope ?_ | refine wk_block ?_ | refine wk_cond_t rfl ?_ | refine wk_cond_f rfl ?_ | (refine wk_exit ?_; (repeat (refine blockK_other rfl ?_)); refine blockK_same ?_; try ((repeat ((fail_if_success (refine hK _ _ ?_)); clear hK K)); refine hK _ _ ?_; clear hK K)) | (refine a_bin ?_ ?_ <;> intro _ <;> try (exfalso; omega)) | refine a_ld hl ?_ | (refine a_st hl ?_; clear hl; intro _ hl) | fail)
  refine a_all (r7.ext hl.done) ?_
  refine a_all (r8.ext hl.done) ?_
  refine a_all (r9.ext hl.done) ?_
  refine a_fn (valid_calls (hg.ext hl.done) (hp.ext hl.done) (hq.ext hl.done) (ht.ext hl.done)) ?_
  rintro v w4 ⟨rfl, e4⟩
  replace hl := hl.ext e4
  cases hvb : validB g p q
  · rw [hvb] at hrd
    rw [hrd] at hap
    repeat' (first | refine a_mov ?_ | refine a_asg ?_ | refine a_binN ?_ | refine a_notb ?_ | refine a_fa ?_ | refine a_ext ?_ | refine a_lenv ?_ | refine a_pick_t ?_ | refine a_pick_f ?_ | refine a_not ?_ | (refine o_nil (hK _ _ ?_); clear hK K) | refine wk_reg ?_ | refine wk_seq fun K hK => ?_ | (refine wk_skip (hK _ _ ?_); clear hK K) | (refine wk_label (hK _ _ ?_); clear hK K) | refine wk_scope ?_ | refine wk_block ?_ | refine wk_cond_t rfl ?_ | refine wk_cond_f rfl ?_ | (refine wk_exit ?_; (repeat (refine blockK_other rfl ?_)); refine blockK_same ?_; try ((repeat ((fail_if_success (refine hK _ _ ?_)); clear hK K)); refine hK _ _ ?_; clear hK K)) | (refine a_bin ?_ ?_ <;> intro _ <;> try (exfalso; omega)) | refine a_ld hl ?_ | (refine a_st hl ?_; clear hl; intro _ hl) | fail)
    refine o_build zeroMt rfl (by kernel_rfl) ?_
    repeat' (first | refine a_mov ?_ | refine a_asg ?_ | refine a_binN ?_ | refine a_notb ?_ | refine a_fa ?_ | refine a_ext ?_ | refine a_lenv ?_ | refine a_pick_t ?_ | refine a_pick_f ?_ | refine a_not ?_ | (refine a_bin ?_ ?_ <;> intro _ <;> try (exfalso; omega)) | refine a_ld hl ?_ | (refine a_st hl ?_; clear hl; intro _ hl) | fail)
    refine o_store hl 0 zeroMt rfl rfl rfl rfl rfl (by decide) rfl ?_
    clear hl
    intro w9 hl
    replace hl : LH w1 (fun _ => False) w9 [(b12, .cells zeroMt.toArray 27 (0, 0))] := hl
    repeat' (first | refine a_mov ?_ | refine a_asg ?_ | refine a_binN ?_ | refine a_notb ?_ | refine a_fa ?_ | refine a_ext ?_ | refine a_lenv ?_ | refine a_pick_t ?_ | refine a_pick_f ?_ | refine a_not ?_ | (refine o_nil (hK _ _ ?_); clear hK K) | refine wk_reg ?_ | refine wk_seq fun K hK => ?_ | (refine wk_skip (hK _ _ ?_); clear hK K) | (refine wk_label (hK _ _ ?_); clear hK K) | refine wk_scope ?_ | refine wk_block ?_ | refine wk_cond_t rfl ?_ | refine wk_cond_f rfl ?_ | (refine wk_exit ?_; (repeat (refine blockK_other rfl ?_)); refine blockK_same ?_; try ((repeat ((fail_if_success (refine hK _ _ ?_)); clear hK K)); refine hK _ _ ?_; clear hK K)) | (refine a_bin ?_ ?_ <;> intro _ <;> try (exfalso; omega)) | refine a_ld hl ?_ | (refine a_st hl ?_; clear hl; intro _ hl) | fail)
    refine wk_ret (retQ_res [.agg zeroMt.toArray, .int .i64 1] rfl rfl ⟨by decide, ⟨⟨b12, 0, none⟩, rfl, run_loadVarN rfl rfl (hl.rowL (vs := zeroMt) 0 0 8 rfl)⟩, by decide, rfl, trivial⟩ ?_)
    refine ⟨?_, e1.trans hl.done⟩
    rw [hap]
    exact ⟨1, by decide, rfl⟩
  rw [hvb] at hrd
  cases hfb : formB m
  · rw [hfb] at hrd
    rw [hrd] at hap
    rw [if_neg (by decide)]
    repeat' (first | refine a_mov ?_ | refine a_asg ?_ | refine a_binN ?_ | refine a_notb ?_ | refine a_fa ?_ | refine a_ext ?_ | refine a_lenv ?_ | refine a_pick_t ?_ | refine a_pick_f ?_ | refine a_not ?_ | (refine o_nil (hK _ _ ?_); clear hK K) | refine wk_reg ?_ | refine wk_seq fun K hK => ?_ | (refine wk_skip (hK _ _ ?_); clear hK K) | (refine wk_label (hK _ _ ?_); clear hK K) | refine wk_scope ?_ | refine wk_block ?_ | refine wk_cond_t rfl ?_ | refine wk_cond_f rfl ?_ | (refine wk_exit ?_; (repeat (refine blockK_other rfl ?_)); refine blockK_same ?_; try ((repeat ((fail_if_success (refine hK _ _ ?_)); clear hK K)); refine hK _ _ ?_; clear hK K)) | (refine a_bin ?_ ?_ <;> intro _ <;> try (exfalso; omega)) | refine a_ld hl ?_ | (refine a_st hl ?_; clear hl; intro _ hl) | fail)
    refine o_build zeroMt rfl (by kernel_rfl) ?_
    repeat' (first | refine a_mov ?_ | refine a_asg ?_ | refine a_binN ?_ | refine a_notb ?_ | refine a_fa ?_ | refine a_ext ?_ | refine a_lenv ?_ | refine a_pick_t ?_ | refine a_pick_f ?_ | refine a_not ?_ | (refine a_bin ?_ ?_ <;> intro _ <;> try (exfalso; omega)) | refine a_ld hl ?_ | (refine a_st hl ?_; clear hl; intro _ hl) | fail)
    refine o_store hl 0 zeroMt rfl rfl rfl rfl rfl (by decide) rfl ?_
    clear hl
    intro w9 hl
    replace hl : LH w1 (fun _ => False) w9 [(b12, .cells zeroMt.toArray 27 (0, 0))] := hl
    repeat' (first | refine a_mov ?_ | refine a_asg ?_ | refine a_binN ?_ | refine a_notb ?_ | refine a_fa ?_ | refine a_ext ?_ | refine a_lenv ?_ | refine a_pick_t ?_ | refine a_pick_f ?_ | refine a_not ?_ | (refine o_nil (hK _ _ ?_); clear hK K) | refine wk_reg ?_ | refine wk_seq fun K hK => ?_ | (refine wk_skip (hK _ _ ?_); clear hK K) | (refine wk_label (hK _ _ ?_); clear hK K) | refine wk_scope ?_ | refine wk_block ?_ | refine wk_cond_t rfl ?_ | refine wk_cond_f rfl ?_ | (refine wk_exit ?_; (repeat (refine blockK_other rfl ?_)); refine blockK_same ?_; try ((repeat ((fail_if_success (refine hK _ _ ?_)); clear hK K)); refine hK _ _ ?_; clear hK K)) | (refine a_bin ?_ ?_ <;> intro _ <;> try (exfalso; omega)) | refine a_ld hl ?_ | (refine a_st hl ?_; clear hl; intro _ hl) | fail)
    refine wk_ret (retQ_res [.agg zeroMt.toArray, .int .i64 1] rfl rfl ⟨by decide, ⟨⟨b12, 0, none⟩, rfl, run_loadVarN rfl rfl (hl.rowL (vs := zeroMt) 0 0 8 rfl)⟩, by decide, rfl, trivial⟩ ?_)
    refine ⟨?_, e1.trans hl.done⟩
    rw [hap]
    exact ⟨1, by decide, rfl⟩
  rw [hfb] at hrd
  rw [if_pos rfl]
  have r64 := r6.ext hl.done
  have r74 := r7.ext hl.done
  have r84 := r8.ext hl.done
  have ok := form_facts hfb
  by_cases h1 : m.proc = g.src
  rotate_left
  · rw [decide_eq_false (fun h => h1 h.1)] at hrd
    rw [hrd] at hap
    repeat' (first | refine a_row r64 ?_ | refine a_row r74 ?_ | refine o_nesT (a := m.proc) (b := g.src) rfl rfl rfl (fun _ => ?_) (fun h_ => absurd h_ h1) | refine a_mov ?_ | refine a_asg ?_ | refine a_binN ?_ | refine a_notb ?_ | refine a_fa ?_ | refine a_ext ?_ | refine a_lenv ?_ | refine a_pick_t ?_ | refine a_pick_f ?_ | refine a_not ?_ | (refine o_nil (hK _ _ ?_); clear hK K) | refine wk_reg ?_ | refine wk_seq fun K hK => ?_ | (refine wk_skip (hK _ _ ?_); clear hK K) | (refine wk_label (hK _ _ ?_); clear hK K) | refine wk_scope ?_ | refine wk_block ?_ | refine wk_cond_t rfl ?_ | refine wk_cond_f rfl ?_ | (refine wk_exit ?_; (repeat (refine blockK_other rfl ?_)); refine blockK_same ?_; try ((repeat ((fail_if_success (refine hK _ _ ?_)); clear hK K)); refine hK _ _ ?_; clear hK K)) | (refine a_bin ?_ ?_ <;> intro _ <;> try (exfalso; omega)) | refine a_ld hl ?_ | (refine a_st hl ?_; clear hl; intro _ hl) | fail)
    refine o_build zeroMt rfl (by kernel_rfl) ?_
    repeat' (first | refine a_mov ?_ | refine a_asg ?_ | refine a_binN ?_ | refine a_notb ?_ | refine a_fa ?_ | refine a_ext ?_ | refine a_lenv ?_ | refine a_pick_t ?_ | refine a_pick_f ?_ | refine a_not ?_ | (refine a_bin ?_ ?_ <;> intro _ <;> try (exfalso; omega)) | refine a_ld hl ?_ | (refine a_st hl ?_; clear hl; intro _ hl) | fail)
    refine o_store hl 0 zeroMt rfl rfl rfl rfl rfl (by decide) rfl ?_
    clear hl
    intro w9 hl
    replace hl : LH w1 (fun _ => False) w9 [(b12, .cells zeroMt.toArray 27 (0, 0))] := hl
    repeat' (first | refine a_mov ?_ | refine a_asg ?_ | refine a_binN ?_ | refine a_notb ?_ | refine a_fa ?_ | refine a_ext ?_ | refine a_lenv ?_ | refine a_pick_t ?_ | refine a_pick_f ?_ | refine a_not ?_ | (refine o_nil (hK _ _ ?_); clear hK K) | refine wk_reg ?_ | refine wk_seq fun K hK => ?_ | (refine wk_skip (hK _ _ ?_); clear hK K) | (refine wk_label (hK _ _ ?_); clear hK K) | refine wk_scope ?_ | refine wk_block ?_ | refine wk_cond_t rfl ?_ | refine wk_cond_f rfl ?_ | (refine wk_exit ?_; (repeat (refine blockK_other rfl ?_)); refine blockK_same ?_; try ((repeat ((fail_if_success (refine hK _ _ ?_)); clear hK K)); refine hK _ _ ?_; clear hK K)) | (refine a_bin ?_ ?_ <;> intro _ <;> try (exfalso; omega)) | refine a_ld hl ?_ | (refine a_st hl ?_; clear hl; intro _ hl) | fail)
    refine wk_ret (retQ_res [.agg zeroMt.toArray, .int .i64 1] rfl rfl ⟨by decide, ⟨⟨b12, 0, none⟩, rfl, run_loadVarN rfl rfl (hl.rowL (vs := zeroMt) 0 0 8 rfl)⟩, by decide, rfl, trivial⟩ ?_)
    refine ⟨?_, e1.trans hl.done⟩
    rw [hap]
    exact ⟨1, by decide, rfl⟩
  by_cases h2 : m.stage < p.stages.length
  rotate_left
  · rw [decide_eq_false (fun h => h2 h.2)] at hrd
    rw [hrd] at hap
    repeat' (first | refine a_row r64 ?_ | refine a_row r74 ?_ | refine a_row r84 ?_ | refine o_nesT (a := m.proc) (b := g.src) rfl rfl rfl (fun h_ => absurd h1 h_) (fun _ => ?_) | refine a_mov ?_ | refine a_asg ?_ | refine a_binN ?_ | refine a_notb ?_ | refine a_fa ?_ | refine a_ext ?_ | refine a_lenv ?_ | refine a_pick_t ?_ | refine a_pick_f ?_ | refine a_not ?_ | (refine o_nil (hK _ _ ?_); clear hK K) | refine wk_reg ?_ | refine wk_seq fun K hK => ?_ | (refine wk_skip (hK _ _ ?_); clear hK K) | (refine wk_label (hK _ _ ?_); clear hK K) | refine wk_scope ?_ | refine wk_block ?_ | refine wk_cond_t rfl ?_ | refine wk_cond_f rfl ?_ | (refine wk_exit ?_; (repeat (refine blockK_other rfl ?_)); refine blockK_same ?_; try ((repeat ((fail_if_success (refine hK _ _ ?_)); clear hK K)); refine hK _ _ ?_; clear hK K)) | (refine a_bin ?_ ?_ <;> intro _ <;> try (exfalso; omega)) | refine a_ld hl ?_ | (refine a_st hl ?_; clear hl; intro _ hl) | fail)
    refine o_build zeroMt rfl (by kernel_rfl) ?_
    repeat' (first | refine a_mov ?_ | refine a_asg ?_ | refine a_binN ?_ | refine a_notb ?_ | refine a_fa ?_ | refine a_ext ?_ | refine a_lenv ?_ | refine a_pick_t ?_ | refine a_pick_f ?_ | refine a_not ?_ | (refine a_bin ?_ ?_ <;> intro _ <;> try (exfalso; omega)) | refine a_ld hl ?_ | (refine a_st hl ?_; clear hl; intro _ hl) | fail)
    refine o_store hl 0 zeroMt rfl rfl rfl rfl rfl (by decide) rfl ?_
    clear hl
    intro w9 hl
    replace hl : LH w1 (fun _ => False) w9 [(b12, .cells zeroMt.toArray 27 (0, 0))] := hl
    repeat' (first | refine a_mov ?_ | refine a_asg ?_ | refine a_binN ?_ | refine a_notb ?_ | refine a_fa ?_ | refine a_ext ?_ | refine a_lenv ?_ | refine a_pick_t ?_ | refine a_pick_f ?_ | refine a_not ?_ | (refine o_nil (hK _ _ ?_); clear hK K) | refine wk_reg ?_ | refine wk_seq fun K hK => ?_ | (refine wk_skip (hK _ _ ?_); clear hK K) | (refine wk_label (hK _ _ ?_); clear hK K) | refine wk_scope ?_ | refine wk_block ?_ | refine wk_cond_t rfl ?_ | refine wk_cond_f rfl ?_ | (refine wk_exit ?_; (repeat (refine blockK_other rfl ?_)); refine blockK_same ?_; try ((repeat ((fail_if_success (refine hK _ _ ?_)); clear hK K)); refine hK _ _ ?_; clear hK K)) | (refine a_bin ?_ ?_ <;> intro _ <;> try (exfalso; omega)) | refine a_ld hl ?_ | (refine a_st hl ?_; clear hl; intro _ hl) | fail)
    refine wk_ret (retQ_res [.agg zeroMt.toArray, .int .i64 1] rfl rfl ⟨by decide, ⟨⟨b12, 0, none⟩, rfl, run_loadVarN rfl rfl (hl.rowL (vs := zeroMt) 0 0 8 rfl)⟩, by decide, rfl, trivial⟩ ?_)
    refine ⟨?_, e1.trans hl.done⟩
    rw [hap]
    exact ⟨1, by decide, rfl⟩
  rw [decide_eq_true ⟨h1, h2⟩] at hrd
  have hdd : isD day = decide (0 ≤ day ∧ day ≤ 1000000) := rfl
  by_cases h3 : 0 ≤ day ∧ day ≤ 1000000
  rotate_left
  · rw [hdd, decide_eq_false h3] at hrd
    rw [hrd] at hap
    repeat' (first | refine a_row r64 ?_ | refine a_row r74 ?_ | refine a_row r84 ?_ | refine o_nesT (a := m.proc) (b := g.src) rfl rfl rfl (fun h_ => absurd h1 h_) (fun _ => ?_) | refine a_mov ?_ | refine a_asg ?_ | refine a_binN ?_ | refine a_notb ?_ | refine a_fa ?_ | refine a_ext ?_ | refine a_lenv ?_ | refine a_pick_t ?_ | refine a_pick_f ?_ | refine a_not ?_ | (refine o_nil (hK _ _ ?_); clear hK K) | refine wk_reg ?_ | refine wk_seq fun K hK => ?_ | (refine wk_skip (hK _ _ ?_); clear hK K) | (refine wk_label (hK _ _ ?_); clear hK K) | refine wk_scope ?_ | refine wk_block ?_ | refine wk_cond_t rfl ?_ | refine wk_cond_f rfl ?_ | (refine wk_exit ?_; (repeat (refine blockK_other rfl ?_)); refine blockK_same ?_; try ((repeat ((fail_if_success (refine hK _ _ ?_)); clear hK K)); refine hK _ _ ?_; clear hK K)) | (refine a_bin ?_ ?_ <;> intro _ <;> try (exfalso; omega)) | refine a_ld hl ?_ | (refine a_st hl ?_; clear hl; intro _ hl) | fail)
    · skip
      refine o_build zeroMt rfl (by kernel_rfl) ?_
      repeat' (first | refine a_mov ?_ | refine a_asg ?_ | refine a_binN ?_ | refine a_notb ?_ | refine a_fa ?_ | refine a_ext ?_ | refine a_lenv ?_ | refine a_pick_t ?_ | refine a_pick_f ?_ | refine a_not ?_ | (refine a_bin ?_ ?_ <;> intro _ <;> try (exfalso; omega)) | refine a_ld hl ?_ | (refine a_st hl ?_; clear hl; intro _ hl) | fail)
      refine o_store hl 0 zeroMt rfl rfl rfl rfl rfl (by decide) rfl ?_
      clear hl
      intro w9 hl
      replace hl : LH w1 (fun _ => False) w9 [(b12, .cells zeroMt.toArray 27 (0, 0))] := hl
      repeat' (first | refine a_mov ?_ | refine a_asg ?_ | refine a_binN ?_ | refine a_notb ?_ | refine a_fa ?_ | refine a_ext ?_ | refine a_lenv ?_ | refine a_pick_t ?_ | refine a_pick_f ?_ | refine a_not ?_ | (refine o_nil (hK _ _ ?_); clear hK K) | refine wk_reg ?_ | refine wk_seq fun K hK => ?_ | (refine wk_skip (hK _ _ ?_); clear hK K) | (refine wk_label (hK _ _ ?_); clear hK K) | refine wk_scope ?_ | refine wk_block ?_ | refine wk_cond_t rfl ?_ | refine wk_cond_f rfl ?_ | (refine wk_exit ?_; (repeat (refine blockK_other rfl ?_)); refine blockK_same ?_; try ((repeat ((fail_if_success (refine hK _ _ ?_)); clear hK K)); refine hK _ _ ?_; clear hK K)) | (refine a_bin ?_ ?_ <;> intro _ <;> try (exfalso; omega)) | refine a_ld hl ?_ | (refine a_st hl ?_; clear hl; intro _ hl) | fail)
      refine wk_ret (retQ_res [.agg zeroMt.toArray, .int .i64 1] rfl rfl ⟨by decide, ⟨⟨b12, 0, none⟩, rfl, run_loadVarN rfl rfl (hl.rowL (vs := zeroMt) 0 0 8 rfl)⟩, by decide, rfl, trivial⟩ ?_)
      refine ⟨?_, e1.trans hl.done⟩
      rw [hap]
      exact ⟨1, by decide, rfl⟩
    · skip
      refine o_build zeroMt rfl (by kernel_rfl) ?_
      repeat' (first | refine a_mov ?_ | refine a_asg ?_ | refine a_binN ?_ | refine a_notb ?_ | refine a_fa ?_ | refine a_ext ?_ | refine a_lenv ?_ | refine a_pick_t ?_ | refine a_pick_f ?_ | refine a_not ?_ | (refine a_bin ?_ ?_ <;> intro _ <;> try (exfalso; omega)) | refine a_ld hl ?_ | (refine a_st hl ?_; clear hl; intro _ hl) | fail)
      refine o_store hl 0 zeroMt rfl rfl rfl rfl rfl (by decide) rfl ?_
      clear hl
      intro w9 hl
      replace hl : LH w1 (fun _ => False) w9 [(b12, .cells zeroMt.toArray 27 (0, 0))] := hl
      repeat' (first | refine a_mov ?_ | refine a_asg ?_ | refine a_binN ?_ | refine a_notb ?_ | refine a_fa ?_ | refine a_ext ?_ | refine a_lenv ?_ | refine a_pick_t ?_ | refine a_pick_f ?_ | refine a_not ?_ | (refine o_nil (hK _ _ ?_); clear hK K) | refine wk_reg ?_ | refine wk_seq fun K hK => ?_ | (refine wk_skip (hK _ _ ?_); clear hK K) | (refine wk_label (hK _ _ ?_); clear hK K) | refine wk_scope ?_ | refine wk_block ?_ | refine wk_cond_t rfl ?_ | refine wk_cond_f rfl ?_ | (refine wk_exit ?_; (repeat (refine blockK_other rfl ?_)); refine blockK_same ?_; try ((repeat ((fail_if_success (refine hK _ _ ?_)); clear hK K)); refine hK _ _ ?_; clear hK K)) | (refine a_bin ?_ ?_ <;> intro _ <;> try (exfalso; omega)) | refine a_ld hl ?_ | (refine a_st hl ?_; clear hl; intro _ hl) | fail)
      refine wk_ret (retQ_res [.agg zeroMt.toArray, .int .i64 1] rfl rfl ⟨by decide, ⟨⟨b12, 0, none⟩, rfl, run_loadVarN rfl rfl (hl.rowL (vs := zeroMt) 0 0 8 rfl)⟩, by decide, rfl, trivial⟩ ?_)
      refine ⟨?_, e1.trans hl.done⟩
      rw [hap]
      exact ⟨1, by decide, rfl⟩
  rw [hdd, decide_eq_true h3] at hrd
  repeat' (first | refine a_row r64 ?_ | refine a_row r74 ?_ | refine a_row r84 ?_ | refine o_nesT (a := m.proc) (b := g.src) rfl rfl rfl (fun h_ => absurd h1 h_) (fun _ => ?_) | refine a_mov ?_ | refine a_asg ?_ | refine a_binN ?_ | refine a_notb ?_ | refine a_fa ?_ | refine a_ext ?_ | refine a_lenv ?_ | refine a_pick_t ?_ | refine a_pick_f ?_ | refine a_not ?_ | (refine o_nil (hK _ _ ?_); clear hK K) | refine wk_reg ?_ | refine wk_seq fun K hK => ?_ | (refine wk_skip (hK _ _ ?_); clear hK K) | (refine wk_label (hK _ _ ?_); clear hK K) | refine wk_scope ?_ | refine wk_block ?_ | refine wk_cond_t rfl ?_ | refine wk_cond_f rfl ?_ | (refine wk_exit ?_; (repeat (refine blockK_other rfl ?_)); refine blockK_same ?_; try ((repeat ((fail_if_success (refine hK _ _ ?_)); clear hK K)); refine hK _ _ ?_; clear hK K)) | (refine a_bin ?_ ?_ <;> intro _ <;> try (exfalso; omega)) | refine a_ld hl ?_ | (refine a_st hl ?_; clear hl; intro _ hl) | fail)
  obtain ⟨⟨hms, hmsl⟩, ⟨hmm, hmml⟩, ⟨hmr, hmrl⟩, ⟨lp, hlp, hmt, hmli⟩, hmtl⟩ := id hm
  obtain ⟨⟨hgs, hgsl⟩, ⟨hgr, hgrl⟩, ⟨lt, hlt', hgt, hgli⟩, hgtl⟩ := id hg
  simp only at hms hmm hmr hmt hgs hgr hgt
  have hmg : migB g = true ∧ g.stages.length = p.stages.length := by
    unfold validB at hvb
    simp only [Bool.and_eq_true, decide_eq_true_eq] at hvb
    exact ⟨hvb.1.1.1, hvb.2.2.2.1⟩
  obtain ⟨k, hsk⟩ := Int.eq_ofNat_of_zero_le ok.stage.1
  have hkl : k < g.stages.length := by omega
  obtain ⟨sa', sc', hseq, hgp⟩ := sl_each intL_len (by decide) hgs
  cases hseq
  obtain ⟨bk, ok', hpk, hrk⟩ := hgp k hkl
  have hgd : g.stages.getD m.stage.toNat (-1) = g.stages[k] := by
    rw [hsk, Int.toNat_natCast, List.getD_eq_getElem?_getD, List.getElem?_eq_getElem hkl]
    rfl
  rw [hgd] at hap hrd
  rw [hsk] at r6 r64
  generalize g.stages[k] = z at *
  have hrk4 := hrk w4 hl.done
  have hrk1 := hrk w1 (.refl _ _)
  repeat' (first | refine a_row r64 ?_ | refine a_row r74 ?_ | refine a_idx (c := 1) k hpk ?_ | refine a_row hrk4 ?_ (hj := ⟨0, rfl, rfl⟩) | refine a_mov ?_ | refine a_asg ?_ | refine a_binN ?_ | refine a_notb ?_ | refine a_fa ?_ | refine a_ext ?_ | refine a_lenv ?_ | refine a_pick_t ?_ | refine a_pick_f ?_ | refine a_not ?_ | (refine a_bin ?_ ?_ <;> intro _ <;> try (exfalso; omega)) | refine a_ld hl ?_ | (refine a_st hl ?_; clear hl; intro _ hl) | fail)
  · rename_i hz
    rw [decide_eq_false (by omega)] at hrd
    rw [hrd] at hap
    repeat' (first | refine a_mov ?_ | refine a_asg ?_ | refine a_binN ?_ | refine a_notb ?_ | refine a_fa ?_ | refine a_ext ?_ | refine a_lenv ?_ | refine a_pick_t ?_ | refine a_pick_f ?_ | refine a_not ?_ | (refine o_nil (hK _ _ ?_); clear hK K) | refine wk_reg ?_ | refine wk_seq fun K hK => ?_ | (refine wk_skip (hK _ _ ?_); clear hK K) | (refine wk_label (hK _ _ ?_); clear hK K) | refine wk_scope ?_ | refine wk_block ?_ | refine wk_cond_t rfl ?_ | refine wk_cond_f rfl ?_ | (refine wk_exit ?_; (repeat (refine blockK_other rfl ?_)); refine blockK_same ?_; try ((repeat ((fail_if_success (refine hK _ _ ?_)); clear hK K)); refine hK _ _ ?_; clear hK K)) | (refine a_bin ?_ ?_ <;> intro _ <;> try (exfalso; omega)) | refine a_ld hl ?_ | (refine a_st hl ?_; clear hl; intro _ hl) | fail)
    refine o_build zeroMt rfl (by kernel_rfl) ?_
    repeat' (first | refine a_mov ?_ | refine a_asg ?_ | refine a_binN ?_ | refine a_notb ?_ | refine a_fa ?_ | refine a_ext ?_ | refine a_lenv ?_ | refine a_pick_t ?_ | refine a_pick_f ?_ | refine a_not ?_ | (refine a_bin ?_ ?_ <;> intro _ <;> try (exfalso; omega)) | refine a_ld hl ?_ | (refine a_st hl ?_; clear hl; intro _ hl) | fail)
    refine o_store hl 0 zeroMt rfl rfl rfl rfl rfl (by decide) rfl ?_
    clear hl
    intro w9 hl
    replace hl : LH w1 (fun _ => False) w9 [(b12, .cells zeroMt.toArray 27 (0, 0))] := hl
    repeat' (first | refine a_mov ?_ | refine a_asg ?_ | refine a_binN ?_ | refine a_notb ?_ | refine a_fa ?_ | refine a_ext ?_ | refine a_lenv ?_ | refine a_pick_t ?_ | refine a_pick_f ?_ | refine a_not ?_ | (refine o_nil (hK _ _ ?_); clear hK K) | refine wk_reg ?_ | refine wk_seq fun K hK => ?_ | (refine wk_skip (hK _ _ ?_); clear hK K) | (refine wk_label (hK _ _ ?_); clear hK K) | refine wk_scope ?_ | refine wk_block ?_ | refine wk_cond_t rfl ?_ | refine wk_cond_f rfl ?_ | (refine wk_exit ?_; (repeat (refine blockK_other rfl ?_)); refine blockK_same ?_; try ((repeat ((fail_if_success (refine hK _ _ ?_)); clear hK K)); refine hK _ _ ?_; clear hK K)) | (refine a_bin ?_ ?_ <;> intro _ <;> try (exfalso; omega)) | refine a_ld hl ?_ | (refine a_st hl ?_; clear hl; intro _ hl) | fail)
    refine wk_ret (retQ_res [.agg zeroMt.toArray, .int .i64 12] rfl rfl ⟨by decide, ⟨⟨b12, 0, none⟩, rfl, run_loadVarN rfl rfl (hl.rowL (vs := zeroMt) 0 0 8 rfl)⟩, by decide, rfl, trivial⟩ ?_)
    refine ⟨?_, e1.trans hl.done⟩
    rw [hap]
    exact ⟨12, by decide, rfl⟩
  rename_i hz
  rw [decide_eq_true (by omega : 0 ≤ z)] at hrd
  refine o_nil (hK _ _ ?_)
  clear hK K
  refine wk_cond_f rfl ?_
  refine wk_seq fun K hK => ?_
  refine wk_cut [] (fun _ : Unit => [(4, .int .i64 day), (5, .slice none 0 0), (6, .pointer (some ⟨b6, 0, none⟩)), (7, .pointer (some ⟨b7, 0, none⟩)), (8, .pointer (some ⟨b8, 0, none⟩)), (9, .pointer (some ⟨b9, 0, none⟩)), (12, .pointer (some ⟨b12, 0, none⟩)), (77, .bool (!(decide (m.opened ≤ day) && decide (m.moved = [] ∨ m.moved.getLastD 0 ≤ day))))]) (fun _ w' => w' = w4) ?_ ?_
  · refine wk_reg ?_
    obtain ⟨ma', mc', hmeq, hmp⟩ := sl_each intL_len (by decide) hmm
    cases hmeq
    by_cases h5 : m.opened ≤ day
    rotate_left
    · repeat' (first | refine a_row r64 ?_ | refine a_mov ?_ | refine a_asg ?_ | refine a_binN ?_ | refine a_notb ?_ | refine a_fa ?_ | refine a_ext ?_ | refine a_lenv ?_ | refine a_pick_t ?_ | refine a_pick_f ?_ | refine a_not ?_ | (refine a_bin ?_ ?_ <;> intro _ <;> try (exfalso; omega)) | refine a_ld hl ?_ | (refine a_st hl ?_; clear hl; intro _ hl) | fail)
      exact o_nil ⟨(), ⟨rfl, rfl, rfl, rfl, rfl, rfl, rfl, by rw [decide_eq_false h5]; rfl, trivial⟩, rfl, rfl⟩
    rw [decide_eq_true h5]
    by_cases hmv : m.moved = []
    · have hl0 : m.moved.length = 0 := by rw [hmv]; rfl
      rw [hl0] at r64
      rw [decide_eq_true (.inl hmv)]
      repeat' (first | refine a_row r64 ?_ | refine a_mov ?_ | refine a_asg ?_ | refine a_binN ?_ | refine a_notb ?_ | refine a_fa ?_ | refine a_ext ?_ | refine a_lenv ?_ | refine a_pick_t ?_ | refine a_pick_f ?_ | refine a_not ?_ | (refine a_bin ?_ ?_ <;> intro _ <;> try (exfalso; omega)) | refine a_ld hl ?_ | (refine a_st hl ?_; clear hl; intro _ hl) | fail)
      exact o_nil ⟨(), ⟨rfl, rfl, rfl, rfl, rfl, rfl, rfl, rfl, trivial⟩, rfl, rfl⟩
    have hpos : 0 < m.moved.length := List.length_pos_iff.2 hmv
    obtain ⟨bq, oq, hpq, hrq⟩ := hmp (m.moved.length - 1) (by omega)
    have hrq : Row w4 bq (oq + (m.moved.length - 1) * 1) [.int .i64 (m.moved.getLastD 0)] := by
      have := hrq w4 hl.done
      have hq : m.moved[m.moved.length - 1] = m.moved.getLastD 0 := by
        rw [← List.getLast_eq_getElem hmv, List.getLastD_eq_getLast?, List.getLast?_eq_some_getLast hmv]
        rfl
      rw [hq] at this
      exact this
    generalize m.moved.getLastD 0 = zl at *
    by_cases h6 : zl ≤ day
    all_goals repeat' (first | refine a_row r64 ?_ | refine a_row hrq ?_ | refine a_idx (c := 1) (m.moved.length - 1) hpq ?_ | refine a_mov ?_ | refine a_asg ?_ | refine a_binN ?_ | refine a_notb ?_ | refine a_fa ?_ | refine a_ext ?_ | refine a_lenv ?_ | refine a_pick_t ?_ | refine a_pick_f ?_ | refine a_not ?_ | (refine a_bin ?_ ?_ <;> intro _ <;> try (exfalso; omega)) | refine a_ld hl ?_ | (refine a_st hl ?_; clear hl; intro _ hl) | fail)
    · exact o_nil ⟨(), ⟨rfl, rfl, rfl, rfl, rfl, rfl, rfl, by rw [decide_eq_true (.inr h6)]; rfl, trivial⟩, rfl, rfl⟩
    · exact o_nil ⟨(), ⟨rfl, rfl, rfl, rfl, rfl, rfl, rfl, by rw [decide_eq_false (fun h => h.elim hmv h6)]; rfl, trivial⟩, rfl, rfl⟩
  rintro _ t w4 rfl
  refine hK _ _ ?_
  clear hK K
  replace hrd : readyB m g p q day = (decide (m.opened ≤ day) && decide (m.moved = [] ∨ m.moved.getLastD 0 ≤ day)) := by rw [hrd]; simp only [Bool.true_and]
  generalize (decide (m.opened ≤ day) && decide (m.moved = [] ∨ m.moved.getLastD 0 ≤ day)) = dd at *
  cases dd
  · rw [hrd] at hap
    repeat' (first | refine a_mov ?_ | refine a_asg ?_ | refine a_binN ?_ | refine a_notb ?_ | refine a_fa ?_ | refine a_ext ?_ | refine a_lenv ?_ | refine a_pick_t ?_ | refine a_pick_f ?_ | refine a_not ?_ | (refine o_nil (hK _ _ ?_); clear hK K) | refine wk_reg ?_ | refine wk_seq fun K hK => ?_ | (refine wk_skip (hK _ _ ?_); clear hK K) | (refine wk_label (hK _ _ ?_); clear hK K) | refine wk_scope ?_ | refine wk_block ?_ | refine wk_cond_t rfl ?_ | refine wk_cond_f rfl ?_ | (refine wk_exit ?_; (repeat (refine blockK_other rfl ?_)); refine blockK_same ?_; try ((repeat ((fail_if_success (refine hK _ _ ?_)); clear hK K)); refine hK _ _ ?_; clear hK K)) | (refine a_bin ?_ ?_ <;> intro _ <;> try (exfalso; omega)) | refine a_ld hl ?_ | (refine a_st hl ?_; clear hl; intro _ hl) | fail)
    refine o_build zeroMt rfl (by kernel_rfl) ?_
    repeat' (first | refine a_mov ?_ | refine a_asg ?_ | refine a_binN ?_ | refine a_notb ?_ | refine a_fa ?_ | refine a_ext ?_ | refine a_lenv ?_ | refine a_pick_t ?_ | refine a_pick_f ?_ | refine a_not ?_ | (refine a_bin ?_ ?_ <;> intro _ <;> try (exfalso; omega)) | refine a_ld hl ?_ | (refine a_st hl ?_; clear hl; intro _ hl) | fail)
    refine o_store hl 0 zeroMt rfl rfl rfl rfl rfl (by decide) rfl ?_
    clear hl
    intro w9 hl
    replace hl : LH w1 (fun _ => False) w9 [(b12, .cells zeroMt.toArray 27 (0, 0))] := hl
    repeat' (first | refine a_mov ?_ | refine a_asg ?_ | refine a_binN ?_ | refine a_notb ?_ | refine a_fa ?_ | refine a_ext ?_ | refine a_lenv ?_ | refine a_pick_t ?_ | refine a_pick_f ?_ | refine a_not ?_ | (refine o_nil (hK _ _ ?_); clear hK K) | refine wk_reg ?_ | refine wk_seq fun K hK => ?_ | (refine wk_skip (hK _ _ ?_); clear hK K) | (refine wk_label (hK _ _ ?_); clear hK K) | refine wk_scope ?_ | refine wk_block ?_ | refine wk_cond_t rfl ?_ | refine wk_cond_f rfl ?_ | (refine wk_exit ?_; (repeat (refine blockK_other rfl ?_)); refine blockK_same ?_; try ((repeat ((fail_if_success (refine hK _ _ ?_)); clear hK K)); refine hK _ _ ?_; clear hK K)) | (refine a_bin ?_ ?_ <;> intro _ <;> try (exfalso; omega)) | refine a_ld hl ?_ | (refine a_st hl ?_; clear hl; intro _ hl) | fail)
    refine wk_ret (retQ_res [.agg zeroMt.toArray, .int .i64 24] rfl rfl ⟨by decide, ⟨⟨b12, 0, none⟩, rfl, run_loadVarN rfl rfl (hl.rowL (vs := zeroMt) 0 0 8 rfl)⟩, by decide, rfl, trivial⟩ ?_)
    refine ⟨?_, e1.trans hl.done⟩
    rw [hap]
    exact ⟨24, by decide, rfl⟩
  rw [hrd, if_pos rfl] at hap
  clear hrd
  repeat' (first | refine a_mov ?_ | refine a_asg ?_ | refine a_binN ?_ | refine a_notb ?_ | refine a_fa ?_ | refine a_ext ?_ | refine a_lenv ?_ | refine a_pick_t ?_ | refine a_pick_f ?_ | refine a_not ?_ | (refine o_nil (hK _ _ ?_); clear hK K) | refine wk_reg ?_ | refine wk_seq fun K hK => ?_ | (refine wk_skip (hK _ _ ?_); clear hK K) | (refine wk_label (hK _ _ ?_); clear hK K) | refine wk_scope ?_ | refine wk_block ?_ | refine wk_cond_t rfl ?_ | refine wk_cond_f rfl ?_ | (refine wk_exit ?_; (repeat (refine blockK_other rfl ?_)); refine blockK_same ?_; try ((repeat ((fail_if_success (refine hK _ _ ?_)); clear hK K)); refine hK _ _ ?_; clear hK K)) | (refine a_bin ?_ ?_ <;> intro _ <;> try (exfalso; omega)) | refine a_ld hl ?_ | (refine a_st hl ?_; clear hl; intro _ hl) | fail)
  refine a_all (r6.ext hl.done) ?_
  refine o_alloc hl zeroMt (by kernel_rfl) rfl ?_
  clear hl
  intro b16 w5 hb16 hl
  refine o_store hl 0 [str m.id, .int .i64 m.opened, .slice ca m.cas.length cc, str m.proc, .int .i64 (k : Int), .slice ma m.moved.length mc, .slice ra m.rights.length rc, .slice la m.limits.length lc] rfl rfl rfl rfl rfl (by simp [zeroMt]) (by simp only [List.all_cons, str_eq]; rfl) ?_
  clear hl
  intro w6 hl
  have hl : LH w1 (fun _ => False) w6 [(b16, .cells [str m.id, .int .i64 m.opened, .slice ca m.cas.length cc, str m.proc, .int .i64 (k : Int), .slice ma m.moved.length mc, .slice ra m.rights.length rc, .slice la m.limits.length lc].toArray 27 (0, 0)), (b12, .cells zeroMt.toArray 27 (0, 0))] := hl
  repeat' (first | refine a_mov ?_ | refine a_asg ?_ | refine a_binN ?_ | refine a_notb ?_ | refine a_fa ?_ | refine a_ext ?_ | refine a_lenv ?_ | refine a_pick_t ?_ | refine a_pick_f ?_ | refine a_not ?_ | (refine o_nil (hK _ _ ?_); clear hK K) | refine wk_reg ?_ | refine wk_seq fun K hK => ?_ | (refine wk_skip (hK _ _ ?_); clear hK K) | (refine wk_label (hK _ _ ?_); clear hK K) | refine wk_scope ?_ | refine wk_block ?_ | refine wk_cond_t rfl ?_ | refine wk_cond_f rfl ?_ | (refine wk_exit ?_; (repeat (refine blockK_other rfl ?_)); refine blockK_same ?_; try ((repeat ((fail_if_success (refine hK _ _ ?_)); clear hK K)); refine hK _ _ ?_; clear hK K)) | (refine a_bin ?_ ?_ <;> intro _ <;> try (exfalso; omega)) | refine a_ld hl ?_ | (refine a_st hl ?_; clear hl; intro _ hl) | fail)
  refine wk_draw [0, 1, 2, 3, 4, 5, 6, 7, 8, 10] [3, 5, 7] [9, 11] (fun w' => Ext w6 w') (fun w' => Ext w1 w') rfl (by kernel_rfl) (fun _ _ _ _ h => by first | exact h | (simp only [BlockK, NoGoto, RetQ] at h)) (fun _ h => Upd.of_heap h) (fun w' h => hl.done.trans h) ?_
  repeat' (first | refine q_mov ?_ | refine q_fa ?_ | refine q_nil ?_ | refine q_row (fun w_ hw_ => (r7.ext hl.done).ext hw_) ?_ | refine q_late rfl rfl rfl rfl (fun w' hw' => r_load rfl rfl ((r7.ext hw') 2 _ rfl)) ?_ | refine q_late rfl rfl rfl rfl (fun w' hw' => r_load rfl rfl ((r6.ext hw') 4 _ rfl)) ?_ | refine q_late rfl rfl rfl rfl (fun w' hw' => r_load rfl rfl ((hrk w' hw') 0 _ rfl)) ?_ | refine q_idx (c := 1) k hpk ?_ | fail)
  intro w7 e7
  replace hl := hl.ext e7
  refine ops_tail rfl rfl ?_
  refine a_st hl ?_
  clear hl
  intro w8 hl
  refine o_nil ⟨hl.done, ?_⟩
  refine ops_tail rfl rfl ?_
  refine a_st hl ?_
  clear hl
  intro w9 hl
  refine o_nil ⟨hl.done, ?_⟩
  refine ops_nil (hK _ _ ?_)
  clear hK K
  have hl : LH w1 (fun _ => False) w9 [(b16, .cells [str m.id, .int .i64 m.opened, .slice ca m.cas.length cc, str g.dst, .int .i64 z, .slice ma m.moved.length mc, .slice ra m.rights.length rc, .slice la m.limits.length lc].toArray 27 (0, 0)), (b12, .cells zeroMt.toArray 27 (0, 0))] := hl
  have r69 := r6.ext hl.done
  repeat' (first | refine a_row r69 ?_ | refine a_mov ?_ | refine a_asg ?_ | refine a_binN ?_ | refine a_notb ?_ | refine a_fa ?_ | refine a_ext ?_ | refine a_lenv ?_ | refine a_pick_t ?_ | refine a_pick_f ?_ | refine a_not ?_ | (refine o_nil (hK _ _ ?_); clear hK K) | refine wk_reg ?_ | refine wk_seq fun K hK => ?_ | (refine wk_skip (hK _ _ ?_); clear hK K) | (refine wk_label (hK _ _ ?_); clear hK K) | refine wk_scope ?_ | refine wk_block ?_ | refine wk_cond_t rfl ?_ | refine wk_cond_f rfl ?_ | (refine wk_exit ?_; (repeat (refine blockK_other rfl ?_)); refine blockK_same ?_; try ((repeat ((fail_if_success (refine hK _ _ ?_)); clear hK K)); refine hK _ _ ?_; clear hK K)) | (refine a_bin ?_ ?_ <;> intro _ <;> try (exfalso; omega)) | refine a_ld hl ?_ | (refine a_st hl ?_; clear hl; intro _ hl) | fail)
  have hlpl : lp.length = m.limits.length := by rw [← hlp, List.length_map]
  have hlp60 : lp.length ≤ 60 := by rw [hlpl]; exact ok.limitsL
  have hlone : (lp.flatMap limL).all Value.oneCell' = true := by
    rw [List.all_eq_true]
    intro v hv
    obtain ⟨p, hp, hv⟩ := List.mem_flatMap.1 hv
    exact List.all_eq_true.1 (lim_one (hmli p hp)) v hv
  refine a_fn (limitClone_calls (l := lp) (f := limL) limL_len hlone (hmt.ext hl.done) (by omega)) ?_
  rintro v w10 ⟨accL, hl2, haL⟩
  replace hl := (hl.join hl2).perm List.perm_append_comm
  clear hl2
  obtain ⟨xl, yl, rfl⟩ := haL.shape
  rw [hlpl] at haL
  rw [hlpl]
  repeat' (first | refine a_mov ?_ | refine a_asg ?_ | refine a_binN ?_ | refine a_notb ?_ | refine a_fa ?_ | refine a_ext ?_ | refine a_lenv ?_ | refine a_pick_t ?_ | refine a_pick_f ?_ | refine a_not ?_ | (refine o_nil (hK _ _ ?_); clear hK K) | refine wk_reg ?_ | refine wk_seq fun K hK => ?_ | (refine wk_skip (hK _ _ ?_); clear hK K) | (refine wk_label (hK _ _ ?_); clear hK K) | refine wk_scope ?_ | refine wk_block ?_ | refine wk_cond_t rfl ?_ | refine wk_cond_f rfl ?_ | (refine wk_exit ?_; (repeat (refine blockK_other rfl ?_)); refine blockK_same ?_; try ((repeat ((fail_if_success (refine hK _ _ ?_)); clear hK K)); refine hK _ _ ?_; clear hK K)) | (refine a_bin ?_ ?_ <;> intro _ <;> try (exfalso; omega)) | refine a_ld hl ?_ | (refine a_st hl ?_; clear hl; intro _ hl) | fail)
  have hl : LH w1 (fun _ => False) _ ([(b16, Obj.cells [str m.id, .int .i64 m.opened, .slice ca m.cas.length cc, str g.dst, .int .i64 z, .slice ma m.moved.length mc, .slice none 0 0, .slice xl m.limits.length yl].toArray 27 (0, 0)), (b12, .cells zeroMt.toArray 27 (0, 0))] ++ accL) := hl
  refine o_makeMap hl rfl ?_
  clear hl
  intro b17 w11 hb17 hl
  repeat' (first | refine a_mov ?_ | refine a_asg ?_ | refine a_binN ?_ | refine a_notb ?_ | refine a_fa ?_ | refine a_ext ?_ | refine a_lenv ?_ | refine a_pick_t ?_ | refine a_pick_f ?_ | refine a_not ?_ | (refine o_nil (hK _ _ ?_); clear hK K) | refine wk_reg ?_ | refine wk_seq fun K hK => ?_ | (refine wk_skip (hK _ _ ?_); clear hK K) | (refine wk_label (hK _ _ ?_); clear hK K) | refine wk_scope ?_ | refine wk_block ?_ | refine wk_cond_t rfl ?_ | refine wk_cond_f rfl ?_ | (refine wk_exit ?_; (repeat (refine blockK_other rfl ?_)); refine blockK_same ?_; try ((repeat ((fail_if_success (refine hK _ _ ?_)); clear hK K)); refine hK _ _ ?_; clear hK K)) | (refine a_bin ?_ ?_ <;> intro _ <;> try (exfalso; omega)) | refine a_ld hl ?_ | (refine a_st hl ?_; clear hl; intro _ hl) | fail)
  refine a_all (r7.ext hl.done) ?_
  refine a_fn (named_calls (hg.ext hl.done)) ?_
  rintro v w12 ⟨bn, esn, cn, mn, rfl, hmn, hnn, hl2⟩
  replace hl := hl.join hl2
  clear hl2
  have hl : LH w1 (fun _ => False) w12 ([(b17, Obj.map #[] 0), (bn, Obj.map esn cn), (b16, Obj.cells [str m.id, .int .i64 m.opened, .slice ca m.cas.length cc, str g.dst, .int .i64 z, .slice ma m.moved.length mc, .slice none 0 0, .slice xl m.limits.length yl].toArray 27 (0, 0)), (b12, .cells zeroMt.toArray 27 (0, 0))] ++ accL) := hl.perm (List.Perm.swap _ _ _)
  have r612 := r6.ext hl.done
  repeat' (first | refine a_row r612 ?_ | refine a_mov ?_ | refine a_asg ?_ | refine a_binN ?_ | refine a_notb ?_ | refine a_fa ?_ | refine a_ext ?_ | refine a_lenv ?_ | refine a_pick_t ?_ | refine a_pick_f ?_ | refine a_not ?_ | (refine o_nil (hK _ _ ?_); clear hK K) | refine wk_reg ?_ | refine wk_seq fun K hK => ?_ | (refine wk_skip (hK _ _ ?_); clear hK K) | (refine wk_label (hK _ _ ?_); clear hK K) | refine wk_scope ?_ | refine wk_block ?_ | refine wk_cond_t rfl ?_ | refine wk_cond_f rfl ?_ | (refine wk_exit ?_; (repeat (refine blockK_other rfl ?_)); refine blockK_same ?_; try ((repeat ((fail_if_success (refine hK _ _ ?_)); clear hK K)); refine hK _ _ ?_; clear hK K)) | (refine a_bin ?_ ?_ <;> intro _ <;> try (exfalso; omega)) | refine a_ld hl ?_ | (refine a_st hl ?_; clear hl; intro _ hl) | fail)
  have hky := key_str (P := Tryz.prog) (kt := 9) rfl
  obtain ⟨ra', rc', hreq, hrp⟩ := sl_each rightL_len (by decide) hmr
  cases hreq
  refine wk_loopH [] rfl (fun i : Nat => [(4, .int .i64 day), (5, .slice none 0 0), (6, .pointer (some ⟨b6, 0, none⟩)), (7, .pointer (some ⟨b7, 0, none⟩)), (12, .pointer (some ⟨b12, 0, none⟩)), (16, .pointer (some ⟨b16, 0, none⟩)), (17, .map (some b17)), (18, .map (some bn)), (121, .slice ra m.rights.length rc), (122, .int .i64 (m.rights.length : Int)), (123, .int .i64 (i : Int))])
    (fun i w' => i ≤ m.rights.length ∧ ∃ es c mm rv accR, LH w1 (fun _ => False) w' ([(b17, Obj.map es c), (bn, Obj.map esn cn), (b16, Obj.cells [str m.id, .int .i64 m.opened, .slice ca m.cas.length cc, str g.dst, .int .i64 z, .slice ma m.moved.length mc, rv, .slice xl m.limits.length yl].toArray 27 (0, 0)), (b12, .cells zeroMt.toArray 27 (0, 0))] ++ accL ++ accR) ∧ MapR str es mm ∧ AtI (carry (renB g.rights) (m.rights.take i) []) mm ∧ Acc rv 2 51 (carry (renB g.rights) (m.rights.take i) []).length ((carry (renB g.rights) (m.rights.take i) []).flatMap rightL) accR) (fun i => m.rights.length - i) 0
    ⟨rfl, rfl, rfl, rfl, rfl, rfl, rfl, rfl, rfl, rfl, rfl, trivial⟩ ⟨Nat.zero_le _, #[], 0, [], .slice none 0 0, [], by rw [List.append_nil]; exact hl, MapR.nil, atI_nil, Acc.nil _ _⟩ ?_
  clear hl r612 r64 r74 r84 r69
  have hr60 := ok.rightsL
  rintro i t1 w13 ⟨hi, es, c, mm, rv, accR, hl, hmr2, hat, hR⟩
  by_cases hlt : i < m.rights.length
  · obtain ⟨b, o, hpp, hrr⟩ := hrp i hlt
    have hrr := hrr w13 hl.done
    have hct := carry_take (renB g.rights) hlt
    have hcl := carry_len (renB g.rights) (m.rights.take i) []
    rw [List.length_take, List.length_nil] at hcl
    generalize m.rights[i] = q at *
    generalize hRi : carry (renB g.rights) (m.rights.take i) [] = R at *
    obtain ⟨rva, rvc, rfl⟩ := hR.shape
    repeat' (first | refine a_mov ?_ | refine a_asg ?_ | refine a_binN ?_ | refine a_notb ?_ | refine a_fa ?_ | refine a_ext ?_ | refine a_lenv ?_ | refine a_pick_t ?_ | refine a_pick_f ?_ | refine a_not ?_ | (refine o_nil (hK _ _ ?_); clear hK K) | refine wk_reg ?_ | refine wk_seq fun K hK => ?_ | (refine wk_skip (hK _ _ ?_); clear hK K) | (refine wk_label (hK _ _ ?_); clear hK K) | refine wk_scope ?_ | refine wk_block ?_ | refine wk_cond_t rfl ?_ | refine wk_cond_f rfl ?_ | (refine wk_exit ?_; (repeat (refine blockK_other rfl ?_)); refine blockK_same ?_; try ((repeat ((fail_if_success (refine hK _ _ ?_)); clear hK K)); refine hK _ _ ?_; clear hK K)) | (refine a_bin ?_ ?_ <;> intro _ <;> try (exfalso; omega)) | refine a_ld hl ?_ | (refine a_st hl ?_; clear hl; intro _ hl) | refine a_idx (c := 2) i hpp ?_ | refine a_all hrr ?_ | fail)
    have hl : LH w1 (fun _ => False) w13 (([(b17, Obj.map es c), (bn, Obj.map esn cn), (b16, Obj.cells [str m.id, .int .i64 m.opened, .slice ca m.cas.length cc, str g.dst, .int .i64 z, .slice ma m.moved.length mc, .slice rva R.length rvc, .slice xl m.limits.length yl].toArray 27 (0, 0)), (b12, .cells zeroMt.toArray 27 (0, 0))] ++ accL) ++ accR) := hl
    refine o_alloc hl [.string ⟨#[]⟩, .int .i64 0] rfl rfl ?_
    clear hl
    intro b20 w14 hb20 hl
    refine o_store hl 0 (rightL q) rfl rfl rfl (by rfl) rfl (by simp [rightL]) (by simp only [rightL, List.all_cons, str_eq]; rfl) ?_
    clear hl
    intro w15 hl
    have hl : LH w1 (fun _ => False) w15 (((b20, .cells [str q.name, .int .i64 q.since].toArray 51 (0, 0)) :: [(b17, Obj.map es c), (bn, Obj.map esn cn), (b16, Obj.cells [str m.id, .int .i64 m.opened, .slice ca m.cas.length cc, str g.dst, .int .i64 z, .slice ma m.moved.length mc, .slice rva R.length rvc, .slice xl m.limits.length yl].toArray 27 (0, 0)), (b12, .cells zeroMt.toArray 27 (0, 0))] ++ accL) ++ accR) := hl
    repeat' (first | refine a_mov ?_ | refine a_asg ?_ | refine a_binN ?_ | refine a_notb ?_ | refine a_fa ?_ | refine a_ext ?_ | refine a_lenv ?_ | refine a_pick_t ?_ | refine a_pick_f ?_ | refine a_not ?_ | (refine o_nil (hK _ _ ?_); clear hK K) | refine wk_reg ?_ | refine wk_seq fun K hK => ?_ | (refine wk_skip (hK _ _ ?_); clear hK K) | (refine wk_label (hK _ _ ?_); clear hK K) | refine wk_scope ?_ | refine wk_block ?_ | refine wk_cond_t rfl ?_ | refine wk_cond_f rfl ?_ | (refine wk_exit ?_; (repeat (refine blockK_other rfl ?_)); refine blockK_same ?_; try ((repeat ((fail_if_success (refine hK _ _ ?_)); clear hK K)); refine hK _ _ ?_; clear hK K)) | (refine a_bin ?_ ?_ <;> intro _ <;> try (exfalso; omega)) | refine a_ld hl ?_ | (refine a_st hl ?_; clear hl; intro _ hl) | fail)
    refine a_fn (renamed_calls hmn hnn (hl.get 2 rfl) q.name) ?_
    rintro v w16 ⟨rfl, e16⟩
    replace hl := hl.ext e16
    generalize renB g.rights q.name = nm at *
    repeat' (first | refine a_mov ?_ | refine a_asg ?_ | refine a_binN ?_ | refine a_notb ?_ | refine a_fa ?_ | refine a_ext ?_ | refine a_lenv ?_ | refine a_pick_t ?_ | refine a_pick_f ?_ | refine a_not ?_ | (refine o_nil (hK _ _ ?_); clear hK K) | refine wk_reg ?_ | refine wk_seq fun K hK => ?_ | (refine wk_skip (hK _ _ ?_); clear hK K) | (refine wk_label (hK _ _ ?_); clear hK K) | refine wk_scope ?_ | refine wk_block ?_ | refine wk_cond_t rfl ?_ | refine wk_cond_f rfl ?_ | (refine wk_exit ?_; (repeat (refine blockK_other rfl ?_)); refine blockK_same ?_; try ((repeat ((fail_if_success (refine hK _ _ ?_)); clear hK K)); refine hK _ _ ?_; clear hK K)) | (refine a_bin ?_ ?_ <;> intro _ <;> try (exfalso; omega)) | refine a_ld hl ?_ | (refine a_st hl ?_; clear hl; intro _ hl) | fail)
    have hl : LH w1 (fun _ => False) _ (((b20, .cells (rightL ⟨nm, q.since⟩).toArray 51 (0, 0)) :: [(b17, Obj.map es c), (bn, Obj.map esn cn), (b16, Obj.cells [str m.id, .int .i64 m.opened, .slice ca m.cas.length cc, str g.dst, .int .i64 z, .slice ma m.moved.length mc, .slice rva R.length rvc, .slice xl m.limits.length yl].toArray 27 (0, 0)), (b12, .cells zeroMt.toArray 27 (0, 0))] ++ accL) ++ accR) := hl
    refine o_lookup nm hmr2 (hl.get 1 rfl) hky rfl rfl rfl rfl rfl ?_
    rw [if_pos rfl, hat nm]
    cases hidx : idxR R nm with
    | none =>
      obtain ⟨k1, k2⟩ := laid_none (r := ⟨nm, q.since⟩) hidx
      repeat' (first | refine a_mov ?_ | refine a_asg ?_ | refine a_binN ?_ | refine a_notb ?_ | refine a_fa ?_ | refine a_ext ?_ | refine a_lenv ?_ | refine a_pick_t ?_ | refine a_pick_f ?_ | refine a_not ?_ | (refine o_nil (hK _ _ ?_); clear hK K) | refine wk_reg ?_ | refine wk_seq fun K hK => ?_ | (refine wk_skip (hK _ _ ?_); clear hK K) | (refine wk_label (hK _ _ ?_); clear hK K) | refine wk_scope ?_ | refine wk_block ?_ | refine wk_cond_t rfl ?_ | refine wk_cond_f rfl ?_ | (refine wk_exit ?_; (repeat (refine blockK_other rfl ?_)); refine blockK_same ?_; try ((repeat ((fail_if_success (refine hK _ _ ?_)); clear hK K)); refine hK _ _ ?_; clear hK K)) | (refine a_bin ?_ ?_ <;> intro _ <;> try (exfalso; omega)) | refine a_ld hl ?_ | (refine a_st hl ?_; clear hl; intro _ hl) | fail)
      refine o_mapUpdate (v := .int .i64 (R.length : Int)) nm hl 1 rfl hmr2 hky rfl rfl rfl rfl rfl ?_
      clear hl hmr2
      intro w18 es' c' hmr2 hl
      have hl : LH w1 (fun _ => False) w18 (((b20, .cells (rightL ⟨nm, q.since⟩).toArray 51 (0, 0)) :: [(b17, Obj.map es' c'), (bn, Obj.map esn cn), (b16, Obj.cells [str m.id, .int .i64 m.opened, .slice ca m.cas.length cc, str g.dst, .int .i64 z, .slice ma m.moved.length mc, .slice rva R.length rvc, .slice xl m.limits.length yl].toArray 27 (0, 0)), (b12, .cells zeroMt.toArray 27 (0, 0))] ++ accL) ++ accR) := hl
      have hat2 : AtI (R ++ [⟨nm, q.since⟩]) (ins mm nm (.int .i64 (R.length : Int))) := fun kk => by
        rw [get_ins, k2 kk]
        simp only
        by_cases hkk : kk = nm
        · rw [if_pos hkk, if_pos hkk]; rfl
        · rw [if_neg hkk, if_neg hkk, hat kk]
      repeat' (first | refine a_mov ?_ | refine a_asg ?_ | refine a_binN ?_ | refine a_notb ?_ | refine a_fa ?_ | refine a_ext ?_ | refine a_lenv ?_ | refine a_pick_t ?_ | refine a_pick_f ?_ | refine a_not ?_ | (refine o_nil (hK _ _ ?_); clear hK K) | refine wk_reg ?_ | refine wk_seq fun K hK => ?_ | (refine wk_skip (hK _ _ ?_); clear hK K) | (refine wk_label (hK _ _ ?_); clear hK K) | refine wk_scope ?_ | refine wk_block ?_ | refine wk_cond_t rfl ?_ | refine wk_cond_f rfl ?_ | (refine wk_exit ?_; (repeat (refine blockK_other rfl ?_)); refine blockK_same ?_; try ((repeat ((fail_if_success (refine hK _ _ ?_)); clear hK K)); refine hK _ _ ?_; clear hK K)) | (refine a_bin ?_ ?_ <;> intro _ <;> try (exfalso; omega)) | refine a_ld hl ?_ | (refine a_st hl ?_; clear hl; intro _ hl) | refine a_all (vs := rightL ⟨nm, q.since⟩) (hl.rowL 0 0 2 rfl) ?_ | fail)
      refine o_buildSlice hl (rightL ⟨nm, q.since⟩) rfl rfl (by simp only [rightL, str_eq]; kernel_rfl) ?_
      clear hl
      intro b21 w19 hb21 hl
      have hl : LH w1 (fun _ => False) w19 (((b21, .cells (rightL ⟨nm, q.since⟩).toArray 51 (0, 0)) :: (b20, .cells (rightL ⟨nm, q.since⟩).toArray 51 (0, 0)) :: [(b17, Obj.map es' c'), (bn, Obj.map esn cn), (b16, Obj.cells [str m.id, .int .i64 m.opened, .slice ca m.cas.length cc, str g.dst, .int .i64 z, .slice ma m.moved.length mc, .slice rva R.length rvc, .slice xl m.limits.length yl].toArray 27 (0, 0)), (b12, .cells zeroMt.toArray 27 (0, 0))] ++ accL) ++ accR) := hl
      refine o_append (k := 2) (bytes := 24) (m := R.length) (q := 1) (us := rightL ⟨nm, q.since⟩) hl hR (hl.rowL (vs := rightL ⟨nm, q.since⟩) 0 0 2 rfl) rfl (by simp only [rightL, List.all_cons, str_eq]; rfl) (by decide) (by omega) (by omega) rfl rfl (by kernel_rfl) rfl rfl ?_
      clear hl hR
      intro v2 w20 acc2 hl hR
      obtain ⟨x2, y2, rfl⟩ := hR.shape
      repeat' (first | refine a_mov ?_ | refine a_asg ?_ | refine a_binN ?_ | refine a_notb ?_ | refine a_fa ?_ | refine a_ext ?_ | refine a_lenv ?_ | refine a_pick_t ?_ | refine a_pick_f ?_ | refine a_not ?_ | (refine o_nil (hK _ _ ?_); clear hK K) | refine wk_reg ?_ | refine wk_seq fun K hK => ?_ | (refine wk_skip (hK _ _ ?_); clear hK K) | (refine wk_label (hK _ _ ?_); clear hK K) | refine wk_scope ?_ | refine wk_block ?_ | refine wk_cond_t rfl ?_ | refine wk_cond_f rfl ?_ | (refine wk_exit ?_; (repeat (refine blockK_other rfl ?_)); refine blockK_same ?_; try ((repeat ((fail_if_success (refine hK _ _ ?_)); clear hK K)); refine hK _ _ ?_; clear hK K)) | (refine a_bin ?_ ?_ <;> intro _ <;> try (exfalso; omega)) | refine a_ld hl ?_ | (refine a_st hl ?_; clear hl; intro _ hl) | fail)
      have hl : LH w1 (fun _ => False) _ (((b21, .cells (rightL ⟨nm, q.since⟩).toArray 51 (0, 0)) :: (b20, .cells (rightL ⟨nm, q.since⟩).toArray 51 (0, 0)) :: [(b17, Obj.map es' c'), (bn, Obj.map esn cn), (b16, Obj.cells [str m.id, .int .i64 m.opened, .slice ca m.cas.length cc, str g.dst, .int .i64 z, .slice ma m.moved.length mc, .slice x2 (R.length + 1) y2, .slice xl m.limits.length yl].toArray 27 (0, 0)), (b12, .cells zeroMt.toArray 27 (0, 0))] ++ accL) ++ acc2) := hl
      refine o_nil ⟨i + 1, ⟨rfl, rfl, rfl, rfl, rfl, rfl, rfl, rfl, rfl, rfl, rfl, trivial⟩, rfl, ⟨hlt, es', c', _, _, acc2, hl.sub ((List.sublist_cons_self _ _).trans (List.sublist_cons_self _ _)), hmr2, ?_, ?_⟩, by omega⟩
      · rw [hct, k1]
        exact hat2
      · rw [hct, k1, List.length_append, List.flatMap_append]
        exact hR
    | some j =>
      obtain ⟨k1, k2⟩ := laid_some (r := ⟨nm, q.since⟩) hidx
      obtain ⟨hj, hjn⟩ := idx_lt hidx
      repeat' (first | refine a_mov ?_ | refine a_asg ?_ | refine a_binN ?_ | refine a_notb ?_ | refine a_fa ?_ | refine a_ext ?_ | refine a_lenv ?_ | refine a_pick_t ?_ | refine a_pick_f ?_ | refine a_not ?_ | (refine o_nil (hK _ _ ?_); clear hK K) | refine wk_reg ?_ | refine wk_seq fun K hK => ?_ | (refine wk_skip (hK _ _ ?_); clear hK K) | (refine wk_label (hK _ _ ?_); clear hK K) | refine wk_scope ?_ | refine wk_block ?_ | refine wk_cond_t rfl ?_ | refine wk_cond_f rfl ?_ | (refine wk_exit ?_; (repeat (refine blockK_other rfl ?_)); refine blockK_same ?_; try ((repeat ((fail_if_success (refine hK _ _ ?_)); clear hK K)); refine hK _ _ ?_; clear hK K)) | (refine a_bin ?_ ?_ <;> intro _ <;> try (exfalso; omega)) | refine a_ld hl ?_ | (refine a_st hl ?_; clear hl; intro _ hl) | fail)
      obtain ⟨br, cap, junk, hveq, rfl, c1, c2, c3⟩ := hR.one (by omega)
      cases hveq
      have hsl : Sl _ _ 2 (R.flatMap rightL) := hl.acc_sl hR
      obtain ⟨aa, ac, haeq, hpa⟩ := sl_each rightL_len (by decide) hsl
      cases haeq
      obtain ⟨ba, oa, hpae, hra⟩ := hpa j hj
      cases hpae
      replace hra := hra _ (.refl _ _)
      have hr20 : Row _ b20 0 [str nm, .int .i64 q.since] := hl.rowL (vs := rightL ⟨nm, q.since⟩) 0 0 2 rfl
      have hr16 : Row _ b16 0 [str m.id, .int .i64 m.opened, .slice ca m.cas.length cc, str g.dst, .int .i64 z, .slice ma m.moved.length mc, .slice (some ⟨br, 0, none⟩) R.length rvc, .slice xl m.limits.length yl] := hl.rowL (vs := [str m.id, .int .i64 m.opened, .slice ca m.cas.length cc, str g.dst, .int .i64 z, .slice ma m.moved.length mc, .slice (some ⟨br, 0, none⟩) R.length rvc, .slice xl m.limits.length yl]) 3 0 8 rfl
      generalize hrj : R[j] = rj at *
      rw [Nat.zero_add] at hra
      refine wk_draw (List.range 14) [] [14] (fun w' => Ext _ w') (fun _ => True) rfl (by kernel_rfl) (fun _ _ _ _ h => by first | exact h | (simp only [BlockK, NoGoto, RetQ] at h)) (fun _ h => Upd.of_heap h) (fun _ _ => trivial) ?_
      repeat' (first | refine q_mov ?_ | refine q_fa ?_ | refine q_nil ?_ | refine q_row (fun w_ hw_ => hr16.ext hw_) ?_ | refine q_row (fun w_ hw_ => hr20.ext hw_) ?_ | refine q_idx (c := 2) j rfl ?_ | refine q_row (fun w_ hw_ => hra.ext hw_) ?_ | refine q_pur rfl rfl rfl (fun _ => r_min rfl rfl) ?_ | fail)
      intro w18 e18
      replace hl := (hl.ext e18).perm List.perm_append_comm
      refine ops_tail rfl rfl ?_
      refine o_store hl 0 [.int .i64 (min rj.since q.since)] rfl rfl rfl rfl rfl ?_ rfl ?_
      · have := flat_length rightL_len R
        rw [List.length_append, this]
        simp only [List.length_cons, List.length_nil]
        omega
      clear hl
      intro w19 hl
      refine o_nil ⟨trivial, ?_⟩
      refine ops_nil (hK _ _ ?_)
      clear hK K
      have hset := set_flat2 (junk := junk) (z := min rj.since q.since) hj (n := nm) (by rw [hrj]; exact hjn)
      have hl : LH w1 (fun _ => False) w19 ((br, .cells ((R.flatMap rightL ++ junk).set (j * 2 + 1) (.int .i64 (min rj.since q.since))).toArray 51 (0, 0)) :: (((b20, .cells (rightL ⟨nm, q.since⟩).toArray 51 (0, 0)) :: [(b17, Obj.map es c), (bn, Obj.map esn cn), (b16, Obj.cells [str m.id, .int .i64 m.opened, .slice ca m.cas.length cc, str g.dst, .int .i64 z, .slice ma m.moved.length mc, .slice (some ⟨br, 0, none⟩) R.length rvc, .slice xl m.limits.length yl].toArray 27 (0, 0)), (b12, .cells zeroMt.toArray 27 (0, 0))] ++ accL))) := hl
      rw [hset] at hl
      have k1' : laid R ⟨nm, q.since⟩ = R.set j ⟨nm, min rj.since q.since⟩ := k1
      have hf2 := flat_length rightL_len (R.set j ⟨nm, min rj.since q.since⟩)
      rw [List.length_set] at hf2
      have hf1 := flat_length rightL_len R
      repeat' (first | refine a_mov ?_ | refine a_asg ?_ | refine a_binN ?_ | refine a_notb ?_ | refine a_fa ?_ | refine a_ext ?_ | refine a_lenv ?_ | refine a_pick_t ?_ | refine a_pick_f ?_ | refine a_not ?_ | (refine o_nil (hK _ _ ?_); clear hK K) | refine wk_reg ?_ | refine wk_seq fun K hK => ?_ | (refine wk_skip (hK _ _ ?_); clear hK K) | (refine wk_label (hK _ _ ?_); clear hK K) | refine wk_scope ?_ | refine wk_block ?_ | refine wk_cond_t rfl ?_ | refine wk_cond_f rfl ?_ | (refine wk_exit ?_; (repeat (refine blockK_other rfl ?_)); refine blockK_same ?_; try ((repeat ((fail_if_success (refine hK _ _ ?_)); clear hK K)); refine hK _ _ ?_; clear hK K)) | (refine a_bin ?_ ?_ <;> intro _ <;> try (exfalso; omega)) | refine a_ld hl ?_ | (refine a_st hl ?_; clear hl; intro _ hl) | fail)
      refine o_nil ⟨i + 1, ⟨rfl, rfl, rfl, rfl, rfl, rfl, rfl, rfl, rfl, rfl, rfl, trivial⟩, rfl, ⟨hlt, es, c, mm, _, [(br, _)], (hl.sub (l' := (br, _) :: ([(b17, Obj.map es c), (bn, Obj.map esn cn), (b16, Obj.cells [str m.id, .int .i64 m.opened, .slice ca m.cas.length cc, str g.dst, .int .i64 z, .slice ma m.moved.length mc, .slice (some ⟨br, 0, none⟩) R.length rvc, .slice xl m.limits.length yl].toArray 27 (0, 0)), (b12, .cells zeroMt.toArray 27 (0, 0))] ++ accL)) (.cons_cons _ (List.sublist_cons_self _ _))).perm (List.perm_append_comm (l₁ := [_])), hmr2, ?_, ?_⟩, by omega⟩
      · rw [hct, k1']
        intro kk
        rw [← k1', k2 kk]
        exact hat kk
      · rw [hct, k1', List.length_set]
        refine Acc.of_one hf2 c1 c2 ?_
        rw [List.length_append] at c3 ⊢
        omega
  obtain rfl : i = m.rights.length := by omega
  rw [List.take_length] at hR hat
  generalize hRR : carry (renB g.rights) m.rights [] = RR at *
  have hl : LH w1 (fun _ => False) w13 ([(b16, Obj.cells [str m.id, .int .i64 m.opened, .slice ca m.cas.length cc, str g.dst, .int .i64 z, .slice ma m.moved.length mc, rv, .slice xl m.limits.length yl].toArray 27 (0, 0)), (b12, .cells zeroMt.toArray 27 (0, 0))] ++ accL ++ accR) := hl.sub ((List.sublist_cons_self _ _).trans (List.sublist_cons_self _ _))
  have hRl : RR.length ≤ m.rights.length := by rw [← hRR]; have := carry_len (renB g.rights) m.rights []; simp only [List.length_nil] at this; omega
  clear hmr2 hat hmn hnn hky
  have r613 := r6.ext hl.done
  repeat' (first | refine a_row r613 ?_ | refine a_mov ?_ | refine a_asg ?_ | refine a_binN ?_ | refine a_notb ?_ | refine a_fa ?_ | refine a_ext ?_ | refine a_lenv ?_ | refine a_pick_t ?_ | refine a_pick_f ?_ | refine a_not ?_ | (refine o_nil (hK _ _ ?_); clear hK K) | refine wk_reg ?_ | refine wk_seq fun K hK => ?_ | (refine wk_skip (hK _ _ ?_); clear hK K) | (refine wk_label (hK _ _ ?_); clear hK K) | refine wk_scope ?_ | refine wk_block ?_ | refine wk_cond_t rfl ?_ | refine wk_cond_f rfl ?_ | (refine wk_exit ?_; (repeat (refine blockK_other rfl ?_)); refine blockK_same ?_; try ((repeat ((fail_if_success (refine hK _ _ ?_)); clear hK K)); refine hK _ _ ?_; clear hK K)) | (refine a_bin ?_ ?_ <;> intro _ <;> try (exfalso; omega)) | refine a_ld hl ?_ | (refine a_st hl ?_; clear hl; intro _ hl) | fail)
  obtain ⟨la', lc', hleq, hlq⟩ := sl_each limL_len (by decide) hmt
  obtain ⟨rfl, -, -⟩ := Value.slice.inj hleq
  obtain ⟨ta', tc', hteq, htq⟩ := sl_each limL_len (by decide) hgt
  obtain ⟨rfl, -, -⟩ := Value.slice.inj hteq
  have hltl : lt.length = g.terms.length := by rw [← hlt', List.length_map]
  have hgt60 : g.terms.length ≤ 60 := by
    have := hmg.1
    unfold migB at this
    simp only [Bool.and_eq_true, decide_eq_true_eq] at this
    exact this.1.1.1.1.1.2.2.2
  refine wk_loopH [] rfl (fun i : Nat => [(4, .int .i64 day), (5, .slice none 0 0), (6, .pointer (some ⟨b6, 0, none⟩)), (7, .pointer (some ⟨b7, 0, none⟩)), (12, .pointer (some ⟨b12, 0, none⟩)), (16, .pointer (some ⟨b16, 0, none⟩)), (169, .slice la m.limits.length lc), (170, .int .i64 (m.limits.length : Int)), (171, .int .i64 (i : Int))])
    (fun i w' => i ≤ m.limits.length ∧ ∃ accL done, LH w1 (fun _ => False) w' ([(b16, Obj.cells [str m.id, .int .i64 m.opened, .slice ca m.cas.length cc, str g.dst, .int .i64 z, .slice ma m.moved.length mc, rv, .slice xl m.limits.length yl].toArray 27 (0, 0)), (b12, .cells zeroMt.toArray 27 (0, 0))] ++ accL ++ accR) ∧ Acc (.slice xl m.limits.length yl) 5 56 m.limits.length ((done ++ lp.drop i).flatMap limL) accL ∧ done.length = i ∧ steps g.terms day ((lp.take i).map Prod.fst) = some (done.map Prod.fst) ∧ ∀ p ∈ done, LimIn w1 p) (fun i => m.limits.length - i) 0
    ⟨rfl, rfl, rfl, rfl, rfl, rfl, rfl, rfl, rfl, trivial⟩ ⟨Nat.zero_le _, accL, [], hl, haL, rfl, rfl, fun _ h => nomatch h⟩ ?_
  clear hl r613 haL
  rintro i t3 w14 ⟨hi, accL, done, hl, haL, hdl, hst, hdn⟩
  by_cases hlt : i < m.limits.length
  · have hlt2 : i < lp.length := by omega
    obtain ⟨b, o, hpp, hrr⟩ := hlq i hlt2
    have hrr := hrr w14 hl.done
    have hpin := hmli _ (List.getElem_mem hlt2)
    have hdr : lp.drop i = lp[i] :: lp.drop (i + 1) := List.drop_eq_getElem_cons hlt2
    have htk : lp.take (i + 1) = lp.take i ++ [lp[i]] := List.take_succ_eq_append_getElem hlt2
    have hmls : m.limits = (lp.take i).map Prod.fst ++ lp[i].1 :: (lp.drop (i + 1)).map Prod.fst := by
      rw [← hlp, ← List.map_cons, ← hdr, ← List.map_append, List.take_append_drop]
    generalize lp[i] = pl at *
    obtain ⟨va, vc, hpv⟩ := lim_shape hpin
    repeat' (first | refine a_mov ?_ | refine a_asg ?_ | refine a_binN ?_ | refine a_notb ?_ | refine a_fa ?_ | refine a_ext ?_ | refine a_lenv ?_ | refine a_pick_t ?_ | refine a_pick_f ?_ | refine a_not ?_ | (refine o_nil (hK _ _ ?_); clear hK K) | refine wk_reg ?_ | refine wk_seq fun K hK => ?_ | (refine wk_skip (hK _ _ ?_); clear hK K) | (refine wk_label (hK _ _ ?_); clear hK K) | refine wk_scope ?_ | refine wk_block ?_ | refine wk_cond_t rfl ?_ | refine wk_cond_f rfl ?_ | (refine wk_exit ?_; (repeat (refine blockK_other rfl ?_)); refine blockK_same ?_; try ((repeat ((fail_if_success (refine hK _ _ ?_)); clear hK K)); refine hK _ _ ?_; clear hK K)) | (refine a_bin ?_ ?_ <;> intro _ <;> try (exfalso; omega)) | refine a_ld hl ?_ | (refine a_st hl ?_; clear hl; intro _ hl) | refine a_idx (c := 5) i hpp ?_ | refine a_all hrr ?_ | fail)
    have hl : LH w1 (fun _ => False) w14 (([(b16, Obj.cells [str m.id, .int .i64 m.opened, .slice ca m.cas.length cc, str g.dst, .int .i64 z, .slice ma m.moved.length mc, rv, .slice xl m.limits.length yl].toArray 27 (0, 0)), (b12, .cells zeroMt.toArray 27 (0, 0))] ++ accL) ++ accR) := hl
    refine o_alloc hl limZ (by kernel_rfl) rfl ?_
    clear hl
    intro b24 w15 hb24 hl
    repeat' (first | refine a_mov ?_ | refine a_asg ?_ | refine a_binN ?_ | refine a_notb ?_ | refine a_fa ?_ | refine a_ext ?_ | refine a_lenv ?_ | refine a_pick_t ?_ | refine a_pick_f ?_ | refine a_not ?_ | (refine a_bin ?_ ?_ <;> intro _ <;> try (exfalso; omega)) | refine a_ld hl ?_ | (refine a_st hl ?_; clear hl; intro _ hl) | fail)
    refine o_store hl 0 (limL pl) rfl rfl rfl (by rfl) rfl (by rw [limL_len]; decide) (lim_one hpin) ?_
    clear hl
    intro w16 hl
    have hl : LH w1 (fun _ => False) w16 (((b24, .cells (limL pl).toArray 56 (0, 0)) :: [(b16, Obj.cells [str m.id, .int .i64 m.opened, .slice ca m.cas.length cc, str g.dst, .int .i64 z, .slice ma m.moved.length mc, rv, .slice xl m.limits.length yl].toArray 27 (0, 0)), (b12, .cells zeroMt.toArray 27 (0, 0))] ++ accL) ++ accR) := hl
    have r716 := r7.ext hl.done
    repeat' (first | refine a_row r716 ?_ | refine a_mov ?_ | refine a_asg ?_ | refine a_binN ?_ | refine a_notb ?_ | refine a_fa ?_ | refine a_ext ?_ | refine a_lenv ?_ | refine a_pick_t ?_ | refine a_pick_f ?_ | refine a_not ?_ | (refine o_nil (hK _ _ ?_); clear hK K) | refine wk_reg ?_ | refine wk_seq fun K hK => ?_ | (refine wk_skip (hK _ _ ?_); clear hK K) | (refine wk_label (hK _ _ ?_); clear hK K) | refine wk_scope ?_ | refine wk_block ?_ | refine wk_cond_t rfl ?_ | refine wk_cond_f rfl ?_ | (refine wk_exit ?_; (repeat (refine blockK_other rfl ?_)); refine blockK_same ?_; try ((repeat ((fail_if_success (refine hK _ _ ?_)); clear hK K)); refine hK _ _ ?_; clear hK K)) | (refine a_bin ?_ ?_ <;> intro _ <;> try (exfalso; omega)) | refine a_ld hl ?_ | (refine a_st hl ?_; clear hl; intro _ hl) | fail)
    refine wk_loopH [] rfl (fun k : Nat => [(4, .int .i64 day), (5, .slice none 0 0), (6, .pointer (some ⟨b6, 0, none⟩)), (7, .pointer (some ⟨b7, 0, none⟩)), (12, .pointer (some ⟨b12, 0, none⟩)), (16, .pointer (some ⟨b16, 0, none⟩)), (23, .int .i64 (i : Int)), (24, .pointer (some ⟨b24, 0, none⟩)), (169, .slice la m.limits.length lc), (170, .int .i64 (m.limits.length : Int)), (171, .int .i64 (i : Int)), (177, .slice ta g.terms.length tc), (178, .int .i64 (g.terms.length : Int)), (179, .int .i64 (k : Int))])
      (fun k w' => k ≤ g.terms.length ∧ (∀ t ∈ g.terms.take k, t.id ≠ pl.1.id) ∧ LH w1 (fun _ => False) w' (((b24, .cells (limL pl).toArray 56 (0, 0)) :: [(b16, Obj.cells [str m.id, .int .i64 m.opened, .slice ca m.cas.length cc, str g.dst, .int .i64 z, .slice ma m.moved.length mc, rv, .slice xl m.limits.length yl].toArray 27 (0, 0)), (b12, .cells zeroMt.toArray 27 (0, 0))] ++ accL) ++ accR)) (fun k => g.terms.length - k) 0
      ⟨rfl, rfl, rfl, rfl, rfl, rfl, rfl, rfl, rfl, rfl, rfl, rfl, rfl, rfl, trivial⟩ ⟨Nat.zero_le _, (fun t ht => by simp at ht), hl⟩ ?_
    clear hl r716
    rintro kt t4 w17 ⟨hkt, hno, hl⟩
    by_cases hktl : kt < g.terms.length
    · have hktl2 : kt < lt.length := by omega
      obtain ⟨bt, ot, hpt, hrt⟩ := htq kt hktl2
      have hrt := hrt w17 hl.done
      have htin := hgli _ (List.getElem_mem hktl2)
      have hgtk : g.terms[kt] = lt[kt].1 := by simp only [← hlt', List.getElem_map]
      have htake : g.terms.take (kt + 1) = g.terms.take kt ++ [g.terms[kt]] := List.take_succ_eq_append_getElem hktl
      have hft := first_take (l := pl.1) hktl hno
      rw [hgtk] at htake hft
      generalize lt[kt] = tt at *
      repeat' (first | refine a_mov ?_ | refine a_asg ?_ | refine a_binN ?_ | refine a_notb ?_ | refine a_fa ?_ | refine a_ext ?_ | refine a_lenv ?_ | refine a_pick_t ?_ | refine a_pick_f ?_ | refine a_not ?_ | (refine o_nil (hK _ _ ?_); clear hK K) | refine wk_reg ?_ | refine wk_seq fun K hK => ?_ | (refine wk_skip (hK _ _ ?_); clear hK K) | (refine wk_label (hK _ _ ?_); clear hK K) | refine wk_scope ?_ | refine wk_block ?_ | refine wk_cond_t rfl ?_ | refine wk_cond_f rfl ?_ | (refine wk_exit ?_; (repeat (refine blockK_other rfl ?_)); refine blockK_same ?_; try ((repeat ((fail_if_success (refine hK _ _ ?_)); clear hK K)); refine hK _ _ ?_; clear hK K)) | (refine a_bin ?_ ?_ <;> intro _ <;> try (exfalso; omega)) | refine a_ld hl ?_ | (refine a_st hl ?_; clear hl; intro _ hl) | refine a_idx (c := 5) kt hpt ?_ | refine a_all hrt ?_ | fail)
      refine o_alloc hl limZ (by kernel_rfl) rfl ?_
      clear hl
      intro b26 w18 hb26 hl
      refine o_store hl 0 (limL tt) rfl rfl rfl (by rfl) rfl (by rw [limL_len]; decide) (lim_one htin) ?_
      clear hl
      intro w19 hl
      have hl : LH w1 (fun _ => False) w19 (((b26, .cells (limL tt).toArray 56 (0, 0)) :: (b24, .cells (limL pl).toArray 56 (0, 0)) :: [(b16, Obj.cells [str m.id, .int .i64 m.opened, .slice ca m.cas.length cc, str g.dst, .int .i64 z, .slice ma m.moved.length mc, rv, .slice xl m.limits.length yl].toArray 27 (0, 0)), (b12, .cells zeroMt.toArray 27 (0, 0))] ++ accL) ++ accR) := hl
      have hr26 : Row w19 b26 0 [str tt.1.id, .int .i64 tt.1.n, .int .i64 tt.1.u, .int .i64 tt.1.f, tt.2] := hl.rowL (vs := limL tt) 0 0 5 rfl
      have hr24 : Row w19 b24 0 [str pl.1.id, .int .i64 pl.1.n, .int .i64 pl.1.u, .int .i64 pl.1.f, pl.2] := hl.rowL (vs := limL pl) 1 0 5 rfl
      by_cases hid : tt.1.id = pl.1.id
      rotate_left
      · repeat' (first | refine a_row hr26 ?_ | refine a_row hr24 ?_ | refine o_nesT (a := tt.1.id) (b := pl.1.id) rfl rfl rfl (fun _ => ?_) (fun h_ => absurd h_ hid) | refine a_mov ?_ | refine a_asg ?_ | refine a_binN ?_ | refine a_notb ?_ | refine a_fa ?_ | refine a_ext ?_ | refine a_lenv ?_ | refine a_pick_t ?_ | refine a_pick_f ?_ | refine a_not ?_ | (refine o_nil (hK _ _ ?_); clear hK K) | refine wk_reg ?_ | refine wk_seq fun K hK => ?_ | (refine wk_skip (hK _ _ ?_); clear hK K) | (refine wk_label (hK _ _ ?_); clear hK K) | refine wk_scope ?_ | refine wk_block ?_ | refine wk_cond_t rfl ?_ | refine wk_cond_f rfl ?_ | (refine wk_exit ?_; (repeat (refine blockK_other rfl ?_)); refine blockK_same ?_; try ((repeat ((fail_if_success (refine hK _ _ ?_)); clear hK K)); refine hK _ _ ?_; clear hK K)) | (refine a_bin ?_ ?_ <;> intro _ <;> try (exfalso; omega)) | refine a_ld hl ?_ | (refine a_st hl ?_; clear hl; intro _ hl) | fail)
        refine o_nil ⟨kt + 1, ⟨rfl, rfl, rfl, rfl, rfl, rfl, rfl, rfl, rfl, rfl, rfl, rfl, rfl, rfl, trivial⟩, rfl, ⟨hktl, fun t ht => ?_, hl.sub (List.sublist_cons_self _ _)⟩, by omega⟩
        rw [htake] at ht
        rcases List.mem_append.1 ht with ht | ht
        · exact hno t ht
        · rw [List.mem_singleton.1 ht]; exact hid
      have hstep : Go.Top.step g.terms day pl.1 = changeL pl.1 day tt.1.n tt.1.u tt.1.f := by unfold Go.Top.step; rw [hft hid]
      have hr26t : Row w19 b26 1 [.int .i64 tt.1.n, .int .i64 tt.1.u] := hl.rowL (vs := limL tt) 0 1 2 rfl
      repeat' (first | refine a_row hr26 ?_ | refine a_row hr24 ?_ | refine o_nesT (a := tt.1.id) (b := pl.1.id) rfl rfl rfl (fun h_ => absurd hid h_) (fun _ => ?_) | refine a_all (vs := limL pl) hr24 ?_ | refine a_all (vs := [.int .i64 tt.1.n, .int .i64 tt.1.u]) hr26t ?_ | refine a_mov ?_ | refine a_asg ?_ | refine a_binN ?_ | refine a_notb ?_ | refine a_fa ?_ | refine a_ext ?_ | refine a_lenv ?_ | refine a_pick_t ?_ | refine a_pick_f ?_ | refine a_not ?_ | (refine o_nil (hK _ _ ?_); clear hK K) | refine wk_reg ?_ | refine wk_seq fun K hK => ?_ | (refine wk_skip (hK _ _ ?_); clear hK K) | (refine wk_label (hK _ _ ?_); clear hK K) | refine wk_scope ?_ | refine wk_block ?_ | refine wk_cond_t rfl ?_ | refine wk_cond_f rfl ?_ | (refine wk_exit ?_; (repeat (refine blockK_other rfl ?_)); refine blockK_same ?_; try ((repeat ((fail_if_success (refine hK _ _ ?_)); clear hK K)); refine hK _ _ ?_; clear hK K)) | (refine a_bin ?_ ?_ <;> intro _ <;> try (exfalso; omega)) | refine a_ld hl ?_ | (refine a_st hl ?_; clear hl; intro _ hl) | fail)
      refine a_fn (change_calls (hpin.ext hl.done) day tt.1.n tt.1.u tt.1.f) ?_
      rintro v w20 ⟨ho, e20⟩
      replace hl := hl.ext e20
      clear hr26 hr26t hr24
      cases hch : changeL pl.1 day tt.1.n tt.1.u tt.1.f with
      | none =>
        rw [hch] at ho hstep
        obtain ⟨e, he, rfl⟩ := ho
        repeat' (first | refine a_mov ?_ | refine a_asg ?_ | refine a_binN ?_ | refine a_notb ?_ | refine a_fa ?_ | refine a_ext ?_ | refine a_lenv ?_ | refine a_pick_t ?_ | refine a_pick_f ?_ | refine a_not ?_ | (refine a_bin ?_ ?_ <;> intro _ <;> try (exfalso; omega)) | refine a_ld hl ?_ | (refine a_st hl ?_; clear hl; intro _ hl) | fail)
        refine o_alloc hl limZ (by kernel_rfl) rfl ?_
        clear hl
        intro b27 w21 hb27 hl
        repeat' (first | refine a_mov ?_ | refine a_asg ?_ | refine a_binN ?_ | refine a_notb ?_ | refine a_fa ?_ | refine a_ext ?_ | refine a_lenv ?_ | refine a_pick_t ?_ | refine a_pick_f ?_ | refine a_not ?_ | (refine a_bin ?_ ?_ <;> intro _ <;> try (exfalso; omega)) | refine a_ld hl ?_ | (refine a_st hl ?_; clear hl; intro _ hl) | fail)
        refine o_store hl 0 zeroL rfl rfl rfl rfl rfl (by decide) rfl ?_
        clear hl
        intro w22 hl
        have hl : LH w1 (fun _ => False) w22 ((b27, .cells zeroL.toArray 56 (0, 0)) :: (b26, .cells (limL tt).toArray 56 (0, 0)) :: (b24, .cells (limL pl).toArray 56 (0, 0)) :: ([(b16, Obj.cells [str m.id, .int .i64 m.opened, .slice ca m.cas.length cc, str g.dst, .int .i64 z, .slice ma m.moved.length mc, rv, .slice xl m.limits.length yl].toArray 27 (0, 0)), (b12, .cells zeroMt.toArray 27 (0, 0))] ++ accL ++ accR)) := hl
        replace hl := hl.sub (l' := [(b12, .cells zeroMt.toArray 27 (0, 0))]) (.cons _ (.cons _ (.cons _ (.cons _ (.cons_cons _ (List.nil_sublist _))))))
        repeat' (first | refine a_mov ?_ | refine a_asg ?_ | refine a_binN ?_ | refine a_notb ?_ | refine a_fa ?_ | refine a_ext ?_ | refine a_lenv ?_ | refine a_pick_t ?_ | refine a_pick_f ?_ | refine a_not ?_ | (refine o_nil (hK _ _ ?_); clear hK K) | refine wk_reg ?_ | refine wk_seq fun K hK => ?_ | (refine wk_skip (hK _ _ ?_); clear hK K) | (refine wk_label (hK _ _ ?_); clear hK K) | refine wk_scope ?_ | refine wk_block ?_ | refine wk_cond_t rfl ?_ | refine wk_cond_f rfl ?_ | (refine wk_exit ?_; (repeat (refine blockK_other rfl ?_)); refine blockK_same ?_; try ((repeat ((fail_if_success (refine hK _ _ ?_)); clear hK K)); refine hK _ _ ?_; clear hK K)) | (refine a_bin ?_ ?_ <;> intro _ <;> try (exfalso; omega)) | refine a_ld hl ?_ | (refine a_st hl ?_; clear hl; intro _ hl) | fail)
        refine o_build zeroMt rfl (by kernel_rfl) ?_
        repeat' (first | refine a_mov ?_ | refine a_asg ?_ | refine a_binN ?_ | refine a_notb ?_ | refine a_fa ?_ | refine a_ext ?_ | refine a_lenv ?_ | refine a_pick_t ?_ | refine a_pick_f ?_ | refine a_not ?_ | (refine a_bin ?_ ?_ <;> intro _ <;> try (exfalso; omega)) | refine a_ld hl ?_ | (refine a_st hl ?_; clear hl; intro _ hl) | fail)
        refine o_store hl 0 zeroMt rfl rfl rfl rfl rfl (by decide) rfl ?_
        clear hl
        intro w9 hl
        replace hl : LH w1 (fun _ => False) w9 [(b12, .cells zeroMt.toArray 27 (0, 0))] := hl
        repeat' (first | refine a_mov ?_ | refine a_asg ?_ | refine a_binN ?_ | refine a_notb ?_ | refine a_fa ?_ | refine a_ext ?_ | refine a_lenv ?_ | refine a_pick_t ?_ | refine a_pick_f ?_ | refine a_not ?_ | (refine o_nil (hK _ _ ?_); clear hK K) | refine wk_reg ?_ | refine wk_seq fun K hK => ?_ | (refine wk_skip (hK _ _ ?_); clear hK K) | (refine wk_label (hK _ _ ?_); clear hK K) | refine wk_scope ?_ | refine wk_block ?_ | refine wk_cond_t rfl ?_ | refine wk_cond_f rfl ?_ | (refine wk_exit ?_; (repeat (refine blockK_other rfl ?_)); refine blockK_same ?_; try ((repeat ((fail_if_success (refine hK _ _ ?_)); clear hK K)); refine hK _ _ ?_; clear hK K)) | (refine a_bin ?_ ?_ <;> intro _ <;> try (exfalso; omega)) | refine a_ld hl ?_ | (refine a_st hl ?_; clear hl; intro _ hl) | fail)
        refine wk_ret (retQ_res [.agg zeroMt.toArray, .int .i64 e] rfl rfl ⟨by decide, ⟨⟨b12, 0, none⟩, rfl, run_loadVarN rfl rfl (hl.rowL (vs := zeroMt) 0 0 8 rfl)⟩, by decide, rfl, trivial⟩ ?_)
        refine ⟨?_, e1.trans hl.done⟩
        rw [hap, hmls, steps_stop hst hstep]
        exact ⟨e, he, rfl⟩
      | some l2 =>
        rw [hch] at ho hstep
        have ho : v = .tuple #[.agg (limL (l2, pl.2)).toArray, .int .i64 0] := ho
        subst ho
        obtain ⟨hst2, hid2⟩ := changeL_st hch
        have h2in : LimIn w1 (l2, pl.2) := ⟨by show Sl w1 pl.2 2 (l2.st.flatMap stopL); rw [hst2]; exact hpin.1, by show l2.st.length ≤ _; rw [hst2]; exact hpin.2.1, by show l2.id.length ≤ _; rw [hid2]; exact hpin.2.2⟩
        repeat' (first | refine a_mov ?_ | refine a_asg ?_ | refine a_binN ?_ | refine a_notb ?_ | refine a_fa ?_ | refine a_ext ?_ | refine a_lenv ?_ | refine a_pick_t ?_ | refine a_pick_f ?_ | refine a_not ?_ | (refine a_bin ?_ ?_ <;> intro _ <;> try (exfalso; omega)) | refine a_ld hl ?_ | (refine a_st hl ?_; clear hl; intro _ hl) | fail)
        refine o_alloc hl limZ (by kernel_rfl) rfl ?_
        clear hl
        intro b27 w21 hb27 hl
        repeat' (first | refine a_mov ?_ | refine a_asg ?_ | refine a_binN ?_ | refine a_notb ?_ | refine a_fa ?_ | refine a_ext ?_ | refine a_lenv ?_ | refine a_pick_t ?_ | refine a_pick_f ?_ | refine a_not ?_ | (refine a_bin ?_ ?_ <;> intro _ <;> try (exfalso; omega)) | refine a_ld hl ?_ | (refine a_st hl ?_; clear hl; intro _ hl) | fail)
        refine o_store hl 0 (limL (l2, pl.2)) rfl rfl rfl (by rfl) rfl (by rw [limL_len]; decide) (lim_one h2in) ?_
        clear hl
        intro w22 hl
        obtain ⟨bl, cap, junk, hveq, haeq, c1, c2, c3⟩ := haL.one (by omega)
        rw [haeq] at hl
        have hl : LH w1 (fun _ => False) w22 ((b27, .cells (limL (l2, pl.2)).toArray 56 (0, 0)) :: (b26, .cells (limL tt).toArray 56 (0, 0)) :: (b24, .cells (limL pl).toArray 56 (0, 0)) :: ([(b16, Obj.cells [str m.id, .int .i64 m.opened, .slice ca m.cas.length cc, str g.dst, .int .i64 z, .slice ma m.moved.length mc, rv, .slice xl m.limits.length yl].toArray 27 (0, 0)), (b12, .cells zeroMt.toArray 27 (0, 0))] ++ [(bl, .cells ((done ++ lp.drop i).flatMap limL ++ junk).toArray 56 (0, 0))] ++ accR)) := hl
        have hr27 : Row w22 b27 0 (limL (l2, pl.2)) := hl.rowL (vs := limL (l2, pl.2)) 0 0 5 rfl
        have hxl : xl = some ⟨bl, 0, none⟩ := (Value.slice.inj hveq).1
        repeat' (first | refine a_all hr27 ?_ | refine a_idx (c := 5) i hxl ?_ | refine a_mov ?_ | refine a_asg ?_ | refine a_binN ?_ | refine a_notb ?_ | refine a_fa ?_ | refine a_ext ?_ | refine a_lenv ?_ | refine a_pick_t ?_ | refine a_pick_f ?_ | refine a_not ?_ | (refine o_nil (hK _ _ ?_); clear hK K) | refine wk_reg ?_ | refine wk_seq fun K hK => ?_ | (refine wk_skip (hK _ _ ?_); clear hK K) | (refine wk_label (hK _ _ ?_); clear hK K) | refine wk_scope ?_ | refine wk_block ?_ | refine wk_cond_t rfl ?_ | refine wk_cond_f rfl ?_ | (refine wk_exit ?_; (repeat (refine blockK_other rfl ?_)); refine blockK_same ?_; try ((repeat ((fail_if_success (refine hK _ _ ?_)); clear hK K)); refine hK _ _ ?_; clear hK K)) | (refine a_bin ?_ ?_ <;> intro _ <;> try (exfalso; omega)) | refine a_ld hl ?_ | (refine a_st hl ?_; clear hl; intro _ hl) | fail)
        have hlenD : (done ++ lp.drop i).length = m.limits.length := by rw [List.length_append, List.length_drop]; omega
        have hflD := flat_length limL_len (done ++ lp.drop i)
        refine o_store hl 5 (limL (l2, pl.2)) rfl rfl rfl (by rfl) rfl ?_ (lim_one h2in) ?_
        · rw [List.length_append, hflD, limL_len]
          omega
        clear hl
        intro w23 hl
        have hput := putL_flat limL_len (l2, pl.2) junk (done ++ lp.drop i) i (by omega)
        have hsetD : (done ++ lp.drop i).set i (l2, pl.2) = (done ++ [(l2, pl.2)]) ++ lp.drop (i + 1) := by
          rw [List.set_append_right _ _ (by omega), hdl, Nat.sub_self, hdr, List.set_cons_zero, List.append_assoc]
          rfl
        rw [hsetD] at hput
        have hl : LH w1 (fun _ => False) w23 ((b27, .cells (limL (l2, pl.2)).toArray 56 (0, 0)) :: (b26, .cells (limL tt).toArray 56 (0, 0)) :: (b24, .cells (limL pl).toArray 56 (0, 0)) :: ([(b16, Obj.cells [str m.id, .int .i64 m.opened, .slice ca m.cas.length cc, str g.dst, .int .i64 z, .slice ma m.moved.length mc, rv, .slice xl m.limits.length yl].toArray 27 (0, 0)), (b12, .cells zeroMt.toArray 27 (0, 0))] ++ [(bl, .cells (putL ((done ++ lp.drop i).flatMap limL ++ junk) (0 + i * 5) (limL (l2, pl.2))).toArray 56 (0, 0))] ++ accR)) := hl
        rw [Nat.zero_add, hput] at hl
        repeat' (first | refine a_mov ?_ | refine a_asg ?_ | refine a_binN ?_ | refine a_notb ?_ | refine a_fa ?_ | refine a_ext ?_ | refine a_lenv ?_ | refine a_pick_t ?_ | refine a_pick_f ?_ | refine a_not ?_ | (refine o_nil (hK _ _ ?_); clear hK K) | refine wk_reg ?_ | refine wk_seq fun K hK => ?_ | (refine wk_skip (hK _ _ ?_); clear hK K) | (refine wk_label (hK _ _ ?_); clear hK K) | refine wk_scope ?_ | refine wk_block ?_ | refine wk_cond_t rfl ?_ | refine wk_cond_f rfl ?_ | (refine wk_exit ?_; (repeat (refine blockK_other rfl ?_)); refine blockK_same ?_; try ((repeat ((fail_if_success (refine hK _ _ ?_)); clear hK K)); refine hK _ _ ?_; clear hK K)) | (refine a_bin ?_ ?_ <;> intro _ <;> try (exfalso; omega)) | refine a_ld hl ?_ | (refine a_st hl ?_; clear hl; intro _ hl) | fail)
        have hlenE : ((done ++ [(l2, pl.2)]) ++ lp.drop (i + 1)).length = m.limits.length := by rw [← hsetD, List.length_set]; exact hlenD
        have hflE := flat_length limL_len ((done ++ [(l2, pl.2)]) ++ lp.drop (i + 1))
        refine o_nil ⟨i + 1, ⟨rfl, rfl, rfl, rfl, rfl, rfl, rfl, rfl, rfl, trivial⟩, rfl, ⟨hlt, _, done ++ [(l2, pl.2)], hl.sub (((List.sublist_cons_self _ _).trans (List.sublist_cons_self _ _)).trans (List.sublist_cons_self _ _)), ?_, by rw [List.length_append, hdl]; rfl, ?_, fun p hp => ?_⟩, by omega⟩
        · rw [hveq]
          refine Acc.of_one (by rw [hflE, hlenE]) c1 c2 ?_
          rw [List.length_append] at c3 ⊢
          omega
        · rw [htk, List.map_append, List.map_append]
          exact steps_snoc hst hstep
        · rcases List.mem_append.1 hp with hp | hp
          · exact hdn p hp
          · rw [List.mem_singleton.1 hp]; exact h2in
    obtain rfl : kt = g.terms.length := by omega
    rw [List.take_length] at hno
    have hstep : Go.Top.step g.terms day pl.1 = some pl.1 := by unfold Go.Top.step; rw [first_no hno]
    repeat' (first | refine a_mov ?_ | refine a_asg ?_ | refine a_binN ?_ | refine a_notb ?_ | refine a_fa ?_ | refine a_ext ?_ | refine a_lenv ?_ | refine a_pick_t ?_ | refine a_pick_f ?_ | refine a_not ?_ | (refine o_nil (hK _ _ ?_); clear hK K) | refine wk_reg ?_ | refine wk_seq fun K hK => ?_ | (refine wk_skip (hK _ _ ?_); clear hK K) | (refine wk_label (hK _ _ ?_); clear hK K) | refine wk_scope ?_ | refine wk_block ?_ | refine wk_cond_t rfl ?_ | refine wk_cond_f rfl ?_ | (refine wk_exit ?_; (repeat (refine blockK_other rfl ?_)); refine blockK_same ?_; try ((repeat ((fail_if_success (refine hK _ _ ?_)); clear hK K)); refine hK _ _ ?_; clear hK K)) | (refine a_bin ?_ ?_ <;> intro _ <;> try (exfalso; omega)) | refine a_ld hl ?_ | (refine a_st hl ?_; clear hl; intro _ hl) | fail)
    refine o_nil ⟨i + 1, ⟨rfl, rfl, rfl, rfl, rfl, rfl, rfl, rfl, rfl, trivial⟩, rfl, ⟨hlt, accL, done ++ [pl], hl.sub (List.sublist_cons_self _ _), ?_, by rw [List.length_append, hdl]; rfl, ?_, fun p hp => ?_⟩, by omega⟩
    · rw [List.append_assoc, List.singleton_append, ← hdr]
      exact haL
    · rw [htk, List.map_append, List.map_append]
      exact steps_snoc hst hstep
    · rcases List.mem_append.1 hp with hp | hp
      · exact hdn p hp
      · rw [List.mem_singleton.1 hp]; exact hpin
  obtain rfl : i = m.limits.length := by omega
  rw [List.take_of_length_le (by omega), hlp] at hst
  rw [List.drop_of_length_le (by omega), List.append_nil] at haL
  rw [hst] at hap

  obtain ⟨rva, rvc, hrv⟩ := hR.shape
  have hm2 : matL { m with proc := g.dst, stage := z, rights := RR, limits := done.map Prod.fst } ⟨.slice ca m.cas.length cc, .slice ma m.moved.length mc, rv, .slice xl m.limits.length yl⟩ = ([str m.id, .int .i64 m.opened, .slice ca m.cas.length cc, str g.dst, .int .i64 z, .slice ma m.moved.length mc, rv, .slice xl m.limits.length yl].toArray).toList := rfl
  generalize hM2 : ({ m with proc := g.dst, stage := z, rights := RR, limits := done.map Prod.fst } : Mat) = m2 at *
  generalize hZ : (⟨.slice ca m.cas.length cc, .slice ma m.moved.length mc, rv, .slice xl m.limits.length yl⟩ : MV) = zz at *
  have hl : LH w1 (fun _ => False) w14 ([(b16, Obj.cells (matL m2 zz).toArray 27 (0, 0)), (b12, .cells zeroMt.toArray 27 (0, 0))] ++ accL ++ accR) := by rw [hm2]; exact hl
  have hone : (matL m2 zz).all Value.oneCell' = true := by
    rw [hm2, hrv]
    simp only [List.all_cons, str_eq]
    rfl
  repeat' (first | refine a_mov ?_ | refine a_asg ?_ | refine a_binN ?_ | refine a_notb ?_ | refine a_fa ?_ | refine a_ext ?_ | refine a_lenv ?_ | refine a_pick_t ?_ | refine a_pick_f ?_ | refine a_not ?_ | (refine o_nil (hK _ _ ?_); clear hK K) | refine wk_reg ?_ | refine wk_seq fun K hK => ?_ | (refine wk_skip (hK _ _ ?_); clear hK K) | (refine wk_label (hK _ _ ?_); clear hK K) | refine wk_scope ?_ | refine wk_block ?_ | refine wk_cond_t rfl ?_ | refine wk_cond_f rfl ?_ | (refine wk_exit ?_; (repeat (refine blockK_other rfl ?_)); refine blockK_same ?_; try ((repeat ((fail_if_success (refine hK _ _ ?_)); clear hK K)); refine hK _ _ ?_; clear hK K)) | (refine a_bin ?_ ?_ <;> intro _ <;> try (exfalso; omega)) | refine a_ld hl ?_ | (refine a_st hl ?_; clear hl; intro _ hl) | fail)
  refine a_all (vs := matL m2 zz) (hl.rowL 0 0 8 rfl) ?_
  refine o_store hl 1 (matL m2 zz) rfl rfl rfl rfl rfl (by rw [matL_len]; decide) hone ?_
  have hl0 := hl
  clear hl
  intro w15 hl
  have hl : LH w1 (fun _ => False) w15 ([(b16, Obj.cells (matL m2 zz).toArray 27 (0, 0)), (b12, Obj.cells (matL m2 zz).toArray 27 (0, 0))] ++ accL ++ accR) := hl
  repeat' (first | refine a_mov ?_ | refine a_asg ?_ | refine a_binN ?_ | refine a_notb ?_ | refine a_fa ?_ | refine a_ext ?_ | refine a_lenv ?_ | refine a_pick_t ?_ | refine a_pick_f ?_ | refine a_not ?_ | (refine o_nil (hK _ _ ?_); clear hK K) | refine wk_reg ?_ | refine wk_seq fun K hK => ?_ | (refine wk_skip (hK _ _ ?_); clear hK K) | (refine wk_label (hK _ _ ?_); clear hK K) | refine wk_scope ?_ | refine wk_block ?_ | refine wk_cond_t rfl ?_ | refine wk_cond_f rfl ?_ | (refine wk_exit ?_; (repeat (refine blockK_other rfl ?_)); refine blockK_same ?_; try ((repeat ((fail_if_success (refine hK _ _ ?_)); clear hK K)); refine hK _ _ ?_; clear hK K)) | (refine a_bin ?_ ?_ <;> intro _ <;> try (exfalso; omega)) | refine a_ld hl ?_ | (refine a_st hl ?_; clear hl; intro _ hl) | fail)
  refine wk_ret (retQ_res [.agg (matL m2 zz).toArray, .int .i64 0] rfl rfl ⟨by decide, ⟨⟨b12, 0, none⟩, rfl, run_loadVarN rfl rfl (hl.rowL (vs := matL m2 zz) 1 0 8 rfl)⟩, by decide, rfl, trivial⟩ ?_)
  refine ⟨?_, e1.trans hl.done⟩
  have hap2 : applyB m g p q day = some m2 := by rw [hap, ← hM2]
  rw [hap2]
  refine ⟨zz, rfl, ?_⟩
  rw [← hZ, ← hM2]
  refine ⟨⟨hms.ext hl.done, hmsl⟩, ⟨hmm.ext hl.done, hmml⟩, ⟨LH.acc_sl hl hR, by show RR.length ≤ _; omega⟩, ⟨done, rfl, ?_, fun p hp => (hdn p hp).ext hl.done⟩, by show (done.map Prod.fst).length ≤ _; rw [List.length_map]; omega⟩
  have h9 := LH.acc_sl (LH.left hl) haL
  exact h9
end Go.Proofs
