/-
  The law itself.
-/
import Derived.Test.YtpmjolbnmoejdaaGreatDoorQToHd
set_option linter.unusedVariables false
set_option linter.unusedSimpArgs false
set_option linter.unnecessarySimpa false
set_option maxRecDepth 10000
namespace Go.Top
theorem apply_day {m x : Mat} {g : Mig} {p q : Proc} {day : Int} (h : applyB m g p q day = some x) : (0 ≤ day ∧ day ≤ 1000000) ∧ g.terms.all termL = true := by
  unfold applyB at h
  split at h
  · rename_i hr
    simp only [readyB, validB, migB, isD, Bool.and_eq_true, decide_eq_true_eq] at hr
    exact ⟨hr.1.1.1.2, hr.1.1.1.1.1.1.1.1.1.1.1.2⟩
  · cases h
end Go.Top
namespace Go.Proofs
open Go Go.Pd Go.Top
attribute [local irreducible] OpsL W RetQ OpsQ OpsC
structure BigM (m : Mat) : Prop where
  id : m.id.length ≤ 140737488351232
  proc : m.proc.length ≤ 140737488351232
structure BigG (g : Mig) : Prop where
  src : g.src.length ≤ 140737488351232
  dst : g.dst.length ≤ 140737488351232
  rights : ∀ r ∈ g.rights, r.x.length ≤ 140737488351232 ∧ r.y.length ≤ 140737488351232
theorem mat_one {w : World} {m : Mat} {x : MV} (h : MatIn w m x) : (matL m x).all Value.oneCell' = true := by
  obtain ⟨ca, cc, ma, mc, ra, rc, la, lc, rfl⟩ := mv_shape h
  simp only [matL, List.all_cons, str_eq]
  rfl
theorem mig_one {w : World} {g : Mig} {x : GV} (h : MigIn w g x) : (migL g x).all Value.oneCell' = true := by
  obtain ⟨ca, cc, ra, rc, la, lc, rfl⟩ := gv_shape h
  simp only [migL, List.all_cons, str_eq]
  rfl
set_option maxHeartbeats 16000000 in
theorem TopRunning_calls {m : Mat} {g h : Mig} {p q r : Proc} {mv : MV} {gv hv : GV} {pv qv rv : PV} {day : Int} {w : World} (hm : MatIn w m mv) (hg : MigIn w g gv) (hh : MigIn w h hv) (hp : ProcIn w p pv) (hq : ProcIn w q qv) (hr : ProcIn w r rv) (ht : Tabs w) (bm : BigM m) (bg : BigG g) (bh : BigG h) :
    Calls Tryz.prog 3 #[.agg (matL m mv).toArray, .agg (migL g gv).toArray, .agg (migL h hv).toArray, .agg (procL p pv).toArray, .agg (procL q qv).toArray, .agg (procL r rv).toArray, .int .i64 day] w (fun e w' => ∃ v, e = .returned v ∧ v = .bool true ∧ Ext w w') := by
  refine calls_of Tryz.func3 rfl Tryz.ntmps3 rfl ?_
  repeat' (first | refine a_mov ?_ | refine a_asg ?_ | refine a_notb ?_ | refine a_fa ?_ | refine a_ext ?_ | refine a_pick_t ?_ | refine a_pick_f ?_ | refine a_not ?_ | (refine o_nil (hK _ _ ?_); clear hK K) | refine wk_reg ?_ | refine wk_seq fun K hK => ?_ | (refine wk_skip (hK _ _ ?_); clear hK K) | refine wk_cond_t rfl ?_ | refine wk_cond_f rfl ?_ | (refine a_bin ?_ ?_ <;> intro _ <;> try (exfalso; omega)) | fail)
  refine o_box (LH.start w (fun _ => False)) (matL m mv) (by rfl) rfl rfl ?_
  intro b7 w01 hb7 hl
  refine o_box hl (migL g gv) (by rfl) rfl rfl ?_
  clear hl
  intro b8 w02 hb8 hl
  refine o_box hl (migL h hv) (by rfl) rfl rfl ?_
  clear hl
  intro b9 w03 hb9 hl
  refine o_box hl (procL p pv) (by rfl) rfl rfl ?_
  clear hl
  intro b10 w04 hb10 hl
  refine o_box hl (procL q qv) (by rfl) rfl rfl ?_
  clear hl
  intro b11 w05 hb11 hl
  refine o_box hl (procL r rv) (by rfl) rfl rfl ?_
  clear hl
  intro b12 w1 hb12 hl
  have e1 : Ext w w1 := hl.done
  have r7 : Row w1 b7 0 (matL m mv) := hl.rowL (vs := matL m mv) 5 0 8 rfl
  have r8 : Row w1 b8 0 (migL g gv) := hl.rowL (vs := migL g gv) 4 0 5 rfl
  have r9 : Row w1 b9 0 (migL h hv) := hl.rowL (vs := migL h hv) 3 0 5 rfl
  have r10 : Row w1 b10 0 (procL p pv) := hl.rowL (vs := procL p pv) 2 0 3 rfl
  have r11 : Row w1 b11 0 (procL q qv) := hl.rowL (vs := procL q qv) 1 0 3 rfl
  have r12 : Row w1 b12 0 (procL r rv) := hl.rowL (vs := procL r rv) 0 0 3 rfl
  clear hl
  repeat' (first | refine a_mov ?_ | refine a_asg ?_ | refine a_notb ?_ | refine a_fa ?_ | refine a_ext ?_ | refine a_pick_t ?_ | refine a_pick_f ?_ | refine a_not ?_ | (refine o_nil (hK _ _ ?_); clear hK K) | refine wk_reg ?_ | refine wk_seq fun K hK => ?_ | (refine wk_skip (hK _ _ ?_); clear hK K) | refine wk_cond_t rfl ?_ | refine wk_cond_f rfl ?_ | (refine a_bin ?_ ?_ <;> intro _ <;> try (exfalso; omega)) | fail)
  refine a_fn (moved_calls (ht.ext e1)) ?_
  rintro v wn ⟨rfl, en⟩
  replace r7 := r7.ext en
  replace r8 := r8.ext en
  replace r9 := r9.ext en
  replace r10 := r10.ext en
  replace r11 := r11.ext en
  replace r12 := r12.ext en
  replace e1 := e1.trans en
  clear en
  repeat' (first | refine a_mov ?_ | refine a_asg ?_ | refine a_notb ?_ | refine a_fa ?_ | refine a_ext ?_ | refine a_pick_t ?_ | refine a_pick_f ?_ | refine a_not ?_ | (refine o_nil (hK _ _ ?_); clear hK K) | refine wk_reg ?_ | refine wk_seq fun K hK => ?_ | (refine wk_skip (hK _ _ ?_); clear hK K) | refine wk_cond_t rfl ?_ | refine wk_cond_f rfl ?_ | (refine a_bin ?_ ?_ <;> intro _ <;> try (exfalso; omega)) | fail)
  refine a_all r7 ?_
  refine a_fn (mfew_calls (hm.ext e1) bm.id bm.proc) ?_
  rintro v wn ⟨⟨bb, rfl⟩, en⟩
  replace r7 := r7.ext en
  replace r8 := r8.ext en
  replace r9 := r9.ext en
  replace r10 := r10.ext en
  replace r11 := r11.ext en
  replace r12 := r12.ext en
  replace e1 := e1.trans en
  clear en
  cases bb
  · repeat' (first | refine a_mov ?_ | refine a_asg ?_ | refine a_notb ?_ | refine a_fa ?_ | refine a_ext ?_ | refine a_pick_t ?_ | refine a_pick_f ?_ | refine a_not ?_ | (refine o_nil (hK _ _ ?_); clear hK K) | refine wk_reg ?_ | refine wk_seq fun K hK => ?_ | (refine wk_skip (hK _ _ ?_); clear hK K) | refine wk_cond_t rfl ?_ | refine wk_cond_f rfl ?_ | (refine a_bin ?_ ?_ <;> intro _ <;> try (exfalso; omega)) | fail)
    refine wk_ret (retQ_tmp1 Tryz.results3 (by decide) rfl (by conv => lhs; whnf) ?_)
    exact ⟨rfl, e1⟩
  repeat' (first | refine a_mov ?_ | refine a_asg ?_ | refine a_notb ?_ | refine a_fa ?_ | refine a_ext ?_ | refine a_pick_t ?_ | refine a_pick_f ?_ | refine a_not ?_ | (refine o_nil (hK _ _ ?_); clear hK K) | refine wk_reg ?_ | refine wk_seq fun K hK => ?_ | (refine wk_skip (hK _ _ ?_); clear hK K) | refine wk_cond_t rfl ?_ | refine wk_cond_f rfl ?_ | (refine a_bin ?_ ?_ <;> intro _ <;> try (exfalso; omega)) | fail)
  refine a_all r10 ?_
  refine a_fn (pshort_calls (hp.ext e1)) ?_
  rintro v wn ⟨⟨bb, rfl⟩, en⟩
  replace r7 := r7.ext en
  replace r8 := r8.ext en
  replace r9 := r9.ext en
  replace r10 := r10.ext en
  replace r11 := r11.ext en
  replace r12 := r12.ext en
  replace e1 := e1.trans en
  clear en
  cases bb
  · repeat' (first | refine a_mov ?_ | refine a_asg ?_ | refine a_notb ?_ | refine a_fa ?_ | refine a_ext ?_ | refine a_pick_t ?_ | refine a_pick_f ?_ | refine a_not ?_ | (refine o_nil (hK _ _ ?_); clear hK K) | refine wk_reg ?_ | refine wk_seq fun K hK => ?_ | (refine wk_skip (hK _ _ ?_); clear hK K) | refine wk_cond_t rfl ?_ | refine wk_cond_f rfl ?_ | (refine a_bin ?_ ?_ <;> intro _ <;> try (exfalso; omega)) | fail)
    refine wk_ret (retQ_tmp1 Tryz.results3 (by decide) rfl (by conv => lhs; whnf) ?_)
    exact ⟨rfl, e1⟩
  repeat' (first | refine a_mov ?_ | refine a_asg ?_ | refine a_notb ?_ | refine a_fa ?_ | refine a_ext ?_ | refine a_pick_t ?_ | refine a_pick_f ?_ | refine a_not ?_ | (refine o_nil (hK _ _ ?_); clear hK K) | refine wk_reg ?_ | refine wk_seq fun K hK => ?_ | (refine wk_skip (hK _ _ ?_); clear hK K) | refine wk_cond_t rfl ?_ | refine wk_cond_f rfl ?_ | (refine a_bin ?_ ?_ <;> intro _ <;> try (exfalso; omega)) | fail)
  refine a_all r11 ?_
  refine a_fn (pshort_calls (hq.ext e1)) ?_
  rintro v wn ⟨⟨bb, rfl⟩, en⟩
  replace r7 := r7.ext en
  replace r8 := r8.ext en
  replace r9 := r9.ext en
  replace r10 := r10.ext en
  replace r11 := r11.ext en
  replace r12 := r12.ext en
  replace e1 := e1.trans en
  clear en
  cases bb
  · repeat' (first | refine a_mov ?_ | refine a_asg ?_ | refine a_notb ?_ | refine a_fa ?_ | refine a_ext ?_ | refine a_pick_t ?_ | refine a_pick_f ?_ | refine a_not ?_ | (refine o_nil (hK _ _ ?_); clear hK K) | refine wk_reg ?_ | refine wk_seq fun K hK => ?_ | (refine wk_skip (hK _ _ ?_); clear hK K) | refine wk_cond_t rfl ?_ | refine wk_cond_f rfl ?_ | (refine a_bin ?_ ?_ <;> intro _ <;> try (exfalso; omega)) | fail)
    refine wk_ret (retQ_tmp1 Tryz.results3 (by decide) rfl (by conv => lhs; whnf) ?_)
    exact ⟨rfl, e1⟩
  repeat' (first | refine a_mov ?_ | refine a_asg ?_ | refine a_notb ?_ | refine a_fa ?_ | refine a_ext ?_ | refine a_pick_t ?_ | refine a_pick_f ?_ | refine a_not ?_ | (refine o_nil (hK _ _ ?_); clear hK K) | refine wk_reg ?_ | refine wk_seq fun K hK => ?_ | (refine wk_skip (hK _ _ ?_); clear hK K) | refine wk_cond_t rfl ?_ | refine wk_cond_f rfl ?_ | (refine a_bin ?_ ?_ <;> intro _ <;> try (exfalso; omega)) | fail)
  refine a_all r12 ?_
  refine a_fn (pshort_calls (hr.ext e1)) ?_
  rintro v wn ⟨⟨bb, rfl⟩, en⟩
  replace r7 := r7.ext en
  replace r8 := r8.ext en
  replace r9 := r9.ext en
  replace r10 := r10.ext en
  replace r11 := r11.ext en
  replace r12 := r12.ext en
  replace e1 := e1.trans en
  clear en
  cases bb
  · repeat' (first | refine a_mov ?_ | refine a_asg ?_ | refine a_notb ?_ | refine a_fa ?_ | refine a_ext ?_ | refine a_pick_t ?_ | refine a_pick_f ?_ | refine a_not ?_ | (refine o_nil (hK _ _ ?_); clear hK K) | refine wk_reg ?_ | refine wk_seq fun K hK => ?_ | (refine wk_skip (hK _ _ ?_); clear hK K) | refine wk_cond_t rfl ?_ | refine wk_cond_f rfl ?_ | (refine a_bin ?_ ?_ <;> intro _ <;> try (exfalso; omega)) | fail)
    refine wk_ret (retQ_tmp1 Tryz.results3 (by decide) rfl (by conv => lhs; whnf) ?_)
    exact ⟨rfl, e1⟩
  repeat' (first | refine a_mov ?_ | refine a_asg ?_ | refine a_notb ?_ | refine a_fa ?_ | refine a_ext ?_ | refine a_pick_t ?_ | refine a_pick_f ?_ | refine a_not ?_ | (refine o_nil (hK _ _ ?_); clear hK K) | refine wk_reg ?_ | refine wk_seq fun K hK => ?_ | (refine wk_skip (hK _ _ ?_); clear hK K) | refine wk_cond_t rfl ?_ | refine wk_cond_f rfl ?_ | (refine a_bin ?_ ?_ <;> intro _ <;> try (exfalso; omega)) | fail)
  refine a_all r8 ?_
  refine a_fn (gfew_calls (hg.ext e1) bg.src bg.dst bg.rights) ?_
  rintro v wn ⟨⟨bb, rfl⟩, en⟩
  replace r7 := r7.ext en
  replace r8 := r8.ext en
  replace r9 := r9.ext en
  replace r10 := r10.ext en
  replace r11 := r11.ext en
  replace r12 := r12.ext en
  replace e1 := e1.trans en
  clear en
  cases bb
  · repeat' (first | refine a_mov ?_ | refine a_asg ?_ | refine a_notb ?_ | refine a_fa ?_ | refine a_ext ?_ | refine a_pick_t ?_ | refine a_pick_f ?_ | refine a_not ?_ | (refine o_nil (hK _ _ ?_); clear hK K) | refine wk_reg ?_ | refine wk_seq fun K hK => ?_ | (refine wk_skip (hK _ _ ?_); clear hK K) | refine wk_cond_t rfl ?_ | refine wk_cond_f rfl ?_ | (refine a_bin ?_ ?_ <;> intro _ <;> try (exfalso; omega)) | fail)
    refine wk_ret (retQ_tmp1 Tryz.results3 (by decide) rfl (by conv => lhs; whnf) ?_)
    exact ⟨rfl, e1⟩
  repeat' (first | refine a_mov ?_ | refine a_asg ?_ | refine a_notb ?_ | refine a_fa ?_ | refine a_ext ?_ | refine a_pick_t ?_ | refine a_pick_f ?_ | refine a_not ?_ | (refine o_nil (hK _ _ ?_); clear hK K) | refine wk_reg ?_ | refine wk_seq fun K hK => ?_ | (refine wk_skip (hK _ _ ?_); clear hK K) | refine wk_cond_t rfl ?_ | refine wk_cond_f rfl ?_ | (refine a_bin ?_ ?_ <;> intro _ <;> try (exfalso; omega)) | fail)
  refine a_all r9 ?_
  refine a_fn (gfew_calls (hh.ext e1) bh.src bh.dst bh.rights) ?_
  rintro v wn ⟨⟨bb, rfl⟩, en⟩
  replace r7 := r7.ext en
  replace r8 := r8.ext en
  replace r9 := r9.ext en
  replace r10 := r10.ext en
  replace r11 := r11.ext en
  replace r12 := r12.ext en
  replace e1 := e1.trans en
  clear en
  cases bb
  · repeat' (first | refine a_mov ?_ | refine a_asg ?_ | refine a_notb ?_ | refine a_fa ?_ | refine a_ext ?_ | refine a_pick_t ?_ | refine a_pick_f ?_ | refine a_not ?_ | (refine o_nil (hK _ _ ?_); clear hK K) | refine wk_reg ?_ | refine wk_seq fun K hK => ?_ | (refine wk_skip (hK _ _ ?_); clear hK K) | refine wk_cond_t rfl ?_ | refine wk_cond_f rfl ?_ | (refine a_bin ?_ ?_ <;> intro _ <;> try (exfalso; omega)) | fail)
    refine wk_ret (retQ_tmp1 Tryz.results3 (by decide) rfl (by conv => lhs; whnf) ?_)
    exact ⟨rfl, e1⟩
  repeat' (first | refine a_mov ?_ | refine a_asg ?_ | refine a_notb ?_ | refine a_fa ?_ | refine a_ext ?_ | refine a_pick_t ?_ | refine a_pick_f ?_ | refine a_not ?_ | (refine o_nil (hK _ _ ?_); clear hK K) | refine wk_reg ?_ | refine wk_seq fun K hK => ?_ | (refine wk_skip (hK _ _ ?_); clear hK K) | refine wk_cond_t rfl ?_ | refine wk_cond_f rfl ?_ | (refine a_bin ?_ ?_ <;> intro _ <;> try (exfalso; omega)) | fail)
  repeat' (first | refine a_row r7 ?_ | refine a_mov ?_ | refine a_asg ?_ | refine a_notb ?_ | refine a_fa ?_ | refine a_ext ?_ | refine a_pick_t ?_ | refine a_pick_f ?_ | refine a_not ?_ | (refine o_nil (hK _ _ ?_); clear hK K) | refine wk_reg ?_ | refine wk_seq fun K hK => ?_ | (refine wk_skip (hK _ _ ?_); clear hK K) | refine wk_cond_t rfl ?_ | refine wk_cond_f rfl ?_ | (refine a_bin ?_ ?_ <;> intro _ <;> try (exfalso; omega)) | fail)
  refine a_fn (light_calls (hm.ext e1).2.2.2.1 (hm.ext e1).2.2.2.2) ?_
  rintro v wn ⟨⟨bb, rfl⟩, en⟩
  replace r7 := r7.ext en
  replace r8 := r8.ext en
  replace r9 := r9.ext en
  replace r10 := r10.ext en
  replace r11 := r11.ext en
  replace r12 := r12.ext en
  replace e1 := e1.trans en
  clear en
  cases bb
  · repeat' (first | refine a_mov ?_ | refine a_asg ?_ | refine a_notb ?_ | refine a_fa ?_ | refine a_ext ?_ | refine a_pick_t ?_ | refine a_pick_f ?_ | refine a_not ?_ | (refine o_nil (hK _ _ ?_); clear hK K) | refine wk_reg ?_ | refine wk_seq fun K hK => ?_ | (refine wk_skip (hK _ _ ?_); clear hK K) | refine wk_cond_t rfl ?_ | refine wk_cond_f rfl ?_ | (refine a_bin ?_ ?_ <;> intro _ <;> try (exfalso; omega)) | fail)
    refine wk_ret (retQ_tmp1 Tryz.results3 (by decide) rfl (by conv => lhs; whnf) ?_)
    exact ⟨rfl, e1⟩
  repeat' (first | refine a_mov ?_ | refine a_asg ?_ | refine a_notb ?_ | refine a_fa ?_ | refine a_ext ?_ | refine a_pick_t ?_ | refine a_pick_f ?_ | refine a_not ?_ | (refine o_nil (hK _ _ ?_); clear hK K) | refine wk_reg ?_ | refine wk_seq fun K hK => ?_ | (refine wk_skip (hK _ _ ?_); clear hK K) | refine wk_cond_t rfl ?_ | refine wk_cond_f rfl ?_ | (refine a_bin ?_ ?_ <;> intro _ <;> try (exfalso; omega)) | fail)
  repeat' (first | refine a_row r8 ?_ | refine a_mov ?_ | refine a_asg ?_ | refine a_notb ?_ | refine a_fa ?_ | refine a_ext ?_ | refine a_pick_t ?_ | refine a_pick_f ?_ | refine a_not ?_ | (refine o_nil (hK _ _ ?_); clear hK K) | refine wk_reg ?_ | refine wk_seq fun K hK => ?_ | (refine wk_skip (hK _ _ ?_); clear hK K) | refine wk_cond_t rfl ?_ | refine wk_cond_f rfl ?_ | (refine a_bin ?_ ?_ <;> intro _ <;> try (exfalso; omega)) | fail)
  refine a_fn (light_calls (hg.ext e1).2.2.1 (hg.ext e1).2.2.2) ?_
  rintro v wn ⟨⟨bb, rfl⟩, en⟩
  replace r7 := r7.ext en
  replace r8 := r8.ext en
  replace r9 := r9.ext en
  replace r10 := r10.ext en
  replace r11 := r11.ext en
  replace r12 := r12.ext en
  replace e1 := e1.trans en
  clear en
  cases bb
  · repeat' (first | refine a_mov ?_ | refine a_asg ?_ | refine a_notb ?_ | refine a_fa ?_ | refine a_ext ?_ | refine a_pick_t ?_ | refine a_pick_f ?_ | refine a_not ?_ | (refine o_nil (hK _ _ ?_); clear hK K) | refine wk_reg ?_ | refine wk_seq fun K hK => ?_ | (refine wk_skip (hK _ _ ?_); clear hK K) | refine wk_cond_t rfl ?_ | refine wk_cond_f rfl ?_ | (refine a_bin ?_ ?_ <;> intro _ <;> try (exfalso; omega)) | fail)
    refine wk_ret (retQ_tmp1 Tryz.results3 (by decide) rfl (by conv => lhs; whnf) ?_)
    exact ⟨rfl, e1⟩
  repeat' (first | refine a_mov ?_ | refine a_asg ?_ | refine a_notb ?_ | refine a_fa ?_ | refine a_ext ?_ | refine a_pick_t ?_ | refine a_pick_f ?_ | refine a_not ?_ | (refine o_nil (hK _ _ ?_); clear hK K) | refine wk_reg ?_ | refine wk_seq fun K hK => ?_ | (refine wk_skip (hK _ _ ?_); clear hK K) | refine wk_cond_t rfl ?_ | refine wk_cond_f rfl ?_ | (refine a_bin ?_ ?_ <;> intro _ <;> try (exfalso; omega)) | fail)
  repeat' (first | refine a_row r9 ?_ | refine a_mov ?_ | refine a_asg ?_ | refine a_notb ?_ | refine a_fa ?_ | refine a_ext ?_ | refine a_pick_t ?_ | refine a_pick_f ?_ | refine a_not ?_ | (refine o_nil (hK _ _ ?_); clear hK K) | refine wk_reg ?_ | refine wk_seq fun K hK => ?_ | (refine wk_skip (hK _ _ ?_); clear hK K) | refine wk_cond_t rfl ?_ | refine wk_cond_f rfl ?_ | (refine a_bin ?_ ?_ <;> intro _ <;> try (exfalso; omega)) | fail)
  refine a_fn (light_calls (hh.ext e1).2.2.1 (hh.ext e1).2.2.2) ?_
  rintro v wn ⟨⟨bb, rfl⟩, en⟩
  replace r7 := r7.ext en
  replace r8 := r8.ext en
  replace r9 := r9.ext en
  replace r10 := r10.ext en
  replace r11 := r11.ext en
  replace r12 := r12.ext en
  replace e1 := e1.trans en
  clear en
  cases bb
  · repeat' (first | refine a_mov ?_ | refine a_asg ?_ | refine a_notb ?_ | refine a_fa ?_ | refine a_ext ?_ | refine a_pick_t ?_ | refine a_pick_f ?_ | refine a_not ?_ | (refine o_nil (hK _ _ ?_); clear hK K) | refine wk_reg ?_ | refine wk_seq fun K hK => ?_ | (refine wk_skip (hK _ _ ?_); clear hK K) | refine wk_cond_t rfl ?_ | refine wk_cond_f rfl ?_ | (refine a_bin ?_ ?_ <;> intro _ <;> try (exfalso; omega)) | fail)
    refine wk_ret (retQ_tmp1 Tryz.results3 (by decide) rfl (by conv => lhs; whnf) ?_)
    exact ⟨rfl, e1⟩
  repeat' (first | refine a_mov ?_ | refine a_asg ?_ | refine a_notb ?_ | refine a_fa ?_ | refine a_ext ?_ | refine a_pick_t ?_ | refine a_pick_f ?_ | refine a_not ?_ | (refine o_nil (hK _ _ ?_); clear hK K) | refine wk_reg ?_ | refine wk_seq fun K hK => ?_ | (refine wk_skip (hK _ _ ?_); clear hK K) | refine wk_cond_t rfl ?_ | refine wk_cond_f rfl ?_ | (refine a_bin ?_ ?_ <;> intro _ <;> try (exfalso; omega)) | fail)
  refine a_all r7 ?_
  refine a_all r8 ?_
  refine a_all r10 ?_
  refine a_all r11 ?_
  repeat' (first | refine a_mov ?_ | refine a_asg ?_ | refine a_notb ?_ | refine a_fa ?_ | refine a_ext ?_ | refine a_pick_t ?_ | refine a_pick_f ?_ | refine a_not ?_ | (refine a_bin ?_ ?_ <;> intro _ <;> try (exfalso; omega)) | fail)
  refine a_fn (apply_calls (day := day) (hm.ext e1) (hg.ext e1) (hp.ext e1) (hq.ext e1) (ht.ext e1)) ?_
  rintro v wn ⟨ho, en⟩
  replace r7 := r7.ext en
  replace r8 := r8.ext en
  replace r9 := r9.ext en
  replace r10 := r10.ext en
  replace r11 := r11.ext en
  replace r12 := r12.ext en
  replace e1 := e1.trans en
  clear en
  cases hap : applyB m g p q day with
  | none =>
    rw [hap] at ho
    obtain ⟨e, he, rfl⟩ := ho
    repeat' (first | refine a_mov ?_ | refine a_asg ?_ | refine a_notb ?_ | refine a_fa ?_ | refine a_ext ?_ | refine a_pick_t ?_ | refine a_pick_f ?_ | refine a_not ?_ | (refine a_bin ?_ ?_ <;> intro _ <;> try (exfalso; omega)) | fail)
    refine o_alloc (LH.start wn (fun _ => False)) zeroMt (by kernel_rfl) rfl ?_
    intro b16 w2 hb16 hl
    repeat' (first | refine a_mov ?_ | refine a_asg ?_ | refine a_notb ?_ | refine a_fa ?_ | refine a_ext ?_ | refine a_pick_t ?_ | refine a_pick_f ?_ | refine a_not ?_ | (refine a_bin ?_ ?_ <;> intro _ <;> try (exfalso; omega)) | fail)
    refine o_store hl 0 zeroMt rfl rfl rfl rfl rfl (by decide) rfl ?_
    clear hl
    intro w3 hl
    repeat' (first | refine a_mov ?_ | refine a_asg ?_ | refine a_notb ?_ | refine a_fa ?_ | refine a_ext ?_ | refine a_pick_t ?_ | refine a_pick_f ?_ | refine a_not ?_ | (refine o_nil (hK _ _ ?_); clear hK K) | refine wk_reg ?_ | refine wk_seq fun K hK => ?_ | (refine wk_skip (hK _ _ ?_); clear hK K) | refine wk_cond_t rfl ?_ | refine wk_cond_f rfl ?_ | (refine a_bin ?_ ?_ <;> intro _ <;> try (exfalso; omega)) | fail)
    refine wk_ret (retQ_tmp1 Tryz.results3 (by decide) rfl (by conv => lhs; whnf) ?_)
    exact ⟨rfl, e1.trans hl.done⟩
  | some x =>
    rw [hap] at ho
    obtain ⟨z, rfl, hz⟩ := ho
    obtain ⟨hday, htg⟩ := apply_day hap
    repeat' (first | refine a_mov ?_ | refine a_asg ?_ | refine a_notb ?_ | refine a_fa ?_ | refine a_ext ?_ | refine a_pick_t ?_ | refine a_pick_f ?_ | refine a_not ?_ | (refine a_bin ?_ ?_ <;> intro _ <;> try (exfalso; omega)) | fail)
    refine o_alloc (LH.start wn (fun _ => False)) zeroMt (by kernel_rfl) rfl ?_
    intro b16 w2 hb16 hl
    repeat' (first | refine a_mov ?_ | refine a_asg ?_ | refine a_notb ?_ | refine a_fa ?_ | refine a_ext ?_ | refine a_pick_t ?_ | refine a_pick_f ?_ | refine a_not ?_ | (refine a_bin ?_ ?_ <;> intro _ <;> try (exfalso; omega)) | fail)
    refine o_store hl 0 (matL x z) rfl rfl rfl rfl rfl (by rw [matL_len]; decide) (mat_one hz) ?_
    clear hl
    intro w3 hl
    have en : Ext wn w3 := hl.done
    have r16 : Row w3 b16 0 (matL x z) := hl.rowL (vs := matL x z) 0 0 8 rfl
    clear hl
    replace hz := hz.ext en
    replace r7 := r7.ext en
    replace r8 := r8.ext en
    replace r9 := r9.ext en
    replace r10 := r10.ext en
    replace r11 := r11.ext en
    replace r12 := r12.ext en
    replace e1 := e1.trans en
    clear en
    repeat' (first | refine a_mov ?_ | refine a_asg ?_ | refine a_notb ?_ | refine a_fa ?_ | refine a_ext ?_ | refine a_pick_t ?_ | refine a_pick_f ?_ | refine a_not ?_ | (refine o_nil (hK _ _ ?_); clear hK K) | refine wk_reg ?_ | refine wk_seq fun K hK => ?_ | (refine wk_skip (hK _ _ ?_); clear hK K) | refine wk_cond_t rfl ?_ | refine wk_cond_f rfl ?_ | (refine a_bin ?_ ?_ <;> intro _ <;> try (exfalso; omega)) | fail)
    refine a_all r7 ?_
    refine a_all r16 ?_
    refine a_all r8 ?_
    repeat' (first | refine a_mov ?_ | refine a_asg ?_ | refine a_notb ?_ | refine a_fa ?_ | refine a_ext ?_ | refine a_pick_t ?_ | refine a_pick_f ?_ | refine a_not ?_ | (refine a_bin ?_ ?_ <;> intro _ <;> try (exfalso; omega)) | fail)
    refine a_fn (runs_calls (day := day) (hm.ext e1) hz (hg.ext e1) (runs_of hap) hday htg) ?_
    rintro v w4 ⟨rfl, en⟩
    replace r16 := r16.ext en
    replace hz := hz.ext en
    replace r7 := r7.ext en
    replace r8 := r8.ext en
    replace r9 := r9.ext en
    replace r10 := r10.ext en
    replace r11 := r11.ext en
    replace r12 := r12.ext en
    replace e1 := e1.trans en
    clear en
    repeat' (first | refine a_mov ?_ | refine a_asg ?_ | refine a_notb ?_ | refine a_fa ?_ | refine a_ext ?_ | refine a_pick_t ?_ | refine a_pick_f ?_ | refine a_not ?_ | (refine o_nil (hK _ _ ?_); clear hK K) | refine wk_reg ?_ | refine wk_seq fun K hK => ?_ | (refine wk_skip (hK _ _ ?_); clear hK K) | refine wk_cond_t rfl ?_ | refine wk_cond_f rfl ?_ | (refine a_bin ?_ ?_ <;> intro _ <;> try (exfalso; omega)) | fail)
    refine a_all r16 ?_
    refine a_all r9 ?_
    refine a_all r11 ?_
    refine a_all r12 ?_
    repeat' (first | refine a_mov ?_ | refine a_asg ?_ | refine a_notb ?_ | refine a_fa ?_ | refine a_ext ?_ | refine a_pick_t ?_ | refine a_pick_f ?_ | refine a_not ?_ | (refine a_bin ?_ ?_ <;> intro _ <;> try (exfalso; omega)) | fail)
    refine a_fn (apply_calls (day := day) hz (hh.ext e1) (hq.ext e1) (hr.ext e1) (ht.ext e1)) ?_
    rintro v w5 ⟨ho, en⟩
    replace r16 := r16.ext en
    replace hz := hz.ext en
    replace r7 := r7.ext en
    replace r8 := r8.ext en
    replace r9 := r9.ext en
    replace r10 := r10.ext en
    replace r11 := r11.ext en
    replace r12 := r12.ext en
    replace e1 := e1.trans en
    clear en
    cases hap2 : applyB x h q r day with
    | none =>
      rw [hap2] at ho
      obtain ⟨e, he, rfl⟩ := ho
      repeat' (first | refine a_mov ?_ | refine a_asg ?_ | refine a_notb ?_ | refine a_fa ?_ | refine a_ext ?_ | refine a_pick_t ?_ | refine a_pick_f ?_ | refine a_not ?_ | (refine a_bin ?_ ?_ <;> intro _ <;> try (exfalso; omega)) | fail)
      refine o_alloc (LH.start w5 (fun _ => False)) zeroMt (by kernel_rfl) rfl ?_
      intro b18 w6 hb18 hl
      repeat' (first | refine a_mov ?_ | refine a_asg ?_ | refine a_notb ?_ | refine a_fa ?_ | refine a_ext ?_ | refine a_pick_t ?_ | refine a_pick_f ?_ | refine a_not ?_ | (refine a_bin ?_ ?_ <;> intro _ <;> try (exfalso; omega)) | fail)
      refine o_store hl 0 zeroMt rfl rfl rfl rfl rfl (by decide) rfl ?_
      clear hl
      intro w7 hl
      repeat' (first | refine a_mov ?_ | refine a_asg ?_ | refine a_notb ?_ | refine a_fa ?_ | refine a_ext ?_ | refine a_pick_t ?_ | refine a_pick_f ?_ | refine a_not ?_ | (refine o_nil (hK _ _ ?_); clear hK K) | refine wk_reg ?_ | refine wk_seq fun K hK => ?_ | (refine wk_skip (hK _ _ ?_); clear hK K) | refine wk_cond_t rfl ?_ | refine wk_cond_f rfl ?_ | (refine a_bin ?_ ?_ <;> intro _ <;> try (exfalso; omega)) | fail)
      refine wk_ret (retQ_tmp1 Tryz.results3 (by decide) rfl (by conv => lhs; whnf) ?_)
      exact ⟨rfl, e1.trans hl.done⟩
    | some y =>
      rw [hap2] at ho
      obtain ⟨z2, rfl, hz2⟩ := ho
      obtain ⟨-, hth⟩ := apply_day hap2
      repeat' (first | refine a_mov ?_ | refine a_asg ?_ | refine a_notb ?_ | refine a_fa ?_ | refine a_ext ?_ | refine a_pick_t ?_ | refine a_pick_f ?_ | refine a_not ?_ | (refine a_bin ?_ ?_ <;> intro _ <;> try (exfalso; omega)) | fail)
      refine o_alloc (LH.start w5 (fun _ => False)) zeroMt (by kernel_rfl) rfl ?_
      intro b18 w6 hb18 hl
      repeat' (first | refine a_mov ?_ | refine a_asg ?_ | refine a_notb ?_ | refine a_fa ?_ | refine a_ext ?_ | refine a_pick_t ?_ | refine a_pick_f ?_ | refine a_not ?_ | (refine a_bin ?_ ?_ <;> intro _ <;> try (exfalso; omega)) | fail)
      refine o_store hl 0 (matL y z2) rfl rfl rfl rfl rfl (by rw [matL_len]; decide) (mat_one hz2) ?_
      clear hl
      intro w7 hl
      have en : Ext w5 w7 := hl.done
      have r18 : Row w7 b18 0 (matL y z2) := hl.rowL (vs := matL y z2) 0 0 8 rfl
      clear hl
      replace r16 := r16.ext en
      replace hz := hz.ext en
      replace hz2 := hz2.ext en
      replace r7 := r7.ext en
      replace r8 := r8.ext en
      replace r9 := r9.ext en
      replace r10 := r10.ext en
      replace r11 := r11.ext en
      replace r12 := r12.ext en
      replace e1 := e1.trans en
      clear en
      repeat' (first | refine a_mov ?_ | refine a_asg ?_ | refine a_notb ?_ | refine a_fa ?_ | refine a_ext ?_ | refine a_pick_t ?_ | refine a_pick_f ?_ | refine a_not ?_ | (refine o_nil (hK _ _ ?_); clear hK K) | refine wk_reg ?_ | refine wk_seq fun K hK => ?_ | (refine wk_skip (hK _ _ ?_); clear hK K) | refine wk_cond_t rfl ?_ | refine wk_cond_f rfl ?_ | (refine a_bin ?_ ?_ <;> intro _ <;> try (exfalso; omega)) | fail)
      refine a_all r16 ?_
      refine a_all r18 ?_
      refine a_all r9 ?_
      repeat' (first | refine a_mov ?_ | refine a_asg ?_ | refine a_notb ?_ | refine a_fa ?_ | refine a_ext ?_ | refine a_pick_t ?_ | refine a_pick_f ?_ | refine a_not ?_ | (refine a_bin ?_ ?_ <;> intro _ <;> try (exfalso; omega)) | fail)
      refine a_fn (runs_calls (day := day) hz hz2 (hh.ext e1) (runs_of hap2) hday hth) ?_
      rintro v w8 ⟨rfl, en⟩
      replace r18 := r18.ext en
      replace hz2 := hz2.ext en
      replace r7 := r7.ext en
      replace r8 := r8.ext en
      replace r9 := r9.ext en
      replace r10 := r10.ext en
      replace r11 := r11.ext en
      replace r12 := r12.ext en
      replace e1 := e1.trans en
      clear en
      repeat' (first | refine a_mov ?_ | refine a_asg ?_ | refine a_notb ?_ | refine a_fa ?_ | refine a_ext ?_ | refine a_pick_t ?_ | refine a_pick_f ?_ | refine a_not ?_ | (refine o_nil (hK _ _ ?_); clear hK K) | refine wk_reg ?_ | refine wk_seq fun K hK => ?_ | (refine wk_skip (hK _ _ ?_); clear hK K) | refine wk_cond_t rfl ?_ | refine wk_cond_f rfl ?_ | (refine a_bin ?_ ?_ <;> intro _ <;> try (exfalso; omega)) | fail)
      refine a_all r8 ?_
      refine a_all r9 ?_
      refine a_fn (then_calls (hg.ext e1) (hh.ext e1) (ht.ext e1)) ?_
      rintro v w9 ⟨ho, en⟩
      replace r18 := r18.ext en
      replace hz2 := hz2.ext en
      replace r7 := r7.ext en
      replace r8 := r8.ext en
      replace r9 := r9.ext en
      replace r10 := r10.ext en
      replace r11 := r11.ext en
      replace r12 := r12.ext en
      replace e1 := e1.trans en
      clear en
      cases hth2 : thenB g h with
      | none =>
        rw [hth2] at ho
        obtain ⟨e, he, rfl⟩ := ho
        repeat' (first | refine a_mov ?_ | refine a_asg ?_ | refine a_notb ?_ | refine a_fa ?_ | refine a_ext ?_ | refine a_pick_t ?_ | refine a_pick_f ?_ | refine a_not ?_ | (refine a_bin ?_ ?_ <;> intro _ <;> try (exfalso; omega)) | fail)
        refine o_alloc (LH.start w9 (fun _ => False)) zeroG (by kernel_rfl) rfl ?_
        intro b20 w10 hb20 hl
        repeat' (first | refine a_mov ?_ | refine a_asg ?_ | refine a_notb ?_ | refine a_fa ?_ | refine a_ext ?_ | refine a_pick_t ?_ | refine a_pick_f ?_ | refine a_not ?_ | (refine a_bin ?_ ?_ <;> intro _ <;> try (exfalso; omega)) | fail)
        refine o_store hl 0 zeroG rfl rfl rfl rfl rfl (by decide) rfl ?_
        clear hl
        intro w11 hl
        repeat' (first | refine a_mov ?_ | refine a_asg ?_ | refine a_notb ?_ | refine a_fa ?_ | refine a_ext ?_ | refine a_pick_t ?_ | refine a_pick_f ?_ | refine a_not ?_ | (refine o_nil (hK _ _ ?_); clear hK K) | refine wk_reg ?_ | refine wk_seq fun K hK => ?_ | (refine wk_skip (hK _ _ ?_); clear hK K) | refine wk_cond_t rfl ?_ | refine wk_cond_f rfl ?_ | (refine a_bin ?_ ?_ <;> intro _ <;> try (exfalso; omega)) | fail)
        refine wk_ret (retQ_tmp1 Tryz.results3 (by decide) rfl (by conv => lhs; whnf) ?_)
        exact ⟨rfl, e1.trans hl.done⟩
      | some bo =>
        rw [hth2] at ho
        obtain ⟨bz, rfl, hbz⟩ := ho
        have hap3 := apply_two hap hap2 hth2
        obtain ⟨-, htb⟩ := apply_day hap3
        repeat' (first | refine a_mov ?_ | refine a_asg ?_ | refine a_notb ?_ | refine a_fa ?_ | refine a_ext ?_ | refine a_pick_t ?_ | refine a_pick_f ?_ | refine a_not ?_ | (refine a_bin ?_ ?_ <;> intro _ <;> try (exfalso; omega)) | fail)
        refine o_alloc (LH.start w9 (fun _ => False)) zeroG (by kernel_rfl) rfl ?_
        intro b20 w10 hb20 hl
        repeat' (first | refine a_mov ?_ | refine a_asg ?_ | refine a_notb ?_ | refine a_fa ?_ | refine a_ext ?_ | refine a_pick_t ?_ | refine a_pick_f ?_ | refine a_not ?_ | (refine a_bin ?_ ?_ <;> intro _ <;> try (exfalso; omega)) | fail)
        refine o_store hl 0 (migL bo bz) rfl rfl rfl rfl rfl (by rw [migL_len]; decide) (mig_one hbz) ?_
        clear hl
        intro w11 hl
        have en : Ext w9 w11 := hl.done
        have r20 : Row w11 b20 0 (migL bo bz) := hl.rowL (vs := migL bo bz) 0 0 5 rfl
        clear hl
        replace r18 := r18.ext en
        replace hz2 := hz2.ext en
        replace hbz := hbz.ext en
        replace r7 := r7.ext en
        replace r8 := r8.ext en
        replace r9 := r9.ext en
        replace r10 := r10.ext en
        replace r11 := r11.ext en
        replace r12 := r12.ext en
        replace e1 := e1.trans en
        clear en
        repeat' (first | refine a_mov ?_ | refine a_asg ?_ | refine a_notb ?_ | refine a_fa ?_ | refine a_ext ?_ | refine a_pick_t ?_ | refine a_pick_f ?_ | refine a_not ?_ | (refine o_nil (hK _ _ ?_); clear hK K) | refine wk_reg ?_ | refine wk_seq fun K hK => ?_ | (refine wk_skip (hK _ _ ?_); clear hK K) | refine wk_cond_t rfl ?_ | refine wk_cond_f rfl ?_ | (refine a_bin ?_ ?_ <;> intro _ <;> try (exfalso; omega)) | fail)
        refine a_all r7 ?_
        refine a_all r20 ?_
        refine a_all r10 ?_
        refine a_all r12 ?_
        repeat' (first | refine a_mov ?_ | refine a_asg ?_ | refine a_notb ?_ | refine a_fa ?_ | refine a_ext ?_ | refine a_pick_t ?_ | refine a_pick_f ?_ | refine a_not ?_ | (refine a_bin ?_ ?_ <;> intro _ <;> try (exfalso; omega)) | fail)
        refine a_fn (apply_calls (day := day) (hm.ext e1) hbz (hp.ext e1) (hr.ext e1) (ht.ext e1)) ?_
        rintro v w12 ⟨ho, en⟩
        rw [hap3] at ho
        obtain ⟨z3, rfl, hz3⟩ := ho
        replace r18 := r18.ext en
        replace hz2 := hz2.ext en
        replace r20 := r20.ext en
        replace hbz := hbz.ext en
        replace r7 := r7.ext en
        replace r8 := r8.ext en
        replace r9 := r9.ext en
        replace r10 := r10.ext en
        replace r11 := r11.ext en
        replace r12 := r12.ext en
        replace e1 := e1.trans en
        clear en
        repeat' (first | refine a_mov ?_ | refine a_asg ?_ | refine a_notb ?_ | refine a_fa ?_ | refine a_ext ?_ | refine a_pick_t ?_ | refine a_pick_f ?_ | refine a_not ?_ | (refine a_bin ?_ ?_ <;> intro _ <;> try (exfalso; omega)) | fail)
        refine o_alloc (LH.start w12 (fun _ => False)) zeroMt (by kernel_rfl) rfl ?_
        intro b22 w13 hb22 hl
        repeat' (first | refine a_mov ?_ | refine a_asg ?_ | refine a_notb ?_ | refine a_fa ?_ | refine a_ext ?_ | refine a_pick_t ?_ | refine a_pick_f ?_ | refine a_not ?_ | (refine a_bin ?_ ?_ <;> intro _ <;> try (exfalso; omega)) | fail)
        refine o_store hl 0 (matL y z3) rfl rfl rfl rfl rfl (by rw [matL_len]; decide) (mat_one hz3) ?_
        clear hl
        intro w14 hl
        have en : Ext w12 w14 := hl.done
        have r22 : Row w14 b22 0 (matL y z3) := hl.rowL (vs := matL y z3) 0 0 8 rfl
        clear hl
        replace r18 := r18.ext en
        replace hz2 := hz2.ext en
        replace hz3 := hz3.ext en
        replace r20 := r20.ext en
        replace hbz := hbz.ext en
        replace r7 := r7.ext en
        replace r8 := r8.ext en
        replace r9 := r9.ext en
        replace r10 := r10.ext en
        replace r11 := r11.ext en
        replace r12 := r12.ext en
        replace e1 := e1.trans en
        clear en
        repeat' (first | refine a_mov ?_ | refine a_asg ?_ | refine a_notb ?_ | refine a_fa ?_ | refine a_ext ?_ | refine a_pick_t ?_ | refine a_pick_f ?_ | refine a_not ?_ | (refine o_nil (hK _ _ ?_); clear hK K) | refine wk_reg ?_ | refine wk_seq fun K hK => ?_ | (refine wk_skip (hK _ _ ?_); clear hK K) | refine wk_cond_t rfl ?_ | refine wk_cond_f rfl ?_ | (refine a_bin ?_ ?_ <;> intro _ <;> try (exfalso; omega)) | fail)
        refine a_all r18 ?_
        refine a_all r22 ?_
        refine a_fn (same31_calls hz2 hz3) ?_
        rintro v w15 ⟨rfl, en⟩
        replace r22 := r22.ext en
        replace hz3 := hz3.ext en
        replace r20 := r20.ext en
        replace hbz := hbz.ext en
        replace r7 := r7.ext en
        replace r8 := r8.ext en
        replace r9 := r9.ext en
        replace r10 := r10.ext en
        replace r11 := r11.ext en
        replace r12 := r12.ext en
        replace e1 := e1.trans en
        clear en
        repeat' (first | refine a_mov ?_ | refine a_asg ?_ | refine a_notb ?_ | refine a_fa ?_ | refine a_ext ?_ | refine a_pick_t ?_ | refine a_pick_f ?_ | refine a_not ?_ | (refine o_nil (hK _ _ ?_); clear hK K) | refine wk_reg ?_ | refine wk_seq fun K hK => ?_ | (refine wk_skip (hK _ _ ?_); clear hK K) | refine wk_cond_t rfl ?_ | refine wk_cond_f rfl ?_ | (refine a_bin ?_ ?_ <;> intro _ <;> try (exfalso; omega)) | fail)
        refine a_all r7 ?_
        refine a_all r22 ?_
        refine a_all r20 ?_
        repeat' (first | refine a_mov ?_ | refine a_asg ?_ | refine a_notb ?_ | refine a_fa ?_ | refine a_ext ?_ | refine a_pick_t ?_ | refine a_pick_f ?_ | refine a_not ?_ | (refine a_bin ?_ ?_ <;> intro _ <;> try (exfalso; omega)) | fail)
        refine a_fn (runs_calls (day := day) (hm.ext e1) hz3 hbz (runs_of hap3) hday htb) ?_
        rintro v w16 ⟨rfl, en⟩
        repeat' (first | refine a_mov ?_ | refine a_asg ?_ | refine a_notb ?_ | refine a_fa ?_ | refine a_ext ?_ | refine a_pick_t ?_ | refine a_pick_f ?_ | refine a_not ?_ | (refine o_nil (hK _ _ ?_); clear hK K) | refine wk_reg ?_ | refine wk_seq fun K hK => ?_ | (refine wk_skip (hK _ _ ?_); clear hK K) | refine wk_cond_t rfl ?_ | refine wk_cond_f rfl ?_ | (refine a_bin ?_ ?_ <;> intro _ <;> try (exfalso; omega)) | fail)
        refine wk_ret (retQ_tmp1 Tryz.results3 (by decide) rfl (by conv => lhs; whnf) ?_)
        exact ⟨rfl, e1.trans en⟩
end Go.Proofs
