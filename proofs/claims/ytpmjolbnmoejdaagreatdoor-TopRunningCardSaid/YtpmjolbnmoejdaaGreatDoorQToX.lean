/-
  Migrations: is a migration formed, is it valid.
-/
import Derived.Test.YtpmjolbnmoejdaaGreatDoorQToW
set_option linter.unusedVariables false
set_option linter.unusedSimpArgs false
set_option linter.unnecessarySimpa false
set_option maxRecDepth 10000
namespace Go.Proofs
open Go Go.Pd Go.Top
open Go.Fin (Nm)
attribute [local irreducible] OpsL W RetQ OpsQ OpsC
theorem gv_shape {w : World} {g : Mig} {x : GV} (h : MigIn w g x) : ∃ sa sc ra rc ta tc, x = ⟨.slice sa g.stages.length sc, .slice ra g.rights.length rc, .slice ta g.terms.length tc⟩ := by
  obtain ⟨xs, xr, xt⟩ := x
  obtain ⟨⟨hs, -⟩, ⟨hr, -⟩, ⟨lp, hlp, ht, -⟩, -⟩ := h
  obtain ⟨sa, sc, rfl, -⟩ := sl_each intL_len (by decide) hs
  obtain ⟨ra, rc, rfl, -⟩ := sl_each pairL_len (by decide) hr
  obtain ⟨ta, tc, rfl, -⟩ := sl_each limL_len (by decide) ht
  have : lp.length = g.terms.length := by rw [← hlp, List.length_map]
  rw [this]
  exact ⟨sa, sc, ra, rc, ta, tc, rfl⟩
set_option maxHeartbeats 8000000 in
theorem gformed_calls {g : Mig} {x : GV} {w : World} (h : MigIn w g x) (ht : Tabs w) : Calls Tryz.prog 24 #[.agg (migL g x).toArray] w (fun e w' => ∃ v, e = .returned v ∧ v = .bool (migB g) ∧ Ext w w') := by
  have hf : migB g = (Nm g.src && Nm g.dst && decide (g.stages ≠ []) && decide (g.stages.length ≤ 60 ∧ g.rights.length ≤ 60 ∧ g.terms.length ≤ 60) &&
  (g.stages.all fun s => decide (-1 ≤ s ∧ s < 60)) && (g.rights.all fun r => Nm r.x && Nm r.y) && g.terms.all termL &&
  decide (g.rights.map Pair.x).Nodup && decide (g.terms.map Lim.id).Nodup) := rfl
  obtain ⟨sa, sc, ra, rc, ta, tc, rfl⟩ := gv_shape h
  obtain ⟨⟨hs, hsl⟩, ⟨hr, hrl⟩, htm, htl⟩ := h
  simp only at hs hr htm
  refine calls_of Tryz.func24 rfl Tryz.ntmps24 rfl ?_
  repeat' (first | refine a_mov ?_ | refine a_asg ?_ | refine a_notb ?_ | refine a_fa ?_ | refine a_lenv ?_ | refine a_pick_t ?_ | refine a_pick_f ?_ | refine a_not ?_ | (refine o_nil (hK _ _ ?_); clear hK K) | refine wk_reg ?_ | refine wk_seq fun K hK => ?_ | (refine wk_skip (hK _ _ ?_); clear hK K) | refine wk_block ?_ | refine wk_cond_t rfl ?_ | refine wk_cond_f rfl ?_ | (refine a_bin ?_ ?_ <;> intro _ <;> try (exfalso; omega)) | fail)
  refine o_box (LH.start w (fun _ => False)) (migL g ⟨.slice sa g.stages.length sc, .slice ra g.rights.length rc, .slice ta g.terms.length tc⟩) (by rfl) rfl rfl ?_
  intro b1 w1 hb1 hl
  have e1 : Ext w w1 := hl.done
  have hrow : Row w1 b1 0 [str g.src, str g.dst, .slice sa g.stages.length sc, .slice ra g.rights.length rc, .slice ta g.terms.length tc] := hl.rowL (vs := migL g ⟨.slice sa g.stages.length sc, .slice ra g.rights.length rc, .slice ta g.terms.length tc⟩) 0 0 5 rfl
  clear hl
  repeat' (first | refine a_row hrow ?_ | refine a_mov ?_ | refine a_asg ?_ | refine a_notb ?_ | refine a_fa ?_ | refine a_lenv ?_ | refine a_pick_t ?_ | refine a_pick_f ?_ | refine a_not ?_ | (refine o_nil (hK _ _ ?_); clear hK K) | refine wk_reg ?_ | refine wk_seq fun K hK => ?_ | (refine wk_skip (hK _ _ ?_); clear hK K) | refine wk_block ?_ | refine wk_cond_t rfl ?_ | refine wk_cond_f rfl ?_ | (refine a_bin ?_ ?_ <;> intro _ <;> try (exfalso; omega)) | fail)
  refine a_fn (gname_calls g.src (ht.ext e1)) ?_
  rintro v w2 ⟨rfl, e2⟩
  replace hrow := hrow.ext e2
  replace e2 := e1.trans e2
  generalize Nm g.src = n1 at *
  cases n1
  · repeat' (first | refine a_row hrow ?_ | refine a_mov ?_ | refine a_asg ?_ | refine a_notb ?_ | refine a_fa ?_ | refine a_lenv ?_ | refine a_pick_t ?_ | refine a_pick_f ?_ | refine a_not ?_ | (refine o_nil (hK _ _ ?_); clear hK K) | refine wk_reg ?_ | refine wk_seq fun K hK => ?_ | (refine wk_skip (hK _ _ ?_); clear hK K) | refine wk_block ?_ | refine wk_cond_t rfl ?_ | refine wk_cond_f rfl ?_ | (refine a_bin ?_ ?_ <;> intro _ <;> try (exfalso; omega)) | fail)
    refine wk_ret (retQ_tmp1 Tryz.results24 (by decide) rfl (by conv => lhs; whnf) ?_)
    exact ⟨by rw [hf]; rfl, e2⟩
  repeat' (first | refine a_row hrow ?_ | refine a_mov ?_ | refine a_asg ?_ | refine a_notb ?_ | refine a_fa ?_ | refine a_lenv ?_ | refine a_pick_t ?_ | refine a_pick_f ?_ | refine a_not ?_ | (refine o_nil (hK _ _ ?_); clear hK K) | refine wk_reg ?_ | refine wk_seq fun K hK => ?_ | (refine wk_skip (hK _ _ ?_); clear hK K) | refine wk_block ?_ | refine wk_cond_t rfl ?_ | refine wk_cond_f rfl ?_ | (refine a_bin ?_ ?_ <;> intro _ <;> try (exfalso; omega)) | fail)
  refine a_fn (gname_calls g.dst (ht.ext e2)) ?_
  rintro v w3 ⟨rfl, e3⟩
  replace hrow := hrow.ext e3
  replace e3 := e2.trans e3
  generalize Nm g.dst = n2 at *
  cases n2
  · repeat' (first | refine a_row hrow ?_ | refine a_mov ?_ | refine a_asg ?_ | refine a_notb ?_ | refine a_fa ?_ | refine a_lenv ?_ | refine a_pick_t ?_ | refine a_pick_f ?_ | refine a_not ?_ | (refine o_nil (hK _ _ ?_); clear hK K) | refine wk_reg ?_ | refine wk_seq fun K hK => ?_ | (refine wk_skip (hK _ _ ?_); clear hK K) | refine wk_block ?_ | refine wk_cond_t rfl ?_ | refine wk_cond_f rfl ?_ | (refine a_bin ?_ ?_ <;> intro _ <;> try (exfalso; omega)) | fail)
    refine wk_ret (retQ_tmp1 Tryz.results24 (by decide) rfl (by conv => lhs; whnf) ?_)
    exact ⟨by rw [hf]; rfl, e3⟩
  have hn0 : (g.stages ≠ []) ↔ g.stages.length ≠ 0 := by cases g.stages <;> simp
  by_cases h3 : g.stages.length = 0
  · rw [decide_eq_false (fun h => (hn0.1 h) h3)] at hf
    repeat' (first | refine a_row hrow ?_ | refine a_mov ?_ | refine a_asg ?_ | refine a_notb ?_ | refine a_fa ?_ | refine a_lenv ?_ | refine a_pick_t ?_ | refine a_pick_f ?_ | refine a_not ?_ | (refine o_nil (hK _ _ ?_); clear hK K) | refine wk_reg ?_ | refine wk_seq fun K hK => ?_ | (refine wk_skip (hK _ _ ?_); clear hK K) | refine wk_block ?_ | refine wk_cond_t rfl ?_ | refine wk_cond_f rfl ?_ | (refine a_bin ?_ ?_ <;> intro _ <;> try (exfalso; omega)) | fail)
    refine wk_ret (retQ_tmp1 Tryz.results24 (by decide) rfl (by conv => lhs; whnf) ?_)
    exact ⟨by rw [hf]; rfl, e3⟩
  rw [decide_eq_true (hn0.2 h3)] at hf
  by_cases h4 : g.stages.length ≤ 60 ∧ g.rights.length ≤ 60 ∧ g.terms.length ≤ 60
  rotate_left
  · rw [decide_eq_false h4] at hf
    repeat' (first | refine a_row hrow ?_ | refine a_mov ?_ | refine a_asg ?_ | refine a_notb ?_ | refine a_fa ?_ | refine a_lenv ?_ | refine a_pick_t ?_ | refine a_pick_f ?_ | refine a_not ?_ | (refine o_nil (hK _ _ ?_); clear hK K) | refine wk_reg ?_ | refine wk_seq fun K hK => ?_ | (refine wk_skip (hK _ _ ?_); clear hK K) | refine wk_block ?_ | refine wk_cond_t rfl ?_ | refine wk_cond_f rfl ?_ | (refine a_bin ?_ ?_ <;> intro _ <;> try (exfalso; omega)) | refine o_max3 ?_ | fail)
    refine wk_ret (retQ_tmp1 Tryz.results24 (by decide) rfl (by conv => lhs; whnf) ?_)
    exact ⟨by rw [hf]; rfl, e3⟩
  rw [decide_eq_true h4] at hf
  repeat' (first | refine a_row hrow ?_ | refine a_mov ?_ | refine a_asg ?_ | refine a_notb ?_ | refine a_fa ?_ | refine a_lenv ?_ | refine a_pick_t ?_ | refine a_pick_f ?_ | refine a_not ?_ | (refine o_nil (hK _ _ ?_); clear hK K) | refine wk_reg ?_ | refine wk_seq fun K hK => ?_ | (refine wk_skip (hK _ _ ?_); clear hK K) | refine wk_block ?_ | refine wk_cond_t rfl ?_ | refine wk_cond_f rfl ?_ | (refine a_bin ?_ ?_ <;> intro _ <;> try (exfalso; omega)) | refine o_max3 ?_ | fail)
  refine a_fn (anyStage_calls (hs.ext e3) hsl) ?_
  rintro v w4 ⟨rfl, e4⟩
  replace hrow := hrow.ext e4
  replace e4 := e3.trans e4
  generalize (g.stages.all fun s => decide (-1 ≤ s ∧ s < 60)) = n5 at *
  cases n5
  · repeat' (first | refine a_row hrow ?_ | refine a_mov ?_ | refine a_asg ?_ | refine a_notb ?_ | refine a_fa ?_ | refine a_lenv ?_ | refine a_pick_t ?_ | refine a_pick_f ?_ | refine a_not ?_ | (refine o_nil (hK _ _ ?_); clear hK K) | refine wk_reg ?_ | refine wk_seq fun K hK => ?_ | (refine wk_skip (hK _ _ ?_); clear hK K) | refine wk_block ?_ | refine wk_cond_t rfl ?_ | refine wk_cond_f rfl ?_ | (refine a_bin ?_ ?_ <;> intro _ <;> try (exfalso; omega)) | fail)
    refine wk_ret (retQ_tmp1 Tryz.results24 (by decide) rfl (by conv => lhs; whnf) ?_)
    exact ⟨by rw [hf]; rfl, e4⟩
  repeat' (first | refine a_row hrow ?_ | refine a_mov ?_ | refine a_asg ?_ | refine a_notb ?_ | refine a_fa ?_ | refine a_lenv ?_ | refine a_pick_t ?_ | refine a_pick_f ?_ | refine a_not ?_ | (refine o_nil (hK _ _ ?_); clear hK K) | refine wk_reg ?_ | refine wk_seq fun K hK => ?_ | (refine wk_skip (hK _ _ ?_); clear hK K) | refine wk_block ?_ | refine wk_cond_t rfl ?_ | refine wk_cond_f rfl ?_ | (refine a_bin ?_ ?_ <;> intro _ <;> try (exfalso; omega)) | fail)
  refine a_fn (anyPair_calls (hr.ext e4) hrl (ht.ext e4)) ?_
  rintro v w5 ⟨rfl, e5⟩
  replace hrow := hrow.ext e5
  replace e5 := e4.trans e5
  generalize (g.rights.all fun r => Nm r.x && Nm r.y) = n6 at *
  cases n6
  · repeat' (first | refine a_row hrow ?_ | refine a_mov ?_ | refine a_asg ?_ | refine a_notb ?_ | refine a_fa ?_ | refine a_lenv ?_ | refine a_pick_t ?_ | refine a_pick_f ?_ | refine a_not ?_ | (refine o_nil (hK _ _ ?_); clear hK K) | refine wk_reg ?_ | refine wk_seq fun K hK => ?_ | (refine wk_skip (hK _ _ ?_); clear hK K) | refine wk_block ?_ | refine wk_cond_t rfl ?_ | refine wk_cond_f rfl ?_ | (refine a_bin ?_ ?_ <;> intro _ <;> try (exfalso; omega)) | fail)
    refine wk_ret (retQ_tmp1 Tryz.results24 (by decide) rfl (by conv => lhs; whnf) ?_)
    exact ⟨by rw [hf]; rfl, e5⟩
  repeat' (first | refine a_row hrow ?_ | refine a_mov ?_ | refine a_asg ?_ | refine a_notb ?_ | refine a_fa ?_ | refine a_lenv ?_ | refine a_pick_t ?_ | refine a_pick_f ?_ | refine a_not ?_ | (refine o_nil (hK _ _ ?_); clear hK K) | refine wk_reg ?_ | refine wk_seq fun K hK => ?_ | (refine wk_skip (hK _ _ ?_); clear hK K) | refine wk_block ?_ | refine wk_cond_t rfl ?_ | refine wk_cond_f rfl ?_ | (refine a_bin ?_ ?_ <;> intro _ <;> try (exfalso; omega)) | fail)
  refine a_fn (anyTerm_calls (htm.ext e5) htl) ?_
  rintro v w6 ⟨rfl, e6⟩
  replace hrow := hrow.ext e6
  replace e6 := e5.trans e6
  generalize g.terms.all termL = n7 at *
  cases n7
  · repeat' (first | refine a_row hrow ?_ | refine a_mov ?_ | refine a_asg ?_ | refine a_notb ?_ | refine a_fa ?_ | refine a_lenv ?_ | refine a_pick_t ?_ | refine a_pick_f ?_ | refine a_not ?_ | (refine o_nil (hK _ _ ?_); clear hK K) | refine wk_reg ?_ | refine wk_seq fun K hK => ?_ | (refine wk_skip (hK _ _ ?_); clear hK K) | refine wk_block ?_ | refine wk_cond_t rfl ?_ | refine wk_cond_f rfl ?_ | (refine a_bin ?_ ?_ <;> intro _ <;> try (exfalso; omega)) | fail)
    refine wk_ret (retQ_tmp1 Tryz.results24 (by decide) rfl (by conv => lhs; whnf) ?_)
    exact ⟨by rw [hf]; rfl, e6⟩
  repeat' (first | refine a_row hrow ?_ | refine a_mov ?_ | refine a_asg ?_ | refine a_notb ?_ | refine a_fa ?_ | refine a_lenv ?_ | refine a_pick_t ?_ | refine a_pick_f ?_ | refine a_not ?_ | (refine o_nil (hK _ _ ?_); clear hK K) | refine wk_reg ?_ | refine wk_seq fun K hK => ?_ | (refine wk_skip (hK _ _ ?_); clear hK K) | refine wk_block ?_ | refine wk_cond_t rfl ?_ | refine wk_cond_f rfl ?_ | (refine a_bin ?_ ?_ <;> intro _ <;> try (exfalso; omega)) | fail)
  refine a_fn (oncePair_calls (hr.ext e6) hrl) ?_
  rintro v w7 ⟨rfl, e7⟩
  replace hrow := hrow.ext e7
  replace e7 := e6.trans e7
  generalize decide (g.rights.map Pair.x).Nodup = n8 at *
  cases n8
  · repeat' (first | refine a_row hrow ?_ | refine a_mov ?_ | refine a_asg ?_ | refine a_notb ?_ | refine a_fa ?_ | refine a_lenv ?_ | refine a_pick_t ?_ | refine a_pick_f ?_ | refine a_not ?_ | (refine o_nil (hK _ _ ?_); clear hK K) | refine wk_reg ?_ | refine wk_seq fun K hK => ?_ | (refine wk_skip (hK _ _ ?_); clear hK K) | refine wk_block ?_ | refine wk_cond_t rfl ?_ | refine wk_cond_f rfl ?_ | (refine a_bin ?_ ?_ <;> intro _ <;> try (exfalso; omega)) | fail)
    refine wk_ret (retQ_tmp1 Tryz.results24 (by decide) rfl (by conv => lhs; whnf) ?_)
    exact ⟨by rw [hf]; rfl, e7⟩
  repeat' (first | refine a_row hrow ?_ | refine a_mov ?_ | refine a_asg ?_ | refine a_notb ?_ | refine a_fa ?_ | refine a_lenv ?_ | refine a_pick_t ?_ | refine a_pick_f ?_ | refine a_not ?_ | (refine o_nil (hK _ _ ?_); clear hK K) | refine wk_reg ?_ | refine wk_seq fun K hK => ?_ | (refine wk_skip (hK _ _ ?_); clear hK K) | refine wk_block ?_ | refine wk_cond_t rfl ?_ | refine wk_cond_f rfl ?_ | (refine a_bin ?_ ?_ <;> intro _ <;> try (exfalso; omega)) | fail)
  refine a_fn (onceTerm_calls (htm.ext e7) htl) ?_
  rintro v w8 ⟨rfl, e8⟩
  replace e8 := e7.trans e8
  repeat' (first | refine a_mov ?_ | refine a_asg ?_ | refine a_notb ?_ | refine a_fa ?_ | refine a_lenv ?_ | refine a_pick_t ?_ | refine a_pick_f ?_ | refine a_not ?_ | (refine o_nil (hK _ _ ?_); clear hK K) | refine wk_reg ?_ | refine wk_seq fun K hK => ?_ | (refine wk_skip (hK _ _ ?_); clear hK K) | refine wk_block ?_ | refine wk_cond_t rfl ?_ | refine wk_cond_f rfl ?_ | (refine a_bin ?_ ?_ <;> intro _ <;> try (exfalso; omega)) | fail)
  refine wk_ret (retQ_tmp1 Tryz.results24 (by decide) rfl (by conv => lhs; whnf) ?_)
  exact ⟨by rw [hf]; rfl, e8⟩
theorem pv_shape {w : World} {p : Proc} {x : PV} (h : ProcIn w p x) : ∃ sa sc ma mc, x = ⟨.slice sa p.stages.length sc, .slice ma p.moves.length mc⟩ := by
  obtain ⟨xs, xm⟩ := x
  obtain ⟨⟨hs, -⟩, ⟨hm, -⟩⟩ := h
  obtain ⟨sa, sc, rfl, -⟩ := sl_each (f := fun s : Tx => [str s]) (fun _ => rfl) (by decide) hs
  obtain ⟨ma, mc, rfl, -⟩ := sl_each moveL_len (by decide) hm
  exact ⟨sa, sc, ma, mc, rfl⟩
set_option maxHeartbeats 8000000 in
theorem valid_calls {g : Mig} {x : GV} {p q : Proc} {y z : PV} {w : World} (hg : MigIn w g x) (hp : ProcIn w p y) (hq : ProcIn w q z) (ht : Tabs w) : Calls Tryz.prog 18 #[.agg (migL g x).toArray, .agg (procL p y).toArray, .agg (procL q z).toArray] w (fun e w' => ∃ v, e = .returned v ∧ v = .bool (validB g p q) ∧ Ext w w') := by
  have hv : validB g p q = (migB g && procB p && procB q && decide (g.src = p.name ∧ g.dst = q.name ∧ g.stages.length = p.stages.length ∧ maxI g.stages < (q.stages.length : Int))) := rfl
  obtain ⟨sa, sc, ra, rc, ta, tc, rfl⟩ := gv_shape hg
  obtain ⟨pa, pc, pma, pmc, rfl⟩ := pv_shape hp
  obtain ⟨qa, qc, qma, qmc, rfl⟩ := pv_shape hq
  refine calls_of Tryz.func18 rfl Tryz.ntmps18 rfl ?_
  repeat' (first | refine a_mov ?_ | refine a_asg ?_ | refine a_notb ?_ | refine a_pick_t ?_ | refine a_pick_f ?_ | refine a_not ?_ | (refine o_nil (hK _ _ ?_); clear hK K) | refine wk_reg ?_ | refine wk_seq fun K hK => ?_ | (refine wk_skip (hK _ _ ?_); clear hK K) | refine wk_cond_t rfl ?_ | refine wk_cond_f rfl ?_ | fail)
  refine o_box (LH.start w (fun _ => False)) (migL g ⟨.slice sa g.stages.length sc, .slice ra g.rights.length rc, .slice ta g.terms.length tc⟩) (by rfl) rfl rfl ?_
  intro b1 w1 hb1 hl
  refine o_box hl (procL p ⟨.slice pa p.stages.length pc, .slice pma p.moves.length pmc⟩) (by rfl) rfl rfl ?_
  clear hl
  intro b2 w2 hb2 hl
  refine o_box hl (procL q ⟨.slice qa q.stages.length qc, .slice qma q.moves.length qmc⟩) (by rfl) rfl rfl ?_
  clear hl
  intro b3 w3 hb3 hl
  have e3 : Ext w w3 := hl.done
  have r1 : Row w3 b1 0 [str g.src, str g.dst, .slice sa g.stages.length sc, .slice ra g.rights.length rc, .slice ta g.terms.length tc] := hl.rowL (vs := migL g ⟨.slice sa g.stages.length sc, .slice ra g.rights.length rc, .slice ta g.terms.length tc⟩) 2 0 5 rfl
  have r2 : Row w3 b2 0 [str p.name, .slice pa p.stages.length pc, .slice pma p.moves.length pmc] := hl.rowL (vs := procL p ⟨.slice pa p.stages.length pc, .slice pma p.moves.length pmc⟩) 1 0 3 rfl
  have r3 : Row w3 b3 0 [str q.name, .slice qa q.stages.length qc, .slice qma q.moves.length qmc] := hl.rowL (vs := procL q ⟨.slice qa q.stages.length qc, .slice qma q.moves.length qmc⟩) 0 0 3 rfl
  clear hl
  repeat' (first | refine a_mov ?_ | refine a_asg ?_ | refine a_notb ?_ | refine a_pick_t ?_ | refine a_pick_f ?_ | refine a_not ?_ | (refine o_nil (hK _ _ ?_); clear hK K) | refine wk_reg ?_ | refine wk_seq fun K hK => ?_ | (refine wk_skip (hK _ _ ?_); clear hK K) | refine wk_cond_t rfl ?_ | refine wk_cond_f rfl ?_ | fail)
  refine a_all r1 ?_
  refine a_fn (gformed_calls (hg.ext e3) (ht.ext e3)) ?_
  rintro v w4 ⟨rfl, e4⟩
  replace r1 := r1.ext e4
  replace r2 := r2.ext e4
  replace r3 := r3.ext e4
  replace e4 := e3.trans e4
  cases n1 : migB g
  · rw [n1] at hv
    repeat' (first | refine a_mov ?_ | refine a_asg ?_ | refine a_notb ?_ | refine a_pick_t ?_ | refine a_pick_f ?_ | refine a_not ?_ | (refine o_nil (hK _ _ ?_); clear hK K) | refine wk_reg ?_ | refine wk_seq fun K hK => ?_ | (refine wk_skip (hK _ _ ?_); clear hK K) | refine wk_cond_t rfl ?_ | refine wk_cond_f rfl ?_ | fail)
    refine wk_ret (retQ_tmp1 Tryz.results18 (by decide) rfl (by conv => lhs; whnf) ?_)
    exact ⟨by rw [hv]; rfl, e4⟩
  rw [n1] at hv
  repeat' (first | refine a_mov ?_ | refine a_asg ?_ | refine a_notb ?_ | refine a_pick_t ?_ | refine a_pick_f ?_ | refine a_not ?_ | (refine o_nil (hK _ _ ?_); clear hK K) | refine wk_reg ?_ | refine wk_seq fun K hK => ?_ | (refine wk_skip (hK _ _ ?_); clear hK K) | refine wk_cond_t rfl ?_ | refine wk_cond_f rfl ?_ | fail)
  refine a_all r2 ?_
  refine a_fn (mProper_calls (hp.ext e4)) ?_
  rintro v w5 ⟨rfl, e5⟩
  replace r1 := r1.ext e5
  replace r2 := r2.ext e5
  replace r3 := r3.ext e5
  replace e5 := e4.trans e5
  generalize procB p = n2 at *
  cases n2
  · repeat' (first | refine a_mov ?_ | refine a_asg ?_ | refine a_notb ?_ | refine a_pick_t ?_ | refine a_pick_f ?_ | refine a_not ?_ | (refine o_nil (hK _ _ ?_); clear hK K) | refine wk_reg ?_ | refine wk_seq fun K hK => ?_ | (refine wk_skip (hK _ _ ?_); clear hK K) | refine wk_cond_t rfl ?_ | refine wk_cond_f rfl ?_ | fail)
    refine wk_ret (retQ_tmp1 Tryz.results18 (by decide) rfl (by conv => lhs; whnf) ?_)
    exact ⟨by rw [hv]; rfl, e5⟩
  repeat' (first | refine a_mov ?_ | refine a_asg ?_ | refine a_notb ?_ | refine a_pick_t ?_ | refine a_pick_f ?_ | refine a_not ?_ | (refine o_nil (hK _ _ ?_); clear hK K) | refine wk_reg ?_ | refine wk_seq fun K hK => ?_ | (refine wk_skip (hK _ _ ?_); clear hK K) | refine wk_cond_t rfl ?_ | refine wk_cond_f rfl ?_ | fail)
  refine a_all r3 ?_
  refine a_fn (mProper_calls (hq.ext e5)) ?_
  rintro v w6 ⟨rfl, e6⟩
  replace r1 := r1.ext e6
  replace r2 := r2.ext e6
  replace r3 := r3.ext e6
  replace e6 := e5.trans e6
  generalize procB q = n3 at *
  cases n3
  · repeat' (first | refine a_mov ?_ | refine a_asg ?_ | refine a_notb ?_ | refine a_pick_t ?_ | refine a_pick_f ?_ | refine a_not ?_ | (refine o_nil (hK _ _ ?_); clear hK K) | refine wk_reg ?_ | refine wk_seq fun K hK => ?_ | (refine wk_skip (hK _ _ ?_); clear hK K) | refine wk_cond_t rfl ?_ | refine wk_cond_f rfl ?_ | fail)
    refine wk_ret (retQ_tmp1 Tryz.results18 (by decide) rfl (by conv => lhs; whnf) ?_)
    exact ⟨by rw [hv]; rfl, e6⟩
  repeat' (first | refine a_mov ?_ | refine a_asg ?_ | refine a_notb ?_ | refine a_pick_t ?_ | refine a_pick_f ?_ | refine a_not ?_ | (refine o_nil (hK _ _ ?_); clear hK K) | refine wk_reg ?_ | refine wk_seq fun K hK => ?_ | (refine wk_skip (hK _ _ ?_); clear hK K) | refine wk_cond_t rfl ?_ | refine wk_cond_f rfl ?_ | fail)
  have hne : g.stages ≠ [] := by
    unfold migB at n1
    simp only [Bool.and_eq_true, decide_eq_true_eq] at n1
    exact n1.1.1.1.1.1.1.2
  have hmax : ∀ w_, Ext w6 w_ → Calls Tryz.prog 25 #[.slice sa g.stages.length sc] w_ (fun e w' => ∃ v, e = .returned v ∧ v = .int .i64 (maxI g.stages) ∧ Ext w_ w') := fun w_ he => maxInt_calls (hg.1.1.ext (e6.trans he)) hg.1.2 hne
  refine wk_cut [] (fun _ : Unit => [(6, .bool (decide (g.src = p.name ∧ g.dst = q.name ∧ g.stages.length = p.stages.length ∧ maxI g.stages < (q.stages.length : Int))))]) (fun _ w' => Ext w6 w') ?_ ?_
  · refine wk_quiet (List.range 31) ?_
    by_cases h1 : g.src = p.name
    rotate_left
    · repeat' (first | refine q_row (fun w_ hw_ => r1.ext hw_) ?_ | refine q_row (fun w_ hw_ => r2.ext hw_) ?_ | refine q_mov ?_ | refine q_asg ?_ | refine q_fa ?_ | refine q_pick_t ?_ | refine q_pick_f ?_ | refine q_skip ?_ | refine q_lenv ?_ | refine q_nil ?_ | (refine q_bin ?_ ?_ <;> intro _ <;> try (exfalso; omega)) | refine q_eqsT (a := g.src) (b := p.name) rfl rfl rfl rfl (fun h_ => absurd h_ h1) (fun _ => ?_) | fail)
      intro w7 e7
      exact ⟨(), ⟨by rw [decide_eq_false (fun h => h1 h.1)]; rfl, trivial⟩, rfl, e7⟩
    by_cases h2 : g.dst = q.name
    rotate_left
    · repeat' (first | refine q_row (fun w_ hw_ => r1.ext hw_) ?_ | refine q_row (fun w_ hw_ => r2.ext hw_) ?_ | refine q_row (fun w_ hw_ => r3.ext hw_) ?_ | refine q_mov ?_ | refine q_asg ?_ | refine q_fa ?_ | refine q_pick_t ?_ | refine q_pick_f ?_ | refine q_skip ?_ | refine q_lenv ?_ | refine q_nil ?_ | (refine q_bin ?_ ?_ <;> intro _ <;> try (exfalso; omega)) | refine q_eqsT (a := g.src) (b := p.name) rfl rfl rfl rfl (fun _ => ?_) (fun h_ => absurd h1 h_) | refine q_eqsT (a := g.dst) (b := q.name) rfl rfl rfl rfl (fun h_ => absurd h_ h2) (fun _ => ?_) | fail)
      intro w7 e7
      exact ⟨(), ⟨by rw [decide_eq_false (fun h => h2 h.2.1)]; rfl, trivial⟩, rfl, e7⟩
    by_cases h3 : g.stages.length = p.stages.length
    rotate_left
    · repeat' (first | refine q_row (fun w_ hw_ => r1.ext hw_) ?_ | refine q_row (fun w_ hw_ => r2.ext hw_) ?_ | refine q_row (fun w_ hw_ => r3.ext hw_) ?_ | refine q_mov ?_ | refine q_asg ?_ | refine q_fa ?_ | refine q_pick_t ?_ | refine q_pick_f ?_ | refine q_skip ?_ | refine q_lenv ?_ | refine q_nil ?_ | (refine q_bin ?_ ?_ <;> intro _ <;> try (exfalso; omega)) | refine q_eqsT (a := g.src) (b := p.name) rfl rfl rfl rfl (fun _ => ?_) (fun h_ => absurd h1 h_) | refine q_eqsT (a := g.dst) (b := q.name) rfl rfl rfl rfl (fun _ => ?_) (fun h_ => absurd h2 h_) | fail)
      intro w7 e7
      exact ⟨(), ⟨by rw [decide_eq_false (fun h => h3 h.2.2.1)]; rfl, trivial⟩, rfl, e7⟩
    by_cases h4 : maxI g.stages < (q.stages.length : Int)
    all_goals repeat' (first | refine q_row (fun w_ hw_ => r1.ext hw_) ?_ | refine q_row (fun w_ hw_ => r2.ext hw_) ?_ | refine q_row (fun w_ hw_ => r3.ext hw_) ?_ | refine q_mov ?_ | refine q_asg ?_ | refine q_fa ?_ | refine q_pick_t ?_ | refine q_pick_f ?_ | refine q_skip ?_ | refine q_lenv ?_ | refine q_nil ?_ | (refine q_bin ?_ ?_ <;> intro _ <;> try (exfalso; omega)) | refine q_fn hmax ?_ | refine q_eqsT (a := g.src) (b := p.name) rfl rfl rfl rfl (fun _ => ?_) (fun h_ => absurd h1 h_) | refine q_eqsT (a := g.dst) (b := q.name) rfl rfl rfl rfl (fun _ => ?_) (fun h_ => absurd h2 h_) | fail)
    · intro w7 e7
      exact ⟨(), ⟨by rw [decide_eq_true ⟨h1, h2, h3, h4⟩]; rfl, trivial⟩, rfl, e7⟩
    · intro w7 e7
      exact ⟨(), ⟨by rw [decide_eq_false (fun h => h4 h.2.2.2)]; rfl, trivial⟩, rfl, e7⟩
  rintro _ t w7 e7
  refine hK _ _ ?_
  clear hK K
  refine wk_ret (retQ_tmp1 Tryz.results18 (by decide) rfl (by conv => lhs; whnf) ?_)
  exact ⟨by rw [hv]; rfl, e6.trans e7⟩
end Go.Proofs
