/-
  The references' tests of size: lists of limits, matters, procedures, migrations.
-/
import Derived.Test.YtpmjolbnmoejdaaGreatDoorQToRa
set_option linter.unusedVariables false
set_option linter.unusedSimpArgs false
set_option linter.unnecessarySimpa false
set_option maxRecDepth 10000
namespace Go.Proofs
open Go Go.Pd Go.Top
attribute [local irreducible] OpsL W RetQ OpsQ OpsC
set_option maxHeartbeats 4000000 in
theorem light_calls {ls : List Lim} {hv : Value} {w : World} (h : LimsIn w ls hv) (hn : ls.length ≤ 140737488351232) : Calls Tryz.prog 8 #[hv] w (fun e w' => ∃ v, e = .returned v ∧ (∃ b, v = .bool b) ∧ Ext w w') := by
  obtain ⟨lp, rfl, hs, hl⟩ := h
  rw [List.length_map] at hn
  obtain ⟨la, lc, rfl, hp⟩ := sl_each limL_len (by decide) hs
  refine calls_of Tryz.func8 rfl Tryz.ntmps8 rfl ?_
  repeat' (first | refine a_mov ?_ | refine a_asg ?_ | refine a_binN ?_ | refine a_notb ?_ | refine a_lenv ?_ | (refine o_nil (hK _ _ ?_); clear hK K) | refine wk_reg ?_ | refine wk_seq fun K hK => ?_ | (refine wk_skip (hK _ _ ?_); clear hK K) | refine wk_block ?_ | refine wk_cond_t rfl ?_ | refine wk_cond_f rfl ?_ | (refine wk_exit ?_; (repeat (refine blockK_other rfl ?_)); refine blockK_same ?_; try ((repeat ((fail_if_success (refine hK _ _ ?_)); clear hK K)); refine hK _ _ ?_; clear hK K)) | (refine a_bin ?_ ?_ <;> intro _ <;> try (exfalso; omega)) | fail)
  refine wk_loopH [] rfl (fun i : Nat => [(0, .slice la lp.length lc), (3, .int .i64 (i : Int))]) (fun i w' => i ≤ lp.length ∧ Ext w w') (fun i => lp.length - i) 0 ⟨rfl, rfl, trivial⟩ ⟨Nat.zero_le _, .refl _ _⟩ ?_
  rintro i t w1 ⟨hi, e1⟩
  by_cases hlt : i < lp.length
  · obtain ⟨b, o, hpp, hr⟩ := hp i hlt
    have hr := hr w1 e1
    repeat' (first | refine a_mov ?_ | refine a_asg ?_ | refine a_binN ?_ | refine a_notb ?_ | refine a_lenv ?_ | (refine o_nil (hK _ _ ?_); clear hK K) | refine wk_reg ?_ | refine wk_seq fun K hK => ?_ | (refine wk_skip (hK _ _ ?_); clear hK K) | refine wk_block ?_ | refine wk_cond_t rfl ?_ | refine wk_cond_f rfl ?_ | (refine wk_exit ?_; (repeat (refine blockK_other rfl ?_)); refine blockK_same ?_; try ((repeat ((fail_if_success (refine hK _ _ ?_)); clear hK K)); refine hK _ _ ?_; clear hK K)) | (refine a_bin ?_ ?_ <;> intro _ <;> try (exfalso; omega)) | refine a_idx (c := 5) i hpp ?_ | refine a_all hr ?_ | fail)
    refine a_fn (rfew_calls ((hl _ (List.getElem_mem hlt)).ext e1) 20 (by decide)) ?_
    rintro v w2 ⟨⟨bb, rfl⟩, e2⟩
    cases bb
    · repeat' (first | refine a_mov ?_ | refine a_asg ?_ | refine a_binN ?_ | refine a_notb ?_ | refine a_lenv ?_ | (refine o_nil (hK _ _ ?_); clear hK K) | refine wk_reg ?_ | refine wk_seq fun K hK => ?_ | (refine wk_skip (hK _ _ ?_); clear hK K) | refine wk_block ?_ | refine wk_cond_t rfl ?_ | refine wk_cond_f rfl ?_ | (refine wk_exit ?_; (repeat (refine blockK_other rfl ?_)); refine blockK_same ?_; try ((repeat ((fail_if_success (refine hK _ _ ?_)); clear hK K)); refine hK _ _ ?_; clear hK K)) | (refine a_bin ?_ ?_ <;> intro _ <;> try (exfalso; omega)) | fail)
      refine wk_ret (retQ_tmp1 Tryz.results8 (by decide) rfl (by conv => lhs; whnf) ?_)
      exact ⟨⟨_, rfl⟩, e1.trans e2⟩
    · repeat' (first | refine a_mov ?_ | refine a_asg ?_ | refine a_binN ?_ | refine a_notb ?_ | refine a_lenv ?_ | (refine o_nil (hK _ _ ?_); clear hK K) | refine wk_reg ?_ | refine wk_seq fun K hK => ?_ | (refine wk_skip (hK _ _ ?_); clear hK K) | refine wk_block ?_ | refine wk_cond_t rfl ?_ | refine wk_cond_f rfl ?_ | (refine wk_exit ?_; (repeat (refine blockK_other rfl ?_)); refine blockK_same ?_; try ((repeat ((fail_if_success (refine hK _ _ ?_)); clear hK K)); refine hK _ _ ?_; clear hK K)) | (refine a_bin ?_ ?_ <;> intro _ <;> try (exfalso; omega)) | fail)
      exact o_nil ⟨i + 1, ⟨rfl, rfl, trivial⟩, rfl, ⟨hlt, e1.trans e2⟩, by omega⟩
  · obtain rfl : i = lp.length := by omega
    repeat' (first | refine a_mov ?_ | refine a_asg ?_ | refine a_binN ?_ | refine a_notb ?_ | refine a_lenv ?_ | (refine o_nil (hK _ _ ?_); clear hK K) | refine wk_reg ?_ | refine wk_seq fun K hK => ?_ | (refine wk_skip (hK _ _ ?_); clear hK K) | refine wk_block ?_ | refine wk_cond_t rfl ?_ | refine wk_cond_f rfl ?_ | (refine wk_exit ?_; (repeat (refine blockK_other rfl ?_)); refine blockK_same ?_; try ((repeat ((fail_if_success (refine hK _ _ ?_)); clear hK K)); refine hK _ _ ?_; clear hK K)) | (refine a_bin ?_ ?_ <;> intro _ <;> try (exfalso; omega)) | fail)
    all_goals (refine wk_ret (retQ_tmp1 Tryz.results8 (by decide) rfl (by conv => lhs; whnf) ?_))
    all_goals exact ⟨⟨_, rfl⟩, e1⟩
set_option maxHeartbeats 4000000 in
theorem pshort_calls {p : Proc} {x : PV} {w : World} (h : ProcIn w p x) : Calls Tryz.prog 6 #[.agg (procL p x).toArray] w (fun e w' => ∃ v, e = .returned v ∧ (∃ b, v = .bool b) ∧ Ext w w') := by
  obtain ⟨sa, sc, ma, mc, rfl⟩ := pv_shape h
  obtain ⟨⟨hs, hsl⟩, hm, hml⟩ := h
  simp only at hs hm
  obtain ⟨sa', sc', hseq, hp⟩ := sl_each (f := fun s : Tx => [str s]) (fun _ => rfl) (by decide) hs
  cases hseq
  refine calls_of Tryz.func6 rfl Tryz.ntmps6 rfl ?_
  repeat' (first | refine a_mov ?_ | refine a_asg ?_ | refine a_binN ?_ | refine a_fa ?_ | refine a_lenv ?_ | refine a_lens ?_ | refine a_pick_t ?_ | refine a_pick_f ?_ | refine a_not ?_ | (refine o_nil (hK _ _ ?_); clear hK K) | refine wk_reg ?_ | refine wk_seq fun K hK => ?_ | (refine wk_skip (hK _ _ ?_); clear hK K) | refine wk_block ?_ | refine wk_cond_t rfl ?_ | refine wk_cond_f rfl ?_ | (refine wk_exit ?_; (repeat (refine blockK_other rfl ?_)); refine blockK_same ?_; try ((repeat ((fail_if_success (refine hK _ _ ?_)); clear hK K)); refine hK _ _ ?_; clear hK K)) | (refine a_bin ?_ ?_ <;> intro _ <;> try (exfalso; omega)) | fail)
  refine o_box (LH.start w (fun _ => False)) (procL p ⟨.slice sa p.stages.length sc, .slice ma p.moves.length mc⟩) (by rfl) rfl rfl ?_
  intro b1 w1 hb1 hl
  have e1 : Ext w w1 := hl.done
  have hr : Row w1 b1 0 [str p.name, .slice sa p.stages.length sc, .slice ma p.moves.length mc] := hl.rowL (vs := procL p ⟨.slice sa p.stages.length sc, .slice ma p.moves.length mc⟩) 0 0 3 rfl
  clear hl
  repeat' (first | refine a_mov ?_ | refine a_asg ?_ | refine a_binN ?_ | refine a_fa ?_ | refine a_lenv ?_ | refine a_lens ?_ | refine a_pick_t ?_ | refine a_pick_f ?_ | refine a_not ?_ | (refine o_nil (hK _ _ ?_); clear hK K) | refine wk_reg ?_ | refine wk_seq fun K hK => ?_ | (refine wk_skip (hK _ _ ?_); clear hK K) | refine wk_block ?_ | refine wk_cond_t rfl ?_ | refine wk_cond_f rfl ?_ | (refine wk_exit ?_; (repeat (refine blockK_other rfl ?_)); refine blockK_same ?_; try ((repeat ((fail_if_success (refine hK _ _ ?_)); clear hK K)); refine hK _ _ ?_; clear hK K)) | (refine a_bin ?_ ?_ <;> intro _ <;> try (exfalso; omega)) | fail)
  refine wk_loopH [] rfl (fun i : Nat => [(1, .pointer (some ⟨b1, 0, none⟩)), (3, .int .i64 (i : Int))]) (fun i w' => i ≤ p.stages.length ∧ Ext w1 w') (fun i => p.stages.length - i) 0 ⟨rfl, rfl, trivial⟩ ⟨Nat.zero_le _, .refl _ _⟩ ?_
  rintro i t w2 ⟨hi, e2⟩
  replace hr := hr.ext e2
  by_cases hlt : i < p.stages.length
  · obtain ⟨b, o, hpp, hrr⟩ := hp i hlt
    have hrr := hrr w2 (e1.trans e2)
    generalize p.stages[i] = s at *
    repeat' (first | refine a_row hr ?_ | refine a_mov ?_ | refine a_asg ?_ | refine a_binN ?_ | refine a_fa ?_ | refine a_lenv ?_ | refine a_lens ?_ | refine a_pick_t ?_ | refine a_pick_f ?_ | refine a_not ?_ | (refine o_nil (hK _ _ ?_); clear hK K) | refine wk_reg ?_ | refine wk_seq fun K hK => ?_ | (refine wk_skip (hK _ _ ?_); clear hK K) | refine wk_block ?_ | refine wk_cond_t rfl ?_ | refine wk_cond_f rfl ?_ | (refine wk_exit ?_; (repeat (refine blockK_other rfl ?_)); refine blockK_same ?_; try ((repeat ((fail_if_success (refine hK _ _ ?_)); clear hK K)); refine hK _ _ ?_; clear hK K)) | (refine a_bin ?_ ?_ <;> intro _ <;> try (exfalso; omega)) | refine a_idx (c := 1) i hpp ?_ | refine a_row hrr ?_ | fail)
    · refine wk_ret (retQ_tmp1 Tryz.results6 (by decide) rfl (by conv => lhs; whnf) ?_)
      exact ⟨⟨_, rfl⟩, e1.trans e2⟩
    · exact o_nil ⟨i + 1, ⟨rfl, rfl, trivial⟩, rfl, ⟨hlt, e2⟩, by omega⟩
  · obtain rfl : i = p.stages.length := by omega
    repeat' (first | refine a_row hr ?_ | refine a_mov ?_ | refine a_asg ?_ | refine a_binN ?_ | refine a_fa ?_ | refine a_lenv ?_ | refine a_lens ?_ | refine a_pick_t ?_ | refine a_pick_f ?_ | refine a_not ?_ | (refine o_nil (hK _ _ ?_); clear hK K) | refine wk_reg ?_ | refine wk_seq fun K hK => ?_ | (refine wk_skip (hK _ _ ?_); clear hK K) | refine wk_block ?_ | refine wk_cond_t rfl ?_ | refine wk_cond_f rfl ?_ | (refine wk_exit ?_; (repeat (refine blockK_other rfl ?_)); refine blockK_same ?_; try ((repeat ((fail_if_success (refine hK _ _ ?_)); clear hK K)); refine hK _ _ ?_; clear hK K)) | (refine a_bin ?_ ?_ <;> intro _ <;> try (exfalso; omega)) | fail)
    all_goals (refine wk_ret (retQ_tmp1 Tryz.results6 (by decide) rfl (by conv => lhs; whnf) ?_))
    all_goals exact ⟨⟨_, rfl⟩, e1.trans e2⟩
set_option maxHeartbeats 4000000 in
theorem mfew_calls {m : Mat} {x : MV} {w : World} (h : MatIn w m x) (h1 : m.id.length ≤ 140737488351232) (h2 : m.proc.length ≤ 140737488351232) : Calls Tryz.prog 5 #[.agg (matL m x).toArray] w (fun e w' => ∃ v, e = .returned v ∧ (∃ b, v = .bool b) ∧ Ext w w') := by
  obtain ⟨ca, cc, ma, mc, ra, rc, la, lc, rfl⟩ := mv_shape h
  obtain ⟨⟨hms, hmsl⟩, ⟨hmm, hmml⟩, ⟨hmr, hmrl⟩, ⟨lp, hlp, hmt, hmli⟩, hmtl⟩ := h
  simp only at hms hmm hmr hmt
  have hlpl : lp.length = m.limits.length := by rw [← hlp, List.length_map]
  obtain ⟨ra', rc', hreq, hrp⟩ := sl_each rightL_len (by decide) hmr
  cases hreq
  obtain ⟨la', lc', hleq, hlq⟩ := sl_each limL_len (by decide) hmt
  obtain ⟨rfl, -, -⟩ := Value.slice.inj hleq
  refine calls_of Tryz.func5 rfl Tryz.ntmps5 rfl ?_
  repeat' (first | refine a_mov ?_ | refine a_asg ?_ | refine a_binN ?_ | refine a_fa ?_ | refine a_lenv ?_ | refine a_lens ?_ | refine a_pick_t ?_ | refine a_pick_f ?_ | refine a_not ?_ | (refine o_nil (hK _ _ ?_); clear hK K) | refine wk_reg ?_ | refine wk_seq fun K hK => ?_ | (refine wk_skip (hK _ _ ?_); clear hK K) | refine wk_block ?_ | refine wk_cond_t rfl ?_ | refine wk_cond_f rfl ?_ | (refine wk_exit ?_; (repeat (refine blockK_other rfl ?_)); refine blockK_same ?_; try ((repeat ((fail_if_success (refine hK _ _ ?_)); clear hK K)); refine hK _ _ ?_; clear hK K)) | (refine a_bin ?_ ?_ <;> intro _ <;> try (exfalso; omega)) | fail)
  refine o_box (LH.start w (fun _ => False)) (matL m ⟨.slice ca m.cas.length cc, .slice ma m.moved.length mc, .slice ra m.rights.length rc, .slice la m.limits.length lc⟩) (by rfl) rfl rfl ?_
  intro b1 w1 hb1 hl
  have e1 : Ext w w1 := hl.done
  have hr : Row w1 b1 0 [str m.id, .int .i64 m.opened, .slice ca m.cas.length cc, str m.proc, .int .i64 m.stage, .slice ma m.moved.length mc, .slice ra m.rights.length rc, .slice la m.limits.length lc] := hl.rowL (vs := matL m ⟨.slice ca m.cas.length cc, .slice ma m.moved.length mc, .slice ra m.rights.length rc, .slice la m.limits.length lc⟩) 0 0 8 rfl
  clear hl
  repeat' (first | refine a_row hr ?_ | refine a_mov ?_ | refine a_asg ?_ | refine a_binN ?_ | refine a_fa ?_ | refine a_lenv ?_ | refine a_lens ?_ | refine a_pick_t ?_ | refine a_pick_f ?_ | refine a_not ?_ | (refine o_nil (hK _ _ ?_); clear hK K) | refine wk_reg ?_ | refine wk_seq fun K hK => ?_ | (refine wk_skip (hK _ _ ?_); clear hK K) | refine wk_block ?_ | refine wk_cond_t rfl ?_ | refine wk_cond_f rfl ?_ | (refine wk_exit ?_; (repeat (refine blockK_other rfl ?_)); refine blockK_same ?_; try ((repeat ((fail_if_success (refine hK _ _ ?_)); clear hK K)); refine hK _ _ ?_; clear hK K)) | (refine a_bin ?_ ?_ <;> intro _ <;> try (exfalso; omega)) | fail)
  all_goals try (refine wk_ret (retQ_tmp1 Tryz.results5 (by decide) rfl (by conv => lhs; whnf) ?_); exact ⟨⟨_, rfl⟩, e1⟩)
  refine wk_loopH [] rfl (fun i : Nat => [(1, .pointer (some ⟨b1, 0, none⟩)), (3, .int .i64 (i : Int))]) (fun i w' => i ≤ m.rights.length ∧ Ext w1 w') (fun i => m.rights.length - i) 0 ⟨rfl, rfl, trivial⟩ ⟨Nat.zero_le _, .refl _ _⟩ ?_
  rintro i t w2 ⟨hi, e2⟩
  replace hr := hr.ext e2
  by_cases hlt : i < m.rights.length
  · obtain ⟨b, o, hpp, hrr⟩ := hrp i hlt
    have hrr := hrr w2 (e1.trans e2)
    generalize m.rights[i] = q at *
    repeat' (first | refine a_row hr ?_ | refine a_mov ?_ | refine a_asg ?_ | refine a_binN ?_ | refine a_fa ?_ | refine a_lenv ?_ | refine a_lens ?_ | refine a_pick_t ?_ | refine a_pick_f ?_ | refine a_not ?_ | (refine o_nil (hK _ _ ?_); clear hK K) | refine wk_reg ?_ | refine wk_seq fun K hK => ?_ | (refine wk_skip (hK _ _ ?_); clear hK K) | refine wk_block ?_ | refine wk_cond_t rfl ?_ | refine wk_cond_f rfl ?_ | (refine wk_exit ?_; (repeat (refine blockK_other rfl ?_)); refine blockK_same ?_; try ((repeat ((fail_if_success (refine hK _ _ ?_)); clear hK K)); refine hK _ _ ?_; clear hK K)) | (refine a_bin ?_ ?_ <;> intro _ <;> try (exfalso; omega)) | refine a_idx (c := 2) i hpp ?_ | refine a_row hrr ?_ (hj := ⟨0, rfl, rfl⟩) | fail)
    · refine wk_ret (retQ_tmp1 Tryz.results5 (by decide) rfl (by conv => lhs; whnf) ?_)
      exact ⟨⟨_, rfl⟩, e1.trans e2⟩
    · exact o_nil ⟨i + 1, ⟨rfl, rfl, trivial⟩, rfl, ⟨hlt, e2⟩, by omega⟩
  obtain rfl : i = m.rights.length := by omega
  repeat' (first | refine a_row hr ?_ | refine a_mov ?_ | refine a_asg ?_ | refine a_binN ?_ | refine a_fa ?_ | refine a_lenv ?_ | refine a_lens ?_ | refine a_pick_t ?_ | refine a_pick_f ?_ | refine a_not ?_ | (refine o_nil (hK _ _ ?_); clear hK K) | refine wk_reg ?_ | refine wk_seq fun K hK => ?_ | (refine wk_skip (hK _ _ ?_); clear hK K) | refine wk_block ?_ | refine wk_cond_t rfl ?_ | refine wk_cond_f rfl ?_ | (refine wk_exit ?_; (repeat (refine blockK_other rfl ?_)); refine blockK_same ?_; try ((repeat ((fail_if_success (refine hK _ _ ?_)); clear hK K)); refine hK _ _ ?_; clear hK K)) | (refine a_bin ?_ ?_ <;> intro _ <;> try (exfalso; omega)) | fail)
  refine wk_loopH [] rfl (fun i : Nat => [(1, .pointer (some ⟨b1, 0, none⟩)), (4, .int .i64 (i : Int))]) (fun i w' => i ≤ m.limits.length ∧ Ext w2 w') (fun i => m.limits.length - i) 0 ⟨rfl, rfl, trivial⟩ ⟨Nat.zero_le _, .refl _ _⟩ ?_
  rintro i t w3 ⟨hi, e3⟩
  replace hr := hr.ext e3
  by_cases hlt : i < m.limits.length
  · obtain ⟨b, o, hpp, hrr⟩ := hlq i (by omega)
    have hrr := hrr w3 ((e1.trans e2).trans e3)
    have hpin := hmli _ (List.getElem_mem (by omega : i < lp.length))
    generalize lp[i] = q at *
    obtain ⟨qa, qc, hq⟩ := lim_shape hpin
    have hrr : Row w3 b (o + i * 5) [str q.1.id, .int .i64 q.1.n, .int .i64 q.1.u, .int .i64 q.1.f, .slice qa q.1.st.length qc] := by
      have h9 : limL q = [str q.1.id, .int .i64 q.1.n, .int .i64 q.1.u, .int .i64 q.1.f, q.2] := rfl
      rw [h9, hq] at hrr
      exact hrr
    repeat' (first | refine a_row hr ?_ | refine a_mov ?_ | refine a_asg ?_ | refine a_binN ?_ | refine a_fa ?_ | refine a_lenv ?_ | refine a_lens ?_ | refine a_pick_t ?_ | refine a_pick_f ?_ | refine a_not ?_ | (refine o_nil (hK _ _ ?_); clear hK K) | refine wk_reg ?_ | refine wk_seq fun K hK => ?_ | (refine wk_skip (hK _ _ ?_); clear hK K) | refine wk_block ?_ | refine wk_cond_t rfl ?_ | refine wk_cond_f rfl ?_ | (refine wk_exit ?_; (repeat (refine blockK_other rfl ?_)); refine blockK_same ?_; try ((repeat ((fail_if_success (refine hK _ _ ?_)); clear hK K)); refine hK _ _ ?_; clear hK K)) | (refine a_bin ?_ ?_ <;> intro _ <;> try (exfalso; omega)) | refine a_idx (c := 5) i hpp ?_ | refine a_row hrr ?_ | fail)
    all_goals first
      | (refine wk_ret (retQ_tmp1 Tryz.results5 (by decide) rfl (by conv => lhs; whnf) ?_)
         exact ⟨⟨_, rfl⟩, (e1.trans e2).trans e3⟩)
      | exact o_nil ⟨i + 1, ⟨rfl, rfl, trivial⟩, rfl, ⟨hlt, e3⟩, by omega⟩
  obtain rfl : i = m.limits.length := by omega
  repeat' (first | refine a_row hr ?_ | refine a_mov ?_ | refine a_asg ?_ | refine a_binN ?_ | refine a_fa ?_ | refine a_lenv ?_ | refine a_lens ?_ | refine a_pick_t ?_ | refine a_pick_f ?_ | refine a_not ?_ | (refine o_nil (hK _ _ ?_); clear hK K) | refine wk_reg ?_ | refine wk_seq fun K hK => ?_ | (refine wk_skip (hK _ _ ?_); clear hK K) | refine wk_block ?_ | refine wk_cond_t rfl ?_ | refine wk_cond_f rfl ?_ | (refine wk_exit ?_; (repeat (refine blockK_other rfl ?_)); refine blockK_same ?_; try ((repeat ((fail_if_success (refine hK _ _ ?_)); clear hK K)); refine hK _ _ ?_; clear hK K)) | (refine a_bin ?_ ?_ <;> intro _ <;> try (exfalso; omega)) | fail)
  refine wk_ret (retQ_tmp1 Tryz.results5 (by decide) rfl (by conv => lhs; whnf) ?_)
  exact ⟨⟨_, rfl⟩, (e1.trans e2).trans e3⟩
set_option maxHeartbeats 4000000 in
theorem gfew_calls {g : Mig} {x : GV} {w : World} (h : MigIn w g x) (h1 : g.src.length ≤ 140737488351232) (h2 : g.dst.length ≤ 140737488351232) (h3 : ∀ r ∈ g.rights, r.x.length ≤ 140737488351232 ∧ r.y.length ≤ 140737488351232) : Calls Tryz.prog 7 #[.agg (migL g x).toArray] w (fun e w' => ∃ v, e = .returned v ∧ (∃ b, v = .bool b) ∧ Ext w w') := by
  obtain ⟨sa, sc, ra, rc, ta, tc, rfl⟩ := gv_shape h
  obtain ⟨⟨hgs, hgsl⟩, ⟨hgr, hgrl⟩, ⟨lt, hlt', hgt, hgli⟩, hgtl⟩ := h
  simp only at hgs hgr hgt
  have hltl : lt.length = g.terms.length := by rw [← hlt', List.length_map]
  obtain ⟨ra', rc', hreq, hrp⟩ := sl_each pairL_len (by decide) hgr
  cases hreq
  obtain ⟨ta', tc', hteq, htq⟩ := sl_each limL_len (by decide) hgt
  obtain ⟨rfl, -, -⟩ := Value.slice.inj hteq
  refine calls_of Tryz.func7 rfl Tryz.ntmps7 rfl ?_
  repeat' (first | refine a_mov ?_ | refine a_asg ?_ | refine a_binN ?_ | refine a_notb ?_ | refine a_fa ?_ | refine a_lenv ?_ | refine a_lens ?_ | refine a_pick_t ?_ | refine a_pick_f ?_ | refine a_not ?_ | (refine o_nil (hK _ _ ?_); clear hK K) | refine wk_reg ?_ | refine wk_seq fun K hK => ?_ | (refine wk_skip (hK _ _ ?_); clear hK K) | refine wk_block ?_ | refine wk_cond_t rfl ?_ | refine wk_cond_f rfl ?_ | (refine wk_exit ?_; (repeat (refine blockK_other rfl ?_)); refine blockK_same ?_; try ((repeat ((fail_if_success (refine hK _ _ ?_)); clear hK K)); refine hK _ _ ?_; clear hK K)) | (refine a_bin ?_ ?_ <;> intro _ <;> try (exfalso; omega)) | fail)
  refine o_box (LH.start w (fun _ => False)) (migL g ⟨.slice sa g.stages.length sc, .slice ra g.rights.length rc, .slice ta g.terms.length tc⟩) (by rfl) rfl rfl ?_
  intro b1 w1 hb1 hl
  have e1 : Ext w w1 := hl.done
  have hr : Row w1 b1 0 [str g.src, str g.dst, .slice sa g.stages.length sc, .slice ra g.rights.length rc, .slice ta g.terms.length tc] := hl.rowL (vs := migL g ⟨.slice sa g.stages.length sc, .slice ra g.rights.length rc, .slice ta g.terms.length tc⟩) 0 0 5 rfl
  clear hl
  repeat' (first | refine a_row hr ?_ | refine a_mov ?_ | refine a_asg ?_ | refine a_binN ?_ | refine a_notb ?_ | refine a_fa ?_ | refine a_lenv ?_ | refine a_lens ?_ | refine a_pick_t ?_ | refine a_pick_f ?_ | refine a_not ?_ | (refine o_nil (hK _ _ ?_); clear hK K) | refine wk_reg ?_ | refine wk_seq fun K hK => ?_ | (refine wk_skip (hK _ _ ?_); clear hK K) | refine wk_block ?_ | refine wk_cond_t rfl ?_ | refine wk_cond_f rfl ?_ | (refine wk_exit ?_; (repeat (refine blockK_other rfl ?_)); refine blockK_same ?_; try ((repeat ((fail_if_success (refine hK _ _ ?_)); clear hK K)); refine hK _ _ ?_; clear hK K)) | (refine a_bin ?_ ?_ <;> intro _ <;> try (exfalso; omega)) | fail)
  all_goals try (refine wk_ret (retQ_tmp1 Tryz.results7 (by decide) rfl (by conv => lhs; whnf) ?_); exact ⟨⟨_, rfl⟩, e1⟩)
  refine wk_loopH [] rfl (fun i : Nat => [(1, .pointer (some ⟨b1, 0, none⟩)), (3, .int .i64 (i : Int))]) (fun i w' => i ≤ g.rights.length ∧ Ext w1 w') (fun i => g.rights.length - i) 0 ⟨rfl, rfl, trivial⟩ ⟨Nat.zero_le _, .refl _ _⟩ ?_
  rintro i t w2 ⟨hi, e2⟩
  replace hr := hr.ext e2
  by_cases hlt : i < g.rights.length
  · obtain ⟨b, o, hpp, hrr⟩ := hrp i hlt
    have hrr := hrr w2 (e1.trans e2)
    have hqb := h3 _ (List.getElem_mem hlt)
    generalize g.rights[i] = q at *
    have hrr : Row w2 b (o + i * 2) [str q.x, str q.y] := hrr
    repeat' (first | refine a_row hr ?_ | refine a_mov ?_ | refine a_asg ?_ | refine a_binN ?_ | refine a_notb ?_ | refine a_fa ?_ | refine a_lenv ?_ | refine a_lens ?_ | refine a_pick_t ?_ | refine a_pick_f ?_ | refine a_not ?_ | (refine o_nil (hK _ _ ?_); clear hK K) | refine wk_reg ?_ | refine wk_seq fun K hK => ?_ | (refine wk_skip (hK _ _ ?_); clear hK K) | refine wk_block ?_ | refine wk_cond_t rfl ?_ | refine wk_cond_f rfl ?_ | (refine wk_exit ?_; (repeat (refine blockK_other rfl ?_)); refine blockK_same ?_; try ((repeat ((fail_if_success (refine hK _ _ ?_)); clear hK K)); refine hK _ _ ?_; clear hK K)) | (refine a_bin ?_ ?_ <;> intro _ <;> try (exfalso; omega)) | fail)
    refine wk_quiet (List.range 16) ?_
    repeat' (first | refine q_row (fun w_ hw_ => hr.ext hw_) ?_ | refine q_idx (c := 2) i hpp ?_ | refine q_row (fun w_ hw_ => hrr.ext hw_) ?_ | refine q_pur rfl rfl rfl (fun _ => r_indexArr (len := 2) (k := 1) 0 (by omega) rfl rfl rfl rfl rfl) ?_ | refine q_pur rfl rfl rfl (fun _ => r_indexArr (len := 2) (k := 1) 1 (by omega) rfl rfl rfl rfl rfl) ?_ | refine q_mov ?_ | refine q_fa ?_ | refine q_binN ?_ | refine q_lens ?_ | refine q_nil ?_ | (refine q_bin ?_ ?_ <;> intro _ <;> try (exfalso; omega)) | fail)
    all_goals intro w3 e3
    all_goals refine hK _ _ ?_
    all_goals clear hK K
    all_goals repeat' (first | refine a_mov ?_ | refine a_asg ?_ | refine a_binN ?_ | refine a_notb ?_ | refine a_fa ?_ | refine a_lenv ?_ | refine a_lens ?_ | refine a_pick_t ?_ | refine a_pick_f ?_ | refine a_not ?_ | (refine o_nil (hK _ _ ?_); clear hK K) | refine wk_reg ?_ | refine wk_seq fun K hK => ?_ | (refine wk_skip (hK _ _ ?_); clear hK K) | refine wk_block ?_ | refine wk_cond_t rfl ?_ | refine wk_cond_f rfl ?_ | (refine wk_exit ?_; (repeat (refine blockK_other rfl ?_)); refine blockK_same ?_; try ((repeat ((fail_if_success (refine hK _ _ ?_)); clear hK K)); refine hK _ _ ?_; clear hK K)) | (refine a_bin ?_ ?_ <;> intro _ <;> try (exfalso; omega)) | fail)
    · refine wk_ret (retQ_tmp1 Tryz.results7 (by decide) rfl (by conv => lhs; whnf) ?_)
      exact ⟨⟨_, rfl⟩, (e1.trans e2).trans e3⟩
    · exact o_nil ⟨i + 1, ⟨rfl, rfl, trivial⟩, rfl, ⟨hlt, e2.trans e3⟩, by omega⟩
  obtain rfl : i = g.rights.length := by omega
  repeat' (first | refine a_row hr ?_ | refine a_mov ?_ | refine a_asg ?_ | refine a_binN ?_ | refine a_notb ?_ | refine a_fa ?_ | refine a_lenv ?_ | refine a_lens ?_ | refine a_pick_t ?_ | refine a_pick_f ?_ | refine a_not ?_ | (refine o_nil (hK _ _ ?_); clear hK K) | refine wk_reg ?_ | refine wk_seq fun K hK => ?_ | (refine wk_skip (hK _ _ ?_); clear hK K) | refine wk_block ?_ | refine wk_cond_t rfl ?_ | refine wk_cond_f rfl ?_ | (refine wk_exit ?_; (repeat (refine blockK_other rfl ?_)); refine blockK_same ?_; try ((repeat ((fail_if_success (refine hK _ _ ?_)); clear hK K)); refine hK _ _ ?_; clear hK K)) | (refine a_bin ?_ ?_ <;> intro _ <;> try (exfalso; omega)) | fail)
  refine wk_loopH [] rfl (fun i : Nat => [(1, .pointer (some ⟨b1, 0, none⟩)), (4, .int .i64 (i : Int))]) (fun i w' => i ≤ g.terms.length ∧ Ext w2 w') (fun i => g.terms.length - i) 0 ⟨rfl, rfl, trivial⟩ ⟨Nat.zero_le _, .refl _ _⟩ ?_
  rintro i t w3 ⟨hi, e3⟩
  replace hr := hr.ext e3
  by_cases hlt : i < g.terms.length
  · obtain ⟨b, o, hpp, hrr⟩ := htq i (by omega)
    have hrr := hrr w3 ((e1.trans e2).trans e3)
    have hpin := hgli _ (List.getElem_mem (by omega : i < lt.length))
    repeat' (first | refine a_row hr ?_ | refine a_mov ?_ | refine a_asg ?_ | refine a_binN ?_ | refine a_notb ?_ | refine a_fa ?_ | refine a_lenv ?_ | refine a_lens ?_ | refine a_pick_t ?_ | refine a_pick_f ?_ | refine a_not ?_ | (refine o_nil (hK _ _ ?_); clear hK K) | refine wk_reg ?_ | refine wk_seq fun K hK => ?_ | (refine wk_skip (hK _ _ ?_); clear hK K) | refine wk_block ?_ | refine wk_cond_t rfl ?_ | refine wk_cond_f rfl ?_ | (refine wk_exit ?_; (repeat (refine blockK_other rfl ?_)); refine blockK_same ?_; try ((repeat ((fail_if_success (refine hK _ _ ?_)); clear hK K)); refine hK _ _ ?_; clear hK K)) | (refine a_bin ?_ ?_ <;> intro _ <;> try (exfalso; omega)) | refine a_idx (c := 5) i hpp ?_ | refine a_all hrr ?_ | fail)
    refine a_fn (rfew_calls (hpin.ext ((e1.trans e2).trans e3)) 5 (by decide)) ?_
    rintro v w4 ⟨⟨bb, rfl⟩, e4⟩
    cases bb
    · repeat' (first | refine a_mov ?_ | refine a_asg ?_ | refine a_binN ?_ | refine a_notb ?_ | refine a_fa ?_ | refine a_lenv ?_ | refine a_lens ?_ | refine a_pick_t ?_ | refine a_pick_f ?_ | refine a_not ?_ | (refine o_nil (hK _ _ ?_); clear hK K) | refine wk_reg ?_ | refine wk_seq fun K hK => ?_ | (refine wk_skip (hK _ _ ?_); clear hK K) | refine wk_block ?_ | refine wk_cond_t rfl ?_ | refine wk_cond_f rfl ?_ | (refine wk_exit ?_; (repeat (refine blockK_other rfl ?_)); refine blockK_same ?_; try ((repeat ((fail_if_success (refine hK _ _ ?_)); clear hK K)); refine hK _ _ ?_; clear hK K)) | (refine a_bin ?_ ?_ <;> intro _ <;> try (exfalso; omega)) | fail)
      refine wk_ret (retQ_tmp1 Tryz.results7 (by decide) rfl (by conv => lhs; whnf) ?_)
      exact ⟨⟨_, rfl⟩, ((e1.trans e2).trans e3).trans e4⟩
    · repeat' (first | refine a_mov ?_ | refine a_asg ?_ | refine a_binN ?_ | refine a_notb ?_ | refine a_fa ?_ | refine a_lenv ?_ | refine a_lens ?_ | refine a_pick_t ?_ | refine a_pick_f ?_ | refine a_not ?_ | (refine o_nil (hK _ _ ?_); clear hK K) | refine wk_reg ?_ | refine wk_seq fun K hK => ?_ | (refine wk_skip (hK _ _ ?_); clear hK K) | refine wk_block ?_ | refine wk_cond_t rfl ?_ | refine wk_cond_f rfl ?_ | (refine wk_exit ?_; (repeat (refine blockK_other rfl ?_)); refine blockK_same ?_; try ((repeat ((fail_if_success (refine hK _ _ ?_)); clear hK K)); refine hK _ _ ?_; clear hK K)) | (refine a_bin ?_ ?_ <;> intro _ <;> try (exfalso; omega)) | fail)
      exact o_nil ⟨i + 1, ⟨rfl, rfl, trivial⟩, rfl, ⟨hlt, e3.trans e4⟩, by omega⟩
  obtain rfl : i = g.terms.length := by omega
  repeat' (first | refine a_row hr ?_ | refine a_mov ?_ | refine a_asg ?_ | refine a_binN ?_ | refine a_notb ?_ | refine a_fa ?_ | refine a_lenv ?_ | refine a_lens ?_ | refine a_pick_t ?_ | refine a_pick_f ?_ | refine a_not ?_ | (refine o_nil (hK _ _ ?_); clear hK K) | refine wk_reg ?_ | refine wk_seq fun K hK => ?_ | (refine wk_skip (hK _ _ ?_); clear hK K) | refine wk_block ?_ | refine wk_cond_t rfl ?_ | refine wk_cond_f rfl ?_ | (refine wk_exit ?_; (repeat (refine blockK_other rfl ?_)); refine blockK_same ?_; try ((repeat ((fail_if_success (refine hK _ _ ?_)); clear hK K)); refine hK _ _ ?_; clear hK K)) | (refine a_bin ?_ ?_ <;> intro _ <;> try (exfalso; omega)) | fail)
  refine wk_ret (retQ_tmp1 Tryz.results7 (by decide) rfl (by conv => lhs; whnf) ?_)
  exact ⟨⟨_, rfl⟩, (e1.trans e2).trans e3⟩
end Go.Proofs
