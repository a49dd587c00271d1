/-
  The law's head (w09Moved).
-/
import Derived.Test.YtpmjolbnmoejdaaGreatDoorQToRu
import Derived.Test.YtpmjolbnmoejdaaGreatDoorQSp
set_option linter.unusedVariables false
set_option linter.unusedSimpArgs false
set_option linter.unnecessarySimpa false
set_option maxRecDepth 10000
namespace Go.Proofs
open Go Go.Pd Go.Top
attribute [local irreducible] OpsL W RetQ OpsQ OpsC
def zeroP : List Value := [.string ⟨#[]⟩, .slice none 0 0, .slice none 0 0]
theorem proc_one (p : Proc) (a b : Option Addr) (k l c d : Nat) : (procL p ⟨.slice a k c, .slice b l d⟩).all Value.oneCell' = true := by
  simp only [procL, List.all_cons, str_eq]
  rfl
set_option maxHeartbeats 8000000 in
theorem procs_calls (w : World) : Calls Tryz.prog 13 #[] w (fun e w' => ∃ v, e = .returned v ∧ (∃ x y : PV, v = .tuple #[.agg (procL hP x).toArray, .agg (procL hQ y).toArray] ∧ ProcIn w' hP x ∧ ProcIn w' hQ y) ∧ Ext w w') := by
  refine calls_of Tryz.func13 rfl Tryz.ntmps13 rfl ?_
  repeat' (first | (refine o_nil (hK _ _ ?_); clear hK K) | refine wk_reg ?_ | refine wk_seq fun K hK => ?_ | fail)
  refine o_alloc (LH.start w (fun _ => False)) zeroP (by kernel_rfl) rfl ?_
  intro b0 w1 hb0 hl
  refine o_alloc hl zeroP (by kernel_rfl) rfl ?_
  clear hl
  intro b1 w2 hb1 hl
  repeat' (first | (refine o_nil (hK _ _ ?_); clear hK K) | refine wk_reg ?_ | refine wk_seq fun K hK => ?_ | fail)
  refine o_buildSlice hl [str filedS, str heardS] rfl rfl (by simp only [filedS, heardS, str_eq]; kernel_rfl) ?_
  clear hl
  intro c1 w3 hc1 hl
  refine o_build [.int .i64 0, .int .i64 1] rfl (by kernel_rfl) ?_
  refine o_buildSlice hl [.int .i64 0, .int .i64 1] rfl rfl (by kernel_rfl) ?_
  clear hl
  intro c2 w4 hc2 hl
  refine o_build (procL hP ⟨.slice (some ⟨c1, 0, none⟩) 2 2, .slice (some ⟨c2, 0, none⟩) 1 1⟩) rfl (by simp only [procL, hP, oldS, str_eq]; kernel_rfl) ?_
  refine o_alloc hl zeroP (by kernel_rfl) rfl ?_
  clear hl
  intro b2 w5 hb2 hl
  refine o_store hl 0 (procL hP ⟨.slice (some ⟨c1, 0, none⟩) 2 2, .slice (some ⟨c2, 0, none⟩) 1 1⟩) rfl rfl rfl rfl rfl (by rw [procL_len]; decide) (proc_one _ _ _ _ _ _ _) ?_
  clear hl
  intro w6 hl
  repeat' (first | (refine o_nil (hK _ _ ?_); clear hK K) | refine wk_reg ?_ | refine wk_seq fun K hK => ?_ | fail)
  refine a_all (vs := procL hP ⟨.slice (some ⟨c1, 0, none⟩) 2 2, .slice (some ⟨c2, 0, none⟩) 1 1⟩) (hl.rowL 0 0 3 rfl) ?_
  refine o_buildSlice hl [str filedS, str triedS, str heardS] rfl rfl (by simp only [filedS, heardS, triedS, str_eq]; kernel_rfl) ?_
  clear hl
  intro c3 w7 hc3 hl
  refine o_build [.int .i64 0, .int .i64 1] rfl (by kernel_rfl) ?_
  refine o_build [.int .i64 1, .int .i64 2] rfl (by kernel_rfl) ?_
  refine o_buildSlice hl [.int .i64 0, .int .i64 1, .int .i64 1, .int .i64 2] rfl rfl (by kernel_rfl) ?_
  clear hl
  intro c4 w8 hc4 hl
  refine o_build (procL hQ ⟨.slice (some ⟨c3, 0, none⟩) 3 3, .slice (some ⟨c4, 0, none⟩) 2 2⟩) rfl (by simp only [procL, hQ, newS, str_eq]; kernel_rfl) ?_
  refine o_store hl 6 (procL hP ⟨.slice (some ⟨c1, 0, none⟩) 2 2, .slice (some ⟨c2, 0, none⟩) 1 1⟩) rfl rfl rfl rfl rfl (by rw [procL_len]; decide) (proc_one _ _ _ _ _ _ _) ?_
  clear hl
  intro w9 hl
  refine o_store hl 5 (procL hQ ⟨.slice (some ⟨c3, 0, none⟩) 3 3, .slice (some ⟨c4, 0, none⟩) 2 2⟩) rfl rfl rfl rfl rfl (by rw [procL_len]; decide) (proc_one _ _ _ _ _ _ _) ?_
  clear hl
  intro w10 hl
  repeat' (first | (refine o_nil (hK _ _ ?_); clear hK K) | refine wk_reg ?_ | refine wk_seq fun K hK => ?_ | fail)
  refine wk_ret (retQ_res [.agg (procL hP ⟨.slice (some ⟨c1, 0, none⟩) 2 2, .slice (some ⟨c2, 0, none⟩) 1 1⟩).toArray, .agg (procL hQ ⟨.slice (some ⟨c3, 0, none⟩) 3 3, .slice (some ⟨c4, 0, none⟩) 2 2⟩).toArray] rfl rfl ⟨by decide, ⟨⟨b0, 0, none⟩, rfl, run_loadVarN rfl rfl (hl.rowL (vs := procL hP ⟨.slice (some ⟨c1, 0, none⟩) 2 2, .slice (some ⟨c2, 0, none⟩) 1 1⟩) 6 0 3 rfl)⟩, by decide, ⟨⟨b1, 0, none⟩, rfl, run_loadVarN rfl rfl (hl.rowL (vs := procL hQ ⟨.slice (some ⟨c3, 0, none⟩) 3 3, .slice (some ⟨c4, 0, none⟩) 2 2⟩) 5 0 3 rfl)⟩, trivial⟩ ?_)
  refine ⟨⟨⟨.slice (some ⟨c1, 0, none⟩) 2 2, .slice (some ⟨c2, 0, none⟩) 1 1⟩, ⟨.slice (some ⟨c3, 0, none⟩) 3 3, .slice (some ⟨c4, 0, none⟩) 2 2⟩, rfl, ⟨⟨.mk rfl (Nat.le_refl _) (hl.rowL (vs := [str filedS, str heardS]) 4 0 2 rfl), by decide⟩, .mk rfl (Nat.le_refl _) (hl.rowL (vs := [.int .i64 0, .int .i64 1]) 3 0 2 rfl), by decide⟩, ⟨.mk rfl (Nat.le_refl _) (hl.rowL (vs := [str filedS, str triedS, str heardS]) 1 0 3 rfl), by decide⟩, .mk rfl (Nat.le_refl _) (hl.rowL (vs := [.int .i64 0, .int .i64 1, .int .i64 1, .int .i64 2]) 0 0 4 rfl), by decide⟩, hl.done⟩
theorem hL_cells (n u f : Int) (v : Value) : limL (hL n u f, v) = [str answerS, .int .i64 n, .int .i64 u, .int .i64 f, v] := rfl
set_option maxHeartbeats 8000000 in
theorem moved_calls {w : World} (ht : Tabs w) : Calls Tryz.prog 4 #[] w (fun e w' => ∃ v, e = .returned v ∧ v = .bool true ∧ Ext w w') := by
  refine calls_of Tryz.func4 rfl Tryz.ntmps4 rfl ?_
  repeat' (first | refine a_mov ?_ | refine a_asg ?_ | refine a_notb ?_ | refine a_fa ?_ | refine a_ext ?_ | refine a_lenv ?_ | refine a_pick_t ?_ | refine a_pick_f ?_ | (refine o_nil (hK _ _ ?_); clear hK K) | refine wk_reg ?_ | refine wk_seq fun K hK => ?_ | (refine wk_skip (hK _ _ ?_); clear hK K) | refine wk_cond_f rfl ?_ | (refine a_bin ?_ ?_ <;> intro _ <;> try (exfalso; omega)) | fail)
  refine a_fn (procs_calls w) ?_
  rintro v w1 ⟨⟨x, y, rfl, hx, hy⟩, e1⟩
  obtain ⟨pa, pc, pma, pmc, rfl⟩ := pv_shape hx
  obtain ⟨qa, qc, qma, qmc, rfl⟩ := pv_shape hy
  repeat' (first | refine a_mov ?_ | refine a_asg ?_ | refine a_notb ?_ | refine a_fa ?_ | refine a_ext ?_ | refine a_lenv ?_ | refine a_pick_t ?_ | refine a_pick_f ?_ | (refine a_bin ?_ ?_ <;> intro _ <;> try (exfalso; omega)) | fail)
  refine o_alloc (LH.start w1 (fun _ => False)) zeroP (by kernel_rfl) rfl ?_
  intro b1 w2 hb1 hl
  refine o_alloc hl zeroP (by kernel_rfl) rfl ?_
  clear hl
  intro b2 w3 hb2 hl
  repeat' (first | refine a_mov ?_ | refine a_asg ?_ | refine a_notb ?_ | refine a_fa ?_ | refine a_ext ?_ | refine a_lenv ?_ | refine a_pick_t ?_ | refine a_pick_f ?_ | (refine a_bin ?_ ?_ <;> intro _ <;> try (exfalso; omega)) | fail)
  refine o_store hl 1 (procL hP ⟨.slice pa hP.stages.length pc, .slice pma hP.moves.length pmc⟩) rfl rfl rfl rfl rfl (by rw [procL_len]; decide) (proc_one _ _ _ _ _ _ _) ?_
  clear hl
  intro w4 hl
  refine o_store hl 0 (procL hQ ⟨.slice qa hQ.stages.length qc, .slice qma hQ.moves.length qmc⟩) rfl rfl rfl rfl rfl (by rw [procL_len]; decide) (proc_one _ _ _ _ _ _ _) ?_
  clear hl
  intro w5 hl
  repeat' (first | refine a_mov ?_ | refine a_asg ?_ | refine a_notb ?_ | refine a_fa ?_ | refine a_ext ?_ | refine a_lenv ?_ | refine a_pick_t ?_ | refine a_pick_f ?_ | (refine o_nil (hK _ _ ?_); clear hK K) | refine wk_reg ?_ | refine wk_seq fun K hK => ?_ | (refine wk_skip (hK _ _ ?_); clear hK K) | refine wk_cond_f rfl ?_ | (refine a_bin ?_ ?_ <;> intro _ <;> try (exfalso; omega)) | fail)
  refine o_buildSlice hl [.int .i64 7] rfl rfl (by kernel_rfl) ?_
  clear hl
  intro c1 w6 hc1 hl
  refine o_build (rightL ⟨appealS, 7⟩) rfl (by simp only [rightL, appealS, str_eq]; kernel_rfl) ?_
  refine o_buildSlice hl (rightL ⟨appealS, 7⟩) rfl rfl (by simp only [rightL, appealS, str_eq]; kernel_rfl) ?_
  clear hl
  intro c2 w7 hc2 hl
  refine o_build [.int .i64 30, .int .i64 1] rfl (by kernel_rfl) ?_
  refine o_build (limL (hL 30 1 7, .slice none 0 0)) rfl (by simp only [hL_cells, answerS, str_eq]; kernel_rfl) ?_
  refine o_buildSlice hl (limL (hL 30 1 7, .slice none 0 0)) rfl rfl (by simp only [hL_cells, answerS, str_eq]; kernel_rfl) ?_
  clear hl
  intro c3 w8 hc3 hl
  refine o_build (matL hM ⟨.slice none 0 0, .slice (some ⟨c1, 0, none⟩) 1 1, .slice (some ⟨c2, 0, none⟩) 1 1, .slice (some ⟨c3, 0, none⟩) 1 1⟩) rfl (by simp only [matL, hM, oldS, str_eq]; kernel_rfl) ?_
  refine o_alloc hl zeroMt (by kernel_rfl) rfl ?_
  clear hl
  intro b3 w9 hb3 hl
  refine o_store hl 0 (matL hM ⟨.slice none 0 0, .slice (some ⟨c1, 0, none⟩) 1 1, .slice (some ⟨c2, 0, none⟩) 1 1, .slice (some ⟨c3, 0, none⟩) 1 1⟩) rfl rfl rfl rfl rfl (by rw [matL_len]; decide) (by simp only [matL, List.all_cons, str_eq]; rfl) ?_
  clear hl
  intro w10 hl
  repeat' (first | refine a_mov ?_ | refine a_asg ?_ | refine a_notb ?_ | refine a_fa ?_ | refine a_ext ?_ | refine a_lenv ?_ | refine a_pick_t ?_ | refine a_pick_f ?_ | (refine o_nil (hK _ _ ?_); clear hK K) | refine wk_reg ?_ | refine wk_seq fun K hK => ?_ | (refine wk_skip (hK _ _ ?_); clear hK K) | refine wk_cond_f rfl ?_ | (refine a_bin ?_ ?_ <;> intro _ <;> try (exfalso; omega)) | fail)
  refine o_buildSlice hl [.int .i64 0, .int .i64 2] rfl rfl (by kernel_rfl) ?_
  clear hl
  intro d1 w11 hd1 hl
  refine o_build (pairL ⟨appealS, reviewS⟩) rfl (by simp only [pairL, appealS, reviewS, str_eq]; kernel_rfl) ?_
  refine o_buildSlice hl (pairL ⟨appealS, reviewS⟩) rfl rfl (by simp only [pairL, appealS, reviewS, str_eq]; kernel_rfl) ?_
  clear hl
  intro d2 w12 hd2 hl
  refine o_build [.int .i64 1, .int .i64 1] rfl (by kernel_rfl) ?_
  refine o_build (limL (hL 1 1 10, .slice none 0 0)) rfl (by simp only [hL_cells, answerS, str_eq]; kernel_rfl) ?_
  refine o_buildSlice hl (limL (hL 1 1 10, .slice none 0 0)) rfl rfl (by simp only [hL_cells, answerS, str_eq]; kernel_rfl) ?_
  clear hl
  intro d3 w13 hd3 hl
  refine o_build (migL hG ⟨.slice (some ⟨d1, 0, none⟩) 2 2, .slice (some ⟨d2, 0, none⟩) 1 1, .slice (some ⟨d3, 0, none⟩) 1 1⟩) rfl (by simp only [migL, hG, oldS, newS, str_eq]; kernel_rfl) ?_
  refine o_alloc hl zeroG (by kernel_rfl) rfl ?_
  clear hl
  intro b4 w14 hb4 hl
  refine o_store hl 0 (migL hG ⟨.slice (some ⟨d1, 0, none⟩) 2 2, .slice (some ⟨d2, 0, none⟩) 1 1, .slice (some ⟨d3, 0, none⟩) 1 1⟩) rfl rfl rfl rfl rfl (by rw [migL_len]; decide) (by simp only [migL, List.all_cons, str_eq]; rfl) ?_
  clear hl
  intro w15 hl
  have e15 : Ext w1 w15 := hl.done
  have hMi : MatIn w15 hM ⟨.slice none 0 0, .slice (some ⟨c1, 0, none⟩) 1 1, .slice (some ⟨c2, 0, none⟩) 1 1, .slice (some ⟨c3, 0, none⟩) 1 1⟩ :=
    ⟨⟨Sl.nil _ _, by decide⟩, ⟨.mk rfl (Nat.le_refl _) (hl.rowL (vs := [.int .i64 7]) 7 0 1 rfl), by decide⟩, ⟨.mk rfl (Nat.le_refl _) (hl.rowL (vs := rightL ⟨appealS, 7⟩) 6 0 2 rfl), by decide⟩, ⟨[(hL 30 1 7, .slice none 0 0)], rfl, .mk rfl (Nat.le_refl _) (hl.rowL (vs := limL (hL 30 1 7, .slice none 0 0)) 5 0 5 rfl), fun p hp => by rw [List.mem_singleton.1 hp]; exact ⟨Sl.nil _ _, by decide, by decide⟩⟩, by decide⟩
  have hGi : MigIn w15 hG ⟨.slice (some ⟨d1, 0, none⟩) 2 2, .slice (some ⟨d2, 0, none⟩) 1 1, .slice (some ⟨d3, 0, none⟩) 1 1⟩ :=
    ⟨⟨.mk rfl (Nat.le_refl _) (hl.rowL (vs := [.int .i64 0, .int .i64 2]) 3 0 2 rfl), by decide⟩, ⟨.mk rfl (Nat.le_refl _) (hl.rowL (vs := pairL ⟨appealS, reviewS⟩) 2 0 2 rfl), by decide⟩, ⟨[(hL 1 1 10, .slice none 0 0)], rfl, .mk rfl (Nat.le_refl _) (hl.rowL (vs := limL (hL 1 1 10, .slice none 0 0)) 1 0 5 rfl), fun p hp => by rw [List.mem_singleton.1 hp]; exact ⟨Sl.nil _ _, by decide, by decide⟩⟩, by decide⟩
  have r3 : Row w15 b3 0 (matL hM ⟨.slice none 0 0, .slice (some ⟨c1, 0, none⟩) 1 1, .slice (some ⟨c2, 0, none⟩) 1 1, .slice (some ⟨c3, 0, none⟩) 1 1⟩) := hl.rowL (vs := matL hM ⟨.slice none 0 0, .slice (some ⟨c1, 0, none⟩) 1 1, .slice (some ⟨c2, 0, none⟩) 1 1, .slice (some ⟨c3, 0, none⟩) 1 1⟩) 4 0 8 rfl
  have r4 : Row w15 b4 0 (migL hG ⟨.slice (some ⟨d1, 0, none⟩) 2 2, .slice (some ⟨d2, 0, none⟩) 1 1, .slice (some ⟨d3, 0, none⟩) 1 1⟩) := hl.rowL (vs := migL hG ⟨.slice (some ⟨d1, 0, none⟩) 2 2, .slice (some ⟨d2, 0, none⟩) 1 1, .slice (some ⟨d3, 0, none⟩) 1 1⟩) 0 0 5 rfl
  have r1 : Row w15 b1 0 (procL hP ⟨.slice pa hP.stages.length pc, .slice pma hP.moves.length pmc⟩) := hl.rowL (vs := procL hP ⟨.slice pa hP.stages.length pc, .slice pma hP.moves.length pmc⟩) 9 0 3 rfl
  have r2 : Row w15 b2 0 (procL hQ ⟨.slice qa hQ.stages.length qc, .slice qma hQ.moves.length qmc⟩) := hl.rowL (vs := procL hQ ⟨.slice qa hQ.stages.length qc, .slice qma hQ.moves.length qmc⟩) 8 0 3 rfl
  clear hl
  repeat' (first | refine a_mov ?_ | refine a_asg ?_ | refine a_notb ?_ | refine a_fa ?_ | refine a_ext ?_ | refine a_lenv ?_ | refine a_pick_t ?_ | refine a_pick_f ?_ | (refine o_nil (hK _ _ ?_); clear hK K) | refine wk_reg ?_ | refine wk_seq fun K hK => ?_ | (refine wk_skip (hK _ _ ?_); clear hK K) | refine wk_cond_f rfl ?_ | (refine a_bin ?_ ?_ <;> intro _ <;> try (exfalso; omega)) | fail)
  refine a_all r3 ?_
  refine a_all r4 ?_
  refine a_all r1 ?_
  refine a_all r2 ?_
  refine a_fn (apply_calls (day := 20) hMi hGi (hx.ext e15) (hy.ext e15) (ht.ext (e1.trans e15))) ?_
  rintro v w16 ⟨ho, e16⟩
  rw [apply1] at ho
  obtain ⟨z, rfl, hz⟩ := ho
  obtain ⟨ca, cc, ma, mc, ra, rc, la, lc, rfl⟩ := mv_shape hz
  repeat' (first | refine a_mov ?_ | refine a_asg ?_ | refine a_notb ?_ | refine a_fa ?_ | refine a_ext ?_ | refine a_lenv ?_ | refine a_pick_t ?_ | refine a_pick_f ?_ | (refine a_bin ?_ ?_ <;> intro _ <;> try (exfalso; omega)) | fail)
  refine o_alloc (LH.start w16 (fun _ => False)) zeroMt (by kernel_rfl) rfl ?_
  intro b5 w17 hb5 hl
  repeat' (first | refine a_mov ?_ | refine a_asg ?_ | refine a_notb ?_ | refine a_fa ?_ | refine a_ext ?_ | refine a_lenv ?_ | refine a_pick_t ?_ | refine a_pick_f ?_ | (refine a_bin ?_ ?_ <;> intro _ <;> try (exfalso; omega)) | fail)
  refine o_store hl 0 (matL hM2 ⟨.slice ca hM2.cas.length cc, .slice ma hM2.moved.length mc, .slice ra hM2.rights.length rc, .slice la hM2.limits.length lc⟩) rfl rfl rfl rfl rfl (by rw [matL_len]; decide) (by simp only [matL, List.all_cons, str_eq]; rfl) ?_
  clear hl
  intro w18 hl
  have e18 : Ext w16 w18 := hl.done
  have r5 : Row w18 b5 0 [str hM2.id, .int .i64 5, .slice ca hM2.cas.length cc, str hM2.proc, .int .i64 2, .slice ma hM2.moved.length mc, .slice ra hM2.rights.length rc, .slice la 1 lc] := hl.rowL (vs := matL hM2 ⟨.slice ca hM2.cas.length cc, .slice ma hM2.moved.length mc, .slice ra hM2.rights.length rc, .slice la hM2.limits.length lc⟩) 0 0 8 rfl
  clear hl
  replace hz := hz.ext e18
  repeat' (first | refine a_row r5 ?_ | refine a_mov ?_ | refine a_asg ?_ | refine a_notb ?_ | refine a_fa ?_ | refine a_ext ?_ | refine a_lenv ?_ | refine a_pick_t ?_ | refine a_pick_f ?_ | (refine o_nil (hK _ _ ?_); clear hK K) | refine wk_reg ?_ | refine wk_seq fun K hK => ?_ | (refine wk_skip (hK _ _ ?_); clear hK K) | refine wk_cond_f rfl ?_ | (refine a_bin ?_ ?_ <;> intro _ <;> try (exfalso; omega)) | fail)
  obtain ⟨-, -, -, ⟨lp, hlp, xt, xli⟩, -⟩ := id hz
  obtain ⟨s, hlps⟩ : ∃ s, lp = [(hL 10 1 20, s)] := by
    cases lp with
    | nil => simp [hM2] at hlp
    | cons p t =>
      have h1 : p.1 :: t.map Prod.fst = [hL 10 1 20] := hlp
      injection h1 with h2 h3
      rw [List.map_eq_nil_iff] at h3
      exact ⟨p.2, by rw [h3, ← h2]⟩
  rw [hlps] at xt xli
  have hpin := xli _ List.mem_cons_self
  obtain ⟨la', lc', hleq, hlq⟩ := sl_each limL_len (by decide) xt
  obtain ⟨hla, -, -⟩ := Value.slice.inj hleq
  obtain ⟨bq, oq, hpq, hrq⟩ := hlq 0 (by simp)
  replace hrq := hrq w18 (.refl _ _)
  have hla2 : la = some ⟨bq, oq, none⟩ := hla.trans hpq
  have hrq : Row w18 bq (oq + 0 * 5) (limL (hL 10 1 20, s)) := hrq
  refine a_idx (c := 5) 0 hla2 ?_
  refine a_all hrq ?_
  refine a_fn (due_calls hpin) ?_
  rintro v w19 ⟨ho, e19⟩
  rw [show (hL 10 1 20, s).1 = hL 10 1 20 from rfl, due3] at ho
  have ho : v = .tuple #[.int .i64 ((30 : Nat) : Int), .int .i64 0] := ho
  subst ho
  replace r5 := r5.ext e19
  replace hz := hz.ext e19
  repeat' (first | refine a_row r5 ?_ | refine a_mov ?_ | refine a_asg ?_ | refine a_notb ?_ | refine a_fa ?_ | refine a_ext ?_ | refine a_lenv ?_ | refine a_pick_t ?_ | refine a_pick_f ?_ | (refine o_nil (hK _ _ ?_); clear hK K) | refine wk_reg ?_ | refine wk_seq fun K hK => ?_ | (refine wk_skip (hK _ _ ?_); clear hK K) | refine wk_cond_f rfl ?_ | (refine a_bin ?_ ?_ <;> intro _ <;> try (exfalso; omega)) | fail)
  refine a_all (vs := matL hM2 ⟨.slice ca hM2.cas.length cc, .slice ma hM2.moved.length mc, .slice ra hM2.rights.length rc, .slice la hM2.limits.length lc⟩) r5 ?_
  refine a_fn (has_calls hz reviewS 7) ?_ (hargs := by simp only [reviewS, str_eq]; rfl)
  rintro v w20 ⟨rfl, e20⟩
  rw [show (hM2.rights.any fun r => decide (r.name = reviewS ∧ r.since ≤ 7)) = true by decide]
  replace r5 := r5.ext e20
  replace hz := hz.ext e20
  repeat' (first | refine a_row r5 ?_ | refine a_mov ?_ | refine a_asg ?_ | refine a_notb ?_ | refine a_fa ?_ | refine a_ext ?_ | refine a_lenv ?_ | refine a_pick_t ?_ | refine a_pick_f ?_ | (refine o_nil (hK _ _ ?_); clear hK K) | refine wk_reg ?_ | refine wk_seq fun K hK => ?_ | (refine wk_skip (hK _ _ ?_); clear hK K) | refine wk_cond_f rfl ?_ | (refine a_bin ?_ ?_ <;> intro _ <;> try (exfalso; omega)) | fail)
  refine a_all (vs := matL hM2 ⟨.slice ca hM2.cas.length cc, .slice ma hM2.moved.length mc, .slice ra hM2.rights.length rc, .slice la hM2.limits.length lc⟩) r5 ?_
  refine a_fn (has_calls hz appealS 100) ?_ (hargs := by simp only [appealS, str_eq]; rfl)
  rintro v w21 ⟨rfl, e21⟩
  rw [show (hM2.rights.any fun r => decide (r.name = appealS ∧ r.since ≤ 100)) = false by decide]
  repeat' (first | refine a_mov ?_ | refine a_asg ?_ | refine a_notb ?_ | refine a_fa ?_ | refine a_ext ?_ | refine a_lenv ?_ | refine a_pick_t ?_ | refine a_pick_f ?_ | (refine o_nil (hK _ _ ?_); clear hK K) | refine wk_reg ?_ | refine wk_seq fun K hK => ?_ | (refine wk_skip (hK _ _ ?_); clear hK K) | refine wk_cond_f rfl ?_ | (refine a_bin ?_ ?_ <;> intro _ <;> try (exfalso; omega)) | fail)
  refine wk_ret (retQ_tmp1 Tryz.results4 (by decide) rfl (by conv => lhs; whnf) ?_)
  exact ⟨rfl, (((((e1.trans e15).trans e16).trans e18).trans e19).trans e20).trans e21⟩
end Go.Proofs
