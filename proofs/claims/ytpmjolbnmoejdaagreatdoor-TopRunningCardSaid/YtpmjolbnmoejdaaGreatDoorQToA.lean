/-
  The calendar's years and months.
-/
import Derived.Test.YtpmjolbnmoejdaaGreatDoorQL2
import Derived.Test.YtpmjolbnmoejdaaGreatDoorQLZ
import Derived.Test.YtpmjolbnmoejdaaGreatDoorQSp
set_option linter.unusedVariables false
set_option linter.unusedSimpArgs false
set_option linter.unnecessarySimpa false
set_option maxRecDepth 10000
namespace Go.Proofs
open Go Go.Pd Go.Top
attribute [local irreducible] OpsL W RetQ OpsQ OpsC
theorem cis_calls (z : Int) (w : World) : Calls Tryz.prog 66 #[.int .i64 z] w (fun e w' => ∃ v, e = .returned v ∧ v = .bool (isD z) ∧ w' = w) := by
  refine calls_of Tryz.func66 rfl Tryz.ntmps66 rfl ?_
  repeat' (first | refine a_mov ?_ | refine a_asg ?_ | refine a_pick_t ?_ | refine a_pick_f ?_ | refine a_not ?_ | (refine o_nil (hK _ _ ?_); clear hK K) | refine wk_reg ?_ | refine wk_seq fun K hK => ?_ | (refine a_bin ?_ ?_ <;> intro _ <;> try (exfalso; omega)) | fail)
  all_goals (refine wk_ret (retQ_tmp1 Tryz.results66 (by decide) rfl (by conv => lhs; whnf) ?_))
  all_goals (refine ⟨congrArg Value.bool ?_, rfl⟩; unfold isD; first | (rw [eq_comm, decide_eq_true_iff]; omega) | (rw [eq_comm, decide_eq_false_iff_not]; omega))
theorem leap_calls (y : Nat) (w : World) : Calls Tryz.prog 114 #[.int .i64 (y : Int)] w (fun e w' => ∃ v, e = .returned v ∧ v = .bool (leapL y) ∧ w' = w) := by
  refine calls_of Tryz.func114 rfl Tryz.ntmps114 rfl ?_
  repeat' (first | refine a_rem ?_ | refine a_mov ?_ | refine a_asg ?_ | refine a_pick_t ?_ | refine a_pick_f ?_ | refine a_not ?_ | (refine o_nil (hK _ _ ?_); clear hK K) | refine wk_reg ?_ | refine wk_seq fun K hK => ?_ | (refine a_bin ?_ ?_ <;> intro _ <;> try (exfalso; omega)) | fail)
  all_goals (refine wk_ret (retQ_tmp1 Tryz.results114 (by decide) rfl (by conv => lhs; whnf) ?_))
  all_goals (refine ⟨congrArg Value.bool ?_, rfl⟩; unfold leapL; first | (rw [eq_comm, decide_eq_true_iff]; omega) | (rw [eq_comm, decide_eq_false_iff_not]; omega))
theorem days_calls (y : Nat) (w : World) : Calls Tryz.prog 113 #[.int .i64 (y : Int)] w (fun e w' => ∃ v, e = .returned v ∧ v = .int .i64 (daysL y : Int) ∧ w' = w) := by
  refine calls_of Tryz.func113 rfl Tryz.ntmps113 rfl ?_
  repeat' (first | refine a_mov ?_ | refine a_asg ?_ | (refine o_nil (hK _ _ ?_); clear hK K) | refine wk_reg ?_ | refine wk_seq fun K hK => ?_ | (refine wk_skip (hK _ _ ?_); clear hK K) | refine wk_cond_t rfl ?_ | refine wk_cond_f rfl ?_ | fail)
  refine o_fn (leap_calls y w) rfl (fun _ => rfl) rfl ?_
  rintro v w1 ⟨rfl, rfl⟩
  cases hle : leapL y
  all_goals repeat' (first | refine a_mov ?_ | refine a_asg ?_ | (refine o_nil (hK _ _ ?_); clear hK K) | refine wk_reg ?_ | refine wk_seq fun K hK => ?_ | (refine wk_skip (hK _ _ ?_); clear hK K) | refine wk_cond_t rfl ?_ | refine wk_cond_f rfl ?_ | fail)
  all_goals (refine wk_ret (retQ_tmp1 Tryz.results113 (by decide) rfl (by conv => lhs; whnf) ?_))
  all_goals exact ⟨by unfold daysL; rw [hle]; rfl, rfl⟩
def mVals (y : Nat) : List Value := (monthsL y).map fun m : Nat => .int .i64 (m : Int)
theorem mVals_len (y : Nat) : (mVals y).length = 12 := rfl
def zero12 : List Value := [.int .i64 0, .int .i64 0, .int .i64 0, .int .i64 0, .int .i64 0, .int .i64 0, .int .i64 0, .int .i64 0, .int .i64 0, .int .i64 0, .int .i64 0, .int .i64 0]
def common : List Value := [.int .i64 31, .int .i64 28, .int .i64 31, .int .i64 30, .int .i64 31, .int .i64 30, .int .i64 31, .int .i64 31, .int .i64 30, .int .i64 31, .int .i64 30, .int .i64 31]
def leapM : List Value := [.int .i64 31, .int .i64 29, .int .i64 31, .int .i64 30, .int .i64 31, .int .i64 30, .int .i64 31, .int .i64 31, .int .i64 30, .int .i64 31, .int .i64 30, .int .i64 31]
theorem mVals_leap {y : Nat} (h : leapL y = true) : mVals y = leapM := by unfold mVals monthsL; rw [h]; rfl
theorem mVals_no {y : Nat} (h : leapL y = false) : mVals y = common := by unfold mVals monthsL; rw [h]; rfl
theorem mVals_one (y : Nat) : (mVals y).all Value.oneCell' = true := by cases h : leapL y <;> simp only [mVals_leap, mVals_no, h] <;> rfl
set_option maxHeartbeats 4000000 in
theorem months12_calls (y : Nat) (h1 : 1600 ≤ y) (h2 : y ≤ 9999) (w : World) : Calls Tryz.prog 103 #[.int .i64 (y : Int)] w (fun e w' => ∃ v, e = .returned v ∧ v = .agg (mVals y).toArray ∧ Ext w w') := by
  refine calls_of Tryz.func103 rfl Tryz.ntmps103 rfl ?_
  repeat' (first | refine a_mov ?_ | refine a_pick_t ?_ | refine a_pick_f ?_ | refine a_not ?_ | (refine o_nil (hK _ _ ?_); clear hK K) | refine wk_reg ?_ | refine wk_seq fun K hK => ?_ | (refine wk_skip (hK _ _ ?_); clear hK K) | refine wk_cond_t rfl ?_ | refine wk_cond_f rfl ?_ | (refine a_bin ?_ ?_ <;> intro _ <;> try (exfalso; omega)) | fail)
  refine o_alloc (LH.start w (fun _ => False)) zero12 rfl rfl ?_
  intro b2 w1 hb2 hl
  repeat' (first | refine a_mov ?_ | refine a_pick_t ?_ | refine a_pick_f ?_ | refine a_not ?_ | (refine o_nil (hK _ _ ?_); clear hK K) | refine wk_reg ?_ | refine wk_seq fun K hK => ?_ | (refine wk_skip (hK _ _ ?_); clear hK K) | refine wk_cond_t rfl ?_ | refine wk_cond_f rfl ?_ | (refine a_bin ?_ ?_ <;> intro _ <;> try (exfalso; omega)) | fail)
  refine o_build common rfl (by kernel_rfl) ?_
  repeat' (first | refine a_mov ?_ | refine a_pick_t ?_ | refine a_pick_f ?_ | refine a_not ?_ | (refine o_nil (hK _ _ ?_); clear hK K) | refine wk_reg ?_ | refine wk_seq fun K hK => ?_ | (refine wk_skip (hK _ _ ?_); clear hK K) | refine wk_cond_t rfl ?_ | refine wk_cond_f rfl ?_ | (refine a_bin ?_ ?_ <;> intro _ <;> try (exfalso; omega)) | fail)
  refine o_alloc hl zero12 rfl rfl ?_
  clear hl
  intro b3 w2 hb3 hl
  repeat' (first | refine a_mov ?_ | refine a_pick_t ?_ | refine a_pick_f ?_ | refine a_not ?_ | (refine o_nil (hK _ _ ?_); clear hK K) | refine wk_reg ?_ | refine wk_seq fun K hK => ?_ | (refine wk_skip (hK _ _ ?_); clear hK K) | refine wk_cond_t rfl ?_ | refine wk_cond_f rfl ?_ | (refine a_bin ?_ ?_ <;> intro _ <;> try (exfalso; omega)) | fail)
  refine o_store hl 0 common rfl rfl rfl rfl rfl (by decide) rfl ?_
  clear hl
  intro w3 hl
  have hl : LH w (fun _ => False) w3 [(b3, .cells common.toArray 149 (0, 0)), (b2, .cells zero12.toArray 149 (0, 0))] := hl
  repeat' (first | refine a_mov ?_ | refine a_pick_t ?_ | refine a_pick_f ?_ | refine a_not ?_ | (refine o_nil (hK _ _ ?_); clear hK K) | refine wk_reg ?_ | refine wk_seq fun K hK => ?_ | (refine wk_skip (hK _ _ ?_); clear hK K) | refine wk_cond_t rfl ?_ | refine wk_cond_f rfl ?_ | (refine a_bin ?_ ?_ <;> intro _ <;> try (exfalso; omega)) | fail)
  refine o_fn (leap_calls y w3) rfl (fun _ => rfl) rfl ?_
  rintro v w4 ⟨rfl, rfl⟩
  cases hle : leapL y
  · rw [← mVals_no hle] at hl
    repeat' (first | refine a_mov ?_ | refine a_pick_t ?_ | refine a_pick_f ?_ | refine a_not ?_ | (refine o_nil (hK _ _ ?_); clear hK K) | refine wk_reg ?_ | refine wk_seq fun K hK => ?_ | (refine wk_skip (hK _ _ ?_); clear hK K) | refine wk_cond_t rfl ?_ | refine wk_cond_f rfl ?_ | (refine a_bin ?_ ?_ <;> intro _ <;> try (exfalso; omega)) | fail)
    refine a_all (vs := mVals y) (hl.rowL 0 0 12 rfl) ?_
    refine o_store hl 1 (mVals y) rfl rfl rfl rfl rfl (by rw [mVals_len]; decide) (mVals_one y) ?_
    clear hl
    intro w5 hl
    have hl : LH w (fun _ => False) w5 [(b3, .cells (mVals y).toArray 149 (0, 0)), (b2, .cells (mVals y).toArray 149 (0, 0))] := hl
    repeat' (first | refine a_mov ?_ | refine a_pick_t ?_ | refine a_pick_f ?_ | refine a_not ?_ | (refine o_nil (hK _ _ ?_); clear hK K) | refine wk_reg ?_ | refine wk_seq fun K hK => ?_ | (refine wk_skip (hK _ _ ?_); clear hK K) | refine wk_cond_t rfl ?_ | refine wk_cond_f rfl ?_ | (refine a_bin ?_ ?_ <;> intro _ <;> try (exfalso; omega)) | fail)
    refine wk_ret (retQ_res [.agg (mVals y).toArray] rfl rfl ⟨by decide, ⟨⟨b2, 0, none⟩, rfl, run_loadVarN rfl rfl (hl.rowL (vs := mVals y) 1 0 12 rfl)⟩, trivial⟩ ?_)
    exact ⟨rfl, hl.done⟩
  · repeat' (first | refine a_mov ?_ | refine a_pick_t ?_ | refine a_pick_f ?_ | refine a_not ?_ | (refine o_nil (hK _ _ ?_); clear hK K) | refine wk_reg ?_ | refine wk_seq fun K hK => ?_ | (refine wk_skip (hK _ _ ?_); clear hK K) | refine wk_cond_t rfl ?_ | refine wk_cond_f rfl ?_ | (refine a_bin ?_ ?_ <;> intro _ <;> try (exfalso; omega)) | fail)
    refine o_indexArr 1 (by decide) rfl rfl rfl rfl rfl (by omega) ?_
    refine o_store hl 0 [.int .i64 29] rfl rfl rfl rfl rfl (by decide) rfl ?_
    clear hl
    intro w4 hl
    have hl : LH w (fun _ => False) w4 [(b3, .cells leapM.toArray 149 (0, 0)), (b2, .cells zero12.toArray 149 (0, 0))] := hl
    rw [← mVals_leap hle] at hl
    repeat' (first | refine a_mov ?_ | refine a_pick_t ?_ | refine a_pick_f ?_ | refine a_not ?_ | (refine o_nil (hK _ _ ?_); clear hK K) | refine wk_reg ?_ | refine wk_seq fun K hK => ?_ | (refine wk_skip (hK _ _ ?_); clear hK K) | refine wk_cond_t rfl ?_ | refine wk_cond_f rfl ?_ | (refine a_bin ?_ ?_ <;> intro _ <;> try (exfalso; omega)) | fail)
    refine a_all (vs := mVals y) (hl.rowL 0 0 12 rfl) ?_
    refine o_store hl 1 (mVals y) rfl rfl rfl rfl rfl (by rw [mVals_len]; decide) (mVals_one y) ?_
    clear hl
    intro w5 hl
    have hl : LH w (fun _ => False) w5 [(b3, .cells (mVals y).toArray 149 (0, 0)), (b2, .cells (mVals y).toArray 149 (0, 0))] := hl
    repeat' (first | refine a_mov ?_ | refine a_pick_t ?_ | refine a_pick_f ?_ | refine a_not ?_ | (refine o_nil (hK _ _ ?_); clear hK K) | refine wk_reg ?_ | refine wk_seq fun K hK => ?_ | (refine wk_skip (hK _ _ ?_); clear hK K) | refine wk_cond_t rfl ?_ | refine wk_cond_f rfl ?_ | (refine a_bin ?_ ?_ <;> intro _ <;> try (exfalso; omega)) | fail)
    refine wk_ret (retQ_res [.agg (mVals y).toArray] rfl rfl ⟨by decide, ⟨⟨b2, 0, none⟩, rfl, run_loadVarN rfl rfl (hl.rowL (vs := mVals y) 1 0 12 rfl)⟩, trivial⟩ ?_)
    exact ⟨rfl, hl.done⟩
end Go.Proofs
