/-
  Rulings: Valid (the program's, the reference's).
-/
import Derived.Test.YtbfehpiahmodlaaDoorQa
import Derived.Test.YtbfehpiahmodlaaDoorLX
set_option linter.unusedVariables false
set_option linter.unusedSimpArgs false
set_option linter.unnecessarySimpa false
set_option maxRecDepth 10000
namespace Go.Proofs
open Go Go.Pd Go.Lexs Go.Fin Go.Fo
attribute [local irreducible] OpsL W RetQ OpsQ OpsC

theorem validB_id {r : Rul.Rul} (h : Nm r.id = false) : Rul.validB r = false := by unfold Rul.validB; rw [h]; rfl
theorem validB_tgt {r : Rul.Rul} (h : Nm r.tgt = false) : Rul.validB r = false := by unfold Rul.validB; rw [h, Bool.and_false]; rfl
theorem validB_days {r : Rul.Rul} (h : (Rul.dayB r.fro && Rul.dayB r.til && Rul.dayB r.known) = false) : Rul.validB r = false := by
  unfold Rul.validB
  generalize Nm r.id = a at *; generalize Nm r.tgt = b at *; generalize Rul.dayB r.fro = c at *; generalize Rul.dayB r.til = d at *; generalize Rul.dayB r.known = e at *
  revert h
  cases a <;> cases b <;> cases c <;> cases d <;> cases e <;> simp
theorem validB_rest {r : Rul.Rul} (h1 : Nm r.id = true) (h2 : Nm r.tgt = true) (h3 : (Rul.dayB r.fro && Rul.dayB r.til && Rul.dayB r.known) = true) :
    Rul.validB r = if r.kind = 6 then Nm r.lifts else if r.kind = 4 then decide (r.lifts = []) && decide (r.fro < r.til) else if r.kind = 5 then decide (r.lifts = []) && decide (cnt r.read ≤ 200 ∧ dep r.read ≤ 20) else if r.kind = 1 ∨ r.kind = 2 ∨ r.kind = 3 then decide (r.lifts = []) else false := by
  unfold Rul.validB
  simp only [Bool.and_eq_true] at h3
  rw [h1, h2, h3.1.1, h3.1.2, h3.2]
  rfl

/-- A ruling's texts are of possible lengths. -/
def RuLen (r : Rul.Rul) : Prop := r.id.length ≤ 9223372036854775806 ∧ r.tgt.length ≤ 9223372036854775806 ∧ r.lifts.length ≤ 9223372036854775806

set_option maxHeartbeats 4000000 in
theorem ruValid_calls (r : Rul.Rul) (kv : Value) (w : World) (hk : KA w r.read.kids kv) (hc : cnt r.read ≤ 1000000) (hn : RuLen r) :
    Calls Tryd.prog 10 #[.agg (rulC r kv).toArray] w (fun e w' => ∃ x, e = .returned x ∧ x = .bool (Rul.validB r) ∧ Ext w w') := by
  have hrest := validB_rest (r := r)
  have hone := rulC_one hk
  have hdc := dep_le_cnt r.read
  refine calls_of Tryd.func10 rfl Tryd.ntmps10 rfl ?_
  refine wk_seq fun K hK => ?_
  refine wk_reg ?_
  refine o_box (LH.start w (fun _ => False)) [str (r).id, str (r).tgt, .int .i64 (r).kind, .int .i64 (r).fro, .int .i64 (r).til, .int .i64 (r).read.op, str (r).read.name, .int .i64 (r).read.cmp, .int .i64 (r).read.num, kv, .int .i64 (r).known, .bool (r).fin, str (r).lifts] rfl rfl rfl ?_
  intro b w1 hb hl
  repeat' (first | refine a_mov ?_ | refine a_asg ?_ | refine a_binN ?_ | refine a_notd ?_ | refine a_notb ?_ | refine a_nilc ?_ | refine a_fa ?_ | refine a_ext ?_ | refine a_lenv ?_ | refine a_lens ?_ | refine a_pick_t ?_ | refine a_pick_f ?_ | refine a_not ?_ | refine a_nilf ?_ | (refine o_nil (hK _ _ ?_); clear hK K) | refine wk_reg ?_ | refine wk_seq fun K hK => ?_ | (refine wk_skip (hK _ _ ?_); clear hK K) | (refine wk_label (hK _ _ ?_); clear hK K) | refine wk_scope ?_ | refine wk_block ?_ | refine wk_cond_t rfl ?_ | refine wk_cond_f rfl ?_ | (refine wk_exit ?_; (repeat (refine blockK_other rfl ?_)); refine blockK_same ?_; try ((repeat ((fail_if_success (refine hK _ _ ?_)); clear hK K)); refine hK _ _ ?_; clear hK K)) | (refine a_bin ?_ ?_ <;> intro _ <;> try (exfalso; omega)) | refine a_ld hl ?_ | (refine a_st hl ?_; clear hl; intro _ hl) | refine a_ix (fun _ => ?_) | fail)
  refine a_fn (ruName_calls r.id hn.1 w1) ?_
  rintro _ _ ⟨rfl, rfl⟩
  cases h1 : Nm r.id
  · repeat' (first | refine a_mov ?_ | refine a_asg ?_ | refine a_binN ?_ | refine a_notd ?_ | refine a_notb ?_ | refine a_nilc ?_ | refine a_fa ?_ | refine a_ext ?_ | refine a_lenv ?_ | refine a_lens ?_ | refine a_pick_t ?_ | refine a_pick_f ?_ | refine a_not ?_ | refine a_nilf ?_ | (refine o_nil (hK _ _ ?_); clear hK K) | refine wk_reg ?_ | refine wk_seq fun K hK => ?_ | (refine wk_skip (hK _ _ ?_); clear hK K) | (refine wk_label (hK _ _ ?_); clear hK K) | refine wk_scope ?_ | refine wk_block ?_ | refine wk_cond_t rfl ?_ | refine wk_cond_f rfl ?_ | (refine wk_exit ?_; (repeat (refine blockK_other rfl ?_)); refine blockK_same ?_; try ((repeat ((fail_if_success (refine hK _ _ ?_)); clear hK K)); refine hK _ _ ?_; clear hK K)) | (refine a_bin ?_ ?_ <;> intro _ <;> try (exfalso; omega)) | refine a_ld hl ?_ | (refine a_st hl ?_; clear hl; intro _ hl) | refine a_ix (fun _ => ?_) | fail)
    refine wk_ret (retQ_tmp1 Tryd.results10 (by decide) rfl (by conv => lhs; whnf) ?_)
    exact ⟨by rw [validB_id h1], hl.done⟩
  repeat' (first | refine a_mov ?_ | refine a_asg ?_ | refine a_binN ?_ | refine a_notd ?_ | refine a_notb ?_ | refine a_nilc ?_ | refine a_fa ?_ | refine a_ext ?_ | refine a_lenv ?_ | refine a_lens ?_ | refine a_pick_t ?_ | refine a_pick_f ?_ | refine a_not ?_ | refine a_nilf ?_ | (refine o_nil (hK _ _ ?_); clear hK K) | refine wk_reg ?_ | refine wk_seq fun K hK => ?_ | (refine wk_skip (hK _ _ ?_); clear hK K) | (refine wk_label (hK _ _ ?_); clear hK K) | refine wk_scope ?_ | refine wk_block ?_ | refine wk_cond_t rfl ?_ | refine wk_cond_f rfl ?_ | (refine wk_exit ?_; (repeat (refine blockK_other rfl ?_)); refine blockK_same ?_; try ((repeat ((fail_if_success (refine hK _ _ ?_)); clear hK K)); refine hK _ _ ?_; clear hK K)) | (refine a_bin ?_ ?_ <;> intro _ <;> try (exfalso; omega)) | refine a_ld hl ?_ | (refine a_st hl ?_; clear hl; intro _ hl) | refine a_ix (fun _ => ?_) | fail)
  refine a_fn (ruName_calls r.tgt hn.2.1 _) ?_
  rintro _ _ ⟨rfl, rfl⟩
  cases h2 : Nm r.tgt
  · repeat' (first | refine a_mov ?_ | refine a_asg ?_ | refine a_binN ?_ | refine a_notd ?_ | refine a_notb ?_ | refine a_nilc ?_ | refine a_fa ?_ | refine a_ext ?_ | refine a_lenv ?_ | refine a_lens ?_ | refine a_pick_t ?_ | refine a_pick_f ?_ | refine a_not ?_ | refine a_nilf ?_ | (refine o_nil (hK _ _ ?_); clear hK K) | refine wk_reg ?_ | refine wk_seq fun K hK => ?_ | (refine wk_skip (hK _ _ ?_); clear hK K) | (refine wk_label (hK _ _ ?_); clear hK K) | refine wk_scope ?_ | refine wk_block ?_ | refine wk_cond_t rfl ?_ | refine wk_cond_f rfl ?_ | (refine wk_exit ?_; (repeat (refine blockK_other rfl ?_)); refine blockK_same ?_; try ((repeat ((fail_if_success (refine hK _ _ ?_)); clear hK K)); refine hK _ _ ?_; clear hK K)) | (refine a_bin ?_ ?_ <;> intro _ <;> try (exfalso; omega)) | refine a_ld hl ?_ | (refine a_st hl ?_; clear hl; intro _ hl) | refine a_ix (fun _ => ?_) | fail)
    refine wk_ret (retQ_tmp1 Tryd.results10 (by decide) rfl (by conv => lhs; whnf) ?_)
    exact ⟨by rw [validB_tgt h2], hl.done⟩
  repeat' (first | refine a_mov ?_ | refine a_asg ?_ | refine a_binN ?_ | refine a_notd ?_ | refine a_notb ?_ | refine a_nilc ?_ | refine a_fa ?_ | refine a_ext ?_ | refine a_lenv ?_ | refine a_lens ?_ | refine a_pick_t ?_ | refine a_pick_f ?_ | refine a_not ?_ | refine a_nilf ?_ | (refine o_nil (hK _ _ ?_); clear hK K) | refine wk_reg ?_ | refine wk_seq fun K hK => ?_ | (refine wk_skip (hK _ _ ?_); clear hK K) | (refine wk_label (hK _ _ ?_); clear hK K) | refine wk_scope ?_ | refine wk_block ?_ | refine wk_cond_t rfl ?_ | refine wk_cond_f rfl ?_ | (refine wk_exit ?_; (repeat (refine blockK_other rfl ?_)); refine blockK_same ?_; try ((repeat ((fail_if_success (refine hK _ _ ?_)); clear hK K)); refine hK _ _ ?_; clear hK K)) | (refine a_bin ?_ ?_ <;> intro _ <;> try (exfalso; omega)) | refine a_ld hl ?_ | (refine a_st hl ?_; clear hl; intro _ hl) | refine a_ix (fun _ => ?_) | fail)
  refine o_buildSlice hl [.int .i64 r.fro, .int .i64 r.til, .int .i64 r.known] rfl rfl (by kernel_rfl) ?_
  clear hl
  intro b2 w2 hb2 hl
  refine a_fn (days_calls (l := [r.fro, r.til, r.known]) (Sl.mk rfl (Nat.le_refl _) (hl.rowL (vs := [.int .i64 r.fro, .int .i64 r.til, .int .i64 r.known]) 0 0 3 rfl)) (by show (3:Nat) ≤ _; omega)) ?_
  rintro _ _ ⟨rfl, rfl⟩
  have hd : [r.fro, r.til, r.known].all Rul.dayB = (Rul.dayB r.fro && Rul.dayB r.til && Rul.dayB r.known) := by simp [Bool.and_assoc]
  rw [hd]
  clear hd
  cases h3 : (Rul.dayB r.fro && Rul.dayB r.til && Rul.dayB r.known)
  · repeat' (first | refine a_mov ?_ | refine a_asg ?_ | refine a_binN ?_ | refine a_notd ?_ | refine a_notb ?_ | refine a_nilc ?_ | refine a_fa ?_ | refine a_ext ?_ | refine a_lenv ?_ | refine a_lens ?_ | refine a_pick_t ?_ | refine a_pick_f ?_ | refine a_not ?_ | refine a_nilf ?_ | (refine o_nil (hK _ _ ?_); clear hK K) | refine wk_reg ?_ | refine wk_seq fun K hK => ?_ | (refine wk_skip (hK _ _ ?_); clear hK K) | (refine wk_label (hK _ _ ?_); clear hK K) | refine wk_scope ?_ | refine wk_block ?_ | refine wk_cond_t rfl ?_ | refine wk_cond_f rfl ?_ | (refine wk_exit ?_; (repeat (refine blockK_other rfl ?_)); refine blockK_same ?_; try ((repeat ((fail_if_success (refine hK _ _ ?_)); clear hK K)); refine hK _ _ ?_; clear hK K)) | (refine a_bin ?_ ?_ <;> intro _ <;> try (exfalso; omega)) | refine a_ld hl ?_ | (refine a_st hl ?_; clear hl; intro _ hl) | refine a_ix (fun _ => ?_) | fail)
    refine wk_ret (retQ_tmp1 Tryd.results10 (by decide) rfl (by conv => lhs; whnf) ?_)
    exact ⟨by rw [validB_days h3], hl.done⟩
  have hrest := hrest h1 h2 h3
  clear h1 h2 h3
  by_cases k6 : r.kind = 6
  · rw [if_pos k6] at hrest
    repeat' (first | refine a_mov ?_ | refine a_asg ?_ | refine a_binN ?_ | refine a_notd ?_ | refine a_notb ?_ | refine a_nilc ?_ | refine a_fa ?_ | refine a_ext ?_ | refine a_lenv ?_ | refine a_lens ?_ | refine a_pick_t ?_ | refine a_pick_f ?_ | refine a_not ?_ | refine a_nilf ?_ | (refine o_nil (hK _ _ ?_); clear hK K) | refine wk_reg ?_ | refine wk_seq fun K hK => ?_ | (refine wk_skip (hK _ _ ?_); clear hK K) | (refine wk_label (hK _ _ ?_); clear hK K) | refine wk_scope ?_ | refine wk_block ?_ | refine wk_cond_t rfl ?_ | refine wk_cond_f rfl ?_ | (refine wk_exit ?_; (repeat (refine blockK_other rfl ?_)); refine blockK_same ?_; try ((repeat ((fail_if_success (refine hK _ _ ?_)); clear hK K)); refine hK _ _ ?_; clear hK K)) | (refine a_bin ?_ ?_ <;> intro _ <;> try (exfalso; omega)) | refine a_ld hl ?_ | (refine a_st hl ?_; clear hl; intro _ hl) | refine a_ix (fun _ => ?_) | fail)
    refine a_fn (ruName_calls r.lifts hn.2.2 _) ?_
    rintro _ _ ⟨rfl, rfl⟩
    repeat' (first | refine a_mov ?_ | refine a_asg ?_ | refine a_binN ?_ | refine a_notd ?_ | refine a_notb ?_ | refine a_nilc ?_ | refine a_fa ?_ | refine a_ext ?_ | refine a_lenv ?_ | refine a_lens ?_ | refine a_pick_t ?_ | refine a_pick_f ?_ | refine a_not ?_ | refine a_nilf ?_ | (refine o_nil (hK _ _ ?_); clear hK K) | refine wk_reg ?_ | refine wk_seq fun K hK => ?_ | (refine wk_skip (hK _ _ ?_); clear hK K) | (refine wk_label (hK _ _ ?_); clear hK K) | refine wk_scope ?_ | refine wk_block ?_ | refine wk_cond_t rfl ?_ | refine wk_cond_f rfl ?_ | (refine wk_exit ?_; (repeat (refine blockK_other rfl ?_)); refine blockK_same ?_; try ((repeat ((fail_if_success (refine hK _ _ ?_)); clear hK K)); refine hK _ _ ?_; clear hK K)) | (refine a_bin ?_ ?_ <;> intro _ <;> try (exfalso; omega)) | refine a_ld hl ?_ | (refine a_st hl ?_; clear hl; intro _ hl) | refine a_ix (fun _ => ?_) | fail)
    refine wk_ret (retQ_tmp1 Tryd.results10 (by decide) rfl (by conv => lhs; whnf) ?_)
    exact ⟨by rw [hrest], hl.done⟩
  rw [if_neg k6] at hrest
  by_cases k4 : r.kind = 4
  · rw [if_pos k4] at hrest
    repeat' (first | refine a_mov ?_ | refine a_asg ?_ | refine a_binN ?_ | refine a_notd ?_ | refine a_notb ?_ | refine a_nilc ?_ | refine a_fa ?_ | refine a_ext ?_ | refine a_lenv ?_ | refine a_lens ?_ | refine a_pick_t ?_ | refine a_pick_f ?_ | refine a_not ?_ | refine a_nilf ?_ | (refine o_nil (hK _ _ ?_); clear hK K) | refine wk_reg ?_ | refine wk_seq fun K hK => ?_ | (refine wk_skip (hK _ _ ?_); clear hK K) | (refine wk_label (hK _ _ ?_); clear hK K) | refine wk_scope ?_ | refine wk_block ?_ | refine wk_cond_t rfl ?_ | refine wk_cond_f rfl ?_ | (refine wk_exit ?_; (repeat (refine blockK_other rfl ?_)); refine blockK_same ?_; try ((repeat ((fail_if_success (refine hK _ _ ?_)); clear hK K)); refine hK _ _ ?_; clear hK K)) | (refine a_bin ?_ ?_ <;> intro _ <;> try (exfalso; omega)) | refine a_ld hl ?_ | (refine a_st hl ?_; clear hl; intro _ hl) | refine a_ix (fun _ => ?_) | refine o_eqsT (a := r.lifts) (b := []) rfl rfl str0 ?_ ?_ <;> intro hid)
    all_goals (refine wk_ret (retQ_tmp1 Tryd.results10 (by decide) rfl (by conv => lhs; whnf) ?_))
    all_goals refine ⟨?_, hl.done⟩
    all_goals rw [hrest]
    · rw [decide_eq_true hid, decide_eq_true (by assumption)]; rfl
    · rw [decide_eq_true hid, decide_eq_false (by assumption)]; rfl
    · rw [decide_eq_false hid]; rfl
  rw [if_neg k4] at hrest
  by_cases k5 : r.kind = 5
  · rw [if_pos k5] at hrest
    repeat' (first | refine a_mov ?_ | refine a_asg ?_ | refine a_binN ?_ | refine a_notd ?_ | refine a_notb ?_ | refine a_nilc ?_ | refine a_fa ?_ | refine a_ext ?_ | refine a_lenv ?_ | refine a_lens ?_ | refine a_pick_t ?_ | refine a_pick_f ?_ | refine a_not ?_ | refine a_nilf ?_ | (refine o_nil (hK _ _ ?_); clear hK K) | refine wk_reg ?_ | refine wk_seq fun K hK => ?_ | (refine wk_skip (hK _ _ ?_); clear hK K) | (refine wk_label (hK _ _ ?_); clear hK K) | refine wk_scope ?_ | refine wk_block ?_ | refine wk_cond_t rfl ?_ | refine wk_cond_f rfl ?_ | (refine wk_exit ?_; (repeat (refine blockK_other rfl ?_)); refine blockK_same ?_; try ((repeat ((fail_if_success (refine hK _ _ ?_)); clear hK K)); refine hK _ _ ?_; clear hK K)) | (refine a_bin ?_ ?_ <;> intro _ <;> try (exfalso; omega)) | refine a_ld hl ?_ | (refine a_st hl ?_; clear hl; intro _ hl) | refine a_ix (fun _ => ?_) | refine a_all (vs := [.int .i64 (r.read).op, str (r.read).name, .int .i64 (r.read).cmp, .int .i64 (r.read).num, kv]) (fun i v hi => hl.rowL (vs := [str (r).id, str (r).tgt, .int .i64 (r).kind, .int .i64 (r).fro, .int .i64 (r).til, .int .i64 (r).read.op, str (r).read.name, .int .i64 (r).read.cmp, .int .i64 (r).read.num, kv, .int .i64 (r).known, .bool (r).fin, str (r).lifts]) 1 5 5 rfl i v hi) ?_)
    refine a_fn (ruSize_calls r.read _ _ kv (hk.ext hl.done) hc) ?_
    rintro _ w3 ⟨rfl, he3⟩
    replace hl := hl.ext he3
    repeat' (first | refine a_mov ?_ | refine a_asg ?_ | refine a_binN ?_ | refine a_notd ?_ | refine a_notb ?_ | refine a_nilc ?_ | refine a_fa ?_ | refine a_ext ?_ | refine a_lenv ?_ | refine a_lens ?_ | refine a_pick_t ?_ | refine a_pick_f ?_ | refine a_not ?_ | refine a_nilf ?_ | (refine o_nil (hK _ _ ?_); clear hK K) | refine wk_reg ?_ | refine wk_seq fun K hK => ?_ | (refine wk_skip (hK _ _ ?_); clear hK K) | (refine wk_label (hK _ _ ?_); clear hK K) | refine wk_scope ?_ | refine wk_block ?_ | refine wk_cond_t rfl ?_ | refine wk_cond_f rfl ?_ | (refine wk_exit ?_; (repeat (refine blockK_other rfl ?_)); refine blockK_same ?_; try ((repeat ((fail_if_success (refine hK _ _ ?_)); clear hK K)); refine hK _ _ ?_; clear hK K)) | (refine a_bin ?_ ?_ <;> intro _ <;> try (exfalso; omega)) | refine a_ld hl ?_ | (refine a_st hl ?_; clear hl; intro _ hl) | refine a_ix (fun _ => ?_) | refine o_eqsT (a := r.lifts) (b := []) rfl rfl str0 ?_ ?_ <;> intro hid)
    all_goals (refine wk_ret (retQ_tmp1 Tryd.results10 (by decide) rfl (by conv => lhs; whnf) ?_))
    all_goals refine ⟨?_, hl.done⟩
    all_goals rw [hrest]
    all_goals first | (rw [decide_eq_false hid]; rfl) | (rw [decide_eq_true hid, decide_eq_true (by omega)]; rfl) | (rw [decide_eq_true hid, decide_eq_false (by omega)]; rfl)
  rw [if_neg k5] at hrest
  repeat' (first | refine a_mov ?_ | refine a_asg ?_ | refine a_binN ?_ | refine a_notd ?_ | refine a_notb ?_ | refine a_nilc ?_ | refine a_fa ?_ | refine a_ext ?_ | refine a_lenv ?_ | refine a_lens ?_ | refine a_pick_t ?_ | refine a_pick_f ?_ | refine a_not ?_ | refine a_nilf ?_ | (refine o_nil (hK _ _ ?_); clear hK K) | refine wk_reg ?_ | refine wk_seq fun K hK => ?_ | (refine wk_skip (hK _ _ ?_); clear hK K) | (refine wk_label (hK _ _ ?_); clear hK K) | refine wk_scope ?_ | refine wk_block ?_ | refine wk_cond_t rfl ?_ | refine wk_cond_f rfl ?_ | (refine wk_exit ?_; (repeat (refine blockK_other rfl ?_)); refine blockK_same ?_; try ((repeat ((fail_if_success (refine hK _ _ ?_)); clear hK K)); refine hK _ _ ?_; clear hK K)) | (refine a_bin ?_ ?_ <;> intro _ <;> try (exfalso; omega)) | refine a_ld hl ?_ | (refine a_st hl ?_; clear hl; intro _ hl) | refine a_ix (fun _ => ?_) | refine o_eqs (a := r.lifts) (b := []) rfl rfl str0 ?_)
  all_goals (refine wk_ret (retQ_tmp1 Tryd.results10 (by decide) rfl (by conv => lhs; whnf) ?_))
  all_goals refine ⟨?_, hl.done⟩
  all_goals rw [hrest]
  all_goals first | rw [if_pos (by omega)] | rw [if_neg (by omega)]

end Go.Proofs
