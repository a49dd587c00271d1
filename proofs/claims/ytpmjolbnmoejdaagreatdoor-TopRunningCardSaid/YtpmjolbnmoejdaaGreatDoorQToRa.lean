/-
  The references' tests of size: each answers with some truth value.
-/
import Derived.Test.YtpmjolbnmoejdaaGreatDoorQToAp
import Derived.Test.YtpmjolbnmoejdaaGreatDoorQL2
set_option linter.unusedVariables false
set_option linter.unusedSimpArgs false
set_option linter.unnecessarySimpa false
set_option maxRecDepth 10000
namespace Go.Proofs
open Go Go.Pd Go.Top
attribute [local irreducible] OpsL W RetQ OpsQ OpsC
theorem rstop_calls (s : Stop) (w : World) : Calls Tryz.prog 39 #[.agg (stopL s).toArray] w (fun e w' => ∃ v, e = .returned v ∧ v = .bool (stopB s) ∧ Ext w w') := by
  refine calls_of Tryz.func39 rfl Tryz.ntmps39 rfl ?_
  repeat' (first | refine a_mov ?_ | refine a_asg ?_ | refine a_fa ?_ | refine a_pick_t ?_ | refine a_pick_f ?_ | refine a_not ?_ | (refine o_nil (hK _ _ ?_); clear hK K) | refine wk_reg ?_ | refine wk_seq fun K hK => ?_ | (refine a_bin ?_ ?_ <;> intro _ <;> try (exfalso; omega)) | refine a_ld hl ?_ | fail)
  refine o_box (LH.start w (fun _ => False)) (stopL s) rfl rfl rfl ?_
  intro b1 w1 hb1 hl
  unfold stopL at hl
  repeat' (first | refine a_mov ?_ | refine a_asg ?_ | refine a_fa ?_ | refine a_pick_t ?_ | refine a_pick_f ?_ | refine a_not ?_ | (refine o_nil (hK _ _ ?_); clear hK K) | refine wk_reg ?_ | refine wk_seq fun K hK => ?_ | (refine a_bin ?_ ?_ <;> intro _ <;> try (exfalso; omega)) | refine a_ld hl ?_ | fail)
  all_goals (refine wk_ret (retQ_tmp1 Tryz.results39 (by decide) rfl (by conv => lhs; whnf) ?_))
  all_goals (refine ⟨congrArg Value.bool ?_, hl.done⟩; unfold stopB; first | (rw [eq_comm, decide_eq_true_iff]; omega) | (rw [eq_comm, decide_eq_false_iff_not]; omega))
theorem rshort_calls (n u : Int) (w : World) : Calls Tryz.prog 40 #[.agg #[.int .i64 n, .int .i64 u]] w (fun e w' => ∃ v, e = .returned v ∧ (∃ b, v = .bool b) ∧ Ext w w') := by
  refine calls_of Tryz.func40 rfl Tryz.ntmps40 rfl ?_
  repeat' (first | refine a_mov ?_ | refine a_asg ?_ | refine a_fa ?_ | refine a_pick_t ?_ | refine a_pick_f ?_ | refine a_not ?_ | (refine o_nil (hK _ _ ?_); clear hK K) | refine wk_reg ?_ | refine wk_seq fun K hK => ?_ | (refine wk_skip (hK _ _ ?_); clear hK K) | refine wk_cond_t rfl ?_ | refine wk_cond_f rfl ?_ | (refine a_bin ?_ ?_ <;> intro _ <;> try (exfalso; omega)) | refine a_ld hl ?_ | fail)
  refine o_box (LH.start w (fun _ => False)) [.int .i64 n, .int .i64 u] rfl rfl rfl ?_
  intro b1 w1 hb1 hl
  repeat' (first | refine a_mov ?_ | refine a_asg ?_ | refine a_fa ?_ | refine a_pick_t ?_ | refine a_pick_f ?_ | refine a_not ?_ | (refine o_nil (hK _ _ ?_); clear hK K) | refine wk_reg ?_ | refine wk_seq fun K hK => ?_ | (refine wk_skip (hK _ _ ?_); clear hK K) | refine wk_cond_t rfl ?_ | refine wk_cond_f rfl ?_ | (refine a_bin ?_ ?_ <;> intro _ <;> try (exfalso; omega)) | refine a_ld hl ?_ | fail)
  all_goals (refine wk_ret (retQ_tmp1 Tryz.results40 (by decide) rfl (by conv => lhs; whnf) ?_))
  all_goals exact ⟨⟨_, rfl⟩, hl.done⟩
set_option maxHeartbeats 4000000 in
theorem rfew_calls {p : Lim × Value} {w : World} (h : LimIn w p) (most : Nat) (hm : most ≤ 100) : Calls Tryz.prog 16 #[.agg (limL p).toArray, .slice none 0 0, .int .i64 (most : Int)] w (fun e w' => ∃ v, e = .returned v ∧ (∃ b, v = .bool b) ∧ Ext w w') := by
  obtain ⟨l, sv⟩ := p
  obtain ⟨sa, sc, hsv⟩ := lim_shape h
  simp only at hsv
  subst hsv
  have hst := h.1
  simp only at hst
  refine calls_of Tryz.func16 rfl Tryz.ntmps16 rfl ?_
  repeat' (first | refine a_mov ?_ | refine a_asg ?_ | refine a_binN ?_ | refine a_notb ?_ | refine a_fa ?_ | refine a_lenv ?_ | refine a_lens ?_ | refine a_pick_t ?_ | refine a_pick_f ?_ | refine a_not ?_ | (refine o_nil (hK _ _ ?_); clear hK K) | refine wk_reg ?_ | refine wk_seq fun K hK => ?_ | (refine wk_skip (hK _ _ ?_); clear hK K) | refine wk_block ?_ | refine wk_cond_t rfl ?_ | refine wk_cond_f rfl ?_ | (refine wk_exit ?_; (repeat (refine blockK_other rfl ?_)); refine blockK_same ?_; try ((repeat ((fail_if_success (refine hK _ _ ?_)); clear hK K)); refine hK _ _ ?_; clear hK K)) | (refine a_bin ?_ ?_ <;> intro _ <;> try (exfalso; omega)) | fail)
  refine o_box (LH.start w (fun _ => False)) (limL (l, .slice sa l.st.length sc)) (by rfl) rfl rfl ?_
  intro b3 w1 hb3 hl
  have e1 : Ext w w1 := hl.done
  have hr : Row w1 b3 0 [str l.id, .int .i64 l.n, .int .i64 l.u, .int .i64 l.f, .slice sa l.st.length sc] := hl.rowL (vs := limL (l, .slice sa l.st.length sc)) 0 0 5 rfl
  have hr2 : Row w1 b3 1 [.int .i64 l.n, .int .i64 l.u] := hl.rowL (vs := limL (l, .slice sa l.st.length sc)) 0 1 2 rfl
  clear hl
  obtain ⟨sa', sc', hseq, hp⟩ := sl_each stopL_len (by decide) hst
  cases hseq
  by_cases h1 : l.st.length ≤ most
  rotate_left
  · repeat' (first | refine a_row hr ?_ | refine a_mov ?_ | refine a_asg ?_ | refine a_binN ?_ | refine a_notb ?_ | refine a_fa ?_ | refine a_lenv ?_ | refine a_lens ?_ | refine a_pick_t ?_ | refine a_pick_f ?_ | refine a_not ?_ | (refine o_nil (hK _ _ ?_); clear hK K) | refine wk_reg ?_ | refine wk_seq fun K hK => ?_ | (refine wk_skip (hK _ _ ?_); clear hK K) | refine wk_block ?_ | refine wk_cond_t rfl ?_ | refine wk_cond_f rfl ?_ | (refine wk_exit ?_; (repeat (refine blockK_other rfl ?_)); refine blockK_same ?_; try ((repeat ((fail_if_success (refine hK _ _ ?_)); clear hK K)); refine hK _ _ ?_; clear hK K)) | (refine a_bin ?_ ?_ <;> intro _ <;> try (exfalso; omega)) | fail)
    all_goals (refine wk_ret (retQ_tmp1 Tryz.results16 (by decide) rfl (by conv => lhs; whnf) ?_))
    all_goals exact ⟨⟨_, rfl⟩, e1⟩
  by_cases h2 : l.id.length ≤ 60
  rotate_left
  · repeat' (first | refine a_row hr ?_ | refine a_mov ?_ | refine a_asg ?_ | refine a_binN ?_ | refine a_notb ?_ | refine a_fa ?_ | refine a_lenv ?_ | refine a_lens ?_ | refine a_pick_t ?_ | refine a_pick_f ?_ | refine a_not ?_ | (refine o_nil (hK _ _ ?_); clear hK K) | refine wk_reg ?_ | refine wk_seq fun K hK => ?_ | (refine wk_skip (hK _ _ ?_); clear hK K) | refine wk_block ?_ | refine wk_cond_t rfl ?_ | refine wk_cond_f rfl ?_ | (refine wk_exit ?_; (repeat (refine blockK_other rfl ?_)); refine blockK_same ?_; try ((repeat ((fail_if_success (refine hK _ _ ?_)); clear hK K)); refine hK _ _ ?_; clear hK K)) | (refine a_bin ?_ ?_ <;> intro _ <;> try (exfalso; omega)) | fail)
    all_goals (refine wk_ret (retQ_tmp1 Tryz.results16 (by decide) rfl (by conv => lhs; whnf) ?_))
    all_goals exact ⟨⟨_, rfl⟩, e1⟩
  repeat' (first | refine a_row hr ?_ | refine a_mov ?_ | refine a_asg ?_ | refine a_binN ?_ | refine a_notb ?_ | refine a_fa ?_ | refine a_lenv ?_ | refine a_lens ?_ | refine a_pick_t ?_ | refine a_pick_f ?_ | refine a_not ?_ | (refine o_nil (hK _ _ ?_); clear hK K) | refine wk_reg ?_ | refine wk_seq fun K hK => ?_ | (refine wk_skip (hK _ _ ?_); clear hK K) | refine wk_block ?_ | refine wk_cond_t rfl ?_ | refine wk_cond_f rfl ?_ | (refine wk_exit ?_; (repeat (refine blockK_other rfl ?_)); refine blockK_same ?_; try ((repeat ((fail_if_success (refine hK _ _ ?_)); clear hK K)); refine hK _ _ ?_; clear hK K)) | (refine a_bin ?_ ?_ <;> intro _ <;> try (exfalso; omega)) | fail)
  refine wk_loopH [] rfl (fun x : Nat × Int => [(1, .slice none 0 0), (3, .pointer (some ⟨b3, 0, none⟩)), (7, .int .i64 x.2), (8, .int .i64 (x.1 : Int))]) (fun x w' => x.1 ≤ l.st.length ∧ (0 ≤ x.2 ∧ x.2 ≤ 1000000 * (x.1 : Int)) ∧ Ext w1 w') (fun x => l.st.length - x.1) (0, 0) ⟨rfl, rfl, rfl, rfl, trivial⟩ ⟨Nat.zero_le _, ⟨by decide, by decide⟩, .refl _ _⟩ ?_
  rintro ⟨i, n⟩ t w2 ⟨hi, ⟨hn0, hn1⟩, e2⟩
  simp only at hi hn0 hn1 ⊢
  replace hr := hr.ext e2
  replace hr2 := hr2.ext e2
  by_cases hlt : i < l.st.length
  · obtain ⟨b, o, hpp, hrr⟩ := hp i hlt
    have hrr := hrr w2 (e1.trans e2)
    generalize l.st[i] = s at *
    repeat' (first | refine a_row hr ?_ | refine a_mov ?_ | refine a_asg ?_ | refine a_binN ?_ | refine a_notb ?_ | refine a_fa ?_ | refine a_lenv ?_ | refine a_lens ?_ | refine a_pick_t ?_ | refine a_pick_f ?_ | refine a_not ?_ | (refine o_nil (hK _ _ ?_); clear hK K) | refine wk_reg ?_ | refine wk_seq fun K hK => ?_ | (refine wk_skip (hK _ _ ?_); clear hK K) | refine wk_block ?_ | refine wk_cond_t rfl ?_ | refine wk_cond_f rfl ?_ | (refine wk_exit ?_; (repeat (refine blockK_other rfl ?_)); refine blockK_same ?_; try ((repeat ((fail_if_success (refine hK _ _ ?_)); clear hK K)); refine hK _ _ ?_; clear hK K)) | (refine a_bin ?_ ?_ <;> intro _ <;> try (exfalso; omega)) | refine a_idx (c := 2) i hpp ?_ | refine a_all hrr ?_ | fail)
    refine a_fn (rstop_calls s w2) ?_
    rintro v w3 ⟨rfl, e3⟩
    replace hr := hr.ext e3
    replace hrr : Row w3 b (o + i * 2) [.int .i64 s.a, .int .i64 s.b] := hrr.ext e3
    cases hs : stopB s
    · repeat' (first | refine a_mov ?_ | refine a_asg ?_ | refine a_binN ?_ | refine a_notb ?_ | refine a_fa ?_ | refine a_lenv ?_ | refine a_lens ?_ | refine a_pick_t ?_ | refine a_pick_f ?_ | refine a_not ?_ | (refine o_nil (hK _ _ ?_); clear hK K) | refine wk_reg ?_ | refine wk_seq fun K hK => ?_ | (refine wk_skip (hK _ _ ?_); clear hK K) | refine wk_block ?_ | refine wk_cond_t rfl ?_ | refine wk_cond_f rfl ?_ | (refine wk_exit ?_; (repeat (refine blockK_other rfl ?_)); refine blockK_same ?_; try ((repeat ((fail_if_success (refine hK _ _ ?_)); clear hK K)); refine hK _ _ ?_; clear hK K)) | (refine a_bin ?_ ?_ <;> intro _ <;> try (exfalso; omega)) | fail)
      exact o_nil ⟨(i + 1, n), ⟨rfl, rfl, rfl, rfl, trivial⟩, rfl, ⟨hlt, ⟨hn0, by simp only; push_cast; omega⟩, e2.trans e3⟩, by simp only; omega⟩
    · simp only [stopB, decide_eq_true_eq] at hs
      repeat' (first | refine a_mov ?_ | refine a_asg ?_ | refine a_binN ?_ | refine a_notb ?_ | refine a_fa ?_ | refine a_lenv ?_ | refine a_lens ?_ | refine a_pick_t ?_ | refine a_pick_f ?_ | refine a_not ?_ | (refine o_nil (hK _ _ ?_); clear hK K) | refine wk_reg ?_ | refine wk_seq fun K hK => ?_ | (refine wk_skip (hK _ _ ?_); clear hK K) | refine wk_block ?_ | refine wk_cond_t rfl ?_ | refine wk_cond_f rfl ?_ | (refine wk_exit ?_; (repeat (refine blockK_other rfl ?_)); refine blockK_same ?_; try ((repeat ((fail_if_success (refine hK _ _ ?_)); clear hK K)); refine hK _ _ ?_; clear hK K)) | (refine a_bin ?_ ?_ <;> intro _ <;> try (exfalso; omega)) | fail)
      refine wk_lastQ (List.range 15) (List.dropLast_concat_getLast (by simp)).symm (by kernel_rfl) (by kernel_rfl) ?_
      repeat' (first | refine q_row (fun w_ hw_ => hr.ext hw_) ?_ | refine q_idx (c := 2) i hpp ?_ | refine q_row (fun w_ hw_ => hrr.ext hw_) ?_ | refine q_mov ?_ | refine q_fa ?_ | refine q_binN ?_ | refine q_nil ?_ | fail)
      intro w4 e4
      repeat' (first | refine a_mov ?_ | refine a_asg ?_ | refine a_binN ?_ | refine a_notb ?_ | refine a_fa ?_ | refine a_lenv ?_ | refine a_lens ?_ | refine a_pick_t ?_ | refine a_pick_f ?_ | refine a_not ?_ | (refine o_nil (hK _ _ ?_); clear hK K) | refine wk_reg ?_ | refine wk_seq fun K hK => ?_ | (refine wk_skip (hK _ _ ?_); clear hK K) | refine wk_block ?_ | refine wk_cond_t rfl ?_ | refine wk_cond_f rfl ?_ | (refine wk_exit ?_; (repeat (refine blockK_other rfl ?_)); refine blockK_same ?_; try ((repeat ((fail_if_success (refine hK _ _ ?_)); clear hK K)); refine hK _ _ ?_; clear hK K)) | (refine a_bin ?_ ?_ <;> intro _ <;> try (exfalso; omega)) | fail)
      exact o_nil ⟨(i + 1, n + (s.b - s.a)), ⟨rfl, rfl, rfl, rfl, trivial⟩, rfl, ⟨hlt, ⟨by simp only; omega, by simp only; push_cast; omega⟩, (e2.trans e3).trans e4⟩, by simp only; omega⟩
  obtain rfl : i = l.st.length := by omega
  by_cases h3 : n ≤ 2000
  rotate_left
  · repeat' (first | refine a_row hr ?_ | refine a_mov ?_ | refine a_asg ?_ | refine a_binN ?_ | refine a_notb ?_ | refine a_fa ?_ | refine a_lenv ?_ | refine a_lens ?_ | refine a_pick_t ?_ | refine a_pick_f ?_ | refine a_not ?_ | (refine o_nil (hK _ _ ?_); clear hK K) | refine wk_reg ?_ | refine wk_seq fun K hK => ?_ | (refine wk_skip (hK _ _ ?_); clear hK K) | refine wk_block ?_ | refine wk_cond_t rfl ?_ | refine wk_cond_f rfl ?_ | (refine wk_exit ?_; (repeat (refine blockK_other rfl ?_)); refine blockK_same ?_; try ((repeat ((fail_if_success (refine hK _ _ ?_)); clear hK K)); refine hK _ _ ?_; clear hK K)) | (refine a_bin ?_ ?_ <;> intro _ <;> try (exfalso; omega)) | fail)
    all_goals (refine wk_ret (retQ_tmp1 Tryz.results16 (by decide) rfl (by conv => lhs; whnf) ?_))
    all_goals exact ⟨⟨_, rfl⟩, e1.trans e2⟩
  repeat' (first | refine a_row hr ?_ | refine a_all hr2 ?_ | refine a_mov ?_ | refine a_asg ?_ | refine a_binN ?_ | refine a_notb ?_ | refine a_fa ?_ | refine a_lenv ?_ | refine a_lens ?_ | refine a_pick_t ?_ | refine a_pick_f ?_ | refine a_not ?_ | (refine o_nil (hK _ _ ?_); clear hK K) | refine wk_reg ?_ | refine wk_seq fun K hK => ?_ | (refine wk_skip (hK _ _ ?_); clear hK K) | refine wk_block ?_ | refine wk_cond_t rfl ?_ | refine wk_cond_f rfl ?_ | (refine wk_exit ?_; (repeat (refine blockK_other rfl ?_)); refine blockK_same ?_; try ((repeat ((fail_if_success (refine hK _ _ ?_)); clear hK K)); refine hK _ _ ?_; clear hK K)) | (refine a_bin ?_ ?_ <;> intro _ <;> try (exfalso; omega)) | fail)
  refine a_fn (rshort_calls l.n l.u w2) ?_
  rintro v w3 ⟨⟨bb, rfl⟩, e3⟩
  cases bb
  all_goals repeat' (first | refine a_mov ?_ | refine a_asg ?_ | refine a_binN ?_ | refine a_notb ?_ | refine a_fa ?_ | refine a_lenv ?_ | refine a_lens ?_ | refine a_pick_t ?_ | refine a_pick_f ?_ | refine a_not ?_ | (refine o_nil (hK _ _ ?_); clear hK K) | refine wk_reg ?_ | refine wk_seq fun K hK => ?_ | (refine wk_skip (hK _ _ ?_); clear hK K) | refine wk_block ?_ | refine wk_cond_t rfl ?_ | refine wk_cond_f rfl ?_ | (refine wk_exit ?_; (repeat (refine blockK_other rfl ?_)); refine blockK_same ?_; try ((repeat ((fail_if_success (refine hK _ _ ?_)); clear hK K)); refine hK _ _ ?_; clear hK K)) | (refine a_bin ?_ ?_ <;> intro _ <;> try (exfalso; omega)) | fail)
  all_goals (refine wk_ret (retQ_tmp1 Tryz.results16 (by decide) rfl (by conv => lhs; whnf) ?_))
  all_goals exact ⟨⟨_, rfl⟩, (e1.trans e2).trans e3⟩
end Go.Proofs
