/-
  A network: the law NetAgain.
-/
import Derived.Test.YthiiodbjmcafgaaNeT
set_option linter.unusedVariables false
set_option linter.unusedSimpArgs false
set_option linter.unnecessarySimpa false
set_option maxRecDepth 10000
namespace Go.Proofs
open Go Go.Pd Go.Ne
attribute [local irreducible] OpsL W RetQ OpsQ OpsC

theorem shortB_iff {l : List Opn} {m : Nat} (h : shortB l m = true) : l.length ≤ m := by
  unfold shortB at h
  rw [Bool.and_eq_true] at h
  exact of_decide_eq_true h.1
theorem doAll_succ (s : Net) (l : List Opn) {k : Nat} (hk : k < l.length) : doAll s (l.take (k + 1)) = doOp (doAll s (l.take k)) l[k] := by
  unfold doAll
  rw [List.take_succ_eq_append_getElem hk, List.foldl_append]
  rfl
theorem vEq_all {s s' : Net} (h : VEq s s') : vAll s' s'.n = vAll s s.n := by
  unfold vAll vRow vLacks
  rw [h.n]
  congr 1
  funext a
  congr 2
  · unfold has
    rw [h.n]
    have := h.t a
    unfold texts at this
    rw [this]
  · congr 1
    funext b
    rw [h.l]

theorem sizeN_calls {r : Nat} (hr : r < 256) (w : World) : Calls Try.prog 26 #[.int .u8 (r : Int)] w (fun e w' => ∃ x, e = .returned x ∧ x = .int .i64 ((1 + r % 8 : Nat) : Int) ∧ Ext w w') := by
  have h := size_calls (UInt8.ofNat r) w
  rwa [show (UInt8.ofNat r).toNat = r by simp; omega] at h

set_option maxHeartbeats 4000000 in
theorem again_calls {raw x y : Nat} (hr : raw < 256) (hx : x < 256) (hy : y < 256) {l : List Opn} {v : Value} {w : World} (hv : Sl w v 6 (opsC l)) (hlen : l.length ≤ 9223372036854775806) (hok : ∀ o ∈ l, OpOK o) :
    Calls Try.prog 6 #[.int .u8 (raw : Int), v, .int .u8 (x : Int), .int .u8 (y : Int)] w (fun e w' => ∃ u, e = .returned u ∧ u = .bool true ∧ Ext w w') := by
  obtain ⟨pa, ca, rfl, -⟩ := hv.shape (opsC_len l) (by omega)
  refine calls_of Try.func6 rfl Try.ntmps6 rfl ?_
  repeat' (first | refine a_mov ?_ | refine a_asg ?_ | refine a_binN ?_ | refine a_notd ?_ | refine a_notb ?_ | refine a_nilc ?_ | refine a_fa ?_ | refine a_ext ?_ | refine a_lenv ?_ | refine a_lens ?_ | refine a_pick_t ?_ | refine a_pick_f ?_ | refine a_not ?_ | refine a_nilf ?_ | (refine o_nil (hK _ _ ?_); clear hK K) | refine wk_reg ?_ | refine wk_seq fun K hK => ?_ | (refine wk_skip (hK _ _ ?_); clear hK K) | (refine wk_label (hK _ _ ?_); clear hK K) | refine wk_scope ?_ | refine wk_block ?_ | refine wk_cond_t rfl ?_ | refine wk_cond_f rfl ?_ | (refine wk_exit ?_; (repeat (refine blockK_other rfl ?_)); refine blockK_same ?_; try ((repeat ((fail_if_success (refine hK _ _ ?_)); clear hK K)); refine hK _ _ ?_; clear hK K)) | (refine a_bin ?_ ?_ <;> intro _ <;> try (exfalso; omega)) | refine a_ld hl ?_ | (refine a_st hl ?_; clear hl; intro _ hl) | refine a_ix (fun _ => ?_) | fail)
  refine a_fn (head_calls w) ?_
  rintro _ w1 ⟨rfl, he1⟩
  repeat' (first | refine a_mov ?_ | refine a_asg ?_ | refine a_binN ?_ | refine a_notd ?_ | refine a_notb ?_ | refine a_nilc ?_ | refine a_fa ?_ | refine a_ext ?_ | refine a_lenv ?_ | refine a_lens ?_ | refine a_pick_t ?_ | refine a_pick_f ?_ | refine a_not ?_ | refine a_nilf ?_ | (refine o_nil (hK _ _ ?_); clear hK K) | refine wk_reg ?_ | refine wk_seq fun K hK => ?_ | (refine wk_skip (hK _ _ ?_); clear hK K) | (refine wk_label (hK _ _ ?_); clear hK K) | refine wk_scope ?_ | refine wk_block ?_ | refine wk_cond_t rfl ?_ | refine wk_cond_f rfl ?_ | (refine wk_exit ?_; (repeat (refine blockK_other rfl ?_)); refine blockK_same ?_; try ((repeat ((fail_if_success (refine hK _ _ ?_)); clear hK K)); refine hK _ _ ?_; clear hK K)) | (refine a_bin ?_ ?_ <;> intro _ <;> try (exfalso; omega)) | refine a_ld hl ?_ | (refine a_st hl ?_; clear hl; intro _ hl) | refine a_ix (fun _ => ?_) | fail)
  refine a_fn (short_calls 80 (hv.ext he1) hlen (by omega)) ?_
  rintro _ w2 ⟨rfl, he2⟩
  cases hsh : shortB l 80
  · repeat' (first | refine a_mov ?_ | refine a_asg ?_ | refine a_binN ?_ | refine a_notd ?_ | refine a_notb ?_ | refine a_nilc ?_ | refine a_fa ?_ | refine a_ext ?_ | refine a_lenv ?_ | refine a_lens ?_ | refine a_pick_t ?_ | refine a_pick_f ?_ | refine a_not ?_ | refine a_nilf ?_ | (refine o_nil (hK _ _ ?_); clear hK K) | refine wk_reg ?_ | refine wk_seq fun K hK => ?_ | (refine wk_skip (hK _ _ ?_); clear hK K) | (refine wk_label (hK _ _ ?_); clear hK K) | refine wk_scope ?_ | refine wk_block ?_ | refine wk_cond_t rfl ?_ | refine wk_cond_f rfl ?_ | (refine wk_exit ?_; (repeat (refine blockK_other rfl ?_)); refine blockK_same ?_; try ((repeat ((fail_if_success (refine hK _ _ ?_)); clear hK K)); refine hK _ _ ?_; clear hK K)) | (refine a_bin ?_ ?_ <;> intro _ <;> try (exfalso; omega)) | refine a_ld hl ?_ | (refine a_st hl ?_; clear hl; intro _ hl) | refine a_ix (fun _ => ?_) | fail)
    refine wk_ret (retQ_tmp1 Try.results6 (by decide) rfl (by conv => lhs; whnf) ?_)
    exact ⟨rfl, he1.trans he2⟩
  have hl80 := shortB_iff hsh
  repeat' (first | refine a_mov ?_ | refine a_asg ?_ | refine a_binN ?_ | refine a_notd ?_ | refine a_notb ?_ | refine a_nilc ?_ | refine a_fa ?_ | refine a_ext ?_ | refine a_lenv ?_ | refine a_lens ?_ | refine a_pick_t ?_ | refine a_pick_f ?_ | refine a_not ?_ | refine a_nilf ?_ | (refine o_nil (hK _ _ ?_); clear hK K) | refine wk_reg ?_ | refine wk_seq fun K hK => ?_ | (refine wk_skip (hK _ _ ?_); clear hK K) | (refine wk_label (hK _ _ ?_); clear hK K) | refine wk_scope ?_ | refine wk_block ?_ | refine wk_cond_t rfl ?_ | refine wk_cond_f rfl ?_ | (refine wk_exit ?_; (repeat (refine blockK_other rfl ?_)); refine blockK_same ?_; try ((repeat ((fail_if_success (refine hK _ _ ?_)); clear hK K)); refine hK _ _ ?_; clear hK K)) | (refine a_bin ?_ ?_ <;> intro _ <;> try (exfalso; omega)) | refine a_ld hl ?_ | (refine a_st hl ?_; clear hl; intro _ hl) | refine a_ix (fun _ => ?_) | fail)
  refine a_fn (sizeN_calls hr w2) ?_
  rintro _ w3 ⟨rfl, he3⟩
  generalize hnn : 1 + raw % 8 = n
  have hn : 1 ≤ n ∧ n ≤ 8 := by omega
  repeat' (first | refine a_mov ?_ | refine a_asg ?_ | refine a_binN ?_ | refine a_notd ?_ | refine a_notb ?_ | refine a_nilc ?_ | refine a_fa ?_ | refine a_ext ?_ | refine a_lenv ?_ | refine a_lens ?_ | refine a_pick_t ?_ | refine a_pick_f ?_ | refine a_not ?_ | refine a_nilf ?_ | (refine o_nil (hK _ _ ?_); clear hK K) | refine wk_reg ?_ | refine wk_seq fun K hK => ?_ | (refine wk_skip (hK _ _ ?_); clear hK K) | (refine wk_label (hK _ _ ?_); clear hK K) | refine wk_scope ?_ | refine wk_block ?_ | refine wk_cond_t rfl ?_ | refine wk_cond_f rfl ?_ | (refine wk_exit ?_; (repeat (refine blockK_other rfl ?_)); refine blockK_same ?_; try ((repeat ((fail_if_success (refine hK _ _ ?_)); clear hK K)); refine hK _ _ ?_; clear hK K)) | (refine a_bin ?_ ?_ <;> intro _ <;> try (exfalso; omega)) | refine a_ld hl ?_ | (refine a_st hl ?_; clear hl; intro _ hl) | refine a_ix (fun _ => ?_) | fail)
  refine a_fn (new1_calls n hn w3) ?_
  rintro _ w4 ⟨p, rfl, hN⟩
  have hx3 : Ext w w3 := he1.trans (he2.trans he3)
  repeat' (first | refine a_mov ?_ | refine a_asg ?_ | refine a_binN ?_ | refine a_notd ?_ | refine a_notb ?_ | refine a_nilc ?_ | refine a_fa ?_ | refine a_ext ?_ | refine a_lenv ?_ | refine a_lens ?_ | refine a_pick_t ?_ | refine a_pick_f ?_ | refine a_not ?_ | refine a_nilf ?_ | (refine o_nil (hK _ _ ?_); clear hK K) | refine wk_reg ?_ | refine wk_seq fun K hK => ?_ | (refine wk_skip (hK _ _ ?_); clear hK K) | (refine wk_label (hK _ _ ?_); clear hK K) | refine wk_scope ?_ | refine wk_block ?_ | refine wk_cond_t rfl ?_ | refine wk_cond_f rfl ?_ | (refine wk_exit ?_; (repeat (refine blockK_other rfl ?_)); refine blockK_same ?_; try ((repeat ((fail_if_success (refine hK _ _ ?_)); clear hK K)); refine hK _ _ ?_; clear hK K)) | (refine a_bin ?_ ?_ <;> intro _ <;> try (exfalso; omega)) | refine a_ld hl ?_ | (refine a_st hl ?_; clear hl; intro _ hl) | refine a_ix (fun _ => ?_) | fail)
  refine wk_loopH [] rfl (fun k : Nat => [(1, .slice pa l.length ca), (2, .int .u8 (x : Int)), (3, .int .u8 (y : Int)), (9, .bool true), (10, .int .i64 (n : Int)), (11, .pointer (some ⟨p, 0, none⟩)), (13, .int .i64 (k : Int))]) (fun k w' => k ≤ l.length ∧ HasK w3 (doAll (Ne.new n) (l.take k)) p [] w') (fun k => l.length - k) 0 ⟨rfl, rfl, rfl, rfl, rfl, rfl, rfl, trivial⟩ ⟨Nat.zero_le _, hN.k⟩ ?_
  clear hN
  rintro k t5 w5 ⟨hk, hN⟩
  have hnN : n = (doAll (Ne.new n) (l.take k)).n := by rw [n_doAll]; rfl
  by_cases hk1 : k < l.length
  · obtain ⟨b, o, hpp, hr⟩ := Sl.op (hv.ext (hx3.trans hN.done)) rfl hk1
    repeat' (first | refine a_mov ?_ | refine a_asg ?_ | refine a_binN ?_ | refine a_notd ?_ | refine a_notb ?_ | refine a_nilc ?_ | refine a_fa ?_ | refine a_ext ?_ | refine a_lenv ?_ | refine a_lens ?_ | refine a_pick_t ?_ | refine a_pick_f ?_ | refine a_not ?_ | refine a_nilf ?_ | (refine o_nil (hK _ _ ?_); clear hK K) | refine wk_reg ?_ | refine wk_seq fun K hK => ?_ | (refine wk_skip (hK _ _ ?_); clear hK K) | (refine wk_label (hK _ _ ?_); clear hK K) | refine wk_scope ?_ | refine wk_block ?_ | refine wk_cond_t rfl ?_ | refine wk_cond_f rfl ?_ | (refine wk_exit ?_; (repeat (refine blockK_other rfl ?_)); refine blockK_same ?_; try ((repeat ((fail_if_success (refine hK _ _ ?_)); clear hK K)); refine hK _ _ ?_; clear hK K)) | (refine a_bin ?_ ?_ <;> intro _ <;> try (exfalso; omega)) | refine a_ld hl ?_ | (refine a_st hl ?_; clear hl; intro _ hl) | refine a_ix (fun _ => ?_) | refine a_idx (c := 6) k hpp ?_ | refine a_all hr ?_ | fail)
    refine a_fn (hN.doOp l[k] (hok _ (List.getElem_mem hk1)) hnN) ?_
    rintro _ w6 hN6
    repeat' (first | refine a_mov ?_ | refine a_asg ?_ | refine a_binN ?_ | refine a_notd ?_ | refine a_notb ?_ | refine a_nilc ?_ | refine a_fa ?_ | refine a_ext ?_ | refine a_lenv ?_ | refine a_lens ?_ | refine a_pick_t ?_ | refine a_pick_f ?_ | refine a_not ?_ | refine a_nilf ?_ | (refine o_nil (hK _ _ ?_); clear hK K) | refine wk_reg ?_ | refine wk_seq fun K hK => ?_ | (refine wk_skip (hK _ _ ?_); clear hK K) | (refine wk_label (hK _ _ ?_); clear hK K) | refine wk_scope ?_ | refine wk_block ?_ | refine wk_cond_t rfl ?_ | refine wk_cond_f rfl ?_ | (refine wk_exit ?_; (repeat (refine blockK_other rfl ?_)); refine blockK_same ?_; try ((repeat ((fail_if_success (refine hK _ _ ?_)); clear hK K)); refine hK _ _ ?_; clear hK K)) | (refine a_bin ?_ ?_ <;> intro _ <;> try (exfalso; omega)) | refine a_ld hl ?_ | (refine a_st hl ?_; clear hl; intro _ hl) | refine a_ix (fun _ => ?_) | fail)
    refine o_nil ⟨k + 1, ⟨rfl, rfl, rfl, rfl, rfl, rfl, rfl, trivial⟩, rfl, ⟨hk1, by rw [doAll_succ _ _ hk1]; exact hN6⟩, by omega⟩
  · obtain rfl : k = l.length := by omega
    rw [List.take_length] at hN hnN
    generalize doAll (Ne.new n) l = s at hN hnN
    repeat' (first | refine a_mov ?_ | refine a_asg ?_ | refine a_binN ?_ | refine a_notd ?_ | refine a_notb ?_ | refine a_nilc ?_ | refine a_fa ?_ | refine a_ext ?_ | refine a_lenv ?_ | refine a_lens ?_ | refine a_pick_t ?_ | refine a_pick_f ?_ | refine a_not ?_ | refine a_nilf ?_ | (refine o_nil (hK _ _ ?_); clear hK K) | refine wk_reg ?_ | refine wk_seq fun K hK => ?_ | (refine wk_skip (hK _ _ ?_); clear hK K) | (refine wk_label (hK _ _ ?_); clear hK K) | refine wk_scope ?_ | refine wk_block ?_ | refine wk_cond_t rfl ?_ | refine wk_cond_f rfl ?_ | (refine wk_exit ?_; (repeat (refine blockK_other rfl ?_)); refine blockK_same ?_; try ((repeat ((fail_if_success (refine hK _ _ ?_)); clear hK K)); refine hK _ _ ?_; clear hK K)) | (refine a_bin ?_ ?_ <;> intro _ <;> try (exfalso; omega)) | refine a_ld hl ?_ | (refine a_st hl ?_; clear hl; intro _ hl) | refine a_ix (fun _ => ?_) | fail)
    refine wk_draw [0, 1, 2, 3, 4, 5, 6, 7, 8, 9] [] [] (fun w' => To w5 w' w5.heap) (fun _ => True) rfl (by kernel_rfl) (fun _ _ _ _ h => by first | exact h | (simp only [BlockK, NoGoto, RetQ] at h)) (fun _ h => h) (fun _ _ => trivial) ?_
    repeat' (first | refine q_mov ?_ | refine q_asg ?_ | refine q_fa ?_ | refine q_ext ?_ | refine q_binN ?_ | refine q_notd ?_ | refine q_notb ?_ | refine q_pick_t ?_ | refine q_pick_f ?_ | refine q_nilc ?_ | refine q_skip ?_ | refine q_lens ?_ | refine q_lenv ?_ | refine q_nil ?_ | refine q_ix (fun _ => ?_) | (refine q_bin ?_ ?_ <;> intro _ <;> try (exfalso; omega)) | refine q_pur rfl rfl rfl (fun _ => r_conv rfl rfl rfl (wrap_i64' (by omega))) ?_ | refine q_pur rfl rfl rfl (fun _ => r_remN rfl rfl (by omega)) ?_ | fail)
    intro w6 hw6
    replace hN := hN.ext (Upd.of_heap hw6)
    refine ops_nil (hK _ _ ?_)
    clear hK K
    generalize x % n = a
    generalize y % n = b
    repeat' (first | refine a_mov ?_ | refine a_asg ?_ | refine a_binN ?_ | refine a_notd ?_ | refine a_notb ?_ | refine a_nilc ?_ | refine a_fa ?_ | refine a_ext ?_ | refine a_lenv ?_ | refine a_lens ?_ | refine a_pick_t ?_ | refine a_pick_f ?_ | refine a_not ?_ | refine a_nilf ?_ | (refine o_nil (hK _ _ ?_); clear hK K) | refine wk_reg ?_ | refine wk_seq fun K hK => ?_ | (refine wk_skip (hK _ _ ?_); clear hK K) | (refine wk_label (hK _ _ ?_); clear hK K) | refine wk_scope ?_ | refine wk_block ?_ | refine wk_cond_t rfl ?_ | refine wk_cond_f rfl ?_ | (refine wk_exit ?_; (repeat (refine blockK_other rfl ?_)); refine blockK_same ?_; try ((repeat ((fail_if_success (refine hK _ _ ?_)); clear hK K)); refine hK _ _ ?_; clear hK K)) | (refine a_bin ?_ ?_ <;> intro _ <;> try (exfalso; omega)) | refine a_ld hl ?_ | (refine a_st hl ?_; clear hl; intro _ hl) | refine a_ix (fun _ => ?_) | fail)
    refine a_fn (hN.deliver a b false true) ?_
    have hx5 := hN.done
    clear hN
    rintro _ w7 ⟨rfl, hN⟩
    cases hd : delivB s a b
    · repeat' (first | refine a_mov ?_ | refine a_asg ?_ | refine a_binN ?_ | refine a_notd ?_ | refine a_notb ?_ | refine a_nilc ?_ | refine a_fa ?_ | refine a_ext ?_ | refine a_lenv ?_ | refine a_lens ?_ | refine a_pick_t ?_ | refine a_pick_f ?_ | refine a_not ?_ | refine a_nilf ?_ | (refine o_nil (hK _ _ ?_); clear hK K) | refine wk_reg ?_ | refine wk_seq fun K hK => ?_ | (refine wk_skip (hK _ _ ?_); clear hK K) | (refine wk_label (hK _ _ ?_); clear hK K) | refine wk_scope ?_ | refine wk_block ?_ | refine wk_cond_t rfl ?_ | refine wk_cond_f rfl ?_ | (refine wk_exit ?_; (repeat (refine blockK_other rfl ?_)); refine blockK_same ?_; try ((repeat ((fail_if_success (refine hK _ _ ?_)); clear hK K)); refine hK _ _ ?_; clear hK K)) | (refine a_bin ?_ ?_ <;> intro _ <;> try (exfalso; omega)) | refine a_ld hl ?_ | (refine a_st hl ?_; clear hl; intro _ hl) | refine a_ix (fun _ => ?_) | fail)
      refine wk_ret (retQ_tmp1 Try.results6 (by decide) rfl (by conv => lhs; whnf) ?_)
      exact ⟨rfl, hx3.trans hN.done⟩
    · obtain ⟨d1, v1, d2, v2⟩ := again_law hd
      have e1 := n_deliver s a b false true
      have e2 := n_deliver (deliver s a b false true) a b false true
      have e3 := n_deliver (deliver (deliver s a b false true) a b false true) a b true false
      have w1' := vEq_all v1
      have w2' := vEq_all v2
      have hN0 := hN
      have hlen1 := vAll_len (deliver s a b false true) (fun a => Nat.le_trans (hN0.1.len a) (by omega)) hN0.np.2 (deliver s a b false true).n
      have hnp := hN0.np
      have hlen2 : (vAll (deliver s a b false true) (deliver s a b false true).n).length ≤ 8 * 900009 := Nat.le_trans hlen1 (Nat.mul_le_mul_right _ hnp.2)
      generalize hs1 : deliver s a b false true = s1 at *
      generalize hs2 : deliver s1 a b false true = s2 at *
      generalize hs3 : deliver s2 a b true false = s3 at *
      repeat' (first | refine a_mov ?_ | refine a_asg ?_ | refine a_binN ?_ | refine a_notd ?_ | refine a_notb ?_ | refine a_nilc ?_ | refine a_fa ?_ | refine a_ext ?_ | refine a_lenv ?_ | refine a_lens ?_ | refine a_pick_t ?_ | refine a_pick_f ?_ | refine a_not ?_ | refine a_nilf ?_ | (refine o_nil (hK _ _ ?_); clear hK K) | refine wk_reg ?_ | refine wk_seq fun K hK => ?_ | (refine wk_skip (hK _ _ ?_); clear hK K) | (refine wk_label (hK _ _ ?_); clear hK K) | refine wk_scope ?_ | refine wk_block ?_ | refine wk_cond_t rfl ?_ | refine wk_cond_f rfl ?_ | (refine wk_exit ?_; (repeat (refine blockK_other rfl ?_)); refine blockK_same ?_; try ((repeat ((fail_if_success (refine hK _ _ ?_)); clear hK K)); refine hK _ _ ?_; clear hK K)) | (refine a_bin ?_ ?_ <;> intro _ <;> try (exfalso; omega)) | refine a_ld hl ?_ | (refine a_st hl ?_; clear hl; intro _ hl) | refine a_ix (fun _ => ?_) | fail)
      refine a_fn (hN.views (n := n) (by omega)) ?_
      clear hN
      rintro v8 w8 hN
      repeat' (first | refine a_mov ?_ | refine a_asg ?_ | refine a_binN ?_ | refine a_notd ?_ | refine a_notb ?_ | refine a_nilc ?_ | refine a_fa ?_ | refine a_ext ?_ | refine a_lenv ?_ | refine a_lens ?_ | refine a_pick_t ?_ | refine a_pick_f ?_ | refine a_not ?_ | refine a_nilf ?_ | (refine o_nil (hK _ _ ?_); clear hK K) | refine wk_reg ?_ | refine wk_seq fun K hK => ?_ | (refine wk_skip (hK _ _ ?_); clear hK K) | (refine wk_label (hK _ _ ?_); clear hK K) | refine wk_scope ?_ | refine wk_block ?_ | refine wk_cond_t rfl ?_ | refine wk_cond_f rfl ?_ | (refine wk_exit ?_; (repeat (refine blockK_other rfl ?_)); refine blockK_same ?_; try ((repeat ((fail_if_success (refine hK _ _ ?_)); clear hK K)); refine hK _ _ ?_; clear hK K)) | (refine a_bin ?_ ?_ <;> intro _ <;> try (exfalso; omega)) | refine a_ld hl ?_ | (refine a_st hl ?_; clear hl; intro _ hl) | refine a_ix (fun _ => ?_) | fail)
      refine a_fn (hN.deliver a b false true) ?_
      clear hN
      rintro _ w9 ⟨rfl, hN⟩
      rw [d1]
      rw [hs2] at hN
      repeat' (first | refine a_mov ?_ | refine a_asg ?_ | refine a_binN ?_ | refine a_notd ?_ | refine a_notb ?_ | refine a_nilc ?_ | refine a_fa ?_ | refine a_ext ?_ | refine a_lenv ?_ | refine a_lens ?_ | refine a_pick_t ?_ | refine a_pick_f ?_ | refine a_not ?_ | refine a_nilf ?_ | (refine o_nil (hK _ _ ?_); clear hK K) | refine wk_reg ?_ | refine wk_seq fun K hK => ?_ | (refine wk_skip (hK _ _ ?_); clear hK K) | (refine wk_label (hK _ _ ?_); clear hK K) | refine wk_scope ?_ | refine wk_block ?_ | refine wk_cond_t rfl ?_ | refine wk_cond_f rfl ?_ | (refine wk_exit ?_; (repeat (refine blockK_other rfl ?_)); refine blockK_same ?_; try ((repeat ((fail_if_success (refine hK _ _ ?_)); clear hK K)); refine hK _ _ ?_; clear hK K)) | (refine a_bin ?_ ?_ <;> intro _ <;> try (exfalso; omega)) | refine a_ld hl ?_ | (refine a_st hl ?_; clear hl; intro _ hl) | refine a_ix (fun _ => ?_) | fail)
      refine a_fn (hN.views (n := n) (by omega)) ?_
      clear hN
      rintro v10 w10 hN
      repeat' (first | refine a_mov ?_ | refine a_asg ?_ | refine a_binN ?_ | refine a_notd ?_ | refine a_notb ?_ | refine a_nilc ?_ | refine a_fa ?_ | refine a_ext ?_ | refine a_lenv ?_ | refine a_lens ?_ | refine a_pick_t ?_ | refine a_pick_f ?_ | refine a_not ?_ | refine a_nilf ?_ | (refine o_nil (hK _ _ ?_); clear hK K) | refine wk_reg ?_ | refine wk_seq fun K hK => ?_ | (refine wk_skip (hK _ _ ?_); clear hK K) | (refine wk_label (hK _ _ ?_); clear hK K) | refine wk_scope ?_ | refine wk_block ?_ | refine wk_cond_t rfl ?_ | refine wk_cond_f rfl ?_ | (refine wk_exit ?_; (repeat (refine blockK_other rfl ?_)); refine blockK_same ?_; try ((repeat ((fail_if_success (refine hK _ _ ?_)); clear hK K)); refine hK _ _ ?_; clear hK K)) | (refine a_bin ?_ ?_ <;> intro _ <;> try (exfalso; omega)) | refine a_ld hl ?_ | (refine a_st hl ?_; clear hl; intro _ hl) | refine a_ix (fun _ => ?_) | fail)
      refine a_fn (hN.deliver a b true false) ?_
      clear hN
      rintro _ w11 ⟨rfl, hN⟩
      rw [d2]
      rw [hs3] at hN
      repeat' (first | refine a_mov ?_ | refine a_asg ?_ | refine a_binN ?_ | refine a_notd ?_ | refine a_notb ?_ | refine a_nilc ?_ | refine a_fa ?_ | refine a_ext ?_ | refine a_lenv ?_ | refine a_lens ?_ | refine a_pick_t ?_ | refine a_pick_f ?_ | refine a_not ?_ | refine a_nilf ?_ | (refine o_nil (hK _ _ ?_); clear hK K) | refine wk_reg ?_ | refine wk_seq fun K hK => ?_ | (refine wk_skip (hK _ _ ?_); clear hK K) | (refine wk_label (hK _ _ ?_); clear hK K) | refine wk_scope ?_ | refine wk_block ?_ | refine wk_cond_t rfl ?_ | refine wk_cond_f rfl ?_ | (refine wk_exit ?_; (repeat (refine blockK_other rfl ?_)); refine blockK_same ?_; try ((repeat ((fail_if_success (refine hK _ _ ?_)); clear hK K)); refine hK _ _ ?_; clear hK K)) | (refine a_bin ?_ ?_ <;> intro _ <;> try (exfalso; omega)) | refine a_ld hl ?_ | (refine a_st hl ?_; clear hl; intro _ hl) | refine a_ix (fun _ => ?_) | fail)
      refine a_fn (hN.views (n := n) (by omega)) ?_
      clear hN
      rintro v12 w12 hN
      have k8 : Sl w12 v8 1 (strL (vAll s1 s1.n)) := hN.sl (q := (v8, vAll s1 s1.n)) (by simp)
      have k10 : Sl w12 v10 1 (strL (vAll s2 s2.n)) := hN.sl (q := (v10, vAll s2 s2.n)) (by simp)
      have k12 : Sl w12 v12 1 (strL (vAll s3 s3.n)) := hN.sl (q := (v12, vAll s3 s3.n)) (by simp)
      rw [w1'] at k10
      rw [w2'] at k12
      have hfin := hx3.trans hN.done
      clear hN
      repeat' (first | refine a_mov ?_ | refine a_asg ?_ | refine a_binN ?_ | refine a_notd ?_ | refine a_notb ?_ | refine a_nilc ?_ | refine a_fa ?_ | refine a_ext ?_ | refine a_lenv ?_ | refine a_lens ?_ | refine a_pick_t ?_ | refine a_pick_f ?_ | refine a_not ?_ | refine a_nilf ?_ | (refine o_nil (hK _ _ ?_); clear hK K) | refine wk_reg ?_ | refine wk_seq fun K hK => ?_ | (refine wk_skip (hK _ _ ?_); clear hK K) | (refine wk_label (hK _ _ ?_); clear hK K) | refine wk_scope ?_ | refine wk_block ?_ | refine wk_cond_t rfl ?_ | refine wk_cond_f rfl ?_ | (refine wk_exit ?_; (repeat (refine blockK_other rfl ?_)); refine blockK_same ?_; try ((repeat ((fail_if_success (refine hK _ _ ?_)); clear hK K)); refine hK _ _ ?_; clear hK K)) | (refine a_bin ?_ ?_ <;> intro _ <;> try (exfalso; omega)) | refine a_ld hl ?_ | (refine a_st hl ?_; clear hl; intro _ hl) | refine a_ix (fun _ => ?_) | fail)
      refine a_fn (same_calls k8 k10 (by omega) (by omega)) ?_
      rintro _ w13 ⟨rfl, he13⟩
      rw [decide_eq_true rfl]
      repeat' (first | refine a_mov ?_ | refine a_asg ?_ | refine a_binN ?_ | refine a_notd ?_ | refine a_notb ?_ | refine a_nilc ?_ | refine a_fa ?_ | refine a_ext ?_ | refine a_lenv ?_ | refine a_lens ?_ | refine a_pick_t ?_ | refine a_pick_f ?_ | refine a_not ?_ | refine a_nilf ?_ | (refine o_nil (hK _ _ ?_); clear hK K) | refine wk_reg ?_ | refine wk_seq fun K hK => ?_ | (refine wk_skip (hK _ _ ?_); clear hK K) | (refine wk_label (hK _ _ ?_); clear hK K) | refine wk_scope ?_ | refine wk_block ?_ | refine wk_cond_t rfl ?_ | refine wk_cond_f rfl ?_ | (refine wk_exit ?_; (repeat (refine blockK_other rfl ?_)); refine blockK_same ?_; try ((repeat ((fail_if_success (refine hK _ _ ?_)); clear hK K)); refine hK _ _ ?_; clear hK K)) | (refine a_bin ?_ ?_ <;> intro _ <;> try (exfalso; omega)) | refine a_ld hl ?_ | (refine a_st hl ?_; clear hl; intro _ hl) | refine a_ix (fun _ => ?_) | fail)
      refine a_fn (same_calls (k8.ext he13) (k12.ext he13) (by omega) (by omega)) ?_
      rintro _ w14 ⟨rfl, he14⟩
      rw [decide_eq_true rfl]
      repeat' (first | refine a_mov ?_ | refine a_asg ?_ | refine a_binN ?_ | refine a_notd ?_ | refine a_notb ?_ | refine a_nilc ?_ | refine a_fa ?_ | refine a_ext ?_ | refine a_lenv ?_ | refine a_lens ?_ | refine a_pick_t ?_ | refine a_pick_f ?_ | refine a_not ?_ | refine a_nilf ?_ | (refine o_nil (hK _ _ ?_); clear hK K) | refine wk_reg ?_ | refine wk_seq fun K hK => ?_ | (refine wk_skip (hK _ _ ?_); clear hK K) | (refine wk_label (hK _ _ ?_); clear hK K) | refine wk_scope ?_ | refine wk_block ?_ | refine wk_cond_t rfl ?_ | refine wk_cond_f rfl ?_ | (refine wk_exit ?_; (repeat (refine blockK_other rfl ?_)); refine blockK_same ?_; try ((repeat ((fail_if_success (refine hK _ _ ?_)); clear hK K)); refine hK _ _ ?_; clear hK K)) | (refine a_bin ?_ ?_ <;> intro _ <;> try (exfalso; omega)) | refine a_ld hl ?_ | (refine a_st hl ?_; clear hl; intro _ hl) | refine a_ix (fun _ => ?_) | fail)
      refine wk_ret (retQ_tmp1 Try.results6 (by decide) rfl (by conv => lhs; whnf) ?_)
      exact ⟨rfl, hfin.trans (he13.trans he14)⟩
end Go.Proofs
