/-
  Conditions of commencement: few (the sizes that the laws ask for).
-/
import Derived.Test.YtebaoilkpedppaaGreatDoorQStV
set_option linter.unusedVariables false
set_option linter.unusedSimpArgs false
set_option linter.unnecessarySimpa false
set_option maxRecDepth 10000
namespace Go.Proofs
open Go Go.Pd Go.Sta
attribute [local irreducible] OpsL W RetQ OpsQ OpsC
def Small : Nat → Sn → Prop
  | 0, _ => False
  | d + 1, s => s.name.length ≤ 100 ∧ s.kids.length ≤ 250 ∧ ∀ k ∈ s.kids, Small d k
set_option maxHeartbeats 2000000 in
theorem small_calls : ∀ (d : Nat) (s : Sn) (w : World) (kv : Value), d ≤ 1000 → KA w s.kids kv → Calls Tryz.prog 45 #[.agg (snL s kv).toArray, .int .i64 (d : Int)] w (fun e w' => ∃ v, e = .returned v ∧ ∃ b, v = .bool b ∧ (b = true → Small d s) ∧ Ext w w') := by
  intro d
  induction d with
  | zero =>
    intro s w kv hd hk
    obtain ⟨ka, kc, rfl, -⟩ := hk.shape
    refine calls_of Tryz.func45 rfl Tryz.ntmps45 rfl ?_
    refine wk_seq fun K hK => ?_
    refine wk_reg ?_
    refine o_box (LH.start w (fun _ => False)) (snL s (.slice ka s.kids.length kc)) rfl rfl rfl ?_
    intro b2 w1 hb2 hl
    repeat' (first | refine a_mov ?_ | refine a_asg ?_ | refine a_binN ?_ | refine a_notd ?_ | refine a_notb ?_ | refine a_nilc ?_ | refine a_fa ?_ | refine a_ext ?_ | refine a_lenv ?_ | refine a_lens ?_ | refine a_pick_t ?_ | refine a_pick_f ?_ | refine a_not ?_ | refine a_nilf ?_ | (refine o_nil (hK _ _ ?_); clear hK K) | refine wk_reg ?_ | refine wk_seq fun K hK => ?_ | (refine wk_skip (hK _ _ ?_); clear hK K) | (refine wk_label (hK _ _ ?_); clear hK K) | refine wk_scope ?_ | refine wk_block ?_ | refine wk_cond_t rfl ?_ | refine wk_cond_f rfl ?_ | (refine wk_exit ?_; (repeat (refine blockK_other rfl ?_)); refine blockK_same ?_; try ((repeat ((fail_if_success (refine hK _ _ ?_)); clear hK K)); refine hK _ _ ?_; clear hK K)) | (refine a_bin ?_ ?_ <;> intro _ <;> try (exfalso; omega)) | refine a_ld hl ?_ | (refine a_st hl ?_; clear hl; intro _ hl) | refine a_ix (fun _ => ?_) | fail)
    refine wk_ret (retQ_tmp1 Tryz.results45 (by decide) rfl (by conv => lhs; whnf) ?_)
    exact ⟨false, rfl, (fun h => nomatch h), hl.done⟩
  | succ d ih =>
    intro s w kv hd hk
    obtain ⟨ka, kc, rfl, -⟩ := hk.shape
    refine calls_of Tryz.func45 rfl Tryz.ntmps45 rfl ?_
    refine wk_seq fun K hK => ?_
    refine wk_reg ?_
    refine o_box (LH.start w (fun _ => False)) (snL s (.slice ka s.kids.length kc)) rfl rfl rfl ?_
    intro b2 w1 hb2 hl
    have hr : Row w1 b2 0 (snL s (.slice ka s.kids.length kc)) := hl.rowL (vs := snL s (.slice ka s.kids.length kc)) 0 0 4 rfl
    have hx1 := hl.done
    clear hl
    refine a_asg ?_
    refine o_nil (hK _ _ ?_)
    clear hK K
    refine wk_seq fun K hK => ?_
    refine wk_seq fun K2 hK2 => ?_
    refine wk_reg ?_
    by_cases hbig : 100 < s.name.length ∨ 250 < s.kids.length
    · repeat' (first | refine a_mov ?_ | refine a_asg ?_ | refine a_binN ?_ | refine a_notd ?_ | refine a_notb ?_ | refine a_nilc ?_ | refine a_fa ?_ | refine a_ext ?_ | refine a_lenv ?_ | refine a_lens ?_ | refine a_pick_t ?_ | refine a_pick_f ?_ | refine a_not ?_ | refine a_nilf ?_ | (refine a_bin ?_ ?_ <;> intro _ <;> try (exfalso; omega)) | refine a_ld hl ?_ | (refine a_st hl ?_; clear hl; intro _ hl) | refine a_ix (fun _ => ?_) | refine a_row hr ?_ | fail)
      all_goals
        refine o_nil (hK2 _ _ ?_)
        clear hK2 K2
        refine wk_cond_t rfl ?_
        refine wk_seq fun K2 hK2 => ?_
        refine wk_reg ?_
        refine a_asg ?_
        refine o_nil (hK2 _ _ ?_)
        refine wk_ret (retQ_tmp1 Tryz.results45 (by decide) rfl (by conv => lhs; whnf) ?_)
        exact ⟨false, rfl, (fun h => nomatch h), hx1⟩
    · repeat' (first | refine a_mov ?_ | refine a_asg ?_ | refine a_binN ?_ | refine a_notd ?_ | refine a_notb ?_ | refine a_nilc ?_ | refine a_fa ?_ | refine a_ext ?_ | refine a_lenv ?_ | refine a_lens ?_ | refine a_pick_t ?_ | refine a_pick_f ?_ | refine a_not ?_ | refine a_nilf ?_ | (refine a_bin ?_ ?_ <;> intro _ <;> try (exfalso; omega)) | refine a_ld hl ?_ | (refine a_st hl ?_; clear hl; intro _ hl) | refine a_ix (fun _ => ?_) | refine a_row hr ?_ | fail)
      refine o_nil (hK2 _ _ ?_)
      clear hK2 K2
      refine wk_cond_f rfl ?_
      refine wk_skip (hK _ _ ?_)
      clear hK K
      refine wk_seq fun K hK => ?_
      refine wk_seq fun K2 hK2 => ?_
      refine wk_reg ?_
      refine a_asg ?_
      refine o_nil (hK2 _ _ ?_)
      clear hK2 K2
      refine wk_block ?_
      refine wk_loopH [] rfl (fun i : Nat => [(1, .int .i64 (((d + 1 : Nat)) : Int)), (2, .pointer (some ⟨b2, 0, none⟩)), (5, .int .i64 (i : Int))]) (fun i w' => (i ≤ s.kids.length ∧ ∀ k ∈ s.kids.take i, Small d k) ∧ Ext w1 w') (fun i => s.kids.length - i) 0 ⟨rfl, rfl, rfl, trivial⟩ ⟨⟨Nat.zero_le _, fun k hk => by simp at hk⟩, .refl _ _⟩ ?_
      rintro i t w2 ⟨⟨hi, hpre⟩, hx⟩
      refine wk_seq fun K1 hK1 => ?_
      refine wk_seq fun K2 hK2 => ?_
      refine wk_reg ?_
      by_cases hi1 : i < s.kids.length
      · obtain ⟨b, o, kv1, hpp, hrk, hk1⟩ := ((hk.ext hx1).ext hx).at hi1
        repeat' (first | refine a_mov ?_ | refine a_asg ?_ | refine a_binN ?_ | refine a_notd ?_ | refine a_notb ?_ | refine a_nilc ?_ | refine a_fa ?_ | refine a_ext ?_ | refine a_lenv ?_ | refine a_lens ?_ | refine a_pick_t ?_ | refine a_pick_f ?_ | refine a_not ?_ | refine a_nilf ?_ | (refine a_bin ?_ ?_ <;> intro _ <;> try (exfalso; omega)) | refine a_ld hl ?_ | (refine a_st hl ?_; clear hl; intro _ hl) | refine a_ix (fun _ => ?_) | refine a_row (hr.ext hx) ?_ | fail)
        refine o_nil (hK2 _ _ ?_)
        clear hK2 K2
        refine wk_cond_t rfl ?_
        refine wk_skip (hK1 _ _ ?_)
        clear hK1 K1
        refine wk_seq fun K1 hK1 => ?_
        refine wk_block ?_
        refine wk_seq fun K2 hK2 => ?_
        refine wk_reg ?_
        repeat' (first | refine a_mov ?_ | refine a_asg ?_ | refine a_binN ?_ | refine a_notd ?_ | refine a_notb ?_ | refine a_nilc ?_ | refine a_fa ?_ | refine a_ext ?_ | refine a_lenv ?_ | refine a_lens ?_ | refine a_pick_t ?_ | refine a_pick_f ?_ | refine a_not ?_ | refine a_nilf ?_ | (refine a_bin ?_ ?_ <;> intro _ <;> try (exfalso; omega)) | refine a_ld hl ?_ | (refine a_st hl ?_; clear hl; intro _ hl) | refine a_ix (fun _ => ?_) | refine a_row (hr.ext hx) ?_ | refine a_idx (c := 4) i hpp ?_ | refine a_all hrk ?_ | fail)
        have hd1 : ((d + 1 : Nat) : Int) - 1 = (d : Int) := by omega
        rw [hd1]
        refine a_fn (ih s.kids[i] w2 kv1 (by omega) hk1) ?_
        rintro _ w3 ⟨b, rfl, hb, hx3⟩
        refine a_notb ?_
        refine o_nil (hK2 _ _ ?_)
        clear hK2 K2
        cases b
        · refine wk_cond_t rfl ?_
          refine wk_seq fun K2 hK2 => ?_
          refine wk_reg ?_
          refine a_asg ?_
          refine o_nil (hK2 _ _ ?_)
          refine wk_ret (retQ_tmp1 Tryz.results45 (by decide) rfl (by conv => lhs; whnf) ?_)
          exact ⟨false, rfl, (fun h => nomatch h), (hx1.trans hx).trans hx3⟩
        · refine wk_cond_f rfl ?_
          refine wk_skip (hK1 _ _ ?_)
          clear hK1 K1
          refine wk_reg ?_
          repeat' (first | refine a_mov ?_ | refine a_asg ?_ | refine a_binN ?_ | refine a_notd ?_ | refine a_notb ?_ | refine a_nilc ?_ | refine a_fa ?_ | refine a_ext ?_ | refine a_lenv ?_ | refine a_lens ?_ | refine a_pick_t ?_ | refine a_pick_f ?_ | refine a_not ?_ | refine a_nilf ?_ | (refine a_bin ?_ ?_ <;> intro _ <;> try (exfalso; omega)) | refine a_ld hl ?_ | (refine a_st hl ?_; clear hl; intro _ hl) | refine a_ix (fun _ => ?_) | fail)
          refine o_nil ⟨i + 1, ⟨rfl, rfl, rfl, trivial⟩, rfl, ⟨⟨hi1, fun k hk => ?_⟩, hx.trans hx3⟩, by omega⟩
          rw [List.take_succ_eq_append_getElem hi1] at hk
          rcases List.mem_append.1 hk with hk | hk
          · exact hpre k hk
          · rw [List.mem_singleton.1 hk]; exact hb rfl
      · obtain rfl : i = s.kids.length := by omega
        rw [List.take_length] at hpre
        repeat' (first | refine a_mov ?_ | refine a_asg ?_ | refine a_binN ?_ | refine a_notd ?_ | refine a_notb ?_ | refine a_nilc ?_ | refine a_fa ?_ | refine a_ext ?_ | refine a_lenv ?_ | refine a_lens ?_ | refine a_pick_t ?_ | refine a_pick_f ?_ | refine a_not ?_ | refine a_nilf ?_ | (refine a_bin ?_ ?_ <;> intro _ <;> try (exfalso; omega)) | refine a_ld hl ?_ | (refine a_st hl ?_; clear hl; intro _ hl) | refine a_ix (fun _ => ?_) | refine a_row (hr.ext hx) ?_ | fail)
        refine o_nil (hK2 _ _ ?_)
        clear hK2 K2
        refine wk_cond_f rfl ?_
        refine wk_exit ?_
        refine blockK_same ?_
        refine hK _ _ ?_
        clear hK1 K1
        clear hK K
        refine wk_seq fun K hK => ?_
        refine wk_reg ?_
        refine a_asg ?_
        refine o_nil (hK _ _ ?_)
        refine wk_ret (retQ_tmp1 Tryz.results45 (by decide) rfl (by conv => lhs; whnf) ?_)
        exact ⟨true, rfl, (fun _ => ⟨by omega, by omega, hpre⟩), hx1.trans hx⟩
set_option maxHeartbeats 2000000 in
theorem count_calls : ∀ (d : Nat) (s : Sn) (w : World) (kv : Value), d ≤ 1000 → Small d s → KA w s.kids kv → Calls Tryz.prog 46 #[.agg (snL s kv).toArray] w (fun e w' => ∃ v, e = .returned v ∧ ∃ c : Int, v = .int .i64 c ∧ 1 ≤ c ∧ c ≤ 300 * (d : Int) ∧ Ext w w') := by
  intro d
  induction d with
  | zero => intro s w kv hd hs; exact hs.elim
  | succ d ih =>
    intro s w kv hd hs hk
    obtain ⟨ka, kc, rfl, -⟩ := hk.shape
    have hlen := hs.2.1
    refine calls_of Tryz.func46 rfl Tryz.ntmps46 rfl ?_
    refine wk_seq fun K hK => ?_
    refine wk_reg ?_
    refine o_box (LH.start w (fun _ => False)) (snL s (.slice ka s.kids.length kc)) rfl rfl rfl ?_
    intro b2 w1 hb2 hl
    have hr : Row w1 b2 0 (snL s (.slice ka s.kids.length kc)) := hl.rowL (vs := snL s (.slice ka s.kids.length kc)) 0 0 4 rfl
    have hx1 := hl.done
    clear hl
    refine a_asg ?_
    refine o_nil (hK _ _ ?_)
    clear hK K
    refine wk_seq fun K hK => ?_
    refine wk_reg ?_
    refine a_asg ?_
    refine o_nil (hK _ _ ?_)
    clear hK K
    refine wk_seq fun K hK => ?_
    refine wk_seq fun K2 hK2 => ?_
    refine wk_reg ?_
    refine a_asg ?_
    refine o_nil (hK2 _ _ ?_)
    clear hK2 K2
    refine wk_block ?_
    refine wk_loopH [] rfl (fun q : Nat × Int => [(1, .pointer (some ⟨b2, 0, none⟩)), (3, .int .i64 q.2), (4, .int .i64 (q.1 : Int))]) (fun q w' => (q.1 ≤ s.kids.length ∧ 1 ≤ q.2 ∧ q.2 ≤ 300 * ((d + 1 : Nat) : Int)) ∧ Ext w1 w') (fun q => s.kids.length - q.1) (0, 1) ⟨rfl, rfl, rfl, trivial⟩ ⟨⟨Nat.zero_le _, by simp only; omega, by simp only; omega⟩, .refl _ _⟩ ?_
    rintro ⟨i, c⟩ t w2 ⟨⟨hi, hc1, hc2⟩, hx⟩
    simp only at hi hc1 hc2
    refine wk_seq fun K1 hK1 => ?_
    refine wk_seq fun K2 hK2 => ?_
    refine wk_reg ?_
    by_cases hgo : i < s.kids.length ∧ c ≤ 250
    · obtain ⟨hi1, hc3⟩ := hgo
      obtain ⟨b, o, kv1, hpp, hrk, hk1⟩ := ((hk.ext hx1).ext hx).at hi1
      repeat' (first | refine a_mov ?_ | refine a_asg ?_ | refine a_binN ?_ | refine a_notd ?_ | refine a_notb ?_ | refine a_nilc ?_ | refine a_fa ?_ | refine a_ext ?_ | refine a_lenv ?_ | refine a_lens ?_ | refine a_pick_t ?_ | refine a_pick_f ?_ | refine a_not ?_ | refine a_nilf ?_ | (refine a_bin ?_ ?_ <;> intro _ <;> try (exfalso; omega)) | refine a_ld hl ?_ | (refine a_st hl ?_; clear hl; intro _ hl) | refine a_ix (fun _ => ?_) | refine a_row (hr.ext hx) ?_ | fail)
      refine o_nil (hK2 _ _ ?_)
      clear hK2 K2
      refine wk_cond_t rfl ?_
      refine wk_skip (hK1 _ _ ?_)
      clear hK1 K1
      refine wk_seq fun K1 hK1 => ?_
      refine wk_block ?_
      refine wk_reg ?_
      repeat' (first | refine a_mov ?_ | refine a_asg ?_ | refine a_binN ?_ | refine a_notd ?_ | refine a_notb ?_ | refine a_nilc ?_ | refine a_fa ?_ | refine a_ext ?_ | refine a_lenv ?_ | refine a_lens ?_ | refine a_pick_t ?_ | refine a_pick_f ?_ | refine a_not ?_ | refine a_nilf ?_ | (refine a_bin ?_ ?_ <;> intro _ <;> try (exfalso; omega)) | refine a_ld hl ?_ | (refine a_st hl ?_; clear hl; intro _ hl) | refine a_ix (fun _ => ?_) | refine a_row (hr.ext hx) ?_ | refine a_idx (c := 4) i hpp ?_ | refine a_all hrk ?_ | fail)
      refine a_fn (ih s.kids[i] w2 kv1 (by omega) (hs.2.2 _ (List.getElem_mem hi1)) hk1) ?_
      rintro _ w3 ⟨c1, rfl, h1, h2, hx3⟩
      repeat' (first | refine a_mov ?_ | refine a_asg ?_ | refine a_binN ?_ | refine a_notd ?_ | refine a_notb ?_ | refine a_nilc ?_ | refine a_fa ?_ | refine a_ext ?_ | refine a_lenv ?_ | refine a_lens ?_ | refine a_pick_t ?_ | refine a_pick_f ?_ | refine a_not ?_ | refine a_nilf ?_ | (refine a_bin ?_ ?_ <;> intro _ <;> try (exfalso; omega)) | refine a_ld hl ?_ | (refine a_st hl ?_; clear hl; intro _ hl) | refine a_ix (fun _ => ?_) | fail)
      refine o_nil (hK1 _ _ ?_)
      clear hK1 K1
      refine wk_reg ?_
      repeat' (first | refine a_mov ?_ | refine a_asg ?_ | refine a_binN ?_ | refine a_notd ?_ | refine a_notb ?_ | refine a_nilc ?_ | refine a_fa ?_ | refine a_ext ?_ | refine a_lenv ?_ | refine a_lens ?_ | refine a_pick_t ?_ | refine a_pick_f ?_ | refine a_not ?_ | refine a_nilf ?_ | (refine a_bin ?_ ?_ <;> intro _ <;> try (exfalso; omega)) | refine a_ld hl ?_ | (refine a_st hl ?_; clear hl; intro _ hl) | refine a_ix (fun _ => ?_) | fail)
      exact o_nil ⟨(i + 1, c + c1), ⟨rfl, rfl, rfl, trivial⟩, rfl, ⟨⟨hi1, by simp only; omega, by simp only; omega⟩, hx.trans hx3⟩, by simp only; omega⟩
    · repeat' (first | refine a_mov ?_ | refine a_asg ?_ | refine a_binN ?_ | refine a_notd ?_ | refine a_notb ?_ | refine a_nilc ?_ | refine a_fa ?_ | refine a_ext ?_ | refine a_lenv ?_ | refine a_lens ?_ | refine a_pick_t ?_ | refine a_pick_f ?_ | refine a_not ?_ | refine a_nilf ?_ | (refine a_bin ?_ ?_ <;> intro _ <;> try (exfalso; omega)) | refine a_ld hl ?_ | (refine a_st hl ?_; clear hl; intro _ hl) | refine a_ix (fun _ => ?_) | refine a_row (hr.ext hx) ?_ | fail)
      all_goals
        refine o_nil (hK2 _ _ ?_)
        clear hK2 K2
        refine wk_cond_f rfl ?_
        refine wk_exit ?_
        refine blockK_same ?_
        refine hK _ _ ?_
        clear hK1 K1
        clear hK K
        refine wk_seq fun K hK => ?_
        refine wk_reg ?_
        refine a_mov ?_
        refine a_asg ?_
        refine o_nil (hK _ _ ?_)
        refine wk_ret (retQ_tmp1 Tryz.results46 (by decide) rfl (by conv => lhs; whnf) ?_)
        exact ⟨c, rfl, hc1, hc2, hx1.trans hx⟩
end Go.Proofs
