/-
  Conditions of commencement: what holds.
-/
import Derived.Test.YtebaoilkpedppaaDoorStG
set_option linter.unusedVariables false
set_option linter.unusedSimpArgs false
set_option linter.unnecessarySimpa false
set_option maxRecDepth 10000
namespace Go.Proofs
open Go Go.Pd Go.Sta
attribute [local irreducible] OpsL W RetQ OpsQ OpsC
def HolC (E : Env) (s : Sn) : Prop := ∀ (w : World) (kv : Value) (wb : Nat), KA w s.kids kv → WM w E wb → fitS s → E.h.length ≤ 140737488351232 →
    Calls Tryd.prog 21 #[.pointer (some ⟨wb, 0, none⟩), .agg (snL s kv).toArray] w (fun e w' => ∃ v, e = .returned v ∧ v = .bool (hol E s) ∧ Ext w w')
theorem kidNot_calls {E : Env} {s : Sn} (ih : HolC E s) {w : World} {kv : Value} {wb bb : Nat} (hk : KA w s.kids kv) (hw : WM w E wb) (hB : Row w bb 0 [.pointer (some ⟨wb, 0, none⟩)]) (hfit : fitS s) (hlen : E.h.length ≤ 140737488351232) :
    Calls Tryd.prog 42 #[.agg (snL s kv).toArray, .pointer (some ⟨bb, 0, none⟩)] w (fun e w' => ∃ v, e = .returned v ∧ v = .bool (!hol E s) ∧ Ext w w') := by
  refine calls_of Tryd.func42 rfl Tryd.ntmps42 rfl ?_
  refine wk_seq fun K hK => ?_
  refine wk_reg ?_
  refine o_box (LH.start w (fun _ => False)) (snL s kv) rfl rfl rfl ?_
  intro b3 w1 hb3 hl
  have hx := hl.done
  have hX : Row w1 b3 0 (snL s kv) := hl.rowL (vs := snL s kv) 0 0 4 rfl
  clear hl
  repeat' (first | refine a_mov ?_ | refine a_asg ?_ | refine a_binN ?_ | refine a_notd ?_ | refine a_notb ?_ | refine a_nilc ?_ | refine a_fa ?_ | refine a_ext ?_ | refine a_lenv ?_ | refine a_lens ?_ | refine a_pick_t ?_ | refine a_pick_f ?_ | refine a_not ?_ | refine a_nilf ?_ | (refine o_nil (hK _ _ ?_); clear hK K) | refine wk_reg ?_ | refine wk_seq fun K hK => ?_ | (refine wk_skip (hK _ _ ?_); clear hK K) | (refine wk_label (hK _ _ ?_); clear hK K) | refine wk_scope ?_ | refine wk_block ?_ | refine wk_cond_t rfl ?_ | refine wk_cond_f rfl ?_ | (refine wk_exit ?_; (repeat (refine blockK_other rfl ?_)); refine blockK_same ?_; try ((repeat ((fail_if_success (refine hK _ _ ?_)); clear hK K)); refine hK _ _ ?_; clear hK K)) | (refine a_bin ?_ ?_ <;> intro _ <;> try (exfalso; omega)) | refine a_ld hl ?_ | (refine a_st hl ?_; clear hl; intro _ hl) | refine a_ix (fun _ => ?_) | refine a_row (hB.ext hx) ?_ | refine a_all hX ?_ | fail)
  refine a_fn (ih w1 kv wb (hk.ext hx) (hw.ext hx) hfit hlen) ?_
  rintro _ w2 ⟨rfl, hx2⟩
  cases hh : hol E s
  · repeat' (first | refine a_mov ?_ | refine a_asg ?_ | refine a_binN ?_ | refine a_notd ?_ | refine a_notb ?_ | refine a_nilc ?_ | refine a_fa ?_ | refine a_ext ?_ | refine a_lenv ?_ | refine a_lens ?_ | refine a_pick_t ?_ | refine a_pick_f ?_ | refine a_not ?_ | refine a_nilf ?_ | (refine o_nil (hK _ _ ?_); clear hK K) | refine wk_reg ?_ | refine wk_seq fun K hK => ?_ | (refine wk_skip (hK _ _ ?_); clear hK K) | (refine wk_label (hK _ _ ?_); clear hK K) | refine wk_scope ?_ | refine wk_block ?_ | refine wk_cond_t rfl ?_ | refine wk_cond_f rfl ?_ | (refine wk_exit ?_; (repeat (refine blockK_other rfl ?_)); refine blockK_same ?_; try ((repeat ((fail_if_success (refine hK _ _ ?_)); clear hK K)); refine hK _ _ ?_; clear hK K)) | (refine a_bin ?_ ?_ <;> intro _ <;> try (exfalso; omega)) | refine a_ld hl ?_ | (refine a_st hl ?_; clear hl; intro _ hl) | refine a_ix (fun _ => ?_) | fail)
    refine wk_ret (retQ_tmp1 Tryd.results42 (by decide) rfl (by conv => lhs; whnf) ?_)
    exact ⟨by rw [hh], hx.trans hx2⟩
  · repeat' (first | refine a_mov ?_ | refine a_asg ?_ | refine a_binN ?_ | refine a_notd ?_ | refine a_notb ?_ | refine a_nilc ?_ | refine a_fa ?_ | refine a_ext ?_ | refine a_lenv ?_ | refine a_lens ?_ | refine a_pick_t ?_ | refine a_pick_f ?_ | refine a_not ?_ | refine a_nilf ?_ | (refine o_nil (hK _ _ ?_); clear hK K) | refine wk_reg ?_ | refine wk_seq fun K hK => ?_ | (refine wk_skip (hK _ _ ?_); clear hK K) | (refine wk_label (hK _ _ ?_); clear hK K) | refine wk_scope ?_ | refine wk_block ?_ | refine wk_cond_t rfl ?_ | refine wk_cond_f rfl ?_ | (refine wk_exit ?_; (repeat (refine blockK_other rfl ?_)); refine blockK_same ?_; try ((repeat ((fail_if_success (refine hK _ _ ?_)); clear hK K)); refine hK _ _ ?_; clear hK K)) | (refine a_bin ?_ ?_ <;> intro _ <;> try (exfalso; omega)) | refine a_ld hl ?_ | (refine a_st hl ?_; clear hl; intro _ hl) | refine a_ix (fun _ => ?_) | fail)
    refine wk_ret (retQ_tmp1 Tryd.results42 (by decide) rfl (by conv => lhs; whnf) ?_)
    exact ⟨by rw [hh], hx.trans hx2⟩
set_option maxHeartbeats 2000000 in
theorem hol_calls (E : Env) : ∀ s : Sn, HolC E s := Sn.ind fun s ih => by
  intro w kv wb hk hwm hfit hlen
  obtain ⟨hf1, hf2, hf3⟩ := (fitS_eq s).1 hfit
  have hh := hol_eq E s
  refine calls_of Tryd.func21 rfl Tryd.ntmps21 rfl ?_
  refine wk_seq fun K hK => ?_
  refine wk_reg ?_
  refine o_box (LH.start w (fun _ => False)) [.pointer (some ⟨wb, 0, none⟩)] rfl rfl rfl ?_
  intro b2 w1 hb2 hl1
  refine o_box hl1 (snL s kv) rfl rfl rfl ?_
  clear hl1
  intro b3 w2 hb3 hl
  have hx := hl.done
  have hX : Row w2 b3 0 (snL s kv) := hl.rowL (vs := snL s kv) 0 0 4 rfl
  have hB : Row w2 b2 0 [.pointer (some ⟨wb, 0, none⟩)] := hl.rowL (vs := [.pointer (some ⟨wb, 0, none⟩)]) 1 0 1 rfl
  clear hl
  have hk2 := hk.ext hx
  have hwm2 := hwm.ext hx
  obtain ⟨hv, mb, mo, hW, hH, hMb, hMo⟩ := hwm2
  have hlenk : s.kids.length ≤ 140737488351232 := by omega
  by_cases h1 : s.op = 1
  · rw [if_pos h1] at hh
    repeat' (first | refine a_mov ?_ | refine a_asg ?_ | refine a_binN ?_ | refine a_notd ?_ | refine a_notb ?_ | refine a_nilc ?_ | refine a_fa ?_ | refine a_ext ?_ | refine a_lenv ?_ | refine a_lens ?_ | refine a_pick_t ?_ | refine a_pick_f ?_ | refine a_not ?_ | refine a_nilf ?_ | (refine o_nil (hK _ _ ?_); clear hK K) | refine wk_reg ?_ | refine wk_seq fun K hK => ?_ | (refine wk_skip (hK _ _ ?_); clear hK K) | (refine wk_label (hK _ _ ?_); clear hK K) | refine wk_scope ?_ | refine wk_block ?_ | refine wk_cond_t rfl ?_ | refine wk_cond_f rfl ?_ | (refine wk_exit ?_; (repeat (refine blockK_other rfl ?_)); refine blockK_same ?_; try ((repeat ((fail_if_success (refine hK _ _ ?_)); clear hK K)); refine hK _ _ ?_; clear hK K)) | (refine a_bin ?_ ?_ <;> intro _ <;> try (exfalso; omega)) | refine a_ld hl ?_ | (refine a_st hl ?_; clear hl; intro _ hl) | refine a_ix (fun _ => ?_) | refine a_row hX ?_ | refine a_row hB ?_ | refine a_row hW ?_ | refine o_mf [] [.pointer (some ⟨b3, 0, none⟩), .pointer (some ⟨b2, 0, none⟩)] rfl rfl rfl ?_ | fail)
    refine wk_ret (retQ_tmp1 Tryd.results21 (by decide) rfl (by conv => lhs; whnf) ?_)
    exact ⟨by rw [hh], hx⟩
  rw [if_neg h1] at hh
  by_cases h3 : s.op = 3
  · rw [if_pos h3] at hh
    repeat' (first | refine a_mov ?_ | refine a_asg ?_ | refine a_binN ?_ | refine a_notd ?_ | refine a_notb ?_ | refine a_nilc ?_ | refine a_fa ?_ | refine a_ext ?_ | refine a_lenv ?_ | refine a_lens ?_ | refine a_pick_t ?_ | refine a_pick_f ?_ | refine a_not ?_ | refine a_nilf ?_ | (refine o_nil (hK _ _ ?_); clear hK K) | refine wk_reg ?_ | refine wk_seq fun K hK => ?_ | (refine wk_skip (hK _ _ ?_); clear hK K) | (refine wk_label (hK _ _ ?_); clear hK K) | refine wk_scope ?_ | refine wk_block ?_ | refine wk_cond_t rfl ?_ | refine wk_cond_f rfl ?_ | (refine wk_exit ?_; (repeat (refine blockK_other rfl ?_)); refine blockK_same ?_; try ((repeat ((fail_if_success (refine hK _ _ ?_)); clear hK K)); refine hK _ _ ?_; clear hK K)) | (refine a_bin ?_ ?_ <;> intro _ <;> try (exfalso; omega)) | refine a_ld hl ?_ | (refine a_st hl ?_; clear hl; intro _ hl) | refine a_ix (fun _ => ?_) | refine a_row hX ?_ | refine a_row hB ?_ | refine a_row hW ?_ | refine o_mf [] [.pointer (some ⟨b3, 0, none⟩), .pointer (some ⟨b2, 0, none⟩)] rfl rfl rfl ?_ | fail)
    refine wk_quiet (List.range 8) ?_
    repeat' (first | refine q_mov ?_ | refine q_asg ?_ | refine q_fa ?_ | refine q_ext ?_ | refine q_binN ?_ | refine q_notd ?_ | refine q_notb ?_ | refine q_pick_t ?_ | refine q_pick_f ?_ | refine q_nilc ?_ | refine q_skip ?_ | refine q_lens ?_ | refine q_lenv ?_ | refine q_nil ?_ | refine q_ix (fun _ => ?_) | (refine q_bin ?_ ?_ <;> intro _ <;> try (exfalso; omega)) | refine q_row (fun w_ hw_ => hX.ext hw_) ?_ | refine q_row (fun w_ hw_ => hB.ext hw_) ?_ | refine q_row (fun w_ hw_ => hW.ext hw_) ?_)
    all_goals
      intro w5 hx5
      refine hK _ _ ?_
      refine wk_ret (retQ_tmp1 Tryd.results21 (by decide) rfl (by conv => lhs; whnf) ?_)
      exact ⟨by rw [hh]; simp [*], hx.trans hx5⟩
  rw [if_neg h3] at hh
  by_cases h45 : s.op = 4 ∨ s.op = 5
  · rw [if_pos h45] at hh
    have hcl : ∀ x ∈ E.h, ∀ w1, Ext w2 w1 → CallF Tryd.prog (.func (.func 40) #[] #[.pointer (some ⟨b3, 0, none⟩), .pointer (some ⟨b2, 0, none⟩)]) #[.agg (hapL x).toArray] w1 (fun v w2 => v = .bool (fitsH E (decide (s.op = 5)) s.name x) ∧ Ext w1 w2) := fun x hm w1 hx1 =>
      ⟨_, _, _, rfl, fun w => by rfl, hap_calls (hB.ext hx1) (hX.ext hx1) (hW.ext hx1)⟩
    rcases h45 with h4 | h4
    all_goals
      repeat' (first | refine a_mov ?_ | refine a_asg ?_ | refine a_binN ?_ | refine a_notd ?_ | refine a_notb ?_ | refine a_nilc ?_ | refine a_fa ?_ | refine a_ext ?_ | refine a_lenv ?_ | refine a_lens ?_ | refine a_pick_t ?_ | refine a_pick_f ?_ | refine a_not ?_ | refine a_nilf ?_ | (refine o_nil (hK _ _ ?_); clear hK K) | refine wk_reg ?_ | refine wk_seq fun K hK => ?_ | (refine wk_skip (hK _ _ ?_); clear hK K) | (refine wk_label (hK _ _ ?_); clear hK K) | refine wk_scope ?_ | refine wk_block ?_ | refine wk_cond_t rfl ?_ | refine wk_cond_f rfl ?_ | (refine wk_exit ?_; (repeat (refine blockK_other rfl ?_)); refine blockK_same ?_; try ((repeat ((fail_if_success (refine hK _ _ ?_)); clear hK K)); refine hK _ _ ?_; clear hK K)) | (refine a_bin ?_ ?_ <;> intro _ <;> try (exfalso; omega)) | refine a_ld hl ?_ | (refine a_st hl ?_; clear hl; intro _ hl) | refine a_ix (fun _ => ?_) | refine a_row hX ?_ | refine a_row hB ?_ | refine a_row hW ?_ | refine o_mf [] [.pointer (some ⟨b3, 0, none⟩), .pointer (some ⟨b2, 0, none⟩)] rfl rfl rfl ?_ | fail)
      refine a_fn (hapAny_calls hH hlen hcl) ?_
      rintro _ w5 ⟨rfl, hx5⟩
      repeat' (first | refine a_mov ?_ | refine a_asg ?_ | refine a_binN ?_ | refine a_notd ?_ | refine a_notb ?_ | refine a_nilc ?_ | refine a_fa ?_ | refine a_ext ?_ | refine a_lenv ?_ | refine a_lens ?_ | refine a_pick_t ?_ | refine a_pick_f ?_ | refine a_not ?_ | refine a_nilf ?_ | (refine o_nil (hK _ _ ?_); clear hK K) | refine wk_reg ?_ | refine wk_seq fun K hK => ?_ | (refine wk_skip (hK _ _ ?_); clear hK K) | (refine wk_label (hK _ _ ?_); clear hK K) | refine wk_scope ?_ | refine wk_block ?_ | refine wk_cond_t rfl ?_ | refine wk_cond_f rfl ?_ | (refine wk_exit ?_; (repeat (refine blockK_other rfl ?_)); refine blockK_same ?_; try ((repeat ((fail_if_success (refine hK _ _ ?_)); clear hK K)); refine hK _ _ ?_; clear hK K)) | (refine a_bin ?_ ?_ <;> intro _ <;> try (exfalso; omega)) | refine a_ld hl ?_ | (refine a_st hl ?_; clear hl; intro _ hl) | refine a_ix (fun _ => ?_) | refine a_row hX ?_ | refine a_row hB ?_ | refine a_row hW ?_ | refine o_mf [] [.pointer (some ⟨b3, 0, none⟩), .pointer (some ⟨b2, 0, none⟩)] rfl rfl rfl ?_ | fail)
      refine wk_ret (retQ_tmp1 Tryd.results21 (by decide) rfl (by conv => lhs; whnf) ?_)
      exact ⟨by rw [hh]; rfl, hx.trans hx5⟩
  rw [if_neg h45] at hh
  by_cases h6 : s.op = 6
  · rw [if_pos h6] at hh
    repeat' (first | refine a_mov ?_ | refine a_asg ?_ | refine a_binN ?_ | refine a_notd ?_ | refine a_notb ?_ | refine a_nilc ?_ | refine a_fa ?_ | refine a_ext ?_ | refine a_lenv ?_ | refine a_lens ?_ | refine a_pick_t ?_ | refine a_pick_f ?_ | refine a_not ?_ | refine a_nilf ?_ | (refine o_nil (hK _ _ ?_); clear hK K) | refine wk_reg ?_ | refine wk_seq fun K hK => ?_ | (refine wk_skip (hK _ _ ?_); clear hK K) | (refine wk_label (hK _ _ ?_); clear hK K) | refine wk_scope ?_ | refine wk_block ?_ | refine wk_cond_t rfl ?_ | refine wk_cond_f rfl ?_ | (refine wk_exit ?_; (repeat (refine blockK_other rfl ?_)); refine blockK_same ?_; try ((repeat ((fail_if_success (refine hK _ _ ?_)); clear hK K)); refine hK _ _ ?_; clear hK K)) | (refine a_bin ?_ ?_ <;> intro _ <;> try (exfalso; omega)) | refine a_ld hl ?_ | (refine a_st hl ?_; clear hl; intro _ hl) | refine a_ix (fun _ => ?_) | refine a_row hX ?_ | refine a_row hB ?_ | refine a_row hW ?_ | refine o_mf [] [.pointer (some ⟨b3, 0, none⟩), .pointer (some ⟨b2, 0, none⟩)] rfl rfl rfl ?_ | fail)
    refine a_fc #[.map (some mb)] #[.pointer (some ⟨b3, 0, none⟩), .pointer (some ⟨b2, 0, none⟩)] _ rfl (reach_calls hB hX hW hMb) ?_
    rintro _ w5 ⟨rfl, rfl⟩
    repeat' (first | refine a_mov ?_ | refine a_asg ?_ | refine a_binN ?_ | refine a_notd ?_ | refine a_notb ?_ | refine a_nilc ?_ | refine a_fa ?_ | refine a_ext ?_ | refine a_lenv ?_ | refine a_lens ?_ | refine a_pick_t ?_ | refine a_pick_f ?_ | refine a_not ?_ | refine a_nilf ?_ | (refine o_nil (hK _ _ ?_); clear hK K) | refine wk_reg ?_ | refine wk_seq fun K hK => ?_ | (refine wk_skip (hK _ _ ?_); clear hK K) | (refine wk_label (hK _ _ ?_); clear hK K) | refine wk_scope ?_ | refine wk_block ?_ | refine wk_cond_t rfl ?_ | refine wk_cond_f rfl ?_ | (refine wk_exit ?_; (repeat (refine blockK_other rfl ?_)); refine blockK_same ?_; try ((repeat ((fail_if_success (refine hK _ _ ?_)); clear hK K)); refine hK _ _ ?_; clear hK K)) | (refine a_bin ?_ ?_ <;> intro _ <;> try (exfalso; omega)) | refine a_ld hl ?_ | (refine a_st hl ?_; clear hl; intro _ hl) | refine a_ix (fun _ => ?_) | refine a_row hX ?_ | refine a_row hB ?_ | refine a_row hW ?_ | refine o_mf [] [.pointer (some ⟨b3, 0, none⟩), .pointer (some ⟨b2, 0, none⟩)] rfl rfl rfl ?_ | fail)
    refine wk_ret (retQ_tmp1 Tryd.results21 (by decide) rfl (by conv => lhs; whnf) ?_)
    exact ⟨by rw [hh], hx⟩
  rw [if_neg h6] at hh
  by_cases h7 : s.op = 7
  · rw [if_pos h7] at hh
    repeat' (first | refine a_mov ?_ | refine a_asg ?_ | refine a_binN ?_ | refine a_notd ?_ | refine a_notb ?_ | refine a_nilc ?_ | refine a_fa ?_ | refine a_ext ?_ | refine a_lenv ?_ | refine a_lens ?_ | refine a_pick_t ?_ | refine a_pick_f ?_ | refine a_not ?_ | refine a_nilf ?_ | (refine o_nil (hK _ _ ?_); clear hK K) | refine wk_reg ?_ | refine wk_seq fun K hK => ?_ | (refine wk_skip (hK _ _ ?_); clear hK K) | (refine wk_label (hK _ _ ?_); clear hK K) | refine wk_scope ?_ | refine wk_block ?_ | refine wk_cond_t rfl ?_ | refine wk_cond_f rfl ?_ | (refine wk_exit ?_; (repeat (refine blockK_other rfl ?_)); refine blockK_same ?_; try ((repeat ((fail_if_success (refine hK _ _ ?_)); clear hK K)); refine hK _ _ ?_; clear hK K)) | (refine a_bin ?_ ?_ <;> intro _ <;> try (exfalso; omega)) | refine a_ld hl ?_ | (refine a_st hl ?_; clear hl; intro _ hl) | refine a_ix (fun _ => ?_) | refine a_row hX ?_ | refine a_row hB ?_ | refine a_row hW ?_ | refine o_mf [] [.pointer (some ⟨b3, 0, none⟩), .pointer (some ⟨b2, 0, none⟩)] rfl rfl rfl ?_ | fail)
    refine a_fc #[.map (some mo)] #[.pointer (some ⟨b3, 0, none⟩), .pointer (some ⟨b2, 0, none⟩)] _ rfl (reach_calls hB hX hW hMo) ?_
    rintro _ w5 ⟨rfl, rfl⟩
    repeat' (first | refine a_mov ?_ | refine a_asg ?_ | refine a_binN ?_ | refine a_notd ?_ | refine a_notb ?_ | refine a_nilc ?_ | refine a_fa ?_ | refine a_ext ?_ | refine a_lenv ?_ | refine a_lens ?_ | refine a_pick_t ?_ | refine a_pick_f ?_ | refine a_not ?_ | refine a_nilf ?_ | (refine o_nil (hK _ _ ?_); clear hK K) | refine wk_reg ?_ | refine wk_seq fun K hK => ?_ | (refine wk_skip (hK _ _ ?_); clear hK K) | (refine wk_label (hK _ _ ?_); clear hK K) | refine wk_scope ?_ | refine wk_block ?_ | refine wk_cond_t rfl ?_ | refine wk_cond_f rfl ?_ | (refine wk_exit ?_; (repeat (refine blockK_other rfl ?_)); refine blockK_same ?_; try ((repeat ((fail_if_success (refine hK _ _ ?_)); clear hK K)); refine hK _ _ ?_; clear hK K)) | (refine a_bin ?_ ?_ <;> intro _ <;> try (exfalso; omega)) | refine a_ld hl ?_ | (refine a_st hl ?_; clear hl; intro _ hl) | refine a_ix (fun _ => ?_) | refine a_row hX ?_ | refine a_row hB ?_ | refine a_row hW ?_ | refine o_mf [] [.pointer (some ⟨b3, 0, none⟩), .pointer (some ⟨b2, 0, none⟩)] rfl rfl rfl ?_ | fail)
    refine wk_ret (retQ_tmp1 Tryd.results21 (by decide) rfl (by conv => lhs; whnf) ?_)
    exact ⟨by rw [hh], hx⟩
  rw [if_neg h7] at hh
  by_cases h8 : s.op = 8
  · rw [if_pos h8] at hh
    have hcl : ∀ x ∈ s.kids, ∀ w1 kv1, Ext w2 w1 → KA w1 x.kids kv1 → CallF Tryd.prog (.func (.func 42) #[] #[.pointer (some ⟨b2, 0, none⟩)]) #[.agg (snL x kv1).toArray] w1 (fun v w2 => v = .bool (!hol E x) ∧ Ext w1 w2) := fun x hm w1 kv1 hx1 hk1 =>
      ⟨_, _, _, rfl, fun w => by rfl, kidNot_calls (ih x hm) hk1 ((hwm.ext hx).ext hx1) (hB.ext hx1) (fitL_mem hf3 _ hm) hlen⟩
    repeat' (first | refine a_mov ?_ | refine a_asg ?_ | refine a_binN ?_ | refine a_notd ?_ | refine a_notb ?_ | refine a_nilc ?_ | refine a_fa ?_ | refine a_ext ?_ | refine a_lenv ?_ | refine a_lens ?_ | refine a_pick_t ?_ | refine a_pick_f ?_ | refine a_not ?_ | refine a_nilf ?_ | (refine o_nil (hK _ _ ?_); clear hK K) | refine wk_reg ?_ | refine wk_seq fun K hK => ?_ | (refine wk_skip (hK _ _ ?_); clear hK K) | (refine wk_label (hK _ _ ?_); clear hK K) | refine wk_scope ?_ | refine wk_block ?_ | refine wk_cond_t rfl ?_ | refine wk_cond_f rfl ?_ | (refine wk_exit ?_; (repeat (refine blockK_other rfl ?_)); refine blockK_same ?_; try ((repeat ((fail_if_success (refine hK _ _ ?_)); clear hK K)); refine hK _ _ ?_; clear hK K)) | (refine a_bin ?_ ?_ <;> intro _ <;> try (exfalso; omega)) | refine a_ld hl ?_ | (refine a_st hl ?_; clear hl; intro _ hl) | refine a_ix (fun _ => ?_) | refine a_row hX ?_ | refine a_row hB ?_ | refine a_row hW ?_ | refine o_mf [] [.pointer (some ⟨b3, 0, none⟩), .pointer (some ⟨b2, 0, none⟩)] rfl rfl rfl ?_ | refine o_mf [] [.pointer (some ⟨b2, 0, none⟩)] rfl rfl rfl ?_ | fail)
    refine a_fn (staAny_calls hk2 hlenk hcl) ?_
    rintro _ w5 ⟨rfl, hx5⟩
    have he : s.kids.all (hol E) = !(s.kids.any fun x => !hol E x) := by rw [List.all_eq_not_any_not]
    rw [he] at hh
    cases hq : (s.kids.any fun x => !hol E x)
    all_goals
      repeat' (first | refine a_mov ?_ | refine a_asg ?_ | refine a_binN ?_ | refine a_notd ?_ | refine a_notb ?_ | refine a_nilc ?_ | refine a_fa ?_ | refine a_ext ?_ | refine a_lenv ?_ | refine a_lens ?_ | refine a_pick_t ?_ | refine a_pick_f ?_ | refine a_not ?_ | refine a_nilf ?_ | (refine o_nil (hK _ _ ?_); clear hK K) | refine wk_reg ?_ | refine wk_seq fun K hK => ?_ | (refine wk_skip (hK _ _ ?_); clear hK K) | (refine wk_label (hK _ _ ?_); clear hK K) | refine wk_scope ?_ | refine wk_block ?_ | refine wk_cond_t rfl ?_ | refine wk_cond_f rfl ?_ | (refine wk_exit ?_; (repeat (refine blockK_other rfl ?_)); refine blockK_same ?_; try ((repeat ((fail_if_success (refine hK _ _ ?_)); clear hK K)); refine hK _ _ ?_; clear hK K)) | (refine a_bin ?_ ?_ <;> intro _ <;> try (exfalso; omega)) | refine a_ld hl ?_ | (refine a_st hl ?_; clear hl; intro _ hl) | refine a_ix (fun _ => ?_) | refine a_row hX ?_ | refine a_row hB ?_ | refine a_row hW ?_ | refine o_mf [] [.pointer (some ⟨b3, 0, none⟩), .pointer (some ⟨b2, 0, none⟩)] rfl rfl rfl ?_ | fail)
      refine wk_ret (retQ_tmp1 Tryd.results21 (by decide) rfl (by conv => lhs; whnf) ?_)
      exact ⟨by rw [hh, hq], hx.trans hx5⟩
  rw [if_neg h8] at hh
  by_cases h9 : s.op = 9
  · rw [if_pos h9] at hh
    have hcl : ∀ x ∈ s.kids, ∀ w1 kv1, Ext w2 w1 → KA w1 x.kids kv1 → CallF Tryd.prog (.func (.func 21) #[.pointer (some ⟨wb, 0, none⟩)] #[]) #[.agg (snL x kv1).toArray] w1 (fun v w2 => v = .bool (hol E x) ∧ Ext w1 w2) := fun x hm w1 kv1 hx1 hk1 =>
      ⟨_, _, _, rfl, fun w => by rfl, ih x hm w1 kv1 wb hk1 ((hwm.ext hx).ext hx1) (fitL_mem hf3 _ hm) hlen⟩
    repeat' (first | refine a_mov ?_ | refine a_asg ?_ | refine a_binN ?_ | refine a_notd ?_ | refine a_notb ?_ | refine a_nilc ?_ | refine a_fa ?_ | refine a_ext ?_ | refine a_lenv ?_ | refine a_lens ?_ | refine a_pick_t ?_ | refine a_pick_f ?_ | refine a_not ?_ | refine a_nilf ?_ | (refine o_nil (hK _ _ ?_); clear hK K) | refine wk_reg ?_ | refine wk_seq fun K hK => ?_ | (refine wk_skip (hK _ _ ?_); clear hK K) | (refine wk_label (hK _ _ ?_); clear hK K) | refine wk_scope ?_ | refine wk_block ?_ | refine wk_cond_t rfl ?_ | refine wk_cond_f rfl ?_ | (refine wk_exit ?_; (repeat (refine blockK_other rfl ?_)); refine blockK_same ?_; try ((repeat ((fail_if_success (refine hK _ _ ?_)); clear hK K)); refine hK _ _ ?_; clear hK K)) | (refine a_bin ?_ ?_ <;> intro _ <;> try (exfalso; omega)) | refine a_ld hl ?_ | (refine a_st hl ?_; clear hl; intro _ hl) | refine a_ix (fun _ => ?_) | refine a_row hX ?_ | refine a_row hB ?_ | refine a_row hW ?_ | refine o_mf [] [.pointer (some ⟨b3, 0, none⟩), .pointer (some ⟨b2, 0, none⟩)] rfl rfl rfl ?_ | refine o_mf [.pointer (some ⟨wb, 0, none⟩)] [] rfl rfl rfl ?_ | fail)
    refine a_fn (staAny_calls hk2 hlenk hcl) ?_
    rintro _ w5 ⟨rfl, hx5⟩
    repeat' (first | refine a_mov ?_ | refine a_asg ?_ | refine a_binN ?_ | refine a_notd ?_ | refine a_notb ?_ | refine a_nilc ?_ | refine a_fa ?_ | refine a_ext ?_ | refine a_lenv ?_ | refine a_lens ?_ | refine a_pick_t ?_ | refine a_pick_f ?_ | refine a_not ?_ | refine a_nilf ?_ | (refine o_nil (hK _ _ ?_); clear hK K) | refine wk_reg ?_ | refine wk_seq fun K hK => ?_ | (refine wk_skip (hK _ _ ?_); clear hK K) | (refine wk_label (hK _ _ ?_); clear hK K) | refine wk_scope ?_ | refine wk_block ?_ | refine wk_cond_t rfl ?_ | refine wk_cond_f rfl ?_ | (refine wk_exit ?_; (repeat (refine blockK_other rfl ?_)); refine blockK_same ?_; try ((repeat ((fail_if_success (refine hK _ _ ?_)); clear hK K)); refine hK _ _ ?_; clear hK K)) | (refine a_bin ?_ ?_ <;> intro _ <;> try (exfalso; omega)) | refine a_ld hl ?_ | (refine a_st hl ?_; clear hl; intro _ hl) | refine a_ix (fun _ => ?_) | refine a_row hX ?_ | refine a_row hB ?_ | refine a_row hW ?_ | refine o_mf [] [.pointer (some ⟨b3, 0, none⟩), .pointer (some ⟨b2, 0, none⟩)] rfl rfl rfl ?_ | fail)
    refine wk_ret (retQ_tmp1 Tryd.results21 (by decide) rfl (by conv => lhs; whnf) ?_)
    exact ⟨by rw [hh], hx.trans hx5⟩
  rw [if_neg h9] at hh
  repeat' (first | refine a_mov ?_ | refine a_asg ?_ | refine a_binN ?_ | refine a_notd ?_ | refine a_notb ?_ | refine a_nilc ?_ | refine a_fa ?_ | refine a_ext ?_ | refine a_lenv ?_ | refine a_lens ?_ | refine a_pick_t ?_ | refine a_pick_f ?_ | refine a_not ?_ | refine a_nilf ?_ | (refine o_nil (hK _ _ ?_); clear hK K) | refine wk_reg ?_ | refine wk_seq fun K hK => ?_ | (refine wk_skip (hK _ _ ?_); clear hK K) | (refine wk_label (hK _ _ ?_); clear hK K) | refine wk_scope ?_ | refine wk_block ?_ | refine wk_cond_t rfl ?_ | refine wk_cond_f rfl ?_ | (refine wk_exit ?_; (repeat (refine blockK_other rfl ?_)); refine blockK_same ?_; try ((repeat ((fail_if_success (refine hK _ _ ?_)); clear hK K)); refine hK _ _ ?_; clear hK K)) | (refine a_bin ?_ ?_ <;> intro _ <;> try (exfalso; omega)) | refine a_ld hl ?_ | (refine a_st hl ?_; clear hl; intro _ hl) | refine a_ix (fun _ => ?_) | refine a_row hX ?_ | refine a_row hB ?_ | refine a_row hW ?_ | refine o_mf [] [.pointer (some ⟨b3, 0, none⟩), .pointer (some ⟨b2, 0, none⟩)] rfl rfl rfl ?_ | fail)
  refine wk_ret (retQ_tmp1 Tryd.results21 (by decide) rfl (by conv => lhs; whnf) ?_)
  exact ⟨by rw [hh], hx⟩
end Go.Proofs
