/-
  The reference's reader: its helpers.
-/
import Derived.Test.YtebaoilkpedppaaGreatDoorQStAb
import Derived.Test.YtebaoilkpedppaaGreatDoorQSK
set_option linter.unusedVariables false
set_option linter.unusedSimpArgs false
set_option linter.unnecessarySimpa false
set_option maxRecDepth 10000
namespace Go.Proofs
open Go Go.Pd Go.Sta
open Go.Lexs (Tok)
attribute [local irreducible] OpsL W RetQ OpsQ OpsC
def rsL (tv : Value) (i en er at_ : Int) : List Value := [tv, .int .i64 i, .int .i64 en, .int .i64 er, .int .i64 at_]
def rsB (rb : Nat) (tv : Value) (i en er at_ : Int) : Nat × Obj := (rb, .cells (rsL tv i en er at_).toArray 71 (0, 0))
theorem sees_calls {w : World} {rb i : Nat} {tv : Value} {ts : List Tok} {en er at_ : Int} {wd : Tx} (hT : TK w rb tv ts) (hp : Row w rb 0 (rsL tv i en er at_)) (hi : i ≤ ts.length) :
    Calls Tryz.prog 72 #[.pointer (some ⟨rb, 0, none⟩), str wd] w (fun e w' => ∃ v, e = .returned v ∧ v = .bool (decide (er = 0) && isT wd (ts.drop i)) ∧ Ext w w') := by
  obtain ⟨ta, tc, rfl, hcap⟩ := hT.shape
  have hlen := hT.2.2
  refine calls_of Tryz.func72 rfl Tryz.ntmps72 rfl ?_
  refine wk_seq fun K hK => ?_
  refine wk_reg ?_
  refine o_asg rfl rfl ?_
  refine o_nil (hK _ _ ?_)
  clear hK K
  refine wk_seq fun K hK => ?_
  by_cases hz : er = 0
  · by_cases h : i < ts.length
    · obtain ⟨b, o, rfl, hr⟩ := hT.at h
      obtain ⟨kb, hkb⟩ : ∃ kb, kb = decide (ts[i].kind ≠ 2) := ⟨_, rfl⟩
      obtain ⟨xb, hxb⟩ : ∃ xb, xb = decide (ts[i].text = wd) := ⟨_, rfl⟩
      have hval : (decide (er = 0) && isT wd (ts.drop i)) = (kb && xb) := by
        rw [List.drop_eq_getElem_cons h, hkb, hxb, decide_eq_true hz]
        simp [isT]
      have hki : ((ts[i].kind : Int) = 2) ↔ ts[i].kind = 2 := by omega
      cases kb
      · have hk2 : ts[i].kind = 2 := by simpa using hkb.symm
        refine wk_quiet (List.range 47) ?_
        repeat' (first | refine q_mov ?_ | refine q_asg ?_ | refine q_fa ?_ | refine q_ext ?_ | refine q_binN ?_ | refine q_notd ?_ | refine q_notb ?_ | refine q_pick_t ?_ | refine q_pick_f ?_ | refine q_nilc ?_ | refine q_skip ?_ | refine q_lens ?_ | refine q_lenv ?_ | refine q_nil ?_ | refine q_ix (fun _ => ?_) | (refine q_bin ?_ ?_ <;> intro _ <;> try (exfalso; omega)) | refine q_row (fun w_ hw_ => hp.ext hw_) ?_ | refine q_idx (c := 4) i rfl ?_ | refine q_row (fun w_ hw_ => hr.ext hw_) ?_)
        intro w1 hx1
        refine hK _ _ ?_
        refine wk_ret (retQ_tmp1 Tryz.results72 (by decide) rfl (by conv => lhs; whnf) ?_)
        exact ⟨by rw [hval]; rfl, hx1⟩
      · have hk2 : ts[i].kind ≠ 2 := by simpa using hkb.symm
        refine wk_quiet (List.range 47) ?_
        repeat' (first | refine q_mov ?_ | refine q_asg ?_ | refine q_fa ?_ | refine q_ext ?_ | refine q_binN ?_ | refine q_notd ?_ | refine q_notb ?_ | refine q_pick_t ?_ | refine q_pick_f ?_ | refine q_nilc ?_ | refine q_skip ?_ | refine q_lens ?_ | refine q_lenv ?_ | refine q_nil ?_ | refine q_ix (fun _ => ?_) | (refine q_bin ?_ ?_ <;> intro _ <;> try (exfalso; omega)) | refine q_row (fun w_ hw_ => hp.ext hw_) ?_ | refine q_idx (c := 4) i rfl ?_ | refine q_row (fun w_ hw_ => hr.ext hw_) ?_ | refine q_pur rfl rfl rfl (fun _ => (r_eqs (a := ts[i].text) (b := wd) rfl rfl).trans (by rw [← hxb])) ?_)
        intro w1 hx1
        refine hK _ _ ?_
        refine wk_ret (retQ_tmp1 Tryz.results72 (by decide) rfl (by conv => lhs; whnf) ?_)
        exact ⟨by rw [hval]; rfl, hx1⟩
    · have hd : ts.drop i = [] := List.drop_eq_nil_of_le (by omega)
      refine wk_quiet (List.range 47) ?_
      repeat' (first | refine q_mov ?_ | refine q_asg ?_ | refine q_fa ?_ | refine q_ext ?_ | refine q_binN ?_ | refine q_notd ?_ | refine q_notb ?_ | refine q_pick_t ?_ | refine q_pick_f ?_ | refine q_nilc ?_ | refine q_skip ?_ | refine q_lens ?_ | refine q_lenv ?_ | refine q_nil ?_ | refine q_ix (fun _ => ?_) | (refine q_bin ?_ ?_ <;> intro _ <;> try (exfalso; omega)) | refine q_row (fun w_ hw_ => hp.ext hw_) ?_)
      intro w1 hx1
      refine hK _ _ ?_
      refine wk_ret (retQ_tmp1 Tryz.results72 (by decide) rfl (by conv => lhs; whnf) ?_)
      exact ⟨by rw [hd, decide_eq_true hz]; rfl, hx1⟩
  · refine wk_quiet (List.range 47) ?_
    repeat' (first | refine q_mov ?_ | refine q_asg ?_ | refine q_fa ?_ | refine q_ext ?_ | refine q_binN ?_ | refine q_notd ?_ | refine q_notb ?_ | refine q_pick_t ?_ | refine q_pick_f ?_ | refine q_nilc ?_ | refine q_skip ?_ | refine q_lens ?_ | refine q_lenv ?_ | refine q_nil ?_ | refine q_ix (fun _ => ?_) | (refine q_bin ?_ ?_ <;> intro _ <;> try (exfalso; omega)) | refine q_row (fun w_ hw_ => hp.ext hw_) ?_)
    intro w1 hx1
    refine hK _ _ ?_
    refine wk_ret (retQ_tmp1 Tryz.results72 (by decide) rfl (by conv => lhs; whnf) ?_)
    exact ⟨by rw [decide_eq_false hz]; rfl, hx1⟩
theorem isR_calls {w : World} {rb i : Nat} {tv : Value} {ts : List Tok} {en er at_ : Int} {wd : Tx} (hT : TK w rb tv ts) (hl : LH w (OneB rb) w [rsB rb tv i en er at_]) (hi : i ≤ ts.length) :
    Calls Tryz.prog 73 #[.pointer (some ⟨rb, 0, none⟩), str wd] w (fun e w' => ∃ v, e = .returned v ∧ v = .bool (decide (er = 0) && isT wd (ts.drop i)) ∧ LH w (OneB rb) w' [rsB rb tv (if decide (er = 0) && isT wd (ts.drop i) then i + 1 else i : Nat) en er at_]) := by
  have hlen := hT.2.2
  have hlt : isT wd (ts.drop i) = true → i < ts.length := fun h => by
    obtain ⟨t0, r0, h1⟩ := isT_ne h
    have := congrArg List.length h1
    simp at this
    omega
  refine calls_of Tryz.func73 rfl Tryz.ntmps73 rfl ?_
  refine wk_seq fun K hK => ?_
  refine wk_reg ?_
  refine a_asg ?_
  refine o_nil (hK _ _ ?_)
  clear hK K
  refine wk_seq fun K hK => ?_
  refine wk_seq fun K2 hK2 => ?_
  refine wk_reg ?_
  refine a_mov ?_
  refine a_mov ?_
  refine a_fn (sees_calls (wd := wd) hT (hl.rowL (vs := rsL tv i en er at_) 0 0 5 rfl) hi) ?_
  rintro _ w1 ⟨rfl, hx1⟩
  replace hl := hl.ext hx1
  refine a_notb ?_
  refine o_nil (hK2 _ _ ?_)
  clear hK2 K2
  cases hq : (decide (er = 0) && isT wd (ts.drop i))
  · refine wk_cond_t rfl ?_
    refine wk_seq fun K2 hK2 => ?_
    refine wk_reg ?_
    refine a_asg ?_
    refine o_nil (hK2 _ _ ?_)
    refine wk_ret (retQ_tmp1 Tryz.results73 (by decide) rfl (by conv => lhs; whnf) ?_)
    exact ⟨rfl, hl⟩
  · have hi1 := hlt (by rw [Bool.and_eq_true] at hq; exact hq.2)
    refine wk_cond_f rfl ?_
    refine wk_skip (hK _ _ ?_)
    clear hK K
    repeat' (first | refine a_mov ?_ | refine a_asg ?_ | refine a_binN ?_ | refine a_notd ?_ | refine a_notb ?_ | refine a_nilc ?_ | refine a_fa ?_ | refine a_ext ?_ | refine a_lenv ?_ | refine a_lens ?_ | refine a_pick_t ?_ | refine a_pick_f ?_ | refine a_not ?_ | refine a_nilf ?_ | (refine o_nil (hK _ _ ?_); clear hK K) | refine wk_reg ?_ | refine wk_seq fun K hK => ?_ | (refine wk_skip (hK _ _ ?_); clear hK K) | (refine wk_label (hK _ _ ?_); clear hK K) | refine wk_scope ?_ | refine wk_block ?_ | refine wk_cond_t rfl ?_ | refine wk_cond_f rfl ?_ | (refine wk_exit ?_; (repeat (refine blockK_other rfl ?_)); refine blockK_same ?_; try ((repeat ((fail_if_success (refine hK _ _ ?_)); clear hK K)); refine hK _ _ ?_; clear hK K)) | (refine a_bin ?_ ?_ <;> intro _ <;> try (exfalso; omega)) | refine a_ld hl ?_ | (refine a_st hl ?_; clear hl; intro _ hl) | refine a_ix (fun _ => ?_) | fail)
    refine wk_ret (retQ_tmp1 Tryz.results73 (by decide) rfl (by conv => lhs; whnf) ?_)
    rw [hq]
    exact ⟨rfl, hl⟩
theorem fault_calls {w : World} {rb : Nat} {tv : Value} {i en er at_ e a : Int} (hl : LH w (OneB rb) w [rsB rb tv i en er at_]) :
    Calls Tryz.prog 74 #[.pointer (some ⟨rb, 0, none⟩), .int .i64 e, .int .i64 a] w (fun x w' => ∃ v, x = .returned v ∧ LH w (OneB rb) w' [rsB rb tv i en (if er = 0 then e else er) (if er = 0 then a else at_)]) := by
  refine calls_of Tryz.func74 rfl Tryz.ntmps74 rfl ?_
  by_cases hz : er = 0
  · repeat' (first | refine a_mov ?_ | refine a_asg ?_ | refine a_binN ?_ | refine a_notd ?_ | refine a_notb ?_ | refine a_nilc ?_ | refine a_fa ?_ | refine a_ext ?_ | refine a_lenv ?_ | refine a_lens ?_ | refine a_pick_t ?_ | refine a_pick_f ?_ | refine a_not ?_ | refine a_nilf ?_ | (refine o_nil (hK _ _ ?_); clear hK K) | refine wk_reg ?_ | refine wk_seq fun K hK => ?_ | (refine wk_skip (hK _ _ ?_); clear hK K) | (refine wk_label (hK _ _ ?_); clear hK K) | refine wk_scope ?_ | refine wk_block ?_ | refine wk_cond_t rfl ?_ | refine wk_cond_f rfl ?_ | (refine wk_exit ?_; (repeat (refine blockK_other rfl ?_)); refine blockK_same ?_; try ((repeat ((fail_if_success (refine hK _ _ ?_)); clear hK K)); refine hK _ _ ?_; clear hK K)) | (refine a_bin ?_ ?_ <;> intro _ <;> try (exfalso; omega)) | refine a_ld hl ?_ | (refine a_st hl ?_; clear hl; intro _ hl) | refine a_ix (fun _ => ?_) | fail)
    refine o_nil (retQ_tmp0 rfl rfl ?_)
    rw [if_pos hz, if_pos hz]
    exact hl
  · repeat' (first | refine a_mov ?_ | refine a_asg ?_ | refine a_binN ?_ | refine a_notd ?_ | refine a_notb ?_ | refine a_nilc ?_ | refine a_fa ?_ | refine a_ext ?_ | refine a_lenv ?_ | refine a_lens ?_ | refine a_pick_t ?_ | refine a_pick_f ?_ | refine a_not ?_ | refine a_nilf ?_ | (refine o_nil (hK _ _ ?_); clear hK K) | refine wk_reg ?_ | refine wk_seq fun K hK => ?_ | (refine wk_skip (hK _ _ ?_); clear hK K) | (refine wk_label (hK _ _ ?_); clear hK K) | refine wk_scope ?_ | refine wk_block ?_ | refine wk_cond_t rfl ?_ | refine wk_cond_f rfl ?_ | (refine wk_exit ?_; (repeat (refine blockK_other rfl ?_)); refine blockK_same ?_; try ((repeat ((fail_if_success (refine hK _ _ ?_)); clear hK K)); refine hK _ _ ?_; clear hK K)) | (refine a_bin ?_ ?_ <;> intro _ <;> try (exfalso; omega)) | refine a_ld hl ?_ | (refine a_st hl ?_; clear hl; intro _ hl) | refine a_ix (fun _ => ?_) | fail)
    refine wk_skip (retQ_tmp0 rfl rfl ?_)
    rw [if_neg hz, if_neg hz]
    exact hl
end Go.Proofs
