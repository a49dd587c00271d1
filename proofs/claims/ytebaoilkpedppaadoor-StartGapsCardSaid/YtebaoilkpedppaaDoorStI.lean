/-
  Conditions of commencement: statuses from the last one on.
-/
import Derived.Test.YtebaoilkpedppaaDoorStH
import Derived.Test.YtebaoilkpedppaaDoorEnt
set_option linter.unusedVariables false
set_option linter.unusedSimpArgs false
set_option linter.unnecessarySimpa false
set_option maxRecDepth 10000
namespace Go.Proofs
open Go Go.Pd Go.Sta
attribute [local irreducible] OpsL W RetQ OpsQ OpsC
def stuL (x : Stu) : List Value := [str x.id, .int .i64 x.begin_, .int .i64 x.end_, .int .i64 x.again]
theorem stuL_len (x : Stu) : (stuL x).length = 4 := rfl
theorem back_calls {w : World} {lv : Value} {a : Option Addr} {m c : Nat} (hv : lv = .slice a m c) : Calls Tryd.prog 20 #[lv] w (fun e w' => ∃ v, e = .returned v ∧ ∃ b, v = .func (.func 37) #[] #[.pointer (some ⟨b, 0, none⟩)] ∧ LH w (fun _ => False) w' [(b, .cells [lv].toArray 47 (0, 0))]) := by
  subst hv
  refine calls_of Tryd.func20 rfl Tryd.ntmps20 rfl ?_
  refine wk_seq fun K hK => ?_
  refine wk_reg ?_
  refine o_box (LH.start w (fun _ => False)) [.slice a m c] rfl rfl rfl ?_
  intro b1 w1 hb1 hl
  repeat' (first | refine a_mov ?_ | refine a_asg ?_ | refine a_binN ?_ | refine a_notd ?_ | refine a_notb ?_ | refine a_nilc ?_ | refine a_fa ?_ | refine a_ext ?_ | refine a_lenv ?_ | refine a_lens ?_ | refine a_pick_t ?_ | refine a_pick_f ?_ | refine a_not ?_ | refine a_nilf ?_ | (refine o_nil (hK _ _ ?_); clear hK K) | refine wk_reg ?_ | refine wk_seq fun K hK => ?_ | (refine wk_skip (hK _ _ ?_); clear hK K) | (refine wk_label (hK _ _ ?_); clear hK K) | refine wk_scope ?_ | refine wk_block ?_ | refine wk_cond_t rfl ?_ | refine wk_cond_f rfl ?_ | (refine wk_exit ?_; (repeat (refine blockK_other rfl ?_)); refine blockK_same ?_; try ((repeat ((fail_if_success (refine hK _ _ ?_)); clear hK K)); refine hK _ _ ?_; clear hK K)) | (refine a_bin ?_ ?_ <;> intro _ <;> try (exfalso; omega)) | refine a_ld hl ?_ | (refine a_st hl ?_; clear hl; intro _ hl) | refine a_ix (fun _ => ?_) | refine o_mf [] [.pointer (some ⟨b1, 0, none⟩)] rfl rfl rfl ?_ | fail)
  refine wk_ret (retQ_tmp1 Tryd.results20 (by decide) rfl (by conv => lhs; whnf) ?_)
  exact ⟨b1, rfl, hl⟩
theorem back1_calls {l : List Stu} {lv yv : Value} {b1 : Nat} (J : Nat → World → Prop) (hr : ∀ k w, J k w → Row w b1 0 [lv] ∧ Sl w lv 4 (l.flatMap stuL)) (hlen : l.length ≤ 140737488351232)
    (hst : ∀ (k : Nat) (h : k < l.length) (w : World), J k w → CallV Tryd.prog yv #[.int .i64 ((l.length - 1 - k : Nat) : Int), .agg (stuL l[l.length - 1 - k]).toArray] w (fun v w' => v = .bool true ∧ J (k + 1) w')) {w : World} (h0 : J 0 w) :
    Calls Tryd.prog 37 #[yv, .pointer (some ⟨b1, 0, none⟩)] w (fun e w' => ∃ v, e = .returned v ∧ J l.length w') := by
  obtain ⟨a, c, rfl, hc⟩ := (hr 0 w h0).2.shape (flat_length stuL_len l) (by omega)
  refine calls_of Tryd.func37 rfl Tryd.ntmps37 rfl ?_
  have hr0 := (hr 0 w h0).1
  repeat' (first | refine a_mov ?_ | refine a_asg ?_ | refine a_binN ?_ | refine a_notd ?_ | refine a_notb ?_ | refine a_nilc ?_ | refine a_fa ?_ | refine a_ext ?_ | refine a_lenv ?_ | refine a_lens ?_ | refine a_pick_t ?_ | refine a_pick_f ?_ | refine a_not ?_ | refine a_nilf ?_ | (refine o_nil (hK _ _ ?_); clear hK K) | refine wk_reg ?_ | refine wk_seq fun K hK => ?_ | (refine wk_skip (hK _ _ ?_); clear hK K) | (refine wk_label (hK _ _ ?_); clear hK K) | refine wk_scope ?_ | refine wk_block ?_ | refine wk_cond_t rfl ?_ | refine wk_cond_f rfl ?_ | (refine wk_exit ?_; (repeat (refine blockK_other rfl ?_)); refine blockK_same ?_; try ((repeat ((fail_if_success (refine hK _ _ ?_)); clear hK K)); refine hK _ _ ?_; clear hK K)) | (refine a_bin ?_ ?_ <;> intro _ <;> try (exfalso; omega)) | refine a_ld hl ?_ | (refine a_st hl ?_; clear hl; intro _ hl) | refine a_ix (fun _ => ?_) | refine a_row hr0 ?_ | fail)
  refine wk_loopH [] rfl (fun k : Nat => [(0, yv), (1, .pointer (some ⟨b1, 0, none⟩)), (3, .int .i64 ((l.length : Int) - 1 - (k : Int)))]) (fun k w' => k ≤ l.length ∧ J k w') (fun k => l.length - k) 0 ⟨rfl, rfl, by show Value.int .i64 ((l.length : Int) - 1) = _; congr 1; simp, trivial⟩ ⟨Nat.zero_le _, h0⟩ ?_
  rintro k t1 w1 ⟨hk1, hJ⟩
  obtain ⟨hr1, hs1⟩ := hr k w1 hJ
  by_cases hk : k < l.length
  · obtain ⟨b, o, hpp, hr⟩ := hs1.at (flat_length stuL_len l) (by omega) (by omega)
    have hr := hr.elem stuL_len (k := l.length - 1 - k) (t := l[l.length - 1 - k]'(by omega)) (by simp)
    have he : (l.length : Int) - 1 - (k : Int) = ((l.length - 1 - k : Nat) : Int) := by omega
    repeat' (first | refine a_mov ?_ | refine a_asg ?_ | refine a_binN ?_ | refine a_notd ?_ | refine a_notb ?_ | refine a_nilc ?_ | refine a_fa ?_ | refine a_ext ?_ | refine a_lenv ?_ | refine a_lens ?_ | refine a_pick_t ?_ | refine a_pick_f ?_ | refine a_not ?_ | refine a_nilf ?_ | (refine o_nil (hK _ _ ?_); clear hK K) | refine wk_reg ?_ | refine wk_seq fun K hK => ?_ | (refine wk_skip (hK _ _ ?_); clear hK K) | (refine wk_label (hK _ _ ?_); clear hK K) | refine wk_scope ?_ | refine wk_block ?_ | refine wk_cond_t rfl ?_ | refine wk_cond_f rfl ?_ | (refine wk_exit ?_; (repeat (refine blockK_other rfl ?_)); refine blockK_same ?_; try ((repeat ((fail_if_success (refine hK _ _ ?_)); clear hK K)); refine hK _ _ ?_; clear hK K)) | (refine a_bin ?_ ?_ <;> intro _ <;> try (exfalso; omega)) | refine a_ld hl ?_ | (refine a_st hl ?_; clear hl; intro _ hl) | refine a_ix (fun _ => ?_) | refine a_row hr1 ?_ | refine a_idx (c := 4) (l.length - 1 - k) hpp ?_ | refine a_all hr ?_ | fail)
    refine o_callv (args := #[.int .i64 ((l.length : Int) - 1 - (k : Int)), .agg (stuL l[l.length - 1 - k]).toArray]) rfl rfl rfl (by rw [he]; exact hst k hk w1 hJ) ?_
    rintro _ w2 ⟨rfl, hJ2⟩
    repeat' (first | refine a_mov ?_ | refine a_asg ?_ | refine a_binN ?_ | refine a_notd ?_ | refine a_notb ?_ | refine a_nilc ?_ | refine a_fa ?_ | refine a_ext ?_ | refine a_lenv ?_ | refine a_lens ?_ | refine a_pick_t ?_ | refine a_pick_f ?_ | refine a_not ?_ | refine a_nilf ?_ | (refine o_nil (hK _ _ ?_); clear hK K) | refine wk_reg ?_ | refine wk_seq fun K hK => ?_ | (refine wk_skip (hK _ _ ?_); clear hK K) | (refine wk_label (hK _ _ ?_); clear hK K) | refine wk_scope ?_ | refine wk_block ?_ | refine wk_cond_t rfl ?_ | refine wk_cond_f rfl ?_ | (refine wk_exit ?_; (repeat (refine blockK_other rfl ?_)); refine blockK_same ?_; try ((repeat ((fail_if_success (refine hK _ _ ?_)); clear hK K)); refine hK _ _ ?_; clear hK K)) | (refine a_bin ?_ ?_ <;> intro _ <;> try (exfalso; omega)) | refine a_ld hl ?_ | (refine a_st hl ?_; clear hl; intro _ hl) | refine a_ix (fun _ => ?_) | fail)
    refine o_nil ⟨k + 1, ⟨rfl, rfl, ?_, trivial⟩, rfl, ⟨hk, hJ2⟩, by omega⟩
    show Value.int .i64 ((l.length : Int) - 1 - (k : Int) - 1) = _
    congr 1
    omega
  · obtain rfl : k = l.length := by omega
    repeat' (first | refine a_mov ?_ | refine a_asg ?_ | refine a_binN ?_ | refine a_notd ?_ | refine a_notb ?_ | refine a_nilc ?_ | refine a_fa ?_ | refine a_ext ?_ | refine a_lenv ?_ | refine a_lens ?_ | refine a_pick_t ?_ | refine a_pick_f ?_ | refine a_not ?_ | refine a_nilf ?_ | (refine o_nil (hK _ _ ?_); clear hK K) | refine wk_reg ?_ | refine wk_seq fun K hK => ?_ | (refine wk_skip (hK _ _ ?_); clear hK K) | (refine wk_label (hK _ _ ?_); clear hK K) | refine wk_scope ?_ | refine wk_block ?_ | refine wk_cond_t rfl ?_ | refine wk_cond_f rfl ?_ | (refine wk_exit ?_; (repeat (refine blockK_other rfl ?_)); refine blockK_same ?_; try ((repeat ((fail_if_success (refine hK _ _ ?_)); clear hK K)); refine hK _ _ ?_; clear hK K)) | (refine a_bin ?_ ?_ <;> intro _ <;> try (exfalso; omega)) | refine a_ld hl ?_ | (refine a_st hl ?_; clear hl; intro _ hl) | refine a_ix (fun _ => ?_) | fail)
    exact retQ_tmp0 rfl rfl hJ
end Go.Proofs
