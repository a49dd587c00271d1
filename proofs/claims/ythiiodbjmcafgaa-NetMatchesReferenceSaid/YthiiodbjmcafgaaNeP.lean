/-
  A network: the chapter's examples (head).
-/
import Derived.Test.YthiiodbjmcafgaaNeJ
import Derived.Test.YthiiodbjmcafgaaNeL
import Derived.Test.YthiiodbjmcafgaaNeO
set_option linter.unusedVariables false
set_option linter.unusedSimpArgs false
set_option linter.unnecessarySimpa false
set_option maxRecDepth 10000
namespace Go.Proofs
open Go Go.Pd Go.Ne
attribute [local irreducible] OpsL W RetQ OpsQ OpsC

theorem put_nil (i : Nat) (t : Tx) (w : World) : Calls Try.prog 13 #[.pointer none, .int .i64 (i : Int), str t] w (fun e w' => ∃ v, e = .returned v ∧ v = .int .i64 1 ∧ Ext w w') := by
  refine calls_of Try.func13 rfl Try.ntmps13 rfl ?_
  repeat' (first | refine a_mov ?_ | refine a_asg ?_ | refine a_binN ?_ | refine a_notd ?_ | refine a_notb ?_ | refine a_nilc ?_ | refine a_fa ?_ | refine a_ext ?_ | refine a_lenv ?_ | refine a_lens ?_ | refine a_pick_t ?_ | refine a_pick_f ?_ | refine a_not ?_ | refine a_nilf ?_ | (refine o_nil (hK _ _ ?_); clear hK K) | refine wk_reg ?_ | refine wk_seq fun K hK => ?_ | (refine wk_skip (hK _ _ ?_); clear hK K) | (refine wk_label (hK _ _ ?_); clear hK K) | refine wk_scope ?_ | refine wk_block ?_ | refine wk_cond_t rfl ?_ | refine wk_cond_f rfl ?_ | (refine wk_exit ?_; (repeat (refine blockK_other rfl ?_)); refine blockK_same ?_; try ((repeat ((fail_if_success (refine hK _ _ ?_)); clear hK K)); refine hK _ _ ?_; clear hK K)) | (refine a_bin ?_ ?_ <;> intro _ <;> try (exfalso; omega)) | refine a_ld hl ?_ | (refine a_st hl ?_; clear hl; intro _ hl) | refine a_ix (fun _ => ?_) | fail)
  refine o_buildSlice (LH.start w (fun _ => False)) [.int .i64 (i : Int)] rfl rfl (by kernel_rfl) ?_
  intro b1 w1 hb1 hl1
  refine a_fn there_nil ?_
  rintro _ w2 ⟨rfl, he2⟩
  repeat' (first | refine a_mov ?_ | refine a_asg ?_ | refine a_binN ?_ | refine a_notd ?_ | refine a_notb ?_ | refine a_nilc ?_ | refine a_fa ?_ | refine a_ext ?_ | refine a_lenv ?_ | refine a_lens ?_ | refine a_pick_t ?_ | refine a_pick_f ?_ | refine a_not ?_ | refine a_nilf ?_ | (refine o_nil (hK _ _ ?_); clear hK K) | refine wk_reg ?_ | refine wk_seq fun K hK => ?_ | (refine wk_skip (hK _ _ ?_); clear hK K) | (refine wk_label (hK _ _ ?_); clear hK K) | refine wk_scope ?_ | refine wk_block ?_ | refine wk_cond_t rfl ?_ | refine wk_cond_f rfl ?_ | (refine wk_exit ?_; (repeat (refine blockK_other rfl ?_)); refine blockK_same ?_; try ((repeat ((fail_if_success (refine hK _ _ ?_)); clear hK K)); refine hK _ _ ?_; clear hK K)) | (refine a_bin ?_ ?_ <;> intro _ <;> try (exfalso; omega)) | refine a_ld hl ?_ | (refine a_st hl ?_; clear hl; intro _ hl) | refine a_ix (fun _ => ?_) | fail)
  refine wk_ret (retQ_tmp1 Try.results13 (by decide) rfl (by conv => lhs; whnf) ?_)
  exact ⟨rfl, hl1.done.trans he2⟩
theorem has_nil (i : Nat) (w : World) : Calls Try.prog 22 #[.pointer none, .int .i64 (i : Int)] w (fun e w' => ∃ v, e = .returned v ∧ v = .slice none 0 0 ∧ Ext w w') := by
  refine calls_of Try.func22 rfl Try.ntmps22 rfl ?_
  repeat' (first | refine a_mov ?_ | refine a_asg ?_ | refine a_binN ?_ | refine a_notd ?_ | refine a_notb ?_ | refine a_nilc ?_ | refine a_fa ?_ | refine a_ext ?_ | refine a_lenv ?_ | refine a_lens ?_ | refine a_pick_t ?_ | refine a_pick_f ?_ | refine a_not ?_ | refine a_nilf ?_ | (refine o_nil (hK _ _ ?_); clear hK K) | refine wk_reg ?_ | refine wk_seq fun K hK => ?_ | (refine wk_skip (hK _ _ ?_); clear hK K) | (refine wk_label (hK _ _ ?_); clear hK K) | refine wk_scope ?_ | refine wk_block ?_ | refine wk_cond_t rfl ?_ | refine wk_cond_f rfl ?_ | (refine wk_exit ?_; (repeat (refine blockK_other rfl ?_)); refine blockK_same ?_; try ((repeat ((fail_if_success (refine hK _ _ ?_)); clear hK K)); refine hK _ _ ?_; clear hK K)) | (refine a_bin ?_ ?_ <;> intro _ <;> try (exfalso; omega)) | refine a_ld hl ?_ | (refine a_st hl ?_; clear hl; intro _ hl) | refine a_ix (fun _ => ?_) | fail)
  refine o_buildSlice (LH.start w (fun _ => False)) [.int .i64 (i : Int)] rfl rfl (by kernel_rfl) ?_
  intro b1 w1 hb1 hl1
  refine a_fn there_nil ?_
  rintro _ w2 ⟨rfl, he2⟩
  repeat' (first | refine a_mov ?_ | refine a_asg ?_ | refine a_binN ?_ | refine a_notd ?_ | refine a_notb ?_ | refine a_nilc ?_ | refine a_fa ?_ | refine a_ext ?_ | refine a_lenv ?_ | refine a_lens ?_ | refine a_pick_t ?_ | refine a_pick_f ?_ | refine a_not ?_ | refine a_nilf ?_ | (refine o_nil (hK _ _ ?_); clear hK K) | refine wk_reg ?_ | refine wk_seq fun K hK => ?_ | (refine wk_skip (hK _ _ ?_); clear hK K) | (refine wk_label (hK _ _ ?_); clear hK K) | refine wk_scope ?_ | refine wk_block ?_ | refine wk_cond_t rfl ?_ | refine wk_cond_f rfl ?_ | (refine wk_exit ?_; (repeat (refine blockK_other rfl ?_)); refine blockK_same ?_; try ((repeat ((fail_if_success (refine hK _ _ ?_)); clear hK K)); refine hK _ _ ?_; clear hK K)) | (refine a_bin ?_ ?_ <;> intro _ <;> try (exfalso; omega)) | refine a_ld hl ?_ | (refine a_st hl ?_; clear hl; intro _ hl) | refine a_ix (fun _ => ?_) | fail)
  refine wk_ret (retQ_tmp1 Try.results22 (by decide) rfl (by conv => lhs; whnf) ?_)
  exact ⟨rfl, hl1.done.trans he2⟩

/-- A net among what a caller has. -/
def Has1 (w0 : World) (s : Net) (p : Nat) (w : World) : Prop := Bd s ∧ ∃ bl, LH w0 (fun _ => False) w bl ∧ NetR (fun _ => False) s p bl w
theorem Has1.ext {w0 : World} {s : Net} {p : Nat} {w w' : World} (h : Has1 w0 s p w) (e : Ext w w') : Has1 w0 s p w' := by
  obtain ⟨h0, bl, h1, h2⟩ := h
  exact ⟨h0, bl, h1.ext e, h2.ext e⟩
theorem Has1.done {w0 : World} {s : Net} {p : Nat} {w : World} (h : Has1 w0 s p w) : Ext w0 w := by
  obtain ⟨-, bl, h1, -⟩ := h
  exact h1.done
theorem Has1.put {w0 : World} {s : Net} {p : Nat} {w : World} (h : Has1 w0 s p w) (i : Nat) (t : Tx) (ht : t.length ≤ 1000000) : Calls Try.prog 13 #[.pointer (some ⟨p, 0, none⟩), .int .i64 (i : Int), str t] w (fun e w' => ∃ v, e = .returned v ∧ v = .int .i64 (putE s i t : Int) ∧ Has1 w0 (put s i t) p w') := by
  obtain ⟨h0, bl, h1, h2⟩ := h
  refine (put_calls h2 i t (fun a => Nat.le_trans (h0.len a) (by omega)) (by omega)).mono ?_
  rintro e w' ⟨v, rfl, rfl, bl', h3, h4⟩
  exact ⟨_, rfl, rfl, h0.put i t, bl', h1.bk h3, h4⟩
theorem Has1.send {w0 : World} {s : Net} {p : Nat} {w : World} (h : Has1 w0 s p w) (a b : Nat) : Calls Try.prog 15 #[.pointer (some ⟨p, 0, none⟩), .int .i64 (a : Int), .int .i64 (b : Int)] w (fun e w' => ∃ v, e = .returned v ∧ v = .int .i64 (sendE s a b : Int) ∧ Has1 w0 (send s a b) p w') := by
  obtain ⟨h0, bl, h1, h2⟩ := h
  refine (send_calls h2 a b (fun a => Nat.le_trans (h0.len a) (by omega)) h0.q).mono ?_
  rintro e w' ⟨v, rfl, rfl, bl', h3, h4⟩
  exact ⟨_, rfl, rfl, h0.send a b, bl', h1.bk h3, h4⟩
theorem Has1.deliver {w0 : World} {s : Net} {p : Nat} {w : World} (h : Has1 w0 s p w) (a b : Nat) (lost again : Bool) : Calls Try.prog 17 #[.pointer (some ⟨p, 0, none⟩), .int .i64 (a : Int), .int .i64 (b : Int), .bool lost, .bool again] w (fun e w' => ∃ v, e = .returned v ∧ v = .bool (delivB s a b) ∧ Has1 w0 (deliver s a b lost again) p w') := by
  obtain ⟨h0, bl, h1, h2⟩ := h
  refine (deliver_calls h2 a b lost again (fun a => Nat.le_trans (h0.len a) (by omega)) (fun x y m hm => Nat.le_trans (h0.m x y m hm) (by omega))).mono ?_
  rintro e w' ⟨v, rfl, rfl, bl', h3, h4⟩
  exact ⟨_, rfl, rfl, h0.deliver a b lost again, bl', h1.bk h3, h4⟩
theorem Has1.cut {w0 : World} {s : Net} {p : Nat} {w : World} (h : Has1 w0 s p w) (a b : Nat) (off : Bool) : Calls Try.prog 19 #[.pointer (some ⟨p, 0, none⟩), .int .i64 (a : Int), .int .i64 (b : Int), .bool off] w (fun e w' => ∃ v, e = .returned v ∧ v = .int .i64 (setE s a b : Int) ∧ Has1 w0 (setCut s a b off) p w') := by
  obtain ⟨h0, bl, h1, h2⟩ := h
  refine (cut_calls h2 a b off).mono ?_
  rintro e w' ⟨v, rfl, rfl, bl', h3, h4⟩
  exact ⟨_, rfl, rfl, h0.setCut a b off, bl', h1.bk h3, h4⟩
theorem Has1.has {w0 : World} {s : Net} {p : Nat} {w : World} (h : Has1 w0 s p w) (i : Nat) : Calls Try.prog 22 #[.pointer (some ⟨p, 0, none⟩), .int .i64 (i : Int)] w (fun e w' => ∃ v, e = .returned v ∧ Fresh w w' v (has s i)) := by
  obtain ⟨h0, bl, h1, h2⟩ := h
  exact has_calls h2 i (fun a => Nat.le_trans (h0.len a) (by omega))
theorem Has1.lacks {w0 : World} {s : Net} {p : Nat} {w : World} (h : Has1 w0 s p w) (a b : Nat) : Calls Try.prog 24 #[.pointer (some ⟨p, 0, none⟩), .int .i64 (a : Int), .int .i64 (b : Int)] w (fun e w' => ∃ v, e = .returned v ∧ Fresh w w' v (lacks s a b)) := by
  obtain ⟨h0, bl, h1, h2⟩ := h
  exact lacks_calls h2 a b (fun a => Nat.le_trans (h0.len a) (by omega))
theorem new1_calls (n : Nat) (hn : 1 ≤ n ∧ n ≤ 8) (w : World) : Calls Try.prog 11 #[.int .i64 (n : Int)] w (fun e w' => ∃ v, e = .returned v ∧ ∃ p, v = .tuple #[.pointer (some ⟨p, 0, none⟩), .int .i64 0] ∧ Has1 w (Ne.new n) p w') := by
  refine (new_calls n hn w).mono ?_
  rintro e w' ⟨v, rfl, p, rfl, bl, h1, h2⟩
  exact ⟨_, rfl, p, rfl, .new n, bl, h1, h2⟩
end Go.Proofs
