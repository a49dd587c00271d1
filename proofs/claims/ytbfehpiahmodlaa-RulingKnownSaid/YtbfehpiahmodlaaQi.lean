/-
  Rulings: the reference's Count, comparing rulings (second part).
-/
import Derived.Test.YtbfehpiahmodlaaQh
set_option linter.unusedVariables false
set_option linter.unusedSimpArgs false
set_option linter.unnecessarySimpa false
set_option maxRecDepth 10000
namespace Go.Proofs
open Go Go.Pd Go.Lexs Go.Fin Go.Fo
attribute [local irreducible] OpsL W RetQ OpsQ OpsC

/-! ### Comparing -/
set_option maxHeartbeats 4000000 in
theorem ruSame_calls (a b : Rul.Rul) (kva kvb : Value) (w : World) (hka : KA w a.read.kids kva) (hkb : KA w b.read.kids kvb) (sa : Short a.read.kids) (sb : Short b.read.kids) :
    Calls Try.prog 24 #[.agg (rulC a kva).toArray, .agg (rulC b kvb).toArray] w (fun e w' => ∃ x, e = .returned x ∧ x = .bool (decide (a = b)) ∧ Ext w w') := by
  have hdec := Rul.rul_dec a b
  refine calls_of Try.func24 rfl Try.ntmps24 rfl ?_
  refine wk_seq fun K hK => ?_
  refine wk_reg ?_
  refine o_box (LH.start w (fun _ => False)) [str (a).id, str (a).tgt, .int .i64 (a).kind, .int .i64 (a).fro, .int .i64 (a).til, .int .i64 (a).read.op, str (a).read.name, .int .i64 (a).read.cmp, .int .i64 (a).read.num, kva, .int .i64 (a).known, .bool (a).fin, str (a).lifts] rfl rfl rfl ?_
  intro b2 w1 hb2 hl
  refine o_box hl [str (b).id, str (b).tgt, .int .i64 (b).kind, .int .i64 (b).fro, .int .i64 (b).til, .int .i64 (b).read.op, str (b).read.name, .int .i64 (b).read.cmp, .int .i64 (b).read.num, kvb, .int .i64 (b).known, .bool (b).fin, str (b).lifts] rfl rfl rfl ?_
  clear hl
  intro b3 w2 hb3 hl
  have fa : Row w2 b2 5 [.int .i64 (a.read).op, str (a.read).name, .int .i64 (a.read).cmp, .int .i64 (a.read).num, kva] := fun i v hi => hl.rowL (vs := [str (a).id, str (a).tgt, .int .i64 (a).kind, .int .i64 (a).fro, .int .i64 (a).til, .int .i64 (a).read.op, str (a).read.name, .int .i64 (a).read.cmp, .int .i64 (a).read.num, kva, .int .i64 (a).known, .bool (a).fin, str (a).lifts]) 1 5 5 rfl i v hi
  have fb : Row w2 b3 5 [.int .i64 (b.read).op, str (b.read).name, .int .i64 (b.read).cmp, .int .i64 (b.read).num, kvb] := fun i v hi => hl.rowL (vs := [str (b).id, str (b).tgt, .int .i64 (b).kind, .int .i64 (b).fro, .int .i64 (b).til, .int .i64 (b).read.op, str (b).read.name, .int .i64 (b).read.cmp, .int .i64 (b).read.num, kvb, .int .i64 (b).known, .bool (b).fin, str (b).lifts]) 0 5 5 rfl i v hi
  have yes : ∀ w', Ext w2 w' → a = b → Value.bool true = Value.bool (decide (a = b)) ∧ Ext w w' := fun w' h e => ⟨by rw [decide_eq_true e], hl.done.trans h⟩
  have no : ∀ w', Ext w2 w' → a ≠ b → Value.bool false = Value.bool (decide (a = b)) ∧ Ext w w' := fun w' h e => ⟨by rw [decide_eq_false e], hl.done.trans h⟩
  have hcall := refSame_calls a.read b.read w2 _ _ kva kvb (hka.ext hl.done) (hkb.ext hl.done) sa.1 sb.1 sa.2 sb.2
  by_cases hr : a.read = b.read
  all_goals first | simp only [decide_eq_true hr] at hcall | simp only [decide_eq_false hr] at hcall
  all_goals repeat' (first | refine a_mov ?_ | refine a_asg ?_ | refine a_binN ?_ | refine a_notd ?_ | refine a_notb ?_ | refine a_nilc ?_ | refine a_fa ?_ | refine a_ext ?_ | refine a_lenv ?_ | refine a_lens ?_ | refine a_pick_t ?_ | refine a_pick_f ?_ | refine a_not ?_ | refine a_nilf ?_ | (refine o_nil (hK _ _ ?_); clear hK K) | refine wk_reg ?_ | refine wk_seq fun K hK => ?_ | (refine wk_skip (hK _ _ ?_); clear hK K) | (refine wk_label (hK _ _ ?_); clear hK K) | refine wk_scope ?_ | refine wk_block ?_ | refine wk_cond_t rfl ?_ | refine wk_cond_f rfl ?_ | (refine wk_exit ?_; (repeat (refine blockK_other rfl ?_)); refine blockK_same ?_; try ((repeat ((fail_if_success (refine hK _ _ ?_)); clear hK K)); refine hK _ _ ?_; clear hK K)) | (refine a_bin ?_ ?_ <;> intro _ <;> try (exfalso; omega)) | refine a_ld hl ?_ | (refine a_st hl ?_; clear hl; intro _ hl) | refine a_ix (fun _ => ?_) | (refine o_eqsT (a := a.id) (b := b.id) rfl rfl rfl ?_ ?_ <;> intro _) | (refine o_eqsT (a := a.tgt) (b := b.tgt) rfl rfl rfl ?_ ?_ <;> intro _) | refine a_all fa ?_ | refine a_all fb ?_)
  all_goals first
    | (refine wk_ret (retQ_tmp1 Try.results24 (by decide) rfl (by conv => lhs; whnf) ?_)
       refine no _ (.refl _ _) fun e => ?_
       obtain ⟨e1, e2, e3, e4, e5, e6, e7, e8, e9⟩ := hdec.1 e
       first | omega | contradiction)
    | (refine a_fn hcall ?_
       rintro _ w3 ⟨rfl, he3⟩
       replace hl := hl.ext he3)
  · cases hfa : a.fin <;> cases hfb : b.fin
    all_goals rw [hfa, hfb] at hl
    all_goals repeat' (first | refine a_mov ?_ | refine a_asg ?_ | refine a_binN ?_ | refine a_notd ?_ | refine a_notb ?_ | refine a_nilc ?_ | refine a_fa ?_ | refine a_ext ?_ | refine a_lenv ?_ | refine a_lens ?_ | refine a_pick_t ?_ | refine a_pick_f ?_ | refine a_not ?_ | refine a_nilf ?_ | (refine o_nil (hK _ _ ?_); clear hK K) | refine wk_reg ?_ | refine wk_seq fun K hK => ?_ | (refine wk_skip (hK _ _ ?_); clear hK K) | (refine wk_label (hK _ _ ?_); clear hK K) | refine wk_scope ?_ | refine wk_block ?_ | refine wk_cond_t rfl ?_ | refine wk_cond_f rfl ?_ | (refine wk_exit ?_; (repeat (refine blockK_other rfl ?_)); refine blockK_same ?_; try ((repeat ((fail_if_success (refine hK _ _ ?_)); clear hK K)); refine hK _ _ ?_; clear hK K)) | (refine a_bin ?_ ?_ <;> intro _ <;> try (exfalso; omega)) | refine a_ld hl ?_ | (refine a_st hl ?_; clear hl; intro _ hl) | refine a_ix (fun _ => ?_) | refine o_eqB rfl rfl rfl rfl ?_ | (refine o_eqsT (a := a.lifts) (b := b.lifts) rfl rfl rfl ?_ ?_ <;> intro _))
    all_goals (refine wk_ret (retQ_tmp1 Try.results24 (by decide) rfl (by conv => lhs; whnf) ?_))
    all_goals first
      | (refine yes _ he3 (hdec.2 ⟨?_, ?_, ?_, ?_, ?_, hr, ?_, ?_, ?_⟩) <;> first | assumption | (rw [hfa, hfb]))
      | (refine no _ he3 fun e => ?_
         obtain ⟨e1, e2, e3, e4, e5, e6, e7, e8, e9⟩ := hdec.1 e
         first | omega | contradiction | (rw [hfa, hfb] at e8; cases e8))
  · repeat' (first | refine a_mov ?_ | refine a_asg ?_ | refine a_binN ?_ | refine a_notd ?_ | refine a_notb ?_ | refine a_nilc ?_ | refine a_fa ?_ | refine a_ext ?_ | refine a_lenv ?_ | refine a_lens ?_ | refine a_pick_t ?_ | refine a_pick_f ?_ | refine a_not ?_ | refine a_nilf ?_ | (refine o_nil (hK _ _ ?_); clear hK K) | refine wk_reg ?_ | refine wk_seq fun K hK => ?_ | (refine wk_skip (hK _ _ ?_); clear hK K) | (refine wk_label (hK _ _ ?_); clear hK K) | refine wk_scope ?_ | refine wk_block ?_ | refine wk_cond_t rfl ?_ | refine wk_cond_f rfl ?_ | (refine wk_exit ?_; (repeat (refine blockK_other rfl ?_)); refine blockK_same ?_; try ((repeat ((fail_if_success (refine hK _ _ ?_)); clear hK K)); refine hK _ _ ?_; clear hK K)) | (refine a_bin ?_ ?_ <;> intro _ <;> try (exfalso; omega)) | refine a_ld hl ?_ | (refine a_st hl ?_; clear hl; intro _ hl) | refine a_ix (fun _ => ?_) | fail)
    refine wk_ret (retQ_tmp1 Try.results24 (by decide) rfl (by conv => lhs; whnf) ?_)
    exact no _ he3 fun e => hr (hdec.1 e).2.2.2.2.2.1
end Go.Proofs
