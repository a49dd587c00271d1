/-
  Conditions of commencement: searches with function values.
-/
import Derived.Test.YtebaoilkpedppaaDoorStF
set_option linter.unusedVariables false
set_option linter.unusedSimpArgs false
set_option linter.unnecessarySimpa false
set_option maxRecDepth 10000
namespace Go.Pd
open Go Go.Proofs
variable {P : Program} {r : Option Nat} {n : Nat} {ops : Array Oper} {K : St → World → Prop} {X : List PanicEntry → St → World → Prop} {l : List Oper} {s : St} {w : World} {d : Nat} {ty : TypeId} {p : String} {af : Array Edge} {g : Option (Nat × Bool)}
/-- A call of a function value, with what is bound before and behind. -/
def CallF (P : Program) (fv : Value) (args : Array Value) (w : World) (R : Value → World → Prop) : Prop :=
  ∃ f fi ca, fv = .func (.func f) fi ca ∧ (∀ w, (callFunc f (fi ++ args ++ ca)).run P w = .ok (.enter f (fi ++ args ++ ca)) w) ∧ Calls P f (fi ++ args ++ ca) w (fun e w' => ∃ v, e = .returned v ∧ R v w')
theorem a_fw {x : Operand} {xs : Array Operand} {ats : Array TypeId} {fv : Value} {args : Array Value} {R : Value → World → Prop} (hc : CallF P fv args w R) (hk : ∀ v w', R v w' → OpsL P r n ops K X l (s.set d v) w') (hw : Region.wanted ⟨some d, .call ⟨.value x, xs, ats⟩, ty, p, af, g⟩ (yieldedE ops n s) = true := by rfl)
    (hx : rd n s x = fv := by rfl) (hargs : xs.toList.map (rd n s) = args.toList := by rfl) : OpsL P r n ops K X (⟨some d, .call ⟨.value x, xs, ats⟩, ty, p, af, g⟩ :: l) s w := by
  refine o_wanted hw ?_
  unfold OpW
  rw [Oper.semAt_eq _ _ _ (fun c e => by cases e)]
  have hargs' : xs.map (rd n s) = args := Array.ext' (by simpa using hargs)
  simp only [execOp, resolve, hargs', hx]
  obtain ⟨f, fi, ca, rfl, h2, h3⟩ := hc
  rw [sem_bind (a := { target := .fn (.func f) ca, args := fi ++ args }) (w' := w) rfl]
  simp only [invoke]
  rw [h2 w]
  exact Calls.mono h3 fun e w' ⟨v, he, hR⟩ => by subst he; exact hk v w' hR
end Go.Pd
namespace Go.Proofs
open Go Go.Pd Go.Sta
attribute [local irreducible] OpsL W RetQ OpsQ OpsC
theorem any_take_succ {α : Type} (q : α → Bool) {l : List α} {i : Nat} (h : i < l.length) : (l.take (i + 1)).any q = ((l.take i).any q || q l[i]) := by
  rw [List.take_add_one, List.getElem?_eq_getElem h]
  simp only [List.any_append, Option.toList_some, List.any_cons, List.any_nil, Bool.or_false]
theorem hapIdx_calls {l : List Hap} {q : Hap → Bool} {fv hv : Value} {w : World} (hH : Sl w hv 4 (l.flatMap hapL)) (hlen : l.length ≤ 140737488351232) (hf : ∀ x ∈ l, ∀ w1, Ext w w1 → CallF Tryd.prog fv #[.agg (hapL x).toArray] w1 (fun v w2 => v = .bool (q x) ∧ Ext w1 w2)) :
    Calls Tryd.prog 59 #[hv, fv] w (fun e w' => ∃ v, e = .returned v ∧ ∃ z, v = .int .i64 z ∧ decide (0 ≤ z) = l.any q ∧ Ext w w') := by
  obtain ⟨ka, kc, rfl, hp⟩ : ∃ a c, hv = .slice a l.length c ∧ ∀ i, i < l.length → ∃ b o, a = some ⟨b, o, none⟩ ∧ ∀ w', Ext w w' → Row w' b (o + i * 4) (hapL (l.getD i ⟨false, [], 0, 0⟩)) := by
    by_cases h0 : 0 < l.length
    · obtain ⟨a', c', h1, h2⟩ := hH.shape (flat_length hapL_len l) (by omega)
      refine ⟨a', c', h1, fun i hi => ?_⟩
      subst h1
      obtain ⟨b, o, hp, hr⟩ := hH.at (flat_length hapL_len l) (by omega) (by omega)
      refine ⟨b, o, hp, fun w' hw' => (hr.elem hapL_len (k := i) ?_).ext hw'⟩
      simp [hi]
    · obtain ⟨a', c', h1, h2⟩ := hH.shape (flat_length hapL_len l) (by omega)
      exact ⟨a', c', h1, fun i hi => absurd hi (by omega)⟩
  refine calls_of Tryd.func59 rfl Tryd.ntmps59 rfl ?_
  repeat' (first | refine a_mov ?_ | refine a_asg ?_ | refine a_binN ?_ | refine a_notd ?_ | refine a_notb ?_ | refine a_nilc ?_ | refine a_fa ?_ | refine a_ext ?_ | refine a_lenv ?_ | refine a_lens ?_ | refine a_pick_t ?_ | refine a_pick_f ?_ | refine a_not ?_ | refine a_nilf ?_ | (refine o_nil (hK _ _ ?_); clear hK K) | refine wk_reg ?_ | refine wk_seq fun K hK => ?_ | (refine wk_skip (hK _ _ ?_); clear hK K) | (refine wk_label (hK _ _ ?_); clear hK K) | refine wk_scope ?_ | refine wk_block ?_ | refine wk_cond_t rfl ?_ | refine wk_cond_f rfl ?_ | (refine wk_exit ?_; (repeat (refine blockK_other rfl ?_)); refine blockK_same ?_; try ((repeat ((fail_if_success (refine hK _ _ ?_)); clear hK K)); refine hK _ _ ?_; clear hK K)) | (refine a_bin ?_ ?_ <;> intro _ <;> try (exfalso; omega)) | refine a_ld hl ?_ | (refine a_st hl ?_; clear hl; intro _ hl) | refine a_ix (fun _ => ?_) | fail)
  refine wk_loopH [] rfl (fun i : Nat => [(0, .slice ka l.length kc), (1, fv), (7, .int .i64 (l.length : Int)), (8, .int .i64 (i : Int))])
    (fun i w' => (i ≤ l.length ∧ (l.take i).any q = false) ∧ Ext w w') (fun i => l.length - i) 0 ⟨rfl, rfl, rfl, rfl, trivial⟩ ⟨⟨Nat.zero_le _, by simp⟩, (LH.start w (fun _ => False)).done⟩ ?_
  rintro i t1 w1 ⟨⟨hi, hpre⟩, hx1⟩
  by_cases hi1 : i < l.length
  · obtain ⟨b, o, hpp, hr⟩ := hp i hi1
    have hr := hr w1 hx1
    have he : l.getD i ⟨false, [], 0, 0⟩ = l[i] := by simp [hi1]
    rw [he] at hr
    have hmem := List.getElem_mem hi1
    repeat' (first | refine a_mov ?_ | refine a_asg ?_ | refine a_binN ?_ | refine a_notd ?_ | refine a_notb ?_ | refine a_nilc ?_ | refine a_fa ?_ | refine a_ext ?_ | refine a_lenv ?_ | refine a_lens ?_ | refine a_pick_t ?_ | refine a_pick_f ?_ | refine a_not ?_ | refine a_nilf ?_ | (refine o_nil (hK _ _ ?_); clear hK K) | refine wk_reg ?_ | refine wk_seq fun K hK => ?_ | (refine wk_skip (hK _ _ ?_); clear hK K) | (refine wk_label (hK _ _ ?_); clear hK K) | refine wk_scope ?_ | refine wk_block ?_ | refine wk_cond_t rfl ?_ | refine wk_cond_f rfl ?_ | (refine wk_exit ?_; (repeat (refine blockK_other rfl ?_)); refine blockK_same ?_; try ((repeat ((fail_if_success (refine hK _ _ ?_)); clear hK K)); refine hK _ _ ?_; clear hK K)) | (refine a_bin ?_ ?_ <;> intro _ <;> try (exfalso; omega)) | refine a_ld hl ?_ | (refine a_st hl ?_; clear hl; intro _ hl) | refine a_ix (fun _ => ?_) | refine a_idx (c := 4) i hpp ?_ | refine a_all hr ?_ | fail)
    refine a_fw (hf _ hmem w1 hx1) ?_
    rintro _ w2 ⟨rfl, hx2⟩
    have hs := any_take_succ q hi1
    rw [hpre, Bool.false_or] at hs
    cases hq : q l[i]
    · rw [hq] at hs
      repeat' (first | refine a_mov ?_ | refine a_asg ?_ | refine a_binN ?_ | refine a_notd ?_ | refine a_notb ?_ | refine a_nilc ?_ | refine a_fa ?_ | refine a_ext ?_ | refine a_lenv ?_ | refine a_lens ?_ | refine a_pick_t ?_ | refine a_pick_f ?_ | refine a_not ?_ | refine a_nilf ?_ | (refine o_nil (hK _ _ ?_); clear hK K) | refine wk_reg ?_ | refine wk_seq fun K hK => ?_ | (refine wk_skip (hK _ _ ?_); clear hK K) | (refine wk_label (hK _ _ ?_); clear hK K) | refine wk_scope ?_ | refine wk_block ?_ | refine wk_cond_t rfl ?_ | refine wk_cond_f rfl ?_ | (refine wk_exit ?_; (repeat (refine blockK_other rfl ?_)); refine blockK_same ?_; try ((repeat ((fail_if_success (refine hK _ _ ?_)); clear hK K)); refine hK _ _ ?_; clear hK K)) | (refine a_bin ?_ ?_ <;> intro _ <;> try (exfalso; omega)) | refine a_ld hl ?_ | (refine a_st hl ?_; clear hl; intro _ hl) | refine a_ix (fun _ => ?_) | fail)
      exact o_nil ⟨i + 1, ⟨rfl, rfl, rfl, rfl, trivial⟩, rfl, ⟨⟨hi1, hs⟩, hx1.trans hx2⟩, by omega⟩
    · repeat' (first | refine a_mov ?_ | refine a_asg ?_ | refine a_binN ?_ | refine a_notd ?_ | refine a_notb ?_ | refine a_nilc ?_ | refine a_fa ?_ | refine a_ext ?_ | refine a_lenv ?_ | refine a_lens ?_ | refine a_pick_t ?_ | refine a_pick_f ?_ | refine a_not ?_ | refine a_nilf ?_ | (refine o_nil (hK _ _ ?_); clear hK K) | refine wk_reg ?_ | refine wk_seq fun K hK => ?_ | (refine wk_skip (hK _ _ ?_); clear hK K) | (refine wk_label (hK _ _ ?_); clear hK K) | refine wk_scope ?_ | refine wk_block ?_ | refine wk_cond_t rfl ?_ | refine wk_cond_f rfl ?_ | (refine wk_exit ?_; (repeat (refine blockK_other rfl ?_)); refine blockK_same ?_; try ((repeat ((fail_if_success (refine hK _ _ ?_)); clear hK K)); refine hK _ _ ?_; clear hK K)) | (refine a_bin ?_ ?_ <;> intro _ <;> try (exfalso; omega)) | refine a_ld hl ?_ | (refine a_st hl ?_; clear hl; intro _ hl) | refine a_ix (fun _ => ?_) | fail)
      refine wk_ret (retQ_tmp1 Tryd.results59 (by decide) rfl (by conv => lhs; whnf) ?_)
      refine ⟨(i : Int), rfl, ?_, hx1.trans hx2⟩
      rw [decide_eq_true (by omega)]
      exact (List.any_eq_true.2 ⟨_, hmem, hq⟩).symm
  · obtain rfl : i = l.length := by omega
    rw [List.take_length] at hpre
    repeat' (first | refine a_mov ?_ | refine a_asg ?_ | refine a_binN ?_ | refine a_notd ?_ | refine a_notb ?_ | refine a_nilc ?_ | refine a_fa ?_ | refine a_ext ?_ | refine a_lenv ?_ | refine a_lens ?_ | refine a_pick_t ?_ | refine a_pick_f ?_ | refine a_not ?_ | refine a_nilf ?_ | (refine o_nil (hK _ _ ?_); clear hK K) | refine wk_reg ?_ | refine wk_seq fun K hK => ?_ | (refine wk_skip (hK _ _ ?_); clear hK K) | (refine wk_label (hK _ _ ?_); clear hK K) | refine wk_scope ?_ | refine wk_block ?_ | refine wk_cond_t rfl ?_ | refine wk_cond_f rfl ?_ | (refine wk_exit ?_; (repeat (refine blockK_other rfl ?_)); refine blockK_same ?_; try ((repeat ((fail_if_success (refine hK _ _ ?_)); clear hK K)); refine hK _ _ ?_; clear hK K)) | (refine a_bin ?_ ?_ <;> intro _ <;> try (exfalso; omega)) | refine a_ld hl ?_ | (refine a_st hl ?_; clear hl; intro _ hl) | refine a_ix (fun _ => ?_) | fail)
    refine wk_ret (retQ_tmp1 Tryd.results59 (by decide) rfl (by conv => lhs; whnf) ?_)
    exact ⟨-1, rfl, by rw [hpre]; rfl, hx1⟩
theorem hapAny_calls {l : List Hap} {q : Hap → Bool} {fv hv : Value} {w : World} (hH : Sl w hv 4 (l.flatMap hapL)) (hlen : l.length ≤ 140737488351232) (hf : ∀ x ∈ l, ∀ w1, Ext w w1 → CallF Tryd.prog fv #[.agg (hapL x).toArray] w1 (fun v w2 => v = .bool (q x) ∧ Ext w1 w2)) :
    Calls Tryd.prog 39 #[hv, fv] w (fun e w' => ∃ v, e = .returned v ∧ v = .bool (l.any q) ∧ Ext w w') := by
  refine calls_of Tryd.func39 rfl Tryd.ntmps39 rfl ?_
  repeat' (first | refine a_mov ?_ | refine a_asg ?_ | refine a_binN ?_ | refine a_notd ?_ | refine a_notb ?_ | refine a_nilc ?_ | refine a_fa ?_ | refine a_ext ?_ | refine a_lenv ?_ | refine a_lens ?_ | refine a_pick_t ?_ | refine a_pick_f ?_ | refine a_not ?_ | refine a_nilf ?_ | (refine o_nil (hK _ _ ?_); clear hK K) | refine wk_reg ?_ | refine wk_seq fun K hK => ?_ | (refine wk_skip (hK _ _ ?_); clear hK K) | (refine wk_label (hK _ _ ?_); clear hK K) | refine wk_scope ?_ | refine wk_block ?_ | refine wk_cond_t rfl ?_ | refine wk_cond_f rfl ?_ | (refine wk_exit ?_; (repeat (refine blockK_other rfl ?_)); refine blockK_same ?_; try ((repeat ((fail_if_success (refine hK _ _ ?_)); clear hK K)); refine hK _ _ ?_; clear hK K)) | (refine a_bin ?_ ?_ <;> intro _ <;> try (exfalso; omega)) | refine a_ld hl ?_ | (refine a_st hl ?_; clear hl; intro _ hl) | refine a_ix (fun _ => ?_) | fail)
  refine a_fn (hapIdx_calls hH hlen hf) ?_
  rintro _ w2 ⟨z, rfl, hz, hx⟩
  by_cases h0 : 0 ≤ z
  · repeat' (first | refine a_mov ?_ | refine a_asg ?_ | refine a_binN ?_ | refine a_notd ?_ | refine a_notb ?_ | refine a_nilc ?_ | refine a_fa ?_ | refine a_ext ?_ | refine a_lenv ?_ | refine a_lens ?_ | refine a_pick_t ?_ | refine a_pick_f ?_ | refine a_not ?_ | refine a_nilf ?_ | (refine o_nil (hK _ _ ?_); clear hK K) | refine wk_reg ?_ | refine wk_seq fun K hK => ?_ | (refine wk_skip (hK _ _ ?_); clear hK K) | (refine wk_label (hK _ _ ?_); clear hK K) | refine wk_scope ?_ | refine wk_block ?_ | refine wk_cond_t rfl ?_ | refine wk_cond_f rfl ?_ | (refine wk_exit ?_; (repeat (refine blockK_other rfl ?_)); refine blockK_same ?_; try ((repeat ((fail_if_success (refine hK _ _ ?_)); clear hK K)); refine hK _ _ ?_; clear hK K)) | (refine a_bin ?_ ?_ <;> intro _ <;> try (exfalso; omega)) | refine a_ld hl ?_ | (refine a_st hl ?_; clear hl; intro _ hl) | refine a_ix (fun _ => ?_) | fail)
    refine wk_ret (retQ_tmp1 Tryd.results39 (by decide) rfl (by conv => lhs; whnf) ?_)
    exact ⟨by rw [← hz, decide_eq_true h0], hx⟩
  · repeat' (first | refine a_mov ?_ | refine a_asg ?_ | refine a_binN ?_ | refine a_notd ?_ | refine a_notb ?_ | refine a_nilc ?_ | refine a_fa ?_ | refine a_ext ?_ | refine a_lenv ?_ | refine a_lens ?_ | refine a_pick_t ?_ | refine a_pick_f ?_ | refine a_not ?_ | refine a_nilf ?_ | (refine o_nil (hK _ _ ?_); clear hK K) | refine wk_reg ?_ | refine wk_seq fun K hK => ?_ | (refine wk_skip (hK _ _ ?_); clear hK K) | (refine wk_label (hK _ _ ?_); clear hK K) | refine wk_scope ?_ | refine wk_block ?_ | refine wk_cond_t rfl ?_ | refine wk_cond_f rfl ?_ | (refine wk_exit ?_; (repeat (refine blockK_other rfl ?_)); refine blockK_same ?_; try ((repeat ((fail_if_success (refine hK _ _ ?_)); clear hK K)); refine hK _ _ ?_; clear hK K)) | (refine a_bin ?_ ?_ <;> intro _ <;> try (exfalso; omega)) | refine a_ld hl ?_ | (refine a_st hl ?_; clear hl; intro _ hl) | refine a_ix (fun _ => ?_) | fail)
    refine wk_ret (retQ_tmp1 Tryd.results39 (by decide) rfl (by conv => lhs; whnf) ?_)
    exact ⟨by rw [← hz, decide_eq_false h0], hx⟩
theorem staIdx_calls {l : List Sn} {q : Sn → Bool} {fv kv : Value} {w : World} (hks : KA w l kv) (hlen : l.length ≤ 140737488351232) (hf : ∀ x ∈ l, ∀ w1 kv1, Ext w w1 → KA w1 x.kids kv1 → CallF Tryd.prog fv #[.agg (snL x kv1).toArray] w1 (fun v w2 => v = .bool (q x) ∧ Ext w1 w2)) :
    Calls Tryd.prog 60 #[kv, fv] w (fun e w' => ∃ v, e = .returned v ∧ ∃ z, v = .int .i64 z ∧ decide (0 ≤ z) = l.any q ∧ Ext w w') := by
  obtain ⟨ka, kc, rfl, -⟩ := hks.shape
  refine calls_of Tryd.func60 rfl Tryd.ntmps60 rfl ?_
  repeat' (first | refine a_mov ?_ | refine a_asg ?_ | refine a_binN ?_ | refine a_notd ?_ | refine a_notb ?_ | refine a_nilc ?_ | refine a_fa ?_ | refine a_ext ?_ | refine a_lenv ?_ | refine a_lens ?_ | refine a_pick_t ?_ | refine a_pick_f ?_ | refine a_not ?_ | refine a_nilf ?_ | (refine o_nil (hK _ _ ?_); clear hK K) | refine wk_reg ?_ | refine wk_seq fun K hK => ?_ | (refine wk_skip (hK _ _ ?_); clear hK K) | (refine wk_label (hK _ _ ?_); clear hK K) | refine wk_scope ?_ | refine wk_block ?_ | refine wk_cond_t rfl ?_ | refine wk_cond_f rfl ?_ | (refine wk_exit ?_; (repeat (refine blockK_other rfl ?_)); refine blockK_same ?_; try ((repeat ((fail_if_success (refine hK _ _ ?_)); clear hK K)); refine hK _ _ ?_; clear hK K)) | (refine a_bin ?_ ?_ <;> intro _ <;> try (exfalso; omega)) | refine a_ld hl ?_ | (refine a_st hl ?_; clear hl; intro _ hl) | refine a_ix (fun _ => ?_) | fail)
  refine wk_loopH [] rfl (fun i : Nat => [(0, .slice ka l.length kc), (1, fv), (7, .int .i64 (l.length : Int)), (8, .int .i64 (i : Int))])
    (fun i w' => (i ≤ l.length ∧ (l.take i).any q = false) ∧ Ext w w') (fun i => l.length - i) 0 ⟨rfl, rfl, rfl, rfl, trivial⟩ ⟨⟨Nat.zero_le _, by simp⟩, (LH.start w (fun _ => False)).done⟩ ?_
  rintro i t1 w1 ⟨⟨hi, hpre⟩, hx1⟩
  by_cases hi1 : i < l.length
  · obtain ⟨b, o, kv1, hpp, hr, hk1⟩ := (KA.ext hks hx1).at hi1
    have hmem := List.getElem_mem hi1
    repeat' (first | refine a_mov ?_ | refine a_asg ?_ | refine a_binN ?_ | refine a_notd ?_ | refine a_notb ?_ | refine a_nilc ?_ | refine a_fa ?_ | refine a_ext ?_ | refine a_lenv ?_ | refine a_lens ?_ | refine a_pick_t ?_ | refine a_pick_f ?_ | refine a_not ?_ | refine a_nilf ?_ | (refine o_nil (hK _ _ ?_); clear hK K) | refine wk_reg ?_ | refine wk_seq fun K hK => ?_ | (refine wk_skip (hK _ _ ?_); clear hK K) | (refine wk_label (hK _ _ ?_); clear hK K) | refine wk_scope ?_ | refine wk_block ?_ | refine wk_cond_t rfl ?_ | refine wk_cond_f rfl ?_ | (refine wk_exit ?_; (repeat (refine blockK_other rfl ?_)); refine blockK_same ?_; try ((repeat ((fail_if_success (refine hK _ _ ?_)); clear hK K)); refine hK _ _ ?_; clear hK K)) | (refine a_bin ?_ ?_ <;> intro _ <;> try (exfalso; omega)) | refine a_ld hl ?_ | (refine a_st hl ?_; clear hl; intro _ hl) | refine a_ix (fun _ => ?_) | refine a_idx (c := 4) i hpp ?_ | refine a_all hr ?_ | fail)
    refine a_fw (hf _ hmem w1 kv1 hx1 hk1) ?_
    rintro _ w2 ⟨rfl, hx2⟩
    have hs := any_take_succ q hi1
    rw [hpre, Bool.false_or] at hs
    cases hq : q l[i]
    · rw [hq] at hs
      repeat' (first | refine a_mov ?_ | refine a_asg ?_ | refine a_binN ?_ | refine a_notd ?_ | refine a_notb ?_ | refine a_nilc ?_ | refine a_fa ?_ | refine a_ext ?_ | refine a_lenv ?_ | refine a_lens ?_ | refine a_pick_t ?_ | refine a_pick_f ?_ | refine a_not ?_ | refine a_nilf ?_ | (refine o_nil (hK _ _ ?_); clear hK K) | refine wk_reg ?_ | refine wk_seq fun K hK => ?_ | (refine wk_skip (hK _ _ ?_); clear hK K) | (refine wk_label (hK _ _ ?_); clear hK K) | refine wk_scope ?_ | refine wk_block ?_ | refine wk_cond_t rfl ?_ | refine wk_cond_f rfl ?_ | (refine wk_exit ?_; (repeat (refine blockK_other rfl ?_)); refine blockK_same ?_; try ((repeat ((fail_if_success (refine hK _ _ ?_)); clear hK K)); refine hK _ _ ?_; clear hK K)) | (refine a_bin ?_ ?_ <;> intro _ <;> try (exfalso; omega)) | refine a_ld hl ?_ | (refine a_st hl ?_; clear hl; intro _ hl) | refine a_ix (fun _ => ?_) | fail)
      exact o_nil ⟨i + 1, ⟨rfl, rfl, rfl, rfl, trivial⟩, rfl, ⟨⟨hi1, hs⟩, hx1.trans hx2⟩, by omega⟩
    · repeat' (first | refine a_mov ?_ | refine a_asg ?_ | refine a_binN ?_ | refine a_notd ?_ | refine a_notb ?_ | refine a_nilc ?_ | refine a_fa ?_ | refine a_ext ?_ | refine a_lenv ?_ | refine a_lens ?_ | refine a_pick_t ?_ | refine a_pick_f ?_ | refine a_not ?_ | refine a_nilf ?_ | (refine o_nil (hK _ _ ?_); clear hK K) | refine wk_reg ?_ | refine wk_seq fun K hK => ?_ | (refine wk_skip (hK _ _ ?_); clear hK K) | (refine wk_label (hK _ _ ?_); clear hK K) | refine wk_scope ?_ | refine wk_block ?_ | refine wk_cond_t rfl ?_ | refine wk_cond_f rfl ?_ | (refine wk_exit ?_; (repeat (refine blockK_other rfl ?_)); refine blockK_same ?_; try ((repeat ((fail_if_success (refine hK _ _ ?_)); clear hK K)); refine hK _ _ ?_; clear hK K)) | (refine a_bin ?_ ?_ <;> intro _ <;> try (exfalso; omega)) | refine a_ld hl ?_ | (refine a_st hl ?_; clear hl; intro _ hl) | refine a_ix (fun _ => ?_) | fail)
      refine wk_ret (retQ_tmp1 Tryd.results60 (by decide) rfl (by conv => lhs; whnf) ?_)
      refine ⟨(i : Int), rfl, ?_, hx1.trans hx2⟩
      rw [decide_eq_true (by omega)]
      exact (List.any_eq_true.2 ⟨_, hmem, hq⟩).symm
  · obtain rfl : i = l.length := by omega
    rw [List.take_length] at hpre
    repeat' (first | refine a_mov ?_ | refine a_asg ?_ | refine a_binN ?_ | refine a_notd ?_ | refine a_notb ?_ | refine a_nilc ?_ | refine a_fa ?_ | refine a_ext ?_ | refine a_lenv ?_ | refine a_lens ?_ | refine a_pick_t ?_ | refine a_pick_f ?_ | refine a_not ?_ | refine a_nilf ?_ | (refine o_nil (hK _ _ ?_); clear hK K) | refine wk_reg ?_ | refine wk_seq fun K hK => ?_ | (refine wk_skip (hK _ _ ?_); clear hK K) | (refine wk_label (hK _ _ ?_); clear hK K) | refine wk_scope ?_ | refine wk_block ?_ | refine wk_cond_t rfl ?_ | refine wk_cond_f rfl ?_ | (refine wk_exit ?_; (repeat (refine blockK_other rfl ?_)); refine blockK_same ?_; try ((repeat ((fail_if_success (refine hK _ _ ?_)); clear hK K)); refine hK _ _ ?_; clear hK K)) | (refine a_bin ?_ ?_ <;> intro _ <;> try (exfalso; omega)) | refine a_ld hl ?_ | (refine a_st hl ?_; clear hl; intro _ hl) | refine a_ix (fun _ => ?_) | fail)
    refine wk_ret (retQ_tmp1 Tryd.results60 (by decide) rfl (by conv => lhs; whnf) ?_)
    exact ⟨-1, rfl, by rw [hpre]; rfl, hx1⟩
theorem staAny_calls {l : List Sn} {q : Sn → Bool} {fv kv : Value} {w : World} (hks : KA w l kv) (hlen : l.length ≤ 140737488351232) (hf : ∀ x ∈ l, ∀ w1 kv1, Ext w w1 → KA w1 x.kids kv1 → CallF Tryd.prog fv #[.agg (snL x kv1).toArray] w1 (fun v w2 => v = .bool (q x) ∧ Ext w1 w2)) :
    Calls Tryd.prog 41 #[kv, fv] w (fun e w' => ∃ v, e = .returned v ∧ v = .bool (l.any q) ∧ Ext w w') := by
  refine calls_of Tryd.func41 rfl Tryd.ntmps41 rfl ?_
  repeat' (first | refine a_mov ?_ | refine a_asg ?_ | refine a_binN ?_ | refine a_notd ?_ | refine a_notb ?_ | refine a_nilc ?_ | refine a_fa ?_ | refine a_ext ?_ | refine a_lenv ?_ | refine a_lens ?_ | refine a_pick_t ?_ | refine a_pick_f ?_ | refine a_not ?_ | refine a_nilf ?_ | (refine o_nil (hK _ _ ?_); clear hK K) | refine wk_reg ?_ | refine wk_seq fun K hK => ?_ | (refine wk_skip (hK _ _ ?_); clear hK K) | (refine wk_label (hK _ _ ?_); clear hK K) | refine wk_scope ?_ | refine wk_block ?_ | refine wk_cond_t rfl ?_ | refine wk_cond_f rfl ?_ | (refine wk_exit ?_; (repeat (refine blockK_other rfl ?_)); refine blockK_same ?_; try ((repeat ((fail_if_success (refine hK _ _ ?_)); clear hK K)); refine hK _ _ ?_; clear hK K)) | (refine a_bin ?_ ?_ <;> intro _ <;> try (exfalso; omega)) | refine a_ld hl ?_ | (refine a_st hl ?_; clear hl; intro _ hl) | refine a_ix (fun _ => ?_) | fail)
  refine a_fn (staIdx_calls hks hlen hf) ?_
  rintro _ w2 ⟨z, rfl, hz, hx⟩
  by_cases h0 : 0 ≤ z
  · repeat' (first | refine a_mov ?_ | refine a_asg ?_ | refine a_binN ?_ | refine a_notd ?_ | refine a_notb ?_ | refine a_nilc ?_ | refine a_fa ?_ | refine a_ext ?_ | refine a_lenv ?_ | refine a_lens ?_ | refine a_pick_t ?_ | refine a_pick_f ?_ | refine a_not ?_ | refine a_nilf ?_ | (refine o_nil (hK _ _ ?_); clear hK K) | refine wk_reg ?_ | refine wk_seq fun K hK => ?_ | (refine wk_skip (hK _ _ ?_); clear hK K) | (refine wk_label (hK _ _ ?_); clear hK K) | refine wk_scope ?_ | refine wk_block ?_ | refine wk_cond_t rfl ?_ | refine wk_cond_f rfl ?_ | (refine wk_exit ?_; (repeat (refine blockK_other rfl ?_)); refine blockK_same ?_; try ((repeat ((fail_if_success (refine hK _ _ ?_)); clear hK K)); refine hK _ _ ?_; clear hK K)) | (refine a_bin ?_ ?_ <;> intro _ <;> try (exfalso; omega)) | refine a_ld hl ?_ | (refine a_st hl ?_; clear hl; intro _ hl) | refine a_ix (fun _ => ?_) | fail)
    refine wk_ret (retQ_tmp1 Tryd.results41 (by decide) rfl (by conv => lhs; whnf) ?_)
    exact ⟨by rw [← hz, decide_eq_true h0], hx⟩
  · repeat' (first | refine a_mov ?_ | refine a_asg ?_ | refine a_binN ?_ | refine a_notd ?_ | refine a_notb ?_ | refine a_nilc ?_ | refine a_fa ?_ | refine a_ext ?_ | refine a_lenv ?_ | refine a_lens ?_ | refine a_pick_t ?_ | refine a_pick_f ?_ | refine a_not ?_ | refine a_nilf ?_ | (refine o_nil (hK _ _ ?_); clear hK K) | refine wk_reg ?_ | refine wk_seq fun K hK => ?_ | (refine wk_skip (hK _ _ ?_); clear hK K) | (refine wk_label (hK _ _ ?_); clear hK K) | refine wk_scope ?_ | refine wk_block ?_ | refine wk_cond_t rfl ?_ | refine wk_cond_f rfl ?_ | (refine wk_exit ?_; (repeat (refine blockK_other rfl ?_)); refine blockK_same ?_; try ((repeat ((fail_if_success (refine hK _ _ ?_)); clear hK K)); refine hK _ _ ?_; clear hK K)) | (refine a_bin ?_ ?_ <;> intro _ <;> try (exfalso; omega)) | refine a_ld hl ?_ | (refine a_st hl ?_; clear hl; intro _ hl) | refine a_ix (fun _ => ?_) | fail)
    refine wk_ret (retQ_tmp1 Tryd.results41 (by decide) rfl (by conv => lhs; whnf) ?_)
    exact ⟨by rw [← hz, decide_eq_false h0], hx⟩
end Go.Proofs
