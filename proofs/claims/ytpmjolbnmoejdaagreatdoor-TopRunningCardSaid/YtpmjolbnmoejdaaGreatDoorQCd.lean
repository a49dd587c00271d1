/-
  Function values with what is bound; slices.ContainsFunc over elements of some cells.
-/
import Derived.Test.YtpmjolbnmoejdaaGreatDoorQToB
set_option linter.unusedVariables false
set_option linter.unusedSimpArgs false
set_option linter.unnecessarySimpa false
set_option maxRecDepth 10000
namespace Go.Pd
open Go Go.Proofs
section
variable {P : Program} {r : Option Nat} {n : Nat} {ops : Array Oper} {K : St → World → Prop} {X : List PanicEntry → St → World → Prop} {l : List Oper} {s : St} {w : World} {d : Nat} {ty : TypeId} {p : String} {af : Array Edge} {g : Option (Nat × Bool)}
def CallF (P : Program) (fv : Value) (args : Array Value) (w : World) (R : Value → World → Prop) : Prop :=
  ∃ f fi ca, fv = .func (.func f) fi ca ∧ (∀ w, (callFunc f (fi ++ args ++ ca)).run P w = .ok (.enter f (fi ++ args ++ ca)) w) ∧ Calls P f (fi ++ args ++ ca) w (fun e w' => ∃ v, e = .returned v ∧ R v w')
theorem a_fw {x : Operand} {xs : Array Operand} {ats : Array TypeId} {fv : Value} {args : Array Value} {R : Value → World → Prop} (hc : CallF P fv args w R) (hk : ∀ v w', R v w' → OpsL P r n ops K X l (s.set d v) w') (hw : Region.wanted ⟨some d, .call ⟨.value x, xs, ats⟩, ty, p, af, g⟩ (yieldedE ops n s) = true := by rfl)
    (hx : rd n s x = fv := by rfl) (hargs : xs.toList.map (rd n s) = args.toList := by rfl) : OpsL P r n ops K X (⟨some d, .call ⟨.value x, xs, ats⟩, ty, p, af, g⟩ :: l) s w := by
  refine o_wanted hw ?_
  unfold OpW
  rw [Oper.semAt_eq _ _ _ (fun c e => by cases e)]
  have hargs' : xs.map (rd n s) = args := Array.ext' (by simpa using hargs)
  simp only [execOp, resolve, hargs', hx]
  obtain ⟨f, fi, ca, rfl, h2, h3⟩ := hc
  rw [sem_bind (a := { target := .fn (.func f) ca, args := fi ++ args }) (w' := w) rfl]
  simp only [invoke]
  rw [h2 w]
  exact Calls.mono h3 fun e w' ⟨v, he, hR⟩ => by subst he; exact hk v w' hR
end
theorem callF_ca {P : Program} {f : FuncId} {ca args all : Array Value} {w : World} {R : Value → World → Prop} (hall : args ++ ca = all) (hen : ∀ w, (callFunc f all).run P w = .ok (.enter f all) w) (hc : Calls P f all w (fun e w' => ∃ v, e = .returned v ∧ R v w')) : CallF P (.func (.func f) #[] ca) args w R := by
  subst hall
  refine ⟨f, #[], ca, rfl, ?_, ?_⟩ <;> simpa using by assumption
theorem sl_each {w : World} {v : Value} {k : Nat} {α : Type} {f : α → List Value} {l : List α} (hf : ∀ x, (f x).length = k) (hk : 0 < k) (h : Sl w v k (l.flatMap f)) : ∃ a c, v = .slice a l.length c ∧ ∀ i (hi : i < l.length), ∃ b o, a = some ⟨b, o, none⟩ ∧ ∀ w', Ext w w' → Row w' b (o + i * k) (f l[i]) := by
  obtain ⟨a', c', h1, h2⟩ := h.shape (flat_length hf l) hk
  refine ⟨a', c', h1, fun i hi => ?_⟩
  subst h1
  obtain ⟨b, o, hp, hr⟩ := h.at (flat_length hf l) hk (by omega)
  refine ⟨b, o, hp, fun w' hw' => (hr.elem hf (k := i) ?_).ext hw'⟩
  simp [hi]
end Go.Pd
namespace Go.Proofs
open Go Go.Pd Go.Top
attribute [local irreducible] OpsL W RetQ OpsQ OpsC
theorem any_take_succ {α : Type} (q : α → Bool) {l : List α} {i : Nat} (h : i < l.length) : (l.take (i + 1)).any q = ((l.take i).any q || q l[i]) := by
  rw [List.take_add_one, List.getElem?_eq_getElem h]
  simp only [List.any_append, Option.toList_some, List.any_cons, List.any_nil, Bool.or_false]
theorem one_head {vs : List Value} (h : vs.length = 1) : vs[0]? = some (vs.headD undef) := by
  cases vs with
  | nil => cases h
  | cons a l => rfl
theorem stopIdx_calls {α : Type} {l : List α} {f : α → List Value} {q : α → Bool} {fv hv : Value} {w : World} (hk : ∀ x, (f x).length = 2) (hH : Sl w hv 2 (l.flatMap f)) (hlen : l.length ≤ 140737488351232) (hf : ∀ x ∈ l, ∀ w1, Ext w w1 → CallF Tryz.prog fv #[.agg (f x).toArray] w1 (fun v w2 => v = .bool (q x) ∧ Ext w1 w2)) :
    Calls Tryz.prog 100 #[hv, fv] w (fun e w' => ∃ v, e = .returned v ∧ ∃ z, v = .int .i64 z ∧ decide (0 ≤ z) = l.any q ∧ Ext w w') := by
  obtain ⟨ka, kc, rfl, hp⟩ := sl_each hk (by decide) hH
  refine calls_of Tryz.func100 rfl Tryz.ntmps100 rfl ?_
  repeat' (first | refine a_mov ?_ | refine a_asg ?_ | refine a_binN ?_ | refine a_lenv ?_ | (refine o_nil (hK _ _ ?_); clear hK K) | refine wk_reg ?_ | refine wk_seq fun K hK => ?_ | (refine wk_skip (hK _ _ ?_); clear hK K) | refine wk_block ?_ | refine wk_cond_t rfl ?_ | refine wk_cond_f rfl ?_ | (refine wk_exit ?_; (repeat (refine blockK_other rfl ?_)); refine blockK_same ?_; try ((repeat ((fail_if_success (refine hK _ _ ?_)); clear hK K)); refine hK _ _ ?_; clear hK K)) | (refine a_bin ?_ ?_ <;> intro _ <;> try (exfalso; omega)) | fail)
  refine wk_loopH [] rfl (fun i : Nat => [(0, .slice ka l.length kc), (1, fv), (7, .int .i64 (l.length : Int)), (8, .int .i64 (i : Int))])
    (fun i w' => (i ≤ l.length ∧ (l.take i).any q = false) ∧ Ext w w') (fun i => l.length - i) 0 ⟨rfl, rfl, rfl, rfl, trivial⟩ ⟨⟨Nat.zero_le _, by simp⟩, (LH.start w (fun _ => False)).done⟩ ?_
  rintro i t1 w1 ⟨⟨hi, hpre⟩, hx1⟩
  by_cases hi1 : i < l.length
  · obtain ⟨b, o, hpp, hr⟩ := hp i hi1
    have hr := hr w1 hx1
    have hmem := List.getElem_mem hi1
    repeat' (first | refine a_mov ?_ | refine a_asg ?_ | refine a_binN ?_ | refine a_lenv ?_ | (refine o_nil (hK _ _ ?_); clear hK K) | refine wk_reg ?_ | refine wk_seq fun K hK => ?_ | (refine wk_skip (hK _ _ ?_); clear hK K) | refine wk_block ?_ | refine wk_cond_t rfl ?_ | refine wk_cond_f rfl ?_ | (refine wk_exit ?_; (repeat (refine blockK_other rfl ?_)); refine blockK_same ?_; try ((repeat ((fail_if_success (refine hK _ _ ?_)); clear hK K)); refine hK _ _ ?_; clear hK K)) | (refine a_bin ?_ ?_ <;> intro _ <;> try (exfalso; omega)) | refine a_idx (c := 2) i hpp ?_ | refine a_all hr ?_ (hs := congrArg some (hk _).symm) | fail)
    refine a_fw (hf _ hmem w1 hx1) ?_
    rintro _ w2 ⟨rfl, hx2⟩
    have hs := any_take_succ q hi1
    rw [hpre, Bool.false_or] at hs
    cases hq : q l[i]
    · rw [hq] at hs
      repeat' (first | refine a_mov ?_ | refine a_asg ?_ | refine a_binN ?_ | refine a_lenv ?_ | (refine o_nil (hK _ _ ?_); clear hK K) | refine wk_reg ?_ | refine wk_seq fun K hK => ?_ | (refine wk_skip (hK _ _ ?_); clear hK K) | refine wk_block ?_ | refine wk_cond_t rfl ?_ | refine wk_cond_f rfl ?_ | (refine wk_exit ?_; (repeat (refine blockK_other rfl ?_)); refine blockK_same ?_; try ((repeat ((fail_if_success (refine hK _ _ ?_)); clear hK K)); refine hK _ _ ?_; clear hK K)) | (refine a_bin ?_ ?_ <;> intro _ <;> try (exfalso; omega)) | fail)
      exact o_nil ⟨i + 1, ⟨rfl, rfl, rfl, rfl, trivial⟩, rfl, ⟨⟨hi1, hs⟩, hx1.trans hx2⟩, by omega⟩
    · repeat' (first | refine a_mov ?_ | refine a_asg ?_ | refine a_binN ?_ | refine a_lenv ?_ | (refine o_nil (hK _ _ ?_); clear hK K) | refine wk_reg ?_ | refine wk_seq fun K hK => ?_ | (refine wk_skip (hK _ _ ?_); clear hK K) | refine wk_block ?_ | refine wk_cond_t rfl ?_ | refine wk_cond_f rfl ?_ | (refine wk_exit ?_; (repeat (refine blockK_other rfl ?_)); refine blockK_same ?_; try ((repeat ((fail_if_success (refine hK _ _ ?_)); clear hK K)); refine hK _ _ ?_; clear hK K)) | (refine a_bin ?_ ?_ <;> intro _ <;> try (exfalso; omega)) | fail)
      refine wk_ret (retQ_tmp1 Tryz.results100 (by decide) rfl (by conv => lhs; whnf) ?_)
      refine ⟨(i : Int), rfl, ?_, hx1.trans hx2⟩
      rw [decide_eq_true (by omega)]
      exact (List.any_eq_true.2 ⟨_, hmem, hq⟩).symm
  · obtain rfl : i = l.length := by omega
    rw [List.take_length] at hpre
    repeat' (first | refine a_mov ?_ | refine a_asg ?_ | refine a_binN ?_ | refine a_lenv ?_ | (refine o_nil (hK _ _ ?_); clear hK K) | refine wk_reg ?_ | refine wk_seq fun K hK => ?_ | (refine wk_skip (hK _ _ ?_); clear hK K) | refine wk_block ?_ | refine wk_cond_t rfl ?_ | refine wk_cond_f rfl ?_ | (refine wk_exit ?_; (repeat (refine blockK_other rfl ?_)); refine blockK_same ?_; try ((repeat ((fail_if_success (refine hK _ _ ?_)); clear hK K)); refine hK _ _ ?_; clear hK K)) | (refine a_bin ?_ ?_ <;> intro _ <;> try (exfalso; omega)) | fail)
    refine wk_ret (retQ_tmp1 Tryz.results100 (by decide) rfl (by conv => lhs; whnf) ?_)
    exact ⟨-1, rfl, by rw [hpre]; rfl, hx1⟩
theorem stopAny_calls {α : Type} {l : List α} {f : α → List Value} {q : α → Bool} {fv hv : Value} {w : World} (hk : ∀ x, (f x).length = 2) (hH : Sl w hv 2 (l.flatMap f)) (hlen : l.length ≤ 140737488351232) (hf : ∀ x ∈ l, ∀ w1, Ext w w1 → CallF Tryz.prog fv #[.agg (f x).toArray] w1 (fun v w2 => v = .bool (q x) ∧ Ext w1 w2)) :
    Calls Tryz.prog 65 #[hv, fv] w (fun e w' => ∃ v, e = .returned v ∧ v = .bool (l.any q) ∧ Ext w w') := by
  refine calls_of Tryz.func65 rfl Tryz.ntmps65 rfl ?_
  repeat' (first | refine a_mov ?_ | refine a_asg ?_ | (refine o_nil (hK _ _ ?_); clear hK K) | refine wk_reg ?_ | refine wk_seq fun K hK => ?_ | (refine a_bin ?_ ?_ <;> intro _ <;> try (exfalso; omega)) | fail)
  refine a_fn (stopIdx_calls hk hH hlen hf) ?_
  rintro _ w2 ⟨z, rfl, hz, hx⟩
  by_cases h0 : 0 ≤ z
  · repeat' (first | refine a_mov ?_ | refine a_asg ?_ | (refine o_nil (hK _ _ ?_); clear hK K) | refine wk_reg ?_ | refine wk_seq fun K hK => ?_ | (refine a_bin ?_ ?_ <;> intro _ <;> try (exfalso; omega)) | fail)
    refine wk_ret (retQ_tmp1 Tryz.results65 (by decide) rfl (by conv => lhs; whnf) ?_)
    exact ⟨by rw [← hz, decide_eq_true h0], hx⟩
  · repeat' (first | refine a_mov ?_ | refine a_asg ?_ | (refine o_nil (hK _ _ ?_); clear hK K) | refine wk_reg ?_ | refine wk_seq fun K hK => ?_ | (refine a_bin ?_ ?_ <;> intro _ <;> try (exfalso; omega)) | fail)
    refine wk_ret (retQ_tmp1 Tryz.results65 (by decide) rfl (by conv => lhs; whnf) ?_)
    exact ⟨by rw [← hz, decide_eq_false h0], hx⟩
theorem rightIdx_calls {α : Type} {l : List α} {f : α → List Value} {q : α → Bool} {fv hv : Value} {w : World} (hk : ∀ x, (f x).length = 2) (hH : Sl w hv 2 (l.flatMap f)) (hlen : l.length ≤ 140737488351232) (hf : ∀ x ∈ l, ∀ w1, Ext w w1 → CallF Tryz.prog fv #[.agg (f x).toArray] w1 (fun v w2 => v = .bool (q x) ∧ Ext w1 w2)) :
    Calls Tryz.prog 77 #[hv, fv] w (fun e w' => ∃ v, e = .returned v ∧ ∃ z, v = .int .i64 z ∧ decide (0 ≤ z) = l.any q ∧ Ext w w') := by
  obtain ⟨ka, kc, rfl, hp⟩ := sl_each hk (by decide) hH
  refine calls_of Tryz.func77 rfl Tryz.ntmps77 rfl ?_
  repeat' (first | refine a_mov ?_ | refine a_asg ?_ | refine a_binN ?_ | refine a_lenv ?_ | (refine o_nil (hK _ _ ?_); clear hK K) | refine wk_reg ?_ | refine wk_seq fun K hK => ?_ | (refine wk_skip (hK _ _ ?_); clear hK K) | refine wk_block ?_ | refine wk_cond_t rfl ?_ | refine wk_cond_f rfl ?_ | (refine wk_exit ?_; (repeat (refine blockK_other rfl ?_)); refine blockK_same ?_; try ((repeat ((fail_if_success (refine hK _ _ ?_)); clear hK K)); refine hK _ _ ?_; clear hK K)) | (refine a_bin ?_ ?_ <;> intro _ <;> try (exfalso; omega)) | fail)
  refine wk_loopH [] rfl (fun i : Nat => [(0, .slice ka l.length kc), (1, fv), (7, .int .i64 (l.length : Int)), (8, .int .i64 (i : Int))])
    (fun i w' => (i ≤ l.length ∧ (l.take i).any q = false) ∧ Ext w w') (fun i => l.length - i) 0 ⟨rfl, rfl, rfl, rfl, trivial⟩ ⟨⟨Nat.zero_le _, by simp⟩, (LH.start w (fun _ => False)).done⟩ ?_
  rintro i t1 w1 ⟨⟨hi, hpre⟩, hx1⟩
  by_cases hi1 : i < l.length
  · obtain ⟨b, o, hpp, hr⟩ := hp i hi1
    have hr := hr w1 hx1
    have hmem := List.getElem_mem hi1
    repeat' (first | refine a_mov ?_ | refine a_asg ?_ | refine a_binN ?_ | refine a_lenv ?_ | (refine o_nil (hK _ _ ?_); clear hK K) | refine wk_reg ?_ | refine wk_seq fun K hK => ?_ | (refine wk_skip (hK _ _ ?_); clear hK K) | refine wk_block ?_ | refine wk_cond_t rfl ?_ | refine wk_cond_f rfl ?_ | (refine wk_exit ?_; (repeat (refine blockK_other rfl ?_)); refine blockK_same ?_; try ((repeat ((fail_if_success (refine hK _ _ ?_)); clear hK K)); refine hK _ _ ?_; clear hK K)) | (refine a_bin ?_ ?_ <;> intro _ <;> try (exfalso; omega)) | refine a_idx (c := 2) i hpp ?_ | refine a_all hr ?_ (hs := congrArg some (hk _).symm) | fail)
    refine a_fw (hf _ hmem w1 hx1) ?_
    rintro _ w2 ⟨rfl, hx2⟩
    have hs := any_take_succ q hi1
    rw [hpre, Bool.false_or] at hs
    cases hq : q l[i]
    · rw [hq] at hs
      repeat' (first | refine a_mov ?_ | refine a_asg ?_ | refine a_binN ?_ | refine a_lenv ?_ | (refine o_nil (hK _ _ ?_); clear hK K) | refine wk_reg ?_ | refine wk_seq fun K hK => ?_ | (refine wk_skip (hK _ _ ?_); clear hK K) | refine wk_block ?_ | refine wk_cond_t rfl ?_ | refine wk_cond_f rfl ?_ | (refine wk_exit ?_; (repeat (refine blockK_other rfl ?_)); refine blockK_same ?_; try ((repeat ((fail_if_success (refine hK _ _ ?_)); clear hK K)); refine hK _ _ ?_; clear hK K)) | (refine a_bin ?_ ?_ <;> intro _ <;> try (exfalso; omega)) | fail)
      exact o_nil ⟨i + 1, ⟨rfl, rfl, rfl, rfl, trivial⟩, rfl, ⟨⟨hi1, hs⟩, hx1.trans hx2⟩, by omega⟩
    · repeat' (first | refine a_mov ?_ | refine a_asg ?_ | refine a_binN ?_ | refine a_lenv ?_ | (refine o_nil (hK _ _ ?_); clear hK K) | refine wk_reg ?_ | refine wk_seq fun K hK => ?_ | (refine wk_skip (hK _ _ ?_); clear hK K) | refine wk_block ?_ | refine wk_cond_t rfl ?_ | refine wk_cond_f rfl ?_ | (refine wk_exit ?_; (repeat (refine blockK_other rfl ?_)); refine blockK_same ?_; try ((repeat ((fail_if_success (refine hK _ _ ?_)); clear hK K)); refine hK _ _ ?_; clear hK K)) | (refine a_bin ?_ ?_ <;> intro _ <;> try (exfalso; omega)) | fail)
      refine wk_ret (retQ_tmp1 Tryz.results77 (by decide) rfl (by conv => lhs; whnf) ?_)
      refine ⟨(i : Int), rfl, ?_, hx1.trans hx2⟩
      rw [decide_eq_true (by omega)]
      exact (List.any_eq_true.2 ⟨_, hmem, hq⟩).symm
  · obtain rfl : i = l.length := by omega
    rw [List.take_length] at hpre
    repeat' (first | refine a_mov ?_ | refine a_asg ?_ | refine a_binN ?_ | refine a_lenv ?_ | (refine o_nil (hK _ _ ?_); clear hK K) | refine wk_reg ?_ | refine wk_seq fun K hK => ?_ | (refine wk_skip (hK _ _ ?_); clear hK K) | refine wk_block ?_ | refine wk_cond_t rfl ?_ | refine wk_cond_f rfl ?_ | (refine wk_exit ?_; (repeat (refine blockK_other rfl ?_)); refine blockK_same ?_; try ((repeat ((fail_if_success (refine hK _ _ ?_)); clear hK K)); refine hK _ _ ?_; clear hK K)) | (refine a_bin ?_ ?_ <;> intro _ <;> try (exfalso; omega)) | fail)
    refine wk_ret (retQ_tmp1 Tryz.results77 (by decide) rfl (by conv => lhs; whnf) ?_)
    exact ⟨-1, rfl, by rw [hpre]; rfl, hx1⟩
theorem rightAny_calls {α : Type} {l : List α} {f : α → List Value} {q : α → Bool} {fv hv : Value} {w : World} (hk : ∀ x, (f x).length = 2) (hH : Sl w hv 2 (l.flatMap f)) (hlen : l.length ≤ 140737488351232) (hf : ∀ x ∈ l, ∀ w1, Ext w w1 → CallF Tryz.prog fv #[.agg (f x).toArray] w1 (fun v w2 => v = .bool (q x) ∧ Ext w1 w2)) :
    Calls Tryz.prog 37 #[hv, fv] w (fun e w' => ∃ v, e = .returned v ∧ v = .bool (l.any q) ∧ Ext w w') := by
  refine calls_of Tryz.func37 rfl Tryz.ntmps37 rfl ?_
  repeat' (first | refine a_mov ?_ | refine a_asg ?_ | (refine o_nil (hK _ _ ?_); clear hK K) | refine wk_reg ?_ | refine wk_seq fun K hK => ?_ | (refine a_bin ?_ ?_ <;> intro _ <;> try (exfalso; omega)) | fail)
  refine a_fn (rightIdx_calls hk hH hlen hf) ?_
  rintro _ w2 ⟨z, rfl, hz, hx⟩
  by_cases h0 : 0 ≤ z
  · repeat' (first | refine a_mov ?_ | refine a_asg ?_ | (refine o_nil (hK _ _ ?_); clear hK K) | refine wk_reg ?_ | refine wk_seq fun K hK => ?_ | (refine a_bin ?_ ?_ <;> intro _ <;> try (exfalso; omega)) | fail)
    refine wk_ret (retQ_tmp1 Tryz.results37 (by decide) rfl (by conv => lhs; whnf) ?_)
    exact ⟨by rw [← hz, decide_eq_true h0], hx⟩
  · repeat' (first | refine a_mov ?_ | refine a_asg ?_ | (refine o_nil (hK _ _ ?_); clear hK K) | refine wk_reg ?_ | refine wk_seq fun K hK => ?_ | (refine a_bin ?_ ?_ <;> intro _ <;> try (exfalso; omega)) | fail)
    refine wk_ret (retQ_tmp1 Tryz.results37 (by decide) rfl (by conv => lhs; whnf) ?_)
    exact ⟨by rw [← hz, decide_eq_false h0], hx⟩
theorem limitIdx_calls {α : Type} {l : List α} {f : α → List Value} {q : α → Bool} {fv hv : Value} {w : World} (hk : ∀ x, (f x).length = 5) (hH : Sl w hv 5 (l.flatMap f)) (hlen : l.length ≤ 140737488351232) (hf : ∀ x ∈ l, ∀ w1, Ext w w1 → CallF Tryz.prog fv #[.agg (f x).toArray] w1 (fun v w2 => v = .bool (q x) ∧ Ext w1 w2)) :
    Calls Tryz.prog 99 #[hv, fv] w (fun e w' => ∃ v, e = .returned v ∧ ∃ z, v = .int .i64 z ∧ decide (0 ≤ z) = l.any q ∧ Ext w w') := by
  obtain ⟨ka, kc, rfl, hp⟩ := sl_each hk (by decide) hH
  refine calls_of Tryz.func99 rfl Tryz.ntmps99 rfl ?_
  repeat' (first | refine a_mov ?_ | refine a_asg ?_ | refine a_binN ?_ | refine a_lenv ?_ | (refine o_nil (hK _ _ ?_); clear hK K) | refine wk_reg ?_ | refine wk_seq fun K hK => ?_ | (refine wk_skip (hK _ _ ?_); clear hK K) | refine wk_block ?_ | refine wk_cond_t rfl ?_ | refine wk_cond_f rfl ?_ | (refine wk_exit ?_; (repeat (refine blockK_other rfl ?_)); refine blockK_same ?_; try ((repeat ((fail_if_success (refine hK _ _ ?_)); clear hK K)); refine hK _ _ ?_; clear hK K)) | (refine a_bin ?_ ?_ <;> intro _ <;> try (exfalso; omega)) | fail)
  refine wk_loopH [] rfl (fun i : Nat => [(0, .slice ka l.length kc), (1, fv), (7, .int .i64 (l.length : Int)), (8, .int .i64 (i : Int))])
    (fun i w' => (i ≤ l.length ∧ (l.take i).any q = false) ∧ Ext w w') (fun i => l.length - i) 0 ⟨rfl, rfl, rfl, rfl, trivial⟩ ⟨⟨Nat.zero_le _, by simp⟩, (LH.start w (fun _ => False)).done⟩ ?_
  rintro i t1 w1 ⟨⟨hi, hpre⟩, hx1⟩
  by_cases hi1 : i < l.length
  · obtain ⟨b, o, hpp, hr⟩ := hp i hi1
    have hr := hr w1 hx1
    have hmem := List.getElem_mem hi1
    repeat' (first | refine a_mov ?_ | refine a_asg ?_ | refine a_binN ?_ | refine a_lenv ?_ | (refine o_nil (hK _ _ ?_); clear hK K) | refine wk_reg ?_ | refine wk_seq fun K hK => ?_ | (refine wk_skip (hK _ _ ?_); clear hK K) | refine wk_block ?_ | refine wk_cond_t rfl ?_ | refine wk_cond_f rfl ?_ | (refine wk_exit ?_; (repeat (refine blockK_other rfl ?_)); refine blockK_same ?_; try ((repeat ((fail_if_success (refine hK _ _ ?_)); clear hK K)); refine hK _ _ ?_; clear hK K)) | (refine a_bin ?_ ?_ <;> intro _ <;> try (exfalso; omega)) | refine a_idx (c := 5) i hpp ?_ | refine a_all hr ?_ (hs := congrArg some (hk _).symm) | fail)
    refine a_fw (hf _ hmem w1 hx1) ?_
    rintro _ w2 ⟨rfl, hx2⟩
    have hs := any_take_succ q hi1
    rw [hpre, Bool.false_or] at hs
    cases hq : q l[i]
    · rw [hq] at hs
      repeat' (first | refine a_mov ?_ | refine a_asg ?_ | refine a_binN ?_ | refine a_lenv ?_ | (refine o_nil (hK _ _ ?_); clear hK K) | refine wk_reg ?_ | refine wk_seq fun K hK => ?_ | (refine wk_skip (hK _ _ ?_); clear hK K) | refine wk_block ?_ | refine wk_cond_t rfl ?_ | refine wk_cond_f rfl ?_ | (refine wk_exit ?_; (repeat (refine blockK_other rfl ?_)); refine blockK_same ?_; try ((repeat ((fail_if_success (refine hK _ _ ?_)); clear hK K)); refine hK _ _ ?_; clear hK K)) | (refine a_bin ?_ ?_ <;> intro _ <;> try (exfalso; omega)) | fail)
      exact o_nil ⟨i + 1, ⟨rfl, rfl, rfl, rfl, trivial⟩, rfl, ⟨⟨hi1, hs⟩, hx1.trans hx2⟩, by omega⟩
    · repeat' (first | refine a_mov ?_ | refine a_asg ?_ | refine a_binN ?_ | refine a_lenv ?_ | (refine o_nil (hK _ _ ?_); clear hK K) | refine wk_reg ?_ | refine wk_seq fun K hK => ?_ | (refine wk_skip (hK _ _ ?_); clear hK K) | refine wk_block ?_ | refine wk_cond_t rfl ?_ | refine wk_cond_f rfl ?_ | (refine wk_exit ?_; (repeat (refine blockK_other rfl ?_)); refine blockK_same ?_; try ((repeat ((fail_if_success (refine hK _ _ ?_)); clear hK K)); refine hK _ _ ?_; clear hK K)) | (refine a_bin ?_ ?_ <;> intro _ <;> try (exfalso; omega)) | fail)
      refine wk_ret (retQ_tmp1 Tryz.results99 (by decide) rfl (by conv => lhs; whnf) ?_)
      refine ⟨(i : Int), rfl, ?_, hx1.trans hx2⟩
      rw [decide_eq_true (by omega)]
      exact (List.any_eq_true.2 ⟨_, hmem, hq⟩).symm
  · obtain rfl : i = l.length := by omega
    rw [List.take_length] at hpre
    repeat' (first | refine a_mov ?_ | refine a_asg ?_ | refine a_binN ?_ | refine a_lenv ?_ | (refine o_nil (hK _ _ ?_); clear hK K) | refine wk_reg ?_ | refine wk_seq fun K hK => ?_ | (refine wk_skip (hK _ _ ?_); clear hK K) | refine wk_block ?_ | refine wk_cond_t rfl ?_ | refine wk_cond_f rfl ?_ | (refine wk_exit ?_; (repeat (refine blockK_other rfl ?_)); refine blockK_same ?_; try ((repeat ((fail_if_success (refine hK _ _ ?_)); clear hK K)); refine hK _ _ ?_; clear hK K)) | (refine a_bin ?_ ?_ <;> intro _ <;> try (exfalso; omega)) | fail)
    refine wk_ret (retQ_tmp1 Tryz.results99 (by decide) rfl (by conv => lhs; whnf) ?_)
    exact ⟨-1, rfl, by rw [hpre]; rfl, hx1⟩
theorem limitAny_calls {α : Type} {l : List α} {f : α → List Value} {q : α → Bool} {fv hv : Value} {w : World} (hk : ∀ x, (f x).length = 5) (hH : Sl w hv 5 (l.flatMap f)) (hlen : l.length ≤ 140737488351232) (hf : ∀ x ∈ l, ∀ w1, Ext w w1 → CallF Tryz.prog fv #[.agg (f x).toArray] w1 (fun v w2 => v = .bool (q x) ∧ Ext w1 w2)) :
    Calls Tryz.prog 57 #[hv, fv] w (fun e w' => ∃ v, e = .returned v ∧ v = .bool (l.any q) ∧ Ext w w') := by
  refine calls_of Tryz.func57 rfl Tryz.ntmps57 rfl ?_
  repeat' (first | refine a_mov ?_ | refine a_asg ?_ | (refine o_nil (hK _ _ ?_); clear hK K) | refine wk_reg ?_ | refine wk_seq fun K hK => ?_ | (refine a_bin ?_ ?_ <;> intro _ <;> try (exfalso; omega)) | fail)
  refine a_fn (limitIdx_calls hk hH hlen hf) ?_
  rintro _ w2 ⟨z, rfl, hz, hx⟩
  by_cases h0 : 0 ≤ z
  · repeat' (first | refine a_mov ?_ | refine a_asg ?_ | (refine o_nil (hK _ _ ?_); clear hK K) | refine wk_reg ?_ | refine wk_seq fun K hK => ?_ | (refine a_bin ?_ ?_ <;> intro _ <;> try (exfalso; omega)) | fail)
    refine wk_ret (retQ_tmp1 Tryz.results57 (by decide) rfl (by conv => lhs; whnf) ?_)
    exact ⟨by rw [← hz, decide_eq_true h0], hx⟩
  · repeat' (first | refine a_mov ?_ | refine a_asg ?_ | (refine o_nil (hK _ _ ?_); clear hK K) | refine wk_reg ?_ | refine wk_seq fun K hK => ?_ | (refine a_bin ?_ ?_ <;> intro _ <;> try (exfalso; omega)) | fail)
    refine wk_ret (retQ_tmp1 Tryz.results57 (by decide) rfl (by conv => lhs; whnf) ?_)
    exact ⟨by rw [← hz, decide_eq_false h0], hx⟩
theorem pairIdx_calls {α : Type} {l : List α} {f : α → List Value} {q : α → Bool} {fv hv : Value} {w : World} (hk : ∀ x, (f x).length = 2) (hH : Sl w hv 2 (l.flatMap f)) (hlen : l.length ≤ 140737488351232) (hf : ∀ x ∈ l, ∀ w1, Ext w w1 → CallF Tryz.prog fv #[.agg (f x).toArray] w1 (fun v w2 => v = .bool (q x) ∧ Ext w1 w2)) :
    Calls Tryz.prog 98 #[hv, fv] w (fun e w' => ∃ v, e = .returned v ∧ ∃ z, v = .int .i64 z ∧ decide (0 ≤ z) = l.any q ∧ Ext w w') := by
  obtain ⟨ka, kc, rfl, hp⟩ := sl_each hk (by decide) hH
  refine calls_of Tryz.func98 rfl Tryz.ntmps98 rfl ?_
  repeat' (first | refine a_mov ?_ | refine a_asg ?_ | refine a_binN ?_ | refine a_lenv ?_ | (refine o_nil (hK _ _ ?_); clear hK K) | refine wk_reg ?_ | refine wk_seq fun K hK => ?_ | (refine wk_skip (hK _ _ ?_); clear hK K) | refine wk_block ?_ | refine wk_cond_t rfl ?_ | refine wk_cond_f rfl ?_ | (refine wk_exit ?_; (repeat (refine blockK_other rfl ?_)); refine blockK_same ?_; try ((repeat ((fail_if_success (refine hK _ _ ?_)); clear hK K)); refine hK _ _ ?_; clear hK K)) | (refine a_bin ?_ ?_ <;> intro _ <;> try (exfalso; omega)) | fail)
  refine wk_loopH [] rfl (fun i : Nat => [(0, .slice ka l.length kc), (1, fv), (7, .int .i64 (l.length : Int)), (8, .int .i64 (i : Int))])
    (fun i w' => (i ≤ l.length ∧ (l.take i).any q = false) ∧ Ext w w') (fun i => l.length - i) 0 ⟨rfl, rfl, rfl, rfl, trivial⟩ ⟨⟨Nat.zero_le _, by simp⟩, (LH.start w (fun _ => False)).done⟩ ?_
  rintro i t1 w1 ⟨⟨hi, hpre⟩, hx1⟩
  by_cases hi1 : i < l.length
  · obtain ⟨b, o, hpp, hr⟩ := hp i hi1
    have hr := hr w1 hx1
    have hmem := List.getElem_mem hi1
    repeat' (first | refine a_mov ?_ | refine a_asg ?_ | refine a_binN ?_ | refine a_lenv ?_ | (refine o_nil (hK _ _ ?_); clear hK K) | refine wk_reg ?_ | refine wk_seq fun K hK => ?_ | (refine wk_skip (hK _ _ ?_); clear hK K) | refine wk_block ?_ | refine wk_cond_t rfl ?_ | refine wk_cond_f rfl ?_ | (refine wk_exit ?_; (repeat (refine blockK_other rfl ?_)); refine blockK_same ?_; try ((repeat ((fail_if_success (refine hK _ _ ?_)); clear hK K)); refine hK _ _ ?_; clear hK K)) | (refine a_bin ?_ ?_ <;> intro _ <;> try (exfalso; omega)) | refine a_idx (c := 2) i hpp ?_ | refine a_all hr ?_ (hs := congrArg some (hk _).symm) | fail)
    refine a_fw (hf _ hmem w1 hx1) ?_
    rintro _ w2 ⟨rfl, hx2⟩
    have hs := any_take_succ q hi1
    rw [hpre, Bool.false_or] at hs
    cases hq : q l[i]
    · rw [hq] at hs
      repeat' (first | refine a_mov ?_ | refine a_asg ?_ | refine a_binN ?_ | refine a_lenv ?_ | (refine o_nil (hK _ _ ?_); clear hK K) | refine wk_reg ?_ | refine wk_seq fun K hK => ?_ | (refine wk_skip (hK _ _ ?_); clear hK K) | refine wk_block ?_ | refine wk_cond_t rfl ?_ | refine wk_cond_f rfl ?_ | (refine wk_exit ?_; (repeat (refine blockK_other rfl ?_)); refine blockK_same ?_; try ((repeat ((fail_if_success (refine hK _ _ ?_)); clear hK K)); refine hK _ _ ?_; clear hK K)) | (refine a_bin ?_ ?_ <;> intro _ <;> try (exfalso; omega)) | fail)
      exact o_nil ⟨i + 1, ⟨rfl, rfl, rfl, rfl, trivial⟩, rfl, ⟨⟨hi1, hs⟩, hx1.trans hx2⟩, by omega⟩
    · repeat' (first | refine a_mov ?_ | refine a_asg ?_ | refine a_binN ?_ | refine a_lenv ?_ | (refine o_nil (hK _ _ ?_); clear hK K) | refine wk_reg ?_ | refine wk_seq fun K hK => ?_ | (refine wk_skip (hK _ _ ?_); clear hK K) | refine wk_block ?_ | refine wk_cond_t rfl ?_ | refine wk_cond_f rfl ?_ | (refine wk_exit ?_; (repeat (refine blockK_other rfl ?_)); refine blockK_same ?_; try ((repeat ((fail_if_success (refine hK _ _ ?_)); clear hK K)); refine hK _ _ ?_; clear hK K)) | (refine a_bin ?_ ?_ <;> intro _ <;> try (exfalso; omega)) | fail)
      refine wk_ret (retQ_tmp1 Tryz.results98 (by decide) rfl (by conv => lhs; whnf) ?_)
      refine ⟨(i : Int), rfl, ?_, hx1.trans hx2⟩
      rw [decide_eq_true (by omega)]
      exact (List.any_eq_true.2 ⟨_, hmem, hq⟩).symm
  · obtain rfl : i = l.length := by omega
    rw [List.take_length] at hpre
    repeat' (first | refine a_mov ?_ | refine a_asg ?_ | refine a_binN ?_ | refine a_lenv ?_ | (refine o_nil (hK _ _ ?_); clear hK K) | refine wk_reg ?_ | refine wk_seq fun K hK => ?_ | (refine wk_skip (hK _ _ ?_); clear hK K) | refine wk_block ?_ | refine wk_cond_t rfl ?_ | refine wk_cond_f rfl ?_ | (refine wk_exit ?_; (repeat (refine blockK_other rfl ?_)); refine blockK_same ?_; try ((repeat ((fail_if_success (refine hK _ _ ?_)); clear hK K)); refine hK _ _ ?_; clear hK K)) | (refine a_bin ?_ ?_ <;> intro _ <;> try (exfalso; omega)) | fail)
    refine wk_ret (retQ_tmp1 Tryz.results98 (by decide) rfl (by conv => lhs; whnf) ?_)
    exact ⟨-1, rfl, by rw [hpre]; rfl, hx1⟩
theorem pairAny_calls {α : Type} {l : List α} {f : α → List Value} {q : α → Bool} {fv hv : Value} {w : World} (hk : ∀ x, (f x).length = 2) (hH : Sl w hv 2 (l.flatMap f)) (hlen : l.length ≤ 140737488351232) (hf : ∀ x ∈ l, ∀ w1, Ext w w1 → CallF Tryz.prog fv #[.agg (f x).toArray] w1 (fun v w2 => v = .bool (q x) ∧ Ext w1 w2)) :
    Calls Tryz.prog 56 #[hv, fv] w (fun e w' => ∃ v, e = .returned v ∧ v = .bool (l.any q) ∧ Ext w w') := by
  refine calls_of Tryz.func56 rfl Tryz.ntmps56 rfl ?_
  repeat' (first | refine a_mov ?_ | refine a_asg ?_ | (refine o_nil (hK _ _ ?_); clear hK K) | refine wk_reg ?_ | refine wk_seq fun K hK => ?_ | (refine a_bin ?_ ?_ <;> intro _ <;> try (exfalso; omega)) | fail)
  refine a_fn (pairIdx_calls hk hH hlen hf) ?_
  rintro _ w2 ⟨z, rfl, hz, hx⟩
  by_cases h0 : 0 ≤ z
  · repeat' (first | refine a_mov ?_ | refine a_asg ?_ | (refine o_nil (hK _ _ ?_); clear hK K) | refine wk_reg ?_ | refine wk_seq fun K hK => ?_ | (refine a_bin ?_ ?_ <;> intro _ <;> try (exfalso; omega)) | fail)
    refine wk_ret (retQ_tmp1 Tryz.results56 (by decide) rfl (by conv => lhs; whnf) ?_)
    exact ⟨by rw [← hz, decide_eq_true h0], hx⟩
  · repeat' (first | refine a_mov ?_ | refine a_asg ?_ | (refine o_nil (hK _ _ ?_); clear hK K) | refine wk_reg ?_ | refine wk_seq fun K hK => ?_ | (refine a_bin ?_ ?_ <;> intro _ <;> try (exfalso; omega)) | fail)
    refine wk_ret (retQ_tmp1 Tryz.results56 (by decide) rfl (by conv => lhs; whnf) ?_)
    exact ⟨by rw [← hz, decide_eq_false h0], hx⟩
theorem intIdx_calls {α : Type} {l : List α} {f : α → List Value} {q : α → Bool} {fv hv : Value} {w : World} (hk : ∀ x, (f x).length = 1) (hH : Sl w hv 1 (l.flatMap f)) (hlen : l.length ≤ 140737488351232) (hf : ∀ x ∈ l, ∀ w1, Ext w w1 → CallF Tryz.prog fv #[(f x).headD undef] w1 (fun v w2 => v = .bool (q x) ∧ Ext w1 w2)) :
    Calls Tryz.prog 97 #[hv, fv] w (fun e w' => ∃ v, e = .returned v ∧ ∃ z, v = .int .i64 z ∧ decide (0 ≤ z) = l.any q ∧ Ext w w') := by
  obtain ⟨ka, kc, rfl, hp⟩ := sl_each hk (by decide) hH
  refine calls_of Tryz.func97 rfl Tryz.ntmps97 rfl ?_
  repeat' (first | refine a_mov ?_ | refine a_asg ?_ | refine a_binN ?_ | refine a_lenv ?_ | (refine o_nil (hK _ _ ?_); clear hK K) | refine wk_reg ?_ | refine wk_seq fun K hK => ?_ | (refine wk_skip (hK _ _ ?_); clear hK K) | refine wk_block ?_ | refine wk_cond_t rfl ?_ | refine wk_cond_f rfl ?_ | (refine wk_exit ?_; (repeat (refine blockK_other rfl ?_)); refine blockK_same ?_; try ((repeat ((fail_if_success (refine hK _ _ ?_)); clear hK K)); refine hK _ _ ?_; clear hK K)) | (refine a_bin ?_ ?_ <;> intro _ <;> try (exfalso; omega)) | fail)
  refine wk_loopH [] rfl (fun i : Nat => [(0, .slice ka l.length kc), (1, fv), (7, .int .i64 (l.length : Int)), (8, .int .i64 (i : Int))])
    (fun i w' => (i ≤ l.length ∧ (l.take i).any q = false) ∧ Ext w w') (fun i => l.length - i) 0 ⟨rfl, rfl, rfl, rfl, trivial⟩ ⟨⟨Nat.zero_le _, by simp⟩, (LH.start w (fun _ => False)).done⟩ ?_
  rintro i t1 w1 ⟨⟨hi, hpre⟩, hx1⟩
  by_cases hi1 : i < l.length
  · obtain ⟨b, o, hpp, hr⟩ := hp i hi1
    have hr := hr w1 hx1
    have hmem := List.getElem_mem hi1
    repeat' (first | refine a_mov ?_ | refine a_asg ?_ | refine a_binN ?_ | refine a_lenv ?_ | (refine o_nil (hK _ _ ?_); clear hK K) | refine wk_reg ?_ | refine wk_seq fun K hK => ?_ | (refine wk_skip (hK _ _ ?_); clear hK K) | refine wk_block ?_ | refine wk_cond_t rfl ?_ | refine wk_cond_f rfl ?_ | (refine wk_exit ?_; (repeat (refine blockK_other rfl ?_)); refine blockK_same ?_; try ((repeat ((fail_if_success (refine hK _ _ ?_)); clear hK K)); refine hK _ _ ?_; clear hK K)) | (refine a_bin ?_ ?_ <;> intro _ <;> try (exfalso; omega)) | refine a_idx (c := 1) i hpp ?_ | refine a_row hr (hj := ⟨0, rfl, one_head (hk _)⟩) ?_ | fail)
    refine a_fw (hf _ hmem w1 hx1) ?_
    rintro _ w2 ⟨rfl, hx2⟩
    have hs := any_take_succ q hi1
    rw [hpre, Bool.false_or] at hs
    cases hq : q l[i]
    · rw [hq] at hs
      repeat' (first | refine a_mov ?_ | refine a_asg ?_ | refine a_binN ?_ | refine a_lenv ?_ | (refine o_nil (hK _ _ ?_); clear hK K) | refine wk_reg ?_ | refine wk_seq fun K hK => ?_ | (refine wk_skip (hK _ _ ?_); clear hK K) | refine wk_block ?_ | refine wk_cond_t rfl ?_ | refine wk_cond_f rfl ?_ | (refine wk_exit ?_; (repeat (refine blockK_other rfl ?_)); refine blockK_same ?_; try ((repeat ((fail_if_success (refine hK _ _ ?_)); clear hK K)); refine hK _ _ ?_; clear hK K)) | (refine a_bin ?_ ?_ <;> intro _ <;> try (exfalso; omega)) | fail)
      exact o_nil ⟨i + 1, ⟨rfl, rfl, rfl, rfl, trivial⟩, rfl, ⟨⟨hi1, hs⟩, hx1.trans hx2⟩, by omega⟩
    · repeat' (first | refine a_mov ?_ | refine a_asg ?_ | refine a_binN ?_ | refine a_lenv ?_ | (refine o_nil (hK _ _ ?_); clear hK K) | refine wk_reg ?_ | refine wk_seq fun K hK => ?_ | (refine wk_skip (hK _ _ ?_); clear hK K) | refine wk_block ?_ | refine wk_cond_t rfl ?_ | refine wk_cond_f rfl ?_ | (refine wk_exit ?_; (repeat (refine blockK_other rfl ?_)); refine blockK_same ?_; try ((repeat ((fail_if_success (refine hK _ _ ?_)); clear hK K)); refine hK _ _ ?_; clear hK K)) | (refine a_bin ?_ ?_ <;> intro _ <;> try (exfalso; omega)) | fail)
      refine wk_ret (retQ_tmp1 Tryz.results97 (by decide) rfl (by conv => lhs; whnf) ?_)
      refine ⟨(i : Int), rfl, ?_, hx1.trans hx2⟩
      rw [decide_eq_true (by omega)]
      exact (List.any_eq_true.2 ⟨_, hmem, hq⟩).symm
  · obtain rfl : i = l.length := by omega
    rw [List.take_length] at hpre
    repeat' (first | refine a_mov ?_ | refine a_asg ?_ | refine a_binN ?_ | refine a_lenv ?_ | (refine o_nil (hK _ _ ?_); clear hK K) | refine wk_reg ?_ | refine wk_seq fun K hK => ?_ | (refine wk_skip (hK _ _ ?_); clear hK K) | refine wk_block ?_ | refine wk_cond_t rfl ?_ | refine wk_cond_f rfl ?_ | (refine wk_exit ?_; (repeat (refine blockK_other rfl ?_)); refine blockK_same ?_; try ((repeat ((fail_if_success (refine hK _ _ ?_)); clear hK K)); refine hK _ _ ?_; clear hK K)) | (refine a_bin ?_ ?_ <;> intro _ <;> try (exfalso; omega)) | fail)
    refine wk_ret (retQ_tmp1 Tryz.results97 (by decide) rfl (by conv => lhs; whnf) ?_)
    exact ⟨-1, rfl, by rw [hpre]; rfl, hx1⟩
theorem intAny_calls {α : Type} {l : List α} {f : α → List Value} {q : α → Bool} {fv hv : Value} {w : World} (hk : ∀ x, (f x).length = 1) (hH : Sl w hv 1 (l.flatMap f)) (hlen : l.length ≤ 140737488351232) (hf : ∀ x ∈ l, ∀ w1, Ext w w1 → CallF Tryz.prog fv #[(f x).headD undef] w1 (fun v w2 => v = .bool (q x) ∧ Ext w1 w2)) :
    Calls Tryz.prog 55 #[hv, fv] w (fun e w' => ∃ v, e = .returned v ∧ v = .bool (l.any q) ∧ Ext w w') := by
  refine calls_of Tryz.func55 rfl Tryz.ntmps55 rfl ?_
  repeat' (first | refine a_mov ?_ | refine a_asg ?_ | (refine o_nil (hK _ _ ?_); clear hK K) | refine wk_reg ?_ | refine wk_seq fun K hK => ?_ | (refine a_bin ?_ ?_ <;> intro _ <;> try (exfalso; omega)) | fail)
  refine a_fn (intIdx_calls hk hH hlen hf) ?_
  rintro _ w2 ⟨z, rfl, hz, hx⟩
  by_cases h0 : 0 ≤ z
  · repeat' (first | refine a_mov ?_ | refine a_asg ?_ | (refine o_nil (hK _ _ ?_); clear hK K) | refine wk_reg ?_ | refine wk_seq fun K hK => ?_ | (refine a_bin ?_ ?_ <;> intro _ <;> try (exfalso; omega)) | fail)
    refine wk_ret (retQ_tmp1 Tryz.results55 (by decide) rfl (by conv => lhs; whnf) ?_)
    exact ⟨by rw [← hz, decide_eq_true h0], hx⟩
  · repeat' (first | refine a_mov ?_ | refine a_asg ?_ | (refine o_nil (hK _ _ ?_); clear hK K) | refine wk_reg ?_ | refine wk_seq fun K hK => ?_ | (refine a_bin ?_ ?_ <;> intro _ <;> try (exfalso; omega)) | fail)
    refine wk_ret (retQ_tmp1 Tryz.results55 (by decide) rfl (by conv => lhs; whnf) ?_)
    exact ⟨by rw [← hz, decide_eq_false h0], hx⟩
theorem caseIdx_calls {α : Type} {l : List α} {f : α → List Value} {q : α → Bool} {fv hv : Value} {w : World} (hk : ∀ x, (f x).length = 1) (hH : Sl w hv 1 (l.flatMap f)) (hlen : l.length ≤ 140737488351232) (hf : ∀ x ∈ l, ∀ w1, Ext w w1 → CallF Tryz.prog fv #[(f x).headD undef] w1 (fun v w2 => v = .bool (q x) ∧ Ext w1 w2)) :
    Calls Tryz.prog 107 #[hv, fv] w (fun e w' => ∃ v, e = .returned v ∧ ∃ z, v = .int .i64 z ∧ decide (0 ≤ z) = l.any q ∧ Ext w w') := by
  obtain ⟨ka, kc, rfl, hp⟩ := sl_each hk (by decide) hH
  refine calls_of Tryz.func107 rfl Tryz.ntmps107 rfl ?_
  repeat' (first | refine a_mov ?_ | refine a_asg ?_ | refine a_binN ?_ | refine a_lenv ?_ | (refine o_nil (hK _ _ ?_); clear hK K) | refine wk_reg ?_ | refine wk_seq fun K hK => ?_ | (refine wk_skip (hK _ _ ?_); clear hK K) | refine wk_block ?_ | refine wk_cond_t rfl ?_ | refine wk_cond_f rfl ?_ | (refine wk_exit ?_; (repeat (refine blockK_other rfl ?_)); refine blockK_same ?_; try ((repeat ((fail_if_success (refine hK _ _ ?_)); clear hK K)); refine hK _ _ ?_; clear hK K)) | (refine a_bin ?_ ?_ <;> intro _ <;> try (exfalso; omega)) | fail)
  refine wk_loopH [] rfl (fun i : Nat => [(0, .slice ka l.length kc), (1, fv), (7, .int .i64 (l.length : Int)), (8, .int .i64 (i : Int))])
    (fun i w' => (i ≤ l.length ∧ (l.take i).any q = false) ∧ Ext w w') (fun i => l.length - i) 0 ⟨rfl, rfl, rfl, rfl, trivial⟩ ⟨⟨Nat.zero_le _, by simp⟩, (LH.start w (fun _ => False)).done⟩ ?_
  rintro i t1 w1 ⟨⟨hi, hpre⟩, hx1⟩
  by_cases hi1 : i < l.length
  · obtain ⟨b, o, hpp, hr⟩ := hp i hi1
    have hr := hr w1 hx1
    have hmem := List.getElem_mem hi1
    repeat' (first | refine a_mov ?_ | refine a_asg ?_ | refine a_binN ?_ | refine a_lenv ?_ | (refine o_nil (hK _ _ ?_); clear hK K) | refine wk_reg ?_ | refine wk_seq fun K hK => ?_ | (refine wk_skip (hK _ _ ?_); clear hK K) | refine wk_block ?_ | refine wk_cond_t rfl ?_ | refine wk_cond_f rfl ?_ | (refine wk_exit ?_; (repeat (refine blockK_other rfl ?_)); refine blockK_same ?_; try ((repeat ((fail_if_success (refine hK _ _ ?_)); clear hK K)); refine hK _ _ ?_; clear hK K)) | (refine a_bin ?_ ?_ <;> intro _ <;> try (exfalso; omega)) | refine a_idx (c := 1) i hpp ?_ | refine a_row hr (hj := ⟨0, rfl, one_head (hk _)⟩) ?_ | fail)
    refine a_fw (hf _ hmem w1 hx1) ?_
    rintro _ w2 ⟨rfl, hx2⟩
    have hs := any_take_succ q hi1
    rw [hpre, Bool.false_or] at hs
    cases hq : q l[i]
    · rw [hq] at hs
      repeat' (first | refine a_mov ?_ | refine a_asg ?_ | refine a_binN ?_ | refine a_lenv ?_ | (refine o_nil (hK _ _ ?_); clear hK K) | refine wk_reg ?_ | refine wk_seq fun K hK => ?_ | (refine wk_skip (hK _ _ ?_); clear hK K) | refine wk_block ?_ | refine wk_cond_t rfl ?_ | refine wk_cond_f rfl ?_ | (refine wk_exit ?_; (repeat (refine blockK_other rfl ?_)); refine blockK_same ?_; try ((repeat ((fail_if_success (refine hK _ _ ?_)); clear hK K)); refine hK _ _ ?_; clear hK K)) | (refine a_bin ?_ ?_ <;> intro _ <;> try (exfalso; omega)) | fail)
      exact o_nil ⟨i + 1, ⟨rfl, rfl, rfl, rfl, trivial⟩, rfl, ⟨⟨hi1, hs⟩, hx1.trans hx2⟩, by omega⟩
    · repeat' (first | refine a_mov ?_ | refine a_asg ?_ | refine a_binN ?_ | refine a_lenv ?_ | (refine o_nil (hK _ _ ?_); clear hK K) | refine wk_reg ?_ | refine wk_seq fun K hK => ?_ | (refine wk_skip (hK _ _ ?_); clear hK K) | refine wk_block ?_ | refine wk_cond_t rfl ?_ | refine wk_cond_f rfl ?_ | (refine wk_exit ?_; (repeat (refine blockK_other rfl ?_)); refine blockK_same ?_; try ((repeat ((fail_if_success (refine hK _ _ ?_)); clear hK K)); refine hK _ _ ?_; clear hK K)) | (refine a_bin ?_ ?_ <;> intro _ <;> try (exfalso; omega)) | fail)
      refine wk_ret (retQ_tmp1 Tryz.results107 (by decide) rfl (by conv => lhs; whnf) ?_)
      refine ⟨(i : Int), rfl, ?_, hx1.trans hx2⟩
      rw [decide_eq_true (by omega)]
      exact (List.any_eq_true.2 ⟨_, hmem, hq⟩).symm
  · obtain rfl : i = l.length := by omega
    rw [List.take_length] at hpre
    repeat' (first | refine a_mov ?_ | refine a_asg ?_ | refine a_binN ?_ | refine a_lenv ?_ | (refine o_nil (hK _ _ ?_); clear hK K) | refine wk_reg ?_ | refine wk_seq fun K hK => ?_ | (refine wk_skip (hK _ _ ?_); clear hK K) | refine wk_block ?_ | refine wk_cond_t rfl ?_ | refine wk_cond_f rfl ?_ | (refine wk_exit ?_; (repeat (refine blockK_other rfl ?_)); refine blockK_same ?_; try ((repeat ((fail_if_success (refine hK _ _ ?_)); clear hK K)); refine hK _ _ ?_; clear hK K)) | (refine a_bin ?_ ?_ <;> intro _ <;> try (exfalso; omega)) | fail)
    refine wk_ret (retQ_tmp1 Tryz.results107 (by decide) rfl (by conv => lhs; whnf) ?_)
    exact ⟨-1, rfl, by rw [hpre]; rfl, hx1⟩
theorem caseAny_calls {α : Type} {l : List α} {f : α → List Value} {q : α → Bool} {fv hv : Value} {w : World} (hk : ∀ x, (f x).length = 1) (hH : Sl w hv 1 (l.flatMap f)) (hlen : l.length ≤ 140737488351232) (hf : ∀ x ∈ l, ∀ w1, Ext w w1 → CallF Tryz.prog fv #[(f x).headD undef] w1 (fun v w2 => v = .bool (q x) ∧ Ext w1 w2)) :
    Calls Tryz.prog 78 #[hv, fv] w (fun e w' => ∃ v, e = .returned v ∧ v = .bool (l.any q) ∧ Ext w w') := by
  refine calls_of Tryz.func78 rfl Tryz.ntmps78 rfl ?_
  repeat' (first | refine a_mov ?_ | refine a_asg ?_ | (refine o_nil (hK _ _ ?_); clear hK K) | refine wk_reg ?_ | refine wk_seq fun K hK => ?_ | (refine a_bin ?_ ?_ <;> intro _ <;> try (exfalso; omega)) | fail)
  refine a_fn (caseIdx_calls hk hH hlen hf) ?_
  rintro _ w2 ⟨z, rfl, hz, hx⟩
  by_cases h0 : 0 ≤ z
  · repeat' (first | refine a_mov ?_ | refine a_asg ?_ | (refine o_nil (hK _ _ ?_); clear hK K) | refine wk_reg ?_ | refine wk_seq fun K hK => ?_ | (refine a_bin ?_ ?_ <;> intro _ <;> try (exfalso; omega)) | fail)
    refine wk_ret (retQ_tmp1 Tryz.results78 (by decide) rfl (by conv => lhs; whnf) ?_)
    exact ⟨by rw [← hz, decide_eq_true h0], hx⟩
  · repeat' (first | refine a_mov ?_ | refine a_asg ?_ | (refine o_nil (hK _ _ ?_); clear hK K) | refine wk_reg ?_ | refine wk_seq fun K hK => ?_ | (refine a_bin ?_ ?_ <;> intro _ <;> try (exfalso; omega)) | fail)
    refine wk_ret (retQ_tmp1 Tryz.results78 (by decide) rfl (by conv => lhs; whnf) ?_)
    exact ⟨by rw [← hz, decide_eq_false h0], hx⟩
end Go.Proofs

set_option linter.unusedVariables false
set_option linter.unusedSimpArgs false
set_option linter.unnecessarySimpa false
set_option maxRecDepth 10000
namespace Go.Pd
open Go
theorem key_i64 {P : Program} {kt : TypeId} (hu : P.underlying kt = some (.int .i64)) : Key P kt (Value.int .i64) := by
  refine ⟨fun e a w => ?_, fun a b w => ?_, fun a b u hu' x hx => ?_, fun a => ?_, ⟨_, hu⟩⟩
  · show (Instr.checkKey e (9999 + 1) kt _).run P w = _
    unfold Instr.checkKey
    rw [sem_bind (run_underlying' hu w)]
    rfl
  · exact (Sc.int hu).run 9999 w
  · rw [hu] at hu'
    cases hu'
    simp only [Instr.sameNow, if_true, Option.some.injEq] at hx
    rw [← hx]
    by_cases h : a = b <;> simp [h]
  · show (a == a) = true
    simp
end Go.Pd
namespace Go.Proofs
open Go Go.Pd Go.Top
attribute [local irreducible] OpsL W RetQ OpsQ OpsC
def OffB (w : World) (v : Value) : Prop := ∃ b c, v = .map (some b) ∧ w.heap[b]? = some (.map #[] c)
theorem OffB.ext {w w' : World} {v : Value} (h : OffB w v) (e : Ext w w') : OffB w' v := by
  obtain ⟨b, c, rfl, hb⟩ := h
  exact ⟨b, c, rfl, by rw [e.same b (Array.getElem?_eq_some_iff.1 hb).1 (fun h => h)]; exact hb⟩
theorem closedOn_calls (w : World) : Calls Tryz.prog 67 #[.slice none 0 0] w (fun e w' => ∃ v, e = .returned v ∧ OffB w' v ∧ Ext w w') := by
  refine calls_of Tryz.func67 rfl Tryz.ntmps67 rfl ?_
  repeat' (first | refine a_mov ?_ | refine a_asg ?_ | refine a_lenv ?_ | (refine o_nil (hK _ _ ?_); clear hK K) | refine wk_reg ?_ | refine wk_seq fun K hK => ?_ | refine wk_block ?_ | refine wk_cond_f rfl ?_ | (refine wk_exit ?_; (repeat (refine blockK_other rfl ?_)); refine blockK_same ?_; try ((repeat ((fail_if_success (refine hK _ _ ?_)); clear hK K)); refine hK _ _ ?_; clear hK K)) | (refine a_bin ?_ ?_ <;> intro _ <;> try (exfalso; omega)) | fail)
  refine o_makeMap (LH.start w (fun _ => False)) rfl ?_
  intro b w1 hb hl
  have ho : OffB w1 (.map (some b)) := ⟨b, 0, rfl, hl.get 0 rfl⟩
  have e1 : Ext w w1 := hl.done
  clear hl
  repeat' (first | refine a_mov ?_ | refine a_asg ?_ | refine a_lenv ?_ | (refine o_nil (hK _ _ ?_); clear hK K) | refine wk_reg ?_ | refine wk_seq fun K hK => ?_ | refine wk_block ?_ | refine wk_cond_f rfl ?_ | (refine wk_exit ?_; (repeat (refine blockK_other rfl ?_)); refine blockK_same ?_; try ((repeat ((fail_if_success (refine hK _ _ ?_)); clear hK K)); refine hK _ _ ?_; clear hK K)) | (refine a_bin ?_ ?_ <;> intro _ <;> try (exfalso; omega)) | fail)
  refine wk_loopH [] rfl (fun _ : Unit => [(3, .map (some b)), (7, .slice none 0 0), (8, .int .i64 0), (9, .int .i64 0)]) (fun _ w' => w' = w1) (fun _ => 0) () ⟨rfl, rfl, rfl, rfl, trivial⟩ rfl ?_
  rintro _ t w1 rfl
  repeat' (first | refine a_mov ?_ | refine a_asg ?_ | refine a_lenv ?_ | (refine o_nil (hK _ _ ?_); clear hK K) | refine wk_reg ?_ | refine wk_seq fun K hK => ?_ | refine wk_block ?_ | refine wk_cond_f rfl ?_ | (refine wk_exit ?_; (repeat (refine blockK_other rfl ?_)); refine blockK_same ?_; try ((repeat ((fail_if_success (refine hK _ _ ?_)); clear hK K)); refine hK _ _ ?_; clear hK K)) | (refine a_bin ?_ ?_ <;> intro _ <;> try (exfalso; omega)) | fail)
  refine wk_ret (retQ_tmp1 Tryz.results67 (by decide) rfl (by conv => lhs; whnf) ?_)
  exact ⟨ho, e1⟩
theorem weekday_calls (d : Nat) (h : d ≤ 1000000) (w : World) : Calls Tryz.prog 101 #[.int .i64 (d : Int)] w (fun e w' => ∃ v, e = .returned v ∧ v = .int .i64 (((d + 5) % 7 : Nat) : Int) ∧ w' = w) := by
  refine calls_of Tryz.func101 rfl Tryz.ntmps101 rfl ?_
  repeat' (first | refine a_mov ?_ | refine a_asg ?_ | refine a_binN ?_ | refine a_notb ?_ | (refine o_nil (hK _ _ ?_); clear hK K) | refine wk_reg ?_ | refine wk_seq fun K hK => ?_ | (refine wk_skip (hK _ _ ?_); clear hK K) | refine wk_cond_f rfl ?_ | fail)
  refine o_fn (cis_calls d w) rfl (fun _ => rfl) rfl ?_
  rintro v w ⟨rfl, rfl⟩
  have hz : isD (d : Int) = true := by simp only [isD, decide_eq_true_eq]; omega
  rw [hz]
  repeat' (first | refine a_rem ?_ | refine a_mov ?_ | refine a_asg ?_ | refine a_binN ?_ | refine a_notb ?_ | (refine o_nil (hK _ _ ?_); clear hK K) | refine wk_reg ?_ | refine wk_seq fun K hK => ?_ | (refine wk_skip (hK _ _ ?_); clear hK K) | refine wk_cond_f rfl ?_ | fail)
  refine wk_ret (retQ_tmp1 Tryz.results101 (by decide) rfl (by conv => lhs; whnf) ?_)
  exact ⟨rfl, rfl⟩
theorem open_calls (d : Nat) {v : Value} {w : World} (hv : OffB w v) : Calls Tryz.prog 68 #[v, .int .i64 (d : Int)] w (fun e w' => ∃ v, e = .returned v ∧ v = .bool (openD d) ∧ w' = w) := by
  obtain ⟨b, c, rfl, hb⟩ := hv
  refine calls_of Tryz.func68 rfl Tryz.ntmps68 rfl ?_
  repeat' (first | refine a_mov ?_ | refine a_asg ?_ | refine a_notb ?_ | refine a_pick_t ?_ | refine a_pick_f ?_ | refine a_not ?_ | (refine o_nil (hK _ _ ?_); clear hK K) | refine wk_reg ?_ | refine wk_seq fun K hK => ?_ | (refine a_bin ?_ ?_ <;> intro _ <;> try (exfalso; omega)) | fail)
  refine o_fn (cis_calls d w) rfl (fun _ => rfl) rfl ?_
  rintro v w ⟨rfl, rfl⟩
  by_cases hd : d ≤ 1000000
  · have hz : isD (d : Int) = true := by simp only [isD, decide_eq_true_eq]; omega
    rw [hz]
    repeat' (first | refine a_mov ?_ | refine a_asg ?_ | refine a_notb ?_ | refine a_pick_t ?_ | refine a_pick_f ?_ | refine a_not ?_ | (refine o_nil (hK _ _ ?_); clear hK K) | refine wk_reg ?_ | refine wk_seq fun K hK => ?_ | (refine a_bin ?_ ?_ <;> intro _ <;> try (exfalso; omega)) | fail)
    refine o_fn (weekday_calls d hd w) rfl (fun _ => rfl) rfl ?_
    rintro v w ⟨rfl, rfl⟩
    repeat' (first | refine a_mov ?_ | refine a_asg ?_ | refine a_notb ?_ | refine a_pick_t ?_ | refine a_pick_f ?_ | refine a_not ?_ | (refine o_nil (hK _ _ ?_); clear hK K) | refine wk_reg ?_ | refine wk_seq fun K hK => ?_ | (refine a_bin ?_ ?_ <;> intro _ <;> try (exfalso; omega)) | refine o_lookup (α := Int) (f := Value.int .i64) (l := []) (d : Int) MapR.nil hb (key_i64 rfl) rfl rfl rfl rfl rfl ?_ | fail)
    · refine wk_ret (retQ_tmp1 Tryz.results68 (by decide) rfl (by conv => lhs; whnf) ?_)
      refine ⟨?_, rfl⟩
      have : openD d = true := by unfold openD; rw [decide_eq_true_iff]; omega
      rw [this]
      rfl
    · refine wk_ret (retQ_tmp1 Tryz.results68 (by decide) rfl (by conv => lhs; whnf) ?_)
      refine ⟨?_, rfl⟩
      have : openD d = false := by unfold openD; rw [decide_eq_false_iff_not]; omega
      rw [this]
  · have hz : isD (d : Int) = false := by simp only [isD, decide_eq_false_iff_not]; omega
    rw [hz]
    repeat' (first | refine a_mov ?_ | refine a_asg ?_ | refine a_notb ?_ | refine a_pick_t ?_ | refine a_pick_f ?_ | refine a_not ?_ | (refine o_nil (hK _ _ ?_); clear hK K) | refine wk_reg ?_ | refine wk_seq fun K hK => ?_ | (refine a_bin ?_ ?_ <;> intro _ <;> try (exfalso; omega)) | fail)
    refine wk_ret (retQ_tmp1 Tryz.results68 (by decide) rfl (by conv => lhs; whnf) ?_)
    refine ⟨congrArg Value.bool ?_, rfl⟩
    rw [eq_comm]
    unfold openD
    rw [decide_eq_false_iff_not]
    omega
theorem work_calls (d : Nat) (w : World) : Calls Tryz.prog 75 #[.int .i64 (d : Int), .slice none 0 0] w (fun e w' => ∃ v, e = .returned v ∧ v = .bool (openD d) ∧ Ext w w') := by
  refine calls_of Tryz.func75 rfl Tryz.ntmps75 rfl ?_
  repeat' (first | refine a_mov ?_ | refine a_asg ?_ | (refine o_nil (hK _ _ ?_); clear hK K) | refine wk_reg ?_ | refine wk_seq fun K hK => ?_ | fail)
  refine o_fn (closedOn_calls w) rfl (fun _ => rfl) rfl ?_
  rintro v w1 ⟨ho, e1⟩
  repeat' (first | refine a_mov ?_ | refine a_asg ?_ | (refine o_nil (hK _ _ ?_); clear hK K) | refine wk_reg ?_ | refine wk_seq fun K hK => ?_ | fail)
  refine o_fn (open_calls d ho) rfl (fun _ => rfl) rfl ?_
  rintro v w1 ⟨rfl, rfl⟩
  repeat' (first | refine a_mov ?_ | refine a_asg ?_ | (refine o_nil (hK _ _ ?_); clear hK K) | refine wk_reg ?_ | refine wk_seq fun K hK => ?_ | fail)
  refine wk_ret (retQ_tmp1 Tryz.results75 (by decide) rfl (by conv => lhs; whnf) ?_)
  exact ⟨rfl, e1⟩
def openV (mv : Value) : Value := .func (.func 68) #[mv] #[]
theorem openV_calls (d : Nat) {mv : Value} {w : World} (h : OffB w mv) : CallF Tryz.prog (openV mv) #[.int .i64 (d : Int)] w (fun v w' => v = .bool (openD d) ∧ w' = w) := ⟨_, _, _, rfl, fun _ => rfl, open_calls d h⟩
set_option maxHeartbeats 2000000 in
theorem from_calls (d : Nat) (hd : d ≤ 100000000) {mv : Value} {w : World} (h : OffB w mv) : Calls Tryz.prog 71 #[.int .i64 (d : Int), openV mv] w (fun e w' => ∃ v, e = .returned v ∧ v = .int .i64 (fromL d : Int) ∧ w' = w) := by
  refine calls_of Tryz.func71 rfl Tryz.ntmps71 rfl ?_
  repeat' (first | refine a_mov ?_ | refine a_asg ?_ | refine a_binN ?_ | refine a_notb ?_ | refine a_pick_t ?_ | refine a_pick_f ?_ | refine a_not ?_ | (refine o_nil (hK _ _ ?_); clear hK K) | refine wk_reg ?_ | refine wk_seq fun K hK => ?_ | (refine wk_skip (hK _ _ ?_); clear hK K) | refine wk_block ?_ | refine wk_cond_t rfl ?_ | refine wk_cond_f rfl ?_ | (refine wk_exit ?_; (repeat (refine blockK_other rfl ?_)); refine blockK_same ?_; try ((repeat ((fail_if_success (refine hK _ _ ?_)); clear hK K)); refine hK _ _ ?_; clear hK K)) | fail)
  refine wk_loopH [] rfl (fun k : Nat => [(0, .int .i64 (k : Int)), (1, openV mv)]) (fun k w' => (d ≤ k ∧ k ≤ d + 1000002 ∧ fromL k = fromL d) ∧ w' = w) (fun k => 1000001 - k) d ⟨rfl, rfl, trivial⟩ ⟨⟨Nat.le_refl _, by omega, rfl⟩, rfl⟩ ?_
  rintro k t w ⟨⟨hk1, hk2, hf⟩, rfl⟩
  repeat' (first | refine a_mov ?_ | refine a_asg ?_ | refine a_binN ?_ | refine a_notb ?_ | refine a_pick_t ?_ | refine a_pick_f ?_ | refine a_not ?_ | (refine o_nil (hK _ _ ?_); clear hK K) | refine wk_reg ?_ | refine wk_seq fun K hK => ?_ | (refine wk_skip (hK _ _ ?_); clear hK K) | refine wk_block ?_ | refine wk_cond_t rfl ?_ | refine wk_cond_f rfl ?_ | (refine wk_exit ?_; (repeat (refine blockK_other rfl ?_)); refine blockK_same ?_; try ((repeat ((fail_if_success (refine hK _ _ ?_)); clear hK K)); refine hK _ _ ?_; clear hK K)) | fail)
  refine o_fn (cis_calls k w) rfl (fun _ => rfl) rfl ?_
  rintro v w ⟨rfl, rfl⟩
  by_cases hz0 : k ≤ 1000000
  · have hz : isD (k : Int) = true := by simp only [isD, decide_eq_true_eq]; omega
    rw [hz]
    repeat' (first | refine a_mov ?_ | refine a_asg ?_ | refine a_binN ?_ | refine a_notb ?_ | refine a_pick_t ?_ | refine a_pick_f ?_ | refine a_not ?_ | (refine o_nil (hK _ _ ?_); clear hK K) | refine wk_reg ?_ | refine wk_seq fun K hK => ?_ | (refine wk_skip (hK _ _ ?_); clear hK K) | refine wk_block ?_ | refine wk_cond_t rfl ?_ | refine wk_cond_f rfl ?_ | (refine wk_exit ?_; (repeat (refine blockK_other rfl ?_)); refine blockK_same ?_; try ((repeat ((fail_if_success (refine hK _ _ ?_)); clear hK K)); refine hK _ _ ?_; clear hK K)) | fail)
    refine a_fw (openV_calls k h) ?_
    rintro _ w ⟨rfl, rfl⟩
    by_cases ho : (k + 5) % 7 < 5
    · have ho2 : openD k = true := by unfold openD; rw [decide_eq_true_iff]; omega
      rw [ho2]
      repeat' (first | refine a_mov ?_ | refine a_asg ?_ | refine a_binN ?_ | refine a_notb ?_ | refine a_pick_t ?_ | refine a_pick_f ?_ | refine a_not ?_ | (refine o_nil (hK _ _ ?_); clear hK K) | refine wk_reg ?_ | refine wk_seq fun K hK => ?_ | (refine wk_skip (hK _ _ ?_); clear hK K) | refine wk_block ?_ | refine wk_cond_t rfl ?_ | refine wk_cond_f rfl ?_ | (refine wk_exit ?_; (repeat (refine blockK_other rfl ?_)); refine blockK_same ?_; try ((repeat ((fail_if_success (refine hK _ _ ?_)); clear hK K)); refine hK _ _ ?_; clear hK K)) | fail)
      refine wk_ret (retQ_tmp1 Tryz.results71 (by decide) rfl (by conv => lhs; whnf) ?_)
      exact ⟨by rw [← hf, fromL_stop (.inr ho)], rfl⟩
    · have ho2 : openD k = false := by unfold openD; rw [decide_eq_false_iff_not]; omega
      have hs := fromL_step hz0 ho
      rw [ho2]
      repeat' (first | refine a_mov ?_ | refine a_asg ?_ | refine a_binN ?_ | refine a_notb ?_ | refine a_pick_t ?_ | refine a_pick_f ?_ | refine a_not ?_ | (refine o_nil (hK _ _ ?_); clear hK K) | refine wk_reg ?_ | refine wk_seq fun K hK => ?_ | (refine wk_skip (hK _ _ ?_); clear hK K) | refine wk_block ?_ | refine wk_cond_t rfl ?_ | refine wk_cond_f rfl ?_ | (refine wk_exit ?_; (repeat (refine blockK_other rfl ?_)); refine blockK_same ?_; try ((repeat ((fail_if_success (refine hK _ _ ?_)); clear hK K)); refine hK _ _ ?_; clear hK K)) | fail)
      exact o_nil ⟨k + 1, ⟨rfl, rfl, trivial⟩, rfl, ⟨⟨by omega, by omega, hs.trans hf⟩, rfl⟩, by omega⟩
  · have hz : isD (k : Int) = false := by simp only [isD, decide_eq_false_iff_not]; omega
    rw [hz]
    repeat' (first | refine a_mov ?_ | refine a_asg ?_ | refine a_binN ?_ | refine a_notb ?_ | refine a_pick_t ?_ | refine a_pick_f ?_ | refine a_not ?_ | (refine o_nil (hK _ _ ?_); clear hK K) | refine wk_reg ?_ | refine wk_seq fun K hK => ?_ | (refine wk_skip (hK _ _ ?_); clear hK K) | refine wk_block ?_ | refine wk_cond_t rfl ?_ | refine wk_cond_f rfl ?_ | (refine wk_exit ?_; (repeat (refine blockK_other rfl ?_)); refine blockK_same ?_; try ((repeat ((fail_if_success (refine hK _ _ ?_)); clear hK K)); refine hK _ _ ?_; clear hK K)) | fail)
    refine wk_ret (retQ_tmp1 Tryz.results71 (by decide) rfl (by conv => lhs; whnf) ?_)
    exact ⟨by rw [← hf, fromL_stop (.inl (by omega))], rfl⟩
end Go.Proofs
