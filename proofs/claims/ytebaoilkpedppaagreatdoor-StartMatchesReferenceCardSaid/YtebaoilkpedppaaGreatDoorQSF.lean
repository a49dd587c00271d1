/-
  Conditions of commencement: what holds, the closures.
-/
import Derived.Test.YtebaoilkpedppaaGreatDoorQSC
import Derived.Test.YtebaoilkpedppaaGreatDoorQE
set_option linter.unusedVariables false
set_option linter.unusedSimpArgs false
set_option linter.unnecessarySimpa false
set_option maxRecDepth 10000
namespace Go.Proofs
open Go Go.Pd Go.Sta
attribute [local irreducible] OpsL W RetQ OpsQ OpsC
def hapL (x : Hap) : List Value := [.bool x.event, str x.name, .int .i64 x.day, .int .i64 x.known]
theorem hapL_len (x : Hap) : (hapL x).length = 4 := rfl
def MapOf (w : World) (b : Nat) (g : Tx → Option Int) : Prop := ∃ es c l, w.heap[b]? = some (.map es c) ∧ MapR str es l ∧ ∀ id, get l id = (g id).map (Value.int .i64 ·)
theorem MapOf.ext {w w' : World} {b : Nat} {g : Tx → Option Int} (h : MapOf w b g) (e : Ext w w') : MapOf w' b g := by
  obtain ⟨es, c, l, h1, h2, h3⟩ := h
  exact ⟨es, c, l, by rw [e.same b (Array.getElem?_eq_some_iff.1 h1 |>.1) (fun h => h)]; exact h1, h2, h3⟩
def worldL (E : Env) (hv : Value) (mb mo : Nat) : List Value := [.int .i64 E.day, .int .i64 E.known, hv, .map (some mb), .map (some mo)]
def WM (w : World) (E : Env) (wb : Nat) : Prop := ∃ hv mb mo, Row w wb 0 (worldL E hv mb mo) ∧ Sl w hv 4 (E.h.flatMap hapL) ∧ MapOf w mb (fun id => (stuOf E.l id).map (·.begin_)) ∧ MapOf w mo (fun id => (stuOf E.l id).map (·.end_))
theorem WM.ext {w w' : World} {E : Env} {wb : Nat} (h : WM w E wb) (e : Ext w w') : WM w' E wb := by
  obtain ⟨hv, mb, mo, h1, h2, h3, h4⟩ := h
  exact ⟨hv, mb, mo, h1.ext e, h2.ext e, h3.ext e, h4.ext e⟩
theorem reach_calls {w : World} {E : Env} {wb mb sb bb : Nat} {hv : Value} {s : Sn} {kv : Value} {g : Tx → Option Int} {m1 m2 : Nat} (hB : Row w bb 0 [.pointer (some ⟨wb, 0, none⟩)]) (hS : Row w sb 0 (snL s kv)) (hW : Row w wb 0 (worldL E hv m1 m2)) (hM : MapOf w mb g) :
    Calls Tryz.prog 63 #[.map (some mb), .pointer (some ⟨sb, 0, none⟩), .pointer (some ⟨bb, 0, none⟩)] w (fun e w' => ∃ v, e = .returned v ∧ v = .bool (reach E.day (g s.name)) ∧ w' = w) := by
  obtain ⟨es, c, l, hg, hm, hget⟩ := hM
  refine calls_of Tryz.func63 rfl Tryz.ntmps63 rfl ?_
  repeat' (first | refine a_mov ?_ | refine a_asg ?_ | refine a_binN ?_ | refine a_notd ?_ | refine a_notb ?_ | refine a_nilc ?_ | refine a_fa ?_ | refine a_ext ?_ | refine a_lenv ?_ | refine a_lens ?_ | refine a_pick_t ?_ | refine a_pick_f ?_ | refine a_not ?_ | refine a_nilf ?_ | (refine o_nil (hK _ _ ?_); clear hK K) | refine wk_reg ?_ | refine wk_seq fun K hK => ?_ | (refine wk_skip (hK _ _ ?_); clear hK K) | (refine wk_label (hK _ _ ?_); clear hK K) | refine wk_scope ?_ | refine wk_block ?_ | refine wk_cond_t rfl ?_ | refine wk_cond_f rfl ?_ | (refine wk_exit ?_; (repeat (refine blockK_other rfl ?_)); refine blockK_same ?_; try ((repeat ((fail_if_success (refine hK _ _ ?_)); clear hK K)); refine hK _ _ ?_; clear hK K)) | (refine a_bin ?_ ?_ <;> intro _ <;> try (exfalso; omega)) | refine a_ld hl ?_ | (refine a_st hl ?_; clear hl; intro _ hl) | refine a_ix (fun _ => ?_) | refine a_row hS ?_)
  refine o_lookup s.name hm hg (key_str rfl) rfl rfl rfl rfl rfl ?_
  rw [hget]
  cases hgs : g s.name with
  | none =>
    repeat' (first | refine a_mov ?_ | refine a_asg ?_ | refine a_binN ?_ | refine a_notd ?_ | refine a_notb ?_ | refine a_nilc ?_ | refine a_fa ?_ | refine a_ext ?_ | refine a_lenv ?_ | refine a_lens ?_ | refine a_pick_t ?_ | refine a_pick_f ?_ | refine a_not ?_ | refine a_nilf ?_ | (refine o_nil (hK _ _ ?_); clear hK K) | refine wk_reg ?_ | refine wk_seq fun K hK => ?_ | (refine wk_skip (hK _ _ ?_); clear hK K) | (refine wk_label (hK _ _ ?_); clear hK K) | refine wk_scope ?_ | refine wk_block ?_ | refine wk_cond_t rfl ?_ | refine wk_cond_f rfl ?_ | (refine wk_exit ?_; (repeat (refine blockK_other rfl ?_)); refine blockK_same ?_; try ((repeat ((fail_if_success (refine hK _ _ ?_)); clear hK K)); refine hK _ _ ?_; clear hK K)) | (refine a_bin ?_ ?_ <;> intro _ <;> try (exfalso; omega)) | refine a_ld hl ?_ | (refine a_st hl ?_; clear hl; intro _ hl) | refine a_ix (fun _ => ?_) | fail)
    refine wk_ret (retQ_tmp1 Tryz.results63 (by decide) rfl (by conv => lhs; whnf) ?_)
    exact ⟨by rw [hgs]; rfl, rfl⟩
  | some z =>
    have hr : reach E.day (g s.name) = decide (0 ≤ z ∧ z ≤ E.day) := by rw [hgs]; rfl
    by_cases h1 : 0 ≤ z
    · by_cases h2 : z ≤ E.day
      · repeat' (first | refine a_mov ?_ | refine a_asg ?_ | refine a_binN ?_ | refine a_notd ?_ | refine a_notb ?_ | refine a_nilc ?_ | refine a_fa ?_ | refine a_ext ?_ | refine a_lenv ?_ | refine a_lens ?_ | refine a_pick_t ?_ | refine a_pick_f ?_ | refine a_not ?_ | refine a_nilf ?_ | (refine o_nil (hK _ _ ?_); clear hK K) | refine wk_reg ?_ | refine wk_seq fun K hK => ?_ | (refine wk_skip (hK _ _ ?_); clear hK K) | (refine wk_label (hK _ _ ?_); clear hK K) | refine wk_scope ?_ | refine wk_block ?_ | refine wk_cond_t rfl ?_ | refine wk_cond_f rfl ?_ | (refine wk_exit ?_; (repeat (refine blockK_other rfl ?_)); refine blockK_same ?_; try ((repeat ((fail_if_success (refine hK _ _ ?_)); clear hK K)); refine hK _ _ ?_; clear hK K)) | (refine a_bin ?_ ?_ <;> intro _ <;> try (exfalso; omega)) | refine a_ld hl ?_ | (refine a_st hl ?_; clear hl; intro _ hl) | refine a_ix (fun _ => ?_) | refine a_row hB ?_ | refine a_row hW ?_)
        refine wk_ret (retQ_tmp1 Tryz.results63 (by decide) rfl (by conv => lhs; whnf) ?_)
        exact ⟨by rw [hr, decide_eq_true ⟨h1, h2⟩], rfl⟩
      · repeat' (first | refine a_mov ?_ | refine a_asg ?_ | refine a_binN ?_ | refine a_notd ?_ | refine a_notb ?_ | refine a_nilc ?_ | refine a_fa ?_ | refine a_ext ?_ | refine a_lenv ?_ | refine a_lens ?_ | refine a_pick_t ?_ | refine a_pick_f ?_ | refine a_not ?_ | refine a_nilf ?_ | (refine o_nil (hK _ _ ?_); clear hK K) | refine wk_reg ?_ | refine wk_seq fun K hK => ?_ | (refine wk_skip (hK _ _ ?_); clear hK K) | (refine wk_label (hK _ _ ?_); clear hK K) | refine wk_scope ?_ | refine wk_block ?_ | refine wk_cond_t rfl ?_ | refine wk_cond_f rfl ?_ | (refine wk_exit ?_; (repeat (refine blockK_other rfl ?_)); refine blockK_same ?_; try ((repeat ((fail_if_success (refine hK _ _ ?_)); clear hK K)); refine hK _ _ ?_; clear hK K)) | (refine a_bin ?_ ?_ <;> intro _ <;> try (exfalso; omega)) | refine a_ld hl ?_ | (refine a_st hl ?_; clear hl; intro _ hl) | refine a_ix (fun _ => ?_) | refine a_row hB ?_ | refine a_row hW ?_)
        refine wk_ret (retQ_tmp1 Tryz.results63 (by decide) rfl (by conv => lhs; whnf) ?_)
        exact ⟨by rw [hr, decide_eq_false fun h => h2 h.2], rfl⟩
    · repeat' (first | refine a_mov ?_ | refine a_asg ?_ | refine a_binN ?_ | refine a_notd ?_ | refine a_notb ?_ | refine a_nilc ?_ | refine a_fa ?_ | refine a_ext ?_ | refine a_lenv ?_ | refine a_lens ?_ | refine a_pick_t ?_ | refine a_pick_f ?_ | refine a_not ?_ | refine a_nilf ?_ | (refine o_nil (hK _ _ ?_); clear hK K) | refine wk_reg ?_ | refine wk_seq fun K hK => ?_ | (refine wk_skip (hK _ _ ?_); clear hK K) | (refine wk_label (hK _ _ ?_); clear hK K) | refine wk_scope ?_ | refine wk_block ?_ | refine wk_cond_t rfl ?_ | refine wk_cond_f rfl ?_ | (refine wk_exit ?_; (repeat (refine blockK_other rfl ?_)); refine blockK_same ?_; try ((repeat ((fail_if_success (refine hK _ _ ?_)); clear hK K)); refine hK _ _ ?_; clear hK K)) | (refine a_bin ?_ ?_ <;> intro _ <;> try (exfalso; omega)) | refine a_ld hl ?_ | (refine a_st hl ?_; clear hl; intro _ hl) | refine a_ix (fun _ => ?_) | fail)
      refine wk_ret (retQ_tmp1 Tryz.results63 (by decide) rfl (by conv => lhs; whnf) ?_)
      exact ⟨by rw [hr, decide_eq_false fun h => h1 h.1], rfl⟩
def fitsH (E : Env) (event : Bool) (name : Tx) (x : Hap) : Bool := decide (x.event = event ∧ x.name = name ∧ x.day ≤ E.day ∧ x.known ≤ E.known)
theorem hap_calls {w : World} {E : Env} {wb sb bb : Nat} {hv : Value} {s : Sn} {kv : Value} {m1 m2 : Nat} {x : Hap} (hB : Row w bb 0 [.pointer (some ⟨wb, 0, none⟩)]) (hS : Row w sb 0 (snL s kv)) (hW : Row w wb 0 (worldL E hv m1 m2)) :
    Calls Tryz.prog 65 #[.agg (hapL x).toArray, .pointer (some ⟨sb, 0, none⟩), .pointer (some ⟨bb, 0, none⟩)] w (fun e w' => ∃ v, e = .returned v ∧ v = .bool (fitsH E (decide (s.op = 5)) s.name x) ∧ Ext w w') := by
  refine calls_of Tryz.func65 rfl Tryz.ntmps65 rfl ?_
  refine wk_seq fun K hK => ?_
  refine wk_reg ?_
  refine o_box (LH.start w (fun _ => False)) (hapL x) rfl rfl rfl ?_
  intro b3 w1 hb3 hl
  have hx := hl.done
  have hX : Row w1 b3 0 (hapL x) := hl.rowL (vs := hapL x) 0 0 4 rfl
  clear hl
  refine o_asg rfl rfl ?_
  refine o_nil (hK _ _ ?_)
  clear hK K
  refine wk_seq fun K hK => ?_
  obtain ⟨ev, nm, dy, kn⟩ := x
  obtain ⟨bn, hbn⟩ : ∃ bn, bn = decide (nm = s.name) := ⟨_, rfl⟩
  have hval : fitsH E (decide (s.op = 5)) s.name ⟨ev, nm, dy, kn⟩ = ((ev == decide (s.op = 5)) && bn && decide (dy ≤ E.day) && decide (kn ≤ E.known)) := by
    rw [hbn]
    unfold fitsH
    simp only [Bool.decide_and]
    cases ev <;> by_cases h : s.op = 5 <;> simp [h, Bool.and_assoc]
  cases ev <;> cases bn
  all_goals
    refine wk_quiet (List.range 32) ?_
    repeat' (first | refine q_mov ?_ | refine q_asg ?_ | refine q_fa ?_ | refine q_ext ?_ | refine q_binN ?_ | refine q_notd ?_ | refine q_notb ?_ | refine q_pick_t ?_ | refine q_pick_f ?_ | refine q_nilc ?_ | refine q_skip ?_ | refine q_lens ?_ | refine q_lenv ?_ | refine q_nil ?_ | refine q_ix (fun _ => ?_) | (refine q_bin ?_ ?_ <;> intro _ <;> try (exfalso; omega)) | refine q_row (fun w_ hw_ => hX.ext hw_) ?_ | refine q_row (fun w_ hw_ => (hS.ext hx).ext hw_) ?_ | refine q_row (fun w_ hw_ => (hB.ext hx).ext hw_) ?_ | refine q_row (fun w_ hw_ => (hW.ext hx).ext hw_) ?_ | refine q_pur rfl rfl rfl (fun _ => r_eqB rfl rfl rfl) ?_ | refine q_pur rfl rfl rfl (fun _ => (r_eqs (a := nm) (b := s.name) rfl rfl).trans (by rw [← hbn])) ?_)
  all_goals (intro w5 hx5; refine hK _ _ ?_; refine wk_ret (retQ_tmp1 Tryz.results65 (by decide) rfl (by conv => lhs; whnf) ?_); refine ⟨?_, hx.trans hx5⟩; rw [hval])
  all_goals clear hbn hval
  all_goals simp [*]
end Go.Proofs

set_option linter.unusedVariables false
set_option linter.unusedSimpArgs false
set_option linter.unnecessarySimpa false
set_option maxRecDepth 10000
namespace Go.Pd
open Go Go.Proofs
variable {P : Program} {r : Option Nat} {n : Nat} {ops : Array Oper} {K : St → World → Prop} {X : List PanicEntry → St → World → Prop} {l : List Oper} {s : St} {w : World} {d : Nat} {ty : TypeId} {p : String} {af : Array Edge} {g : Option (Nat × Bool)}
def CallF (P : Program) (fv : Value) (args : Array Value) (w : World) (R : Value → World → Prop) : Prop :=
  ∃ f fi ca, fv = .func (.func f) fi ca ∧ (∀ w, (callFunc f (fi ++ args ++ ca)).run P w = .ok (.enter f (fi ++ args ++ ca)) w) ∧ Calls P f (fi ++ args ++ ca) w (fun e w' => ∃ v, e = .returned v ∧ R v w')
theorem a_fw {x : Operand} {xs : Array Operand} {ats : Array TypeId} {fv : Value} {args : Array Value} {R : Value → World → Prop} (hc : CallF P fv args w R) (hk : ∀ v w', R v w' → OpsL P r n ops K X l (s.set d v) w') (hw : Region.wanted ⟨some d, .call ⟨.value x, xs, ats⟩, ty, p, af, g⟩ (yieldedE ops n s) = true := by rfl)
    (hx : rd n s x = fv := by rfl) (hargs : xs.toList.map (rd n s) = args.toList := by rfl) : OpsL P r n ops K X (⟨some d, .call ⟨.value x, xs, ats⟩, ty, p, af, g⟩ :: l) s w := by
  refine o_wanted hw ?_
  unfold OpW
  rw [Oper.semAt_eq _ _ _ (fun c e => by cases e)]
  have hargs' : xs.map (rd n s) = args := Array.ext' (by simpa using hargs)
  simp only [execOp, resolve, hargs', hx]
  obtain ⟨f, fi, ca, rfl, h2, h3⟩ := hc
  rw [sem_bind (a := { target := .fn (.func f) ca, args := fi ++ args }) (w' := w) rfl]
  simp only [invoke]
  rw [h2 w]
  exact Calls.mono h3 fun e w' ⟨v, he, hR⟩ => by subst he; exact hk v w' hR
end Go.Pd
namespace Go.Proofs
open Go Go.Pd Go.Sta
attribute [local irreducible] OpsL W RetQ OpsQ OpsC
theorem any_take_succ {α : Type} (q : α → Bool) {l : List α} {i : Nat} (h : i < l.length) : (l.take (i + 1)).any q = ((l.take i).any q || q l[i]) := by
  rw [List.take_add_one, List.getElem?_eq_getElem h]
  simp only [List.any_append, Option.toList_some, List.any_cons, List.any_nil, Bool.or_false]
theorem hapIdx_calls {l : List Hap} {q : Hap → Bool} {fv hv : Value} {w : World} (hH : Sl w hv 4 (l.flatMap hapL)) (hlen : l.length ≤ 140737488351232) (hf : ∀ x ∈ l, ∀ w1, Ext w w1 → CallF Tryz.prog fv #[.agg (hapL x).toArray] w1 (fun v w2 => v = .bool (q x) ∧ Ext w1 w2)) :
    Calls Tryz.prog 92 #[hv, fv] w (fun e w' => ∃ v, e = .returned v ∧ ∃ z, v = .int .i64 z ∧ decide (0 ≤ z) = l.any q ∧ Ext w w') := by
  obtain ⟨ka, kc, rfl, hp⟩ : ∃ a c, hv = .slice a l.length c ∧ ∀ i, i < l.length → ∃ b o, a = some ⟨b, o, none⟩ ∧ ∀ w', Ext w w' → Row w' b (o + i * 4) (hapL (l.getD i ⟨false, [], 0, 0⟩)) := by
    by_cases h0 : 0 < l.length
    · obtain ⟨a', c', h1, h2⟩ := hH.shape (flat_length hapL_len l) (by omega)
      refine ⟨a', c', h1, fun i hi => ?_⟩
      subst h1
      obtain ⟨b, o, hp, hr⟩ := hH.at (flat_length hapL_len l) (by omega) (by omega)
      refine ⟨b, o, hp, fun w' hw' => (hr.elem hapL_len (k := i) ?_).ext hw'⟩
      simp [hi]
    · obtain ⟨a', c', h1, h2⟩ := hH.shape (flat_length hapL_len l) (by omega)
      exact ⟨a', c', h1, fun i hi => absurd hi (by omega)⟩
  refine calls_of Tryz.func92 rfl Tryz.ntmps92 rfl ?_
  repeat' (first | refine a_mov ?_ | refine a_asg ?_ | refine a_binN ?_ | refine a_notd ?_ | refine a_notb ?_ | refine a_nilc ?_ | refine a_fa ?_ | refine a_ext ?_ | refine a_lenv ?_ | refine a_lens ?_ | refine a_pick_t ?_ | refine a_pick_f ?_ | refine a_not ?_ | refine a_nilf ?_ | (refine o_nil (hK _ _ ?_); clear hK K) | refine wk_reg ?_ | refine wk_seq fun K hK => ?_ | (refine wk_skip (hK _ _ ?_); clear hK K) | (refine wk_label (hK _ _ ?_); clear hK K) | refine wk_scope ?_ | refine wk_block ?_ | refine wk_cond_t rfl ?_ | refine wk_cond_f rfl ?_ | (refine wk_exit ?_; (repeat (refine blockK_other rfl ?_)); refine blockK_same ?_; try ((repeat ((fail_if_success (refine hK _ _ ?_)); clear hK K)); refine hK _ _ ?_; clear hK K)) | (refine a_bin ?_ ?_ <;> intro _ <;> try (exfalso; omega)) | refine a_ld hl ?_ | (refine a_st hl ?_; clear hl; intro _ hl) | refine a_ix (fun _ => ?_) | fail)
  refine wk_loopH [] rfl (fun i : Nat => [(0, .slice ka l.length kc), (1, fv), (7, .int .i64 (l.length : Int)), (8, .int .i64 (i : Int))])
    (fun i w' => (i ≤ l.length ∧ (l.take i).any q = false) ∧ Ext w w') (fun i => l.length - i) 0 ⟨rfl, rfl, rfl, rfl, trivial⟩ ⟨⟨Nat.zero_le _, by simp⟩, (LH.start w (fun _ => False)).done⟩ ?_
  rintro i t1 w1 ⟨⟨hi, hpre⟩, hx1⟩
  by_cases hi1 : i < l.length
  · obtain ⟨b, o, hpp, hr⟩ := hp i hi1
    have hr := hr w1 hx1
    have he : l.getD i ⟨false, [], 0, 0⟩ = l[i] := by simp [hi1]
    rw [he] at hr
    have hmem := List.getElem_mem hi1
    repeat' (first | refine a_mov ?_ | refine a_asg ?_ | refine a_binN ?_ | refine a_notd ?_ | refine a_notb ?_ | refine a_nilc ?_ | refine a_fa ?_ | refine a_ext ?_ | refine a_lenv ?_ | refine a_lens ?_ | refine a_pick_t ?_ | refine a_pick_f ?_ | refine a_not ?_ | refine a_nilf ?_ | (refine o_nil (hK _ _ ?_); clear hK K) | refine wk_reg ?_ | refine wk_seq fun K hK => ?_ | (refine wk_skip (hK _ _ ?_); clear hK K) | (refine wk_label (hK _ _ ?_); clear hK K) | refine wk_scope ?_ | refine wk_block ?_ | refine wk_cond_t rfl ?_ | refine wk_cond_f rfl ?_ | (refine wk_exit ?_; (repeat (refine blockK_other rfl ?_)); refine blockK_same ?_; try ((repeat ((fail_if_success (refine hK _ _ ?_)); clear hK K)); refine hK _ _ ?_; clear hK K)) | (refine a_bin ?_ ?_ <;> intro _ <;> try (exfalso; omega)) | refine a_ld hl ?_ | (refine a_st hl ?_; clear hl; intro _ hl) | refine a_ix (fun _ => ?_) | refine a_idx (c := 4) i hpp ?_ | refine a_all hr ?_ | fail)
    refine a_fw (hf _ hmem w1 hx1) ?_
    rintro _ w2 ⟨rfl, hx2⟩
    have hs := any_take_succ q hi1
    rw [hpre, Bool.false_or] at hs
    cases hq : q l[i]
    · rw [hq] at hs
      repeat' (first | refine a_mov ?_ | refine a_asg ?_ | refine a_binN ?_ | refine a_notd ?_ | refine a_notb ?_ | refine a_nilc ?_ | refine a_fa ?_ | refine a_ext ?_ | refine a_lenv ?_ | refine a_lens ?_ | refine a_pick_t ?_ | refine a_pick_f ?_ | refine a_not ?_ | refine a_nilf ?_ | (refine o_nil (hK _ _ ?_); clear hK K) | refine wk_reg ?_ | refine wk_seq fun K hK => ?_ | (refine wk_skip (hK _ _ ?_); clear hK K) | (refine wk_label (hK _ _ ?_); clear hK K) | refine wk_scope ?_ | refine wk_block ?_ | refine wk_cond_t rfl ?_ | refine wk_cond_f rfl ?_ | (refine wk_exit ?_; (repeat (refine blockK_other rfl ?_)); refine blockK_same ?_; try ((repeat ((fail_if_success (refine hK _ _ ?_)); clear hK K)); refine hK _ _ ?_; clear hK K)) | (refine a_bin ?_ ?_ <;> intro _ <;> try (exfalso; omega)) | refine a_ld hl ?_ | (refine a_st hl ?_; clear hl; intro _ hl) | refine a_ix (fun _ => ?_) | fail)
      exact o_nil ⟨i + 1, ⟨rfl, rfl, rfl, rfl, trivial⟩, rfl, ⟨⟨hi1, hs⟩, hx1.trans hx2⟩, by omega⟩
    · repeat' (first | refine a_mov ?_ | refine a_asg ?_ | refine a_binN ?_ | refine a_notd ?_ | refine a_notb ?_ | refine a_nilc ?_ | refine a_fa ?_ | refine a_ext ?_ | refine a_lenv ?_ | refine a_lens ?_ | refine a_pick_t ?_ | refine a_pick_f ?_ | refine a_not ?_ | refine a_nilf ?_ | (refine o_nil (hK _ _ ?_); clear hK K) | refine wk_reg ?_ | refine wk_seq fun K hK => ?_ | (refine wk_skip (hK _ _ ?_); clear hK K) | (refine wk_label (hK _ _ ?_); clear hK K) | refine wk_scope ?_ | refine wk_block ?_ | refine wk_cond_t rfl ?_ | refine wk_cond_f rfl ?_ | (refine wk_exit ?_; (repeat (refine blockK_other rfl ?_)); refine blockK_same ?_; try ((repeat ((fail_if_success (refine hK _ _ ?_)); clear hK K)); refine hK _ _ ?_; clear hK K)) | (refine a_bin ?_ ?_ <;> intro _ <;> try (exfalso; omega)) | refine a_ld hl ?_ | (refine a_st hl ?_; clear hl; intro _ hl) | refine a_ix (fun _ => ?_) | fail)
      refine wk_ret (retQ_tmp1 Tryz.results92 (by decide) rfl (by conv => lhs; whnf) ?_)
      refine ⟨(i : Int), rfl, ?_, hx1.trans hx2⟩
      rw [decide_eq_true (by omega)]
      exact (List.any_eq_true.2 ⟨_, hmem, hq⟩).symm
  · obtain rfl : i = l.length := by omega
    rw [List.take_length] at hpre
    repeat' (first | refine a_mov ?_ | refine a_asg ?_ | refine a_binN ?_ | refine a_notd ?_ | refine a_notb ?_ | refine a_nilc ?_ | refine a_fa ?_ | refine a_ext ?_ | refine a_lenv ?_ | refine a_lens ?_ | refine a_pick_t ?_ | refine a_pick_f ?_ | refine a_not ?_ | refine a_nilf ?_ | (refine o_nil (hK _ _ ?_); clear hK K) | refine wk_reg ?_ | refine wk_seq fun K hK => ?_ | (refine wk_skip (hK _ _ ?_); clear hK K) | (refine wk_label (hK _ _ ?_); clear hK K) | refine wk_scope ?_ | refine wk_block ?_ | refine wk_cond_t rfl ?_ | refine wk_cond_f rfl ?_ | (refine wk_exit ?_; (repeat (refine blockK_other rfl ?_)); refine blockK_same ?_; try ((repeat ((fail_if_success (refine hK _ _ ?_)); clear hK K)); refine hK _ _ ?_; clear hK K)) | (refine a_bin ?_ ?_ <;> intro _ <;> try (exfalso; omega)) | refine a_ld hl ?_ | (refine a_st hl ?_; clear hl; intro _ hl) | refine a_ix (fun _ => ?_) | fail)
    refine wk_ret (retQ_tmp1 Tryz.results92 (by decide) rfl (by conv => lhs; whnf) ?_)
    exact ⟨-1, rfl, by rw [hpre]; rfl, hx1⟩
theorem hapAny_calls {l : List Hap} {q : Hap → Bool} {fv hv : Value} {w : World} (hH : Sl w hv 4 (l.flatMap hapL)) (hlen : l.length ≤ 140737488351232) (hf : ∀ x ∈ l, ∀ w1, Ext w w1 → CallF Tryz.prog fv #[.agg (hapL x).toArray] w1 (fun v w2 => v = .bool (q x) ∧ Ext w1 w2)) :
    Calls Tryz.prog 64 #[hv, fv] w (fun e w' => ∃ v, e = .returned v ∧ v = .bool (l.any q) ∧ Ext w w') := by
  refine calls_of Tryz.func64 rfl Tryz.ntmps64 rfl ?_
  repeat' (first | refine a_mov ?_ | refine a_asg ?_ | refine a_binN ?_ | refine a_notd ?_ | refine a_notb ?_ | refine a_nilc ?_ | refine a_fa ?_ | refine a_ext ?_ | refine a_lenv ?_ | refine a_lens ?_ | refine a_pick_t ?_ | refine a_pick_f ?_ | refine a_not ?_ | refine a_nilf ?_ | (refine o_nil (hK _ _ ?_); clear hK K) | refine wk_reg ?_ | refine wk_seq fun K hK => ?_ | (refine wk_skip (hK _ _ ?_); clear hK K) | (refine wk_label (hK _ _ ?_); clear hK K) | refine wk_scope ?_ | refine wk_block ?_ | refine wk_cond_t rfl ?_ | refine wk_cond_f rfl ?_ | (refine wk_exit ?_; (repeat (refine blockK_other rfl ?_)); refine blockK_same ?_; try ((repeat ((fail_if_success (refine hK _ _ ?_)); clear hK K)); refine hK _ _ ?_; clear hK K)) | (refine a_bin ?_ ?_ <;> intro _ <;> try (exfalso; omega)) | refine a_ld hl ?_ | (refine a_st hl ?_; clear hl; intro _ hl) | refine a_ix (fun _ => ?_) | fail)
  refine a_fn (hapIdx_calls hH hlen hf) ?_
  rintro _ w2 ⟨z, rfl, hz, hx⟩
  by_cases h0 : 0 ≤ z
  · repeat' (first | refine a_mov ?_ | refine a_asg ?_ | refine a_binN ?_ | refine a_notd ?_ | refine a_notb ?_ | refine a_nilc ?_ | refine a_fa ?_ | refine a_ext ?_ | refine a_lenv ?_ | refine a_lens ?_ | refine a_pick_t ?_ | refine a_pick_f ?_ | refine a_not ?_ | refine a_nilf ?_ | (refine o_nil (hK _ _ ?_); clear hK K) | refine wk_reg ?_ | refine wk_seq fun K hK => ?_ | (refine wk_skip (hK _ _ ?_); clear hK K) | (refine wk_label (hK _ _ ?_); clear hK K) | refine wk_scope ?_ | refine wk_block ?_ | refine wk_cond_t rfl ?_ | refine wk_cond_f rfl ?_ | (refine wk_exit ?_; (repeat (refine blockK_other rfl ?_)); refine blockK_same ?_; try ((repeat ((fail_if_success (refine hK _ _ ?_)); clear hK K)); refine hK _ _ ?_; clear hK K)) | (refine a_bin ?_ ?_ <;> intro _ <;> try (exfalso; omega)) | refine a_ld hl ?_ | (refine a_st hl ?_; clear hl; intro _ hl) | refine a_ix (fun _ => ?_) | fail)
    refine wk_ret (retQ_tmp1 Tryz.results64 (by decide) rfl (by conv => lhs; whnf) ?_)
    exact ⟨by rw [← hz, decide_eq_true h0], hx⟩
  · repeat' (first | refine a_mov ?_ | refine a_asg ?_ | refine a_binN ?_ | refine a_notd ?_ | refine a_notb ?_ | refine a_nilc ?_ | refine a_fa ?_ | refine a_ext ?_ | refine a_lenv ?_ | refine a_lens ?_ | refine a_pick_t ?_ | refine a_pick_f ?_ | refine a_not ?_ | refine a_nilf ?_ | (refine o_nil (hK _ _ ?_); clear hK K) | refine wk_reg ?_ | refine wk_seq fun K hK => ?_ | (refine wk_skip (hK _ _ ?_); clear hK K) | (refine wk_label (hK _ _ ?_); clear hK K) | refine wk_scope ?_ | refine wk_block ?_ | refine wk_cond_t rfl ?_ | refine wk_cond_f rfl ?_ | (refine wk_exit ?_; (repeat (refine blockK_other rfl ?_)); refine blockK_same ?_; try ((repeat ((fail_if_success (refine hK _ _ ?_)); clear hK K)); refine hK _ _ ?_; clear hK K)) | (refine a_bin ?_ ?_ <;> intro _ <;> try (exfalso; omega)) | refine a_ld hl ?_ | (refine a_st hl ?_; clear hl; intro _ hl) | refine a_ix (fun _ => ?_) | fail)
    refine wk_ret (retQ_tmp1 Tryz.results64 (by decide) rfl (by conv => lhs; whnf) ?_)
    exact ⟨by rw [← hz, decide_eq_false h0], hx⟩
theorem staIdx_calls {l : List Sn} {q : Sn → Bool} {fv kv : Value} {w : World} (hks : KA w l kv) (hlen : l.length ≤ 140737488351232) (hf : ∀ x ∈ l, ∀ w1 kv1, Ext w w1 → KA w1 x.kids kv1 → CallF Tryz.prog fv #[.agg (snL x kv1).toArray] w1 (fun v w2 => v = .bool (q x) ∧ Ext w1 w2)) :
    Calls Tryz.prog 85 #[kv, fv] w (fun e w' => ∃ v, e = .returned v ∧ ∃ z, v = .int .i64 z ∧ decide (0 ≤ z) = l.any q ∧ Ext w w') := by
  obtain ⟨ka, kc, rfl, -⟩ := hks.shape
  refine calls_of Tryz.func85 rfl Tryz.ntmps85 rfl ?_
  repeat' (first | refine a_mov ?_ | refine a_asg ?_ | refine a_binN ?_ | refine a_notd ?_ | refine a_notb ?_ | refine a_nilc ?_ | refine a_fa ?_ | refine a_ext ?_ | refine a_lenv ?_ | refine a_lens ?_ | refine a_pick_t ?_ | refine a_pick_f ?_ | refine a_not ?_ | refine a_nilf ?_ | (refine o_nil (hK _ _ ?_); clear hK K) | refine wk_reg ?_ | refine wk_seq fun K hK => ?_ | (refine wk_skip (hK _ _ ?_); clear hK K) | (refine wk_label (hK _ _ ?_); clear hK K) | refine wk_scope ?_ | refine wk_block ?_ | refine wk_cond_t rfl ?_ | refine wk_cond_f rfl ?_ | (refine wk_exit ?_; (repeat (refine blockK_other rfl ?_)); refine blockK_same ?_; try ((repeat ((fail_if_success (refine hK _ _ ?_)); clear hK K)); refine hK _ _ ?_; clear hK K)) | (refine a_bin ?_ ?_ <;> intro _ <;> try (exfalso; omega)) | refine a_ld hl ?_ | (refine a_st hl ?_; clear hl; intro _ hl) | refine a_ix (fun _ => ?_) | fail)
  refine wk_loopH [] rfl (fun i : Nat => [(0, .slice ka l.length kc), (1, fv), (7, .int .i64 (l.length : Int)), (8, .int .i64 (i : Int))])
    (fun i w' => (i ≤ l.length ∧ (l.take i).any q = false) ∧ Ext w w') (fun i => l.length - i) 0 ⟨rfl, rfl, rfl, rfl, trivial⟩ ⟨⟨Nat.zero_le _, by simp⟩, (LH.start w (fun _ => False)).done⟩ ?_
  rintro i t1 w1 ⟨⟨hi, hpre⟩, hx1⟩
  by_cases hi1 : i < l.length
  · obtain ⟨b, o, kv1, hpp, hr, hk1⟩ := (KA.ext hks hx1).at hi1
    have hmem := List.getElem_mem hi1
    repeat' (first | refine a_mov ?_ | refine a_asg ?_ | refine a_binN ?_ | refine a_notd ?_ | refine a_notb ?_ | refine a_nilc ?_ | refine a_fa ?_ | refine a_ext ?_ | refine a_lenv ?_ | refine a_lens ?_ | refine a_pick_t ?_ | refine a_pick_f ?_ | refine a_not ?_ | refine a_nilf ?_ | (refine o_nil (hK _ _ ?_); clear hK K) | refine wk_reg ?_ | refine wk_seq fun K hK => ?_ | (refine wk_skip (hK _ _ ?_); clear hK K) | (refine wk_label (hK _ _ ?_); clear hK K) | refine wk_scope ?_ | refine wk_block ?_ | refine wk_cond_t rfl ?_ | refine wk_cond_f rfl ?_ | (refine wk_exit ?_; (repeat (refine blockK_other rfl ?_)); refine blockK_same ?_; try ((repeat ((fail_if_success (refine hK _ _ ?_)); clear hK K)); refine hK _ _ ?_; clear hK K)) | (refine a_bin ?_ ?_ <;> intro _ <;> try (exfalso; omega)) | refine a_ld hl ?_ | (refine a_st hl ?_; clear hl; intro _ hl) | refine a_ix (fun _ => ?_) | refine a_idx (c := 4) i hpp ?_ | refine a_all hr ?_ | fail)
    refine a_fw (hf _ hmem w1 kv1 hx1 hk1) ?_
    rintro _ w2 ⟨rfl, hx2⟩
    have hs := any_take_succ q hi1
    rw [hpre, Bool.false_or] at hs
    cases hq : q l[i]
    · rw [hq] at hs
      repeat' (first | refine a_mov ?_ | refine a_asg ?_ | refine a_binN ?_ | refine a_notd ?_ | refine a_notb ?_ | refine a_nilc ?_ | refine a_fa ?_ | refine a_ext ?_ | refine a_lenv ?_ | refine a_lens ?_ | refine a_pick_t ?_ | refine a_pick_f ?_ | refine a_not ?_ | refine a_nilf ?_ | (refine o_nil (hK _ _ ?_); clear hK K) | refine wk_reg ?_ | refine wk_seq fun K hK => ?_ | (refine wk_skip (hK _ _ ?_); clear hK K) | (refine wk_label (hK _ _ ?_); clear hK K) | refine wk_scope ?_ | refine wk_block ?_ | refine wk_cond_t rfl ?_ | refine wk_cond_f rfl ?_ | (refine wk_exit ?_; (repeat (refine blockK_other rfl ?_)); refine blockK_same ?_; try ((repeat ((fail_if_success (refine hK _ _ ?_)); clear hK K)); refine hK _ _ ?_; clear hK K)) | (refine a_bin ?_ ?_ <;> intro _ <;> try (exfalso; omega)) | refine a_ld hl ?_ | (refine a_st hl ?_; clear hl; intro _ hl) | refine a_ix (fun _ => ?_) | fail)
      exact o_nil ⟨i + 1, ⟨rfl, rfl, rfl, rfl, trivial⟩, rfl, ⟨⟨hi1, hs⟩, hx1.trans hx2⟩, by omega⟩
    · repeat' (first | refine a_mov ?_ | refine a_asg ?_ | refine a_binN ?_ | refine a_notd ?_ | refine a_notb ?_ | refine a_nilc ?_ | refine a_fa ?_ | refine a_ext ?_ | refine a_lenv ?_ | refine a_lens ?_ | refine a_pick_t ?_ | refine a_pick_f ?_ | refine a_not ?_ | refine a_nilf ?_ | (refine o_nil (hK _ _ ?_); clear hK K) | refine wk_reg ?_ | refine wk_seq fun K hK => ?_ | (refine wk_skip (hK _ _ ?_); clear hK K) | (refine wk_label (hK _ _ ?_); clear hK K) | refine wk_scope ?_ | refine wk_block ?_ | refine wk_cond_t rfl ?_ | refine wk_cond_f rfl ?_ | (refine wk_exit ?_; (repeat (refine blockK_other rfl ?_)); refine blockK_same ?_; try ((repeat ((fail_if_success (refine hK _ _ ?_)); clear hK K)); refine hK _ _ ?_; clear hK K)) | (refine a_bin ?_ ?_ <;> intro _ <;> try (exfalso; omega)) | refine a_ld hl ?_ | (refine a_st hl ?_; clear hl; intro _ hl) | refine a_ix (fun _ => ?_) | fail)
      refine wk_ret (retQ_tmp1 Tryz.results85 (by decide) rfl (by conv => lhs; whnf) ?_)
      refine ⟨(i : Int), rfl, ?_, hx1.trans hx2⟩
      rw [decide_eq_true (by omega)]
      exact (List.any_eq_true.2 ⟨_, hmem, hq⟩).symm
  · obtain rfl : i = l.length := by omega
    rw [List.take_length] at hpre
    repeat' (first | refine a_mov ?_ | refine a_asg ?_ | refine a_binN ?_ | refine a_notd ?_ | refine a_notb ?_ | refine a_nilc ?_ | refine a_fa ?_ | refine a_ext ?_ | refine a_lenv ?_ | refine a_lens ?_ | refine a_pick_t ?_ | refine a_pick_f ?_ | refine a_not ?_ | refine a_nilf ?_ | (refine o_nil (hK _ _ ?_); clear hK K) | refine wk_reg ?_ | refine wk_seq fun K hK => ?_ | (refine wk_skip (hK _ _ ?_); clear hK K) | (refine wk_label (hK _ _ ?_); clear hK K) | refine wk_scope ?_ | refine wk_block ?_ | refine wk_cond_t rfl ?_ | refine wk_cond_f rfl ?_ | (refine wk_exit ?_; (repeat (refine blockK_other rfl ?_)); refine blockK_same ?_; try ((repeat ((fail_if_success (refine hK _ _ ?_)); clear hK K)); refine hK _ _ ?_; clear hK K)) | (refine a_bin ?_ ?_ <;> intro _ <;> try (exfalso; omega)) | refine a_ld hl ?_ | (refine a_st hl ?_; clear hl; intro _ hl) | refine a_ix (fun _ => ?_) | fail)
    refine wk_ret (retQ_tmp1 Tryz.results85 (by decide) rfl (by conv => lhs; whnf) ?_)
    exact ⟨-1, rfl, by rw [hpre]; rfl, hx1⟩
theorem staAny_calls {l : List Sn} {q : Sn → Bool} {fv kv : Value} {w : World} (hks : KA w l kv) (hlen : l.length ≤ 140737488351232) (hf : ∀ x ∈ l, ∀ w1 kv1, Ext w w1 → KA w1 x.kids kv1 → CallF Tryz.prog fv #[.agg (snL x kv1).toArray] w1 (fun v w2 => v = .bool (q x) ∧ Ext w1 w2)) :
    Calls Tryz.prog 54 #[kv, fv] w (fun e w' => ∃ v, e = .returned v ∧ v = .bool (l.any q) ∧ Ext w w') := by
  refine calls_of Tryz.func54 rfl Tryz.ntmps54 rfl ?_
  repeat' (first | refine a_mov ?_ | refine a_asg ?_ | refine a_binN ?_ | refine a_notd ?_ | refine a_notb ?_ | refine a_nilc ?_ | refine a_fa ?_ | refine a_ext ?_ | refine a_lenv ?_ | refine a_lens ?_ | refine a_pick_t ?_ | refine a_pick_f ?_ | refine a_not ?_ | refine a_nilf ?_ | (refine o_nil (hK _ _ ?_); clear hK K) | refine wk_reg ?_ | refine wk_seq fun K hK => ?_ | (refine wk_skip (hK _ _ ?_); clear hK K) | (refine wk_label (hK _ _ ?_); clear hK K) | refine wk_scope ?_ | refine wk_block ?_ | refine wk_cond_t rfl ?_ | refine wk_cond_f rfl ?_ | (refine wk_exit ?_; (repeat (refine blockK_other rfl ?_)); refine blockK_same ?_; try ((repeat ((fail_if_success (refine hK _ _ ?_)); clear hK K)); refine hK _ _ ?_; clear hK K)) | (refine a_bin ?_ ?_ <;> intro _ <;> try (exfalso; omega)) | refine a_ld hl ?_ | (refine a_st hl ?_; clear hl; intro _ hl) | refine a_ix (fun _ => ?_) | fail)
  refine a_fn (staIdx_calls hks hlen hf) ?_
  rintro _ w2 ⟨z, rfl, hz, hx⟩
  by_cases h0 : 0 ≤ z
  · repeat' (first | refine a_mov ?_ | refine a_asg ?_ | refine a_binN ?_ | refine a_notd ?_ | refine a_notb ?_ | refine a_nilc ?_ | refine a_fa ?_ | refine a_ext ?_ | refine a_lenv ?_ | refine a_lens ?_ | refine a_pick_t ?_ | refine a_pick_f ?_ | refine a_not ?_ | refine a_nilf ?_ | (refine o_nil (hK _ _ ?_); clear hK K) | refine wk_reg ?_ | refine wk_seq fun K hK => ?_ | (refine wk_skip (hK _ _ ?_); clear hK K) | (refine wk_label (hK _ _ ?_); clear hK K) | refine wk_scope ?_ | refine wk_block ?_ | refine wk_cond_t rfl ?_ | refine wk_cond_f rfl ?_ | (refine wk_exit ?_; (repeat (refine blockK_other rfl ?_)); refine blockK_same ?_; try ((repeat ((fail_if_success (refine hK _ _ ?_)); clear hK K)); refine hK _ _ ?_; clear hK K)) | (refine a_bin ?_ ?_ <;> intro _ <;> try (exfalso; omega)) | refine a_ld hl ?_ | (refine a_st hl ?_; clear hl; intro _ hl) | refine a_ix (fun _ => ?_) | fail)
    refine wk_ret (retQ_tmp1 Tryz.results54 (by decide) rfl (by conv => lhs; whnf) ?_)
    exact ⟨by rw [← hz, decide_eq_true h0], hx⟩
  · repeat' (first | refine a_mov ?_ | refine a_asg ?_ | refine a_binN ?_ | refine a_notd ?_ | refine a_notb ?_ | refine a_nilc ?_ | refine a_fa ?_ | refine a_ext ?_ | refine a_lenv ?_ | refine a_lens ?_ | refine a_pick_t ?_ | refine a_pick_f ?_ | refine a_not ?_ | refine a_nilf ?_ | (refine o_nil (hK _ _ ?_); clear hK K) | refine wk_reg ?_ | refine wk_seq fun K hK => ?_ | (refine wk_skip (hK _ _ ?_); clear hK K) | (refine wk_label (hK _ _ ?_); clear hK K) | refine wk_scope ?_ | refine wk_block ?_ | refine wk_cond_t rfl ?_ | refine wk_cond_f rfl ?_ | (refine wk_exit ?_; (repeat (refine blockK_other rfl ?_)); refine blockK_same ?_; try ((repeat ((fail_if_success (refine hK _ _ ?_)); clear hK K)); refine hK _ _ ?_; clear hK K)) | (refine a_bin ?_ ?_ <;> intro _ <;> try (exfalso; omega)) | refine a_ld hl ?_ | (refine a_st hl ?_; clear hl; intro _ hl) | refine a_ix (fun _ => ?_) | fail)
    refine wk_ret (retQ_tmp1 Tryz.results54 (by decide) rfl (by conv => lhs; whnf) ?_)
    exact ⟨by rw [← hz, decide_eq_false h0], hx⟩
end Go.Proofs

set_option linter.unusedVariables false
set_option linter.unusedSimpArgs false
set_option linter.unnecessarySimpa false
set_option maxRecDepth 10000
namespace Go.Proofs
open Go Go.Pd Go.Sta
attribute [local irreducible] OpsL W RetQ OpsQ OpsC
def HolC (E : Env) (s : Sn) : Prop := ∀ (w : World) (kv : Value) (wb : Nat), KA w s.kids kv → WM w E wb → fitS s → E.h.length ≤ 140737488351232 →
    Calls Tryz.prog 32 #[.pointer (some ⟨wb, 0, none⟩), .agg (snL s kv).toArray] w (fun e w' => ∃ v, e = .returned v ∧ v = .bool (hol E s) ∧ Ext w w')
theorem kidNot_calls {E : Env} {s : Sn} (ih : HolC E s) {w : World} {kv : Value} {wb bb : Nat} (hk : KA w s.kids kv) (hw : WM w E wb) (hB : Row w bb 0 [.pointer (some ⟨wb, 0, none⟩)]) (hfit : fitS s) (hlen : E.h.length ≤ 140737488351232) :
    Calls Tryz.prog 66 #[.agg (snL s kv).toArray, .pointer (some ⟨bb, 0, none⟩)] w (fun e w' => ∃ v, e = .returned v ∧ v = .bool (!hol E s) ∧ Ext w w') := by
  refine calls_of Tryz.func66 rfl Tryz.ntmps66 rfl ?_
  refine wk_seq fun K hK => ?_
  refine wk_reg ?_
  refine o_box (LH.start w (fun _ => False)) (snL s kv) rfl rfl rfl ?_
  intro b3 w1 hb3 hl
  have hx := hl.done
  have hX : Row w1 b3 0 (snL s kv) := hl.rowL (vs := snL s kv) 0 0 4 rfl
  clear hl
  repeat' (first | refine a_mov ?_ | refine a_asg ?_ | refine a_binN ?_ | refine a_notd ?_ | refine a_notb ?_ | refine a_nilc ?_ | refine a_fa ?_ | refine a_ext ?_ | refine a_lenv ?_ | refine a_lens ?_ | refine a_pick_t ?_ | refine a_pick_f ?_ | refine a_not ?_ | refine a_nilf ?_ | (refine o_nil (hK _ _ ?_); clear hK K) | refine wk_reg ?_ | refine wk_seq fun K hK => ?_ | (refine wk_skip (hK _ _ ?_); clear hK K) | (refine wk_label (hK _ _ ?_); clear hK K) | refine wk_scope ?_ | refine wk_block ?_ | refine wk_cond_t rfl ?_ | refine wk_cond_f rfl ?_ | (refine wk_exit ?_; (repeat (refine blockK_other rfl ?_)); refine blockK_same ?_; try ((repeat ((fail_if_success (refine hK _ _ ?_)); clear hK K)); refine hK _ _ ?_; clear hK K)) | (refine a_bin ?_ ?_ <;> intro _ <;> try (exfalso; omega)) | refine a_ld hl ?_ | (refine a_st hl ?_; clear hl; intro _ hl) | refine a_ix (fun _ => ?_) | refine a_row (hB.ext hx) ?_ | refine a_all hX ?_ | fail)
  refine a_fn (ih w1 kv wb (hk.ext hx) (hw.ext hx) hfit hlen) ?_
  rintro _ w2 ⟨rfl, hx2⟩
  cases hh : hol E s
  · repeat' (first | refine a_mov ?_ | refine a_asg ?_ | refine a_binN ?_ | refine a_notd ?_ | refine a_notb ?_ | refine a_nilc ?_ | refine a_fa ?_ | refine a_ext ?_ | refine a_lenv ?_ | refine a_lens ?_ | refine a_pick_t ?_ | refine a_pick_f ?_ | refine a_not ?_ | refine a_nilf ?_ | (refine o_nil (hK _ _ ?_); clear hK K) | refine wk_reg ?_ | refine wk_seq fun K hK => ?_ | (refine wk_skip (hK _ _ ?_); clear hK K) | (refine wk_label (hK _ _ ?_); clear hK K) | refine wk_scope ?_ | refine wk_block ?_ | refine wk_cond_t rfl ?_ | refine wk_cond_f rfl ?_ | (refine wk_exit ?_; (repeat (refine blockK_other rfl ?_)); refine blockK_same ?_; try ((repeat ((fail_if_success (refine hK _ _ ?_)); clear hK K)); refine hK _ _ ?_; clear hK K)) | (refine a_bin ?_ ?_ <;> intro _ <;> try (exfalso; omega)) | refine a_ld hl ?_ | (refine a_st hl ?_; clear hl; intro _ hl) | refine a_ix (fun _ => ?_) | fail)
    refine wk_ret (retQ_tmp1 Tryz.results66 (by decide) rfl (by conv => lhs; whnf) ?_)
    exact ⟨by rw [hh], hx.trans hx2⟩
  · repeat' (first | refine a_mov ?_ | refine a_asg ?_ | refine a_binN ?_ | refine a_notd ?_ | refine a_notb ?_ | refine a_nilc ?_ | refine a_fa ?_ | refine a_ext ?_ | refine a_lenv ?_ | refine a_lens ?_ | refine a_pick_t ?_ | refine a_pick_f ?_ | refine a_not ?_ | refine a_nilf ?_ | (refine o_nil (hK _ _ ?_); clear hK K) | refine wk_reg ?_ | refine wk_seq fun K hK => ?_ | (refine wk_skip (hK _ _ ?_); clear hK K) | (refine wk_label (hK _ _ ?_); clear hK K) | refine wk_scope ?_ | refine wk_block ?_ | refine wk_cond_t rfl ?_ | refine wk_cond_f rfl ?_ | (refine wk_exit ?_; (repeat (refine blockK_other rfl ?_)); refine blockK_same ?_; try ((repeat ((fail_if_success (refine hK _ _ ?_)); clear hK K)); refine hK _ _ ?_; clear hK K)) | (refine a_bin ?_ ?_ <;> intro _ <;> try (exfalso; omega)) | refine a_ld hl ?_ | (refine a_st hl ?_; clear hl; intro _ hl) | refine a_ix (fun _ => ?_) | fail)
    refine wk_ret (retQ_tmp1 Tryz.results66 (by decide) rfl (by conv => lhs; whnf) ?_)
    exact ⟨by rw [hh], hx.trans hx2⟩
set_option maxHeartbeats 2000000 in
theorem hol_calls (E : Env) : ∀ s : Sn, HolC E s := Sn.ind fun s ih => by
  intro w kv wb hk hwm hfit hlen
  obtain ⟨hf1, hf2, hf3⟩ := (fitS_eq s).1 hfit
  have hh := hol_eq E s
  refine calls_of Tryz.func32 rfl Tryz.ntmps32 rfl ?_
  refine wk_seq fun K hK => ?_
  refine wk_reg ?_
  refine o_box (LH.start w (fun _ => False)) [.pointer (some ⟨wb, 0, none⟩)] rfl rfl rfl ?_
  intro b2 w1 hb2 hl1
  refine o_box hl1 (snL s kv) rfl rfl rfl ?_
  clear hl1
  intro b3 w2 hb3 hl
  have hx := hl.done
  have hX : Row w2 b3 0 (snL s kv) := hl.rowL (vs := snL s kv) 0 0 4 rfl
  have hB : Row w2 b2 0 [.pointer (some ⟨wb, 0, none⟩)] := hl.rowL (vs := [.pointer (some ⟨wb, 0, none⟩)]) 1 0 1 rfl
  clear hl
  have hk2 := hk.ext hx
  have hwm2 := hwm.ext hx
  obtain ⟨hv, mb, mo, hW, hH, hMb, hMo⟩ := hwm2
  have hlenk : s.kids.length ≤ 140737488351232 := by omega
  by_cases h1 : s.op = 1
  · rw [if_pos h1] at hh
    repeat' (first | refine a_mov ?_ | refine a_asg ?_ | refine a_binN ?_ | refine a_notd ?_ | refine a_notb ?_ | refine a_nilc ?_ | refine a_fa ?_ | refine a_ext ?_ | refine a_lenv ?_ | refine a_lens ?_ | refine a_pick_t ?_ | refine a_pick_f ?_ | refine a_not ?_ | refine a_nilf ?_ | (refine o_nil (hK _ _ ?_); clear hK K) | refine wk_reg ?_ | refine wk_seq fun K hK => ?_ | (refine wk_skip (hK _ _ ?_); clear hK K) | (refine wk_label (hK _ _ ?_); clear hK K) | refine wk_scope ?_ | refine wk_block ?_ | refine wk_cond_t rfl ?_ | refine wk_cond_f rfl ?_ | (refine wk_exit ?_; (repeat (refine blockK_other rfl ?_)); refine blockK_same ?_; try ((repeat ((fail_if_success (refine hK _ _ ?_)); clear hK K)); refine hK _ _ ?_; clear hK K)) | (refine a_bin ?_ ?_ <;> intro _ <;> try (exfalso; omega)) | refine a_ld hl ?_ | (refine a_st hl ?_; clear hl; intro _ hl) | refine a_ix (fun _ => ?_) | refine a_row hX ?_ | refine a_row hB ?_ | refine a_row hW ?_ | refine o_mf [] [.pointer (some ⟨b3, 0, none⟩), .pointer (some ⟨b2, 0, none⟩)] rfl rfl rfl ?_ | fail)
    refine wk_ret (retQ_tmp1 Tryz.results32 (by decide) rfl (by conv => lhs; whnf) ?_)
    exact ⟨by rw [hh], hx⟩
  rw [if_neg h1] at hh
  by_cases h3 : s.op = 3
  · rw [if_pos h3] at hh
    repeat' (first | refine a_mov ?_ | refine a_asg ?_ | refine a_binN ?_ | refine a_notd ?_ | refine a_notb ?_ | refine a_nilc ?_ | refine a_fa ?_ | refine a_ext ?_ | refine a_lenv ?_ | refine a_lens ?_ | refine a_pick_t ?_ | refine a_pick_f ?_ | refine a_not ?_ | refine a_nilf ?_ | (refine o_nil (hK _ _ ?_); clear hK K) | refine wk_reg ?_ | refine wk_seq fun K hK => ?_ | (refine wk_skip (hK _ _ ?_); clear hK K) | (refine wk_label (hK _ _ ?_); clear hK K) | refine wk_scope ?_ | refine wk_block ?_ | refine wk_cond_t rfl ?_ | refine wk_cond_f rfl ?_ | (refine wk_exit ?_; (repeat (refine blockK_other rfl ?_)); refine blockK_same ?_; try ((repeat ((fail_if_success (refine hK _ _ ?_)); clear hK K)); refine hK _ _ ?_; clear hK K)) | (refine a_bin ?_ ?_ <;> intro _ <;> try (exfalso; omega)) | refine a_ld hl ?_ | (refine a_st hl ?_; clear hl; intro _ hl) | refine a_ix (fun _ => ?_) | refine a_row hX ?_ | refine a_row hB ?_ | refine a_row hW ?_ | refine o_mf [] [.pointer (some ⟨b3, 0, none⟩), .pointer (some ⟨b2, 0, none⟩)] rfl rfl rfl ?_ | fail)
    refine wk_quiet (List.range 8) ?_
    repeat' (first | refine q_mov ?_ | refine q_asg ?_ | refine q_fa ?_ | refine q_ext ?_ | refine q_binN ?_ | refine q_notd ?_ | refine q_notb ?_ | refine q_pick_t ?_ | refine q_pick_f ?_ | refine q_nilc ?_ | refine q_skip ?_ | refine q_lens ?_ | refine q_lenv ?_ | refine q_nil ?_ | refine q_ix (fun _ => ?_) | (refine q_bin ?_ ?_ <;> intro _ <;> try (exfalso; omega)) | refine q_row (fun w_ hw_ => hX.ext hw_) ?_ | refine q_row (fun w_ hw_ => hB.ext hw_) ?_ | refine q_row (fun w_ hw_ => hW.ext hw_) ?_)
    all_goals
      intro w5 hx5
      refine hK _ _ ?_
      refine wk_ret (retQ_tmp1 Tryz.results32 (by decide) rfl (by conv => lhs; whnf) ?_)
      exact ⟨by rw [hh]; simp [*], hx.trans hx5⟩
  rw [if_neg h3] at hh
  by_cases h45 : s.op = 4 ∨ s.op = 5
  · rw [if_pos h45] at hh
    have hcl : ∀ x ∈ E.h, ∀ w1, Ext w2 w1 → CallF Tryz.prog (.func (.func 65) #[] #[.pointer (some ⟨b3, 0, none⟩), .pointer (some ⟨b2, 0, none⟩)]) #[.agg (hapL x).toArray] w1 (fun v w2 => v = .bool (fitsH E (decide (s.op = 5)) s.name x) ∧ Ext w1 w2) := fun x hm w1 hx1 =>
      ⟨_, _, _, rfl, fun w => by rfl, hap_calls (hB.ext hx1) (hX.ext hx1) (hW.ext hx1)⟩
    rcases h45 with h4 | h4
    all_goals
      repeat' (first | refine a_mov ?_ | refine a_asg ?_ | refine a_binN ?_ | refine a_notd ?_ | refine a_notb ?_ | refine a_nilc ?_ | refine a_fa ?_ | refine a_ext ?_ | refine a_lenv ?_ | refine a_lens ?_ | refine a_pick_t ?_ | refine a_pick_f ?_ | refine a_not ?_ | refine a_nilf ?_ | (refine o_nil (hK _ _ ?_); clear hK K) | refine wk_reg ?_ | refine wk_seq fun K hK => ?_ | (refine wk_skip (hK _ _ ?_); clear hK K) | (refine wk_label (hK _ _ ?_); clear hK K) | refine wk_scope ?_ | refine wk_block ?_ | refine wk_cond_t rfl ?_ | refine wk_cond_f rfl ?_ | (refine wk_exit ?_; (repeat (refine blockK_other rfl ?_)); refine blockK_same ?_; try ((repeat ((fail_if_success (refine hK _ _ ?_)); clear hK K)); refine hK _ _ ?_; clear hK K)) | (refine a_bin ?_ ?_ <;> intro _ <;> try (exfalso; omega)) | refine a_ld hl ?_ | (refine a_st hl ?_; clear hl; intro _ hl) | refine a_ix (fun _ => ?_) | refine a_row hX ?_ | refine a_row hB ?_ | refine a_row hW ?_ | refine o_mf [] [.pointer (some ⟨b3, 0, none⟩), .pointer (some ⟨b2, 0, none⟩)] rfl rfl rfl ?_ | fail)
      refine a_fn (hapAny_calls hH hlen hcl) ?_
      rintro _ w5 ⟨rfl, hx5⟩
      repeat' (first | refine a_mov ?_ | refine a_asg ?_ | refine a_binN ?_ | refine a_notd ?_ | refine a_notb ?_ | refine a_nilc ?_ | refine a_fa ?_ | refine a_ext ?_ | refine a_lenv ?_ | refine a_lens ?_ | refine a_pick_t ?_ | refine a_pick_f ?_ | refine a_not ?_ | refine a_nilf ?_ | (refine o_nil (hK _ _ ?_); clear hK K) | refine wk_reg ?_ | refine wk_seq fun K hK => ?_ | (refine wk_skip (hK _ _ ?_); clear hK K) | (refine wk_label (hK _ _ ?_); clear hK K) | refine wk_scope ?_ | refine wk_block ?_ | refine wk_cond_t rfl ?_ | refine wk_cond_f rfl ?_ | (refine wk_exit ?_; (repeat (refine blockK_other rfl ?_)); refine blockK_same ?_; try ((repeat ((fail_if_success (refine hK _ _ ?_)); clear hK K)); refine hK _ _ ?_; clear hK K)) | (refine a_bin ?_ ?_ <;> intro _ <;> try (exfalso; omega)) | refine a_ld hl ?_ | (refine a_st hl ?_; clear hl; intro _ hl) | refine a_ix (fun _ => ?_) | refine a_row hX ?_ | refine a_row hB ?_ | refine a_row hW ?_ | refine o_mf [] [.pointer (some ⟨b3, 0, none⟩), .pointer (some ⟨b2, 0, none⟩)] rfl rfl rfl ?_ | fail)
      refine wk_ret (retQ_tmp1 Tryz.results32 (by decide) rfl (by conv => lhs; whnf) ?_)
      exact ⟨by rw [hh]; rfl, hx.trans hx5⟩
  rw [if_neg h45] at hh
  by_cases h6 : s.op = 6
  · rw [if_pos h6] at hh
    repeat' (first | refine a_mov ?_ | refine a_asg ?_ | refine a_binN ?_ | refine a_notd ?_ | refine a_notb ?_ | refine a_nilc ?_ | refine a_fa ?_ | refine a_ext ?_ | refine a_lenv ?_ | refine a_lens ?_ | refine a_pick_t ?_ | refine a_pick_f ?_ | refine a_not ?_ | refine a_nilf ?_ | (refine o_nil (hK _ _ ?_); clear hK K) | refine wk_reg ?_ | refine wk_seq fun K hK => ?_ | (refine wk_skip (hK _ _ ?_); clear hK K) | (refine wk_label (hK _ _ ?_); clear hK K) | refine wk_scope ?_ | refine wk_block ?_ | refine wk_cond_t rfl ?_ | refine wk_cond_f rfl ?_ | (refine wk_exit ?_; (repeat (refine blockK_other rfl ?_)); refine blockK_same ?_; try ((repeat ((fail_if_success (refine hK _ _ ?_)); clear hK K)); refine hK _ _ ?_; clear hK K)) | (refine a_bin ?_ ?_ <;> intro _ <;> try (exfalso; omega)) | refine a_ld hl ?_ | (refine a_st hl ?_; clear hl; intro _ hl) | refine a_ix (fun _ => ?_) | refine a_row hX ?_ | refine a_row hB ?_ | refine a_row hW ?_ | refine o_mf [] [.pointer (some ⟨b3, 0, none⟩), .pointer (some ⟨b2, 0, none⟩)] rfl rfl rfl ?_ | fail)
    refine a_fc #[.map (some mb)] #[.pointer (some ⟨b3, 0, none⟩), .pointer (some ⟨b2, 0, none⟩)] _ rfl (reach_calls hB hX hW hMb) ?_
    rintro _ w5 ⟨rfl, rfl⟩
    repeat' (first | refine a_mov ?_ | refine a_asg ?_ | refine a_binN ?_ | refine a_notd ?_ | refine a_notb ?_ | refine a_nilc ?_ | refine a_fa ?_ | refine a_ext ?_ | refine a_lenv ?_ | refine a_lens ?_ | refine a_pick_t ?_ | refine a_pick_f ?_ | refine a_not ?_ | refine a_nilf ?_ | (refine o_nil (hK _ _ ?_); clear hK K) | refine wk_reg ?_ | refine wk_seq fun K hK => ?_ | (refine wk_skip (hK _ _ ?_); clear hK K) | (refine wk_label (hK _ _ ?_); clear hK K) | refine wk_scope ?_ | refine wk_block ?_ | refine wk_cond_t rfl ?_ | refine wk_cond_f rfl ?_ | (refine wk_exit ?_; (repeat (refine blockK_other rfl ?_)); refine blockK_same ?_; try ((repeat ((fail_if_success (refine hK _ _ ?_)); clear hK K)); refine hK _ _ ?_; clear hK K)) | (refine a_bin ?_ ?_ <;> intro _ <;> try (exfalso; omega)) | refine a_ld hl ?_ | (refine a_st hl ?_; clear hl; intro _ hl) | refine a_ix (fun _ => ?_) | refine a_row hX ?_ | refine a_row hB ?_ | refine a_row hW ?_ | refine o_mf [] [.pointer (some ⟨b3, 0, none⟩), .pointer (some ⟨b2, 0, none⟩)] rfl rfl rfl ?_ | fail)
    refine wk_ret (retQ_tmp1 Tryz.results32 (by decide) rfl (by conv => lhs; whnf) ?_)
    exact ⟨by rw [hh], hx⟩
  rw [if_neg h6] at hh
  by_cases h7 : s.op = 7
  · rw [if_pos h7] at hh
    repeat' (first | refine a_mov ?_ | refine a_asg ?_ | refine a_binN ?_ | refine a_notd ?_ | refine a_notb ?_ | refine a_nilc ?_ | refine a_fa ?_ | refine a_ext ?_ | refine a_lenv ?_ | refine a_lens ?_ | refine a_pick_t ?_ | refine a_pick_f ?_ | refine a_not ?_ | refine a_nilf ?_ | (refine o_nil (hK _ _ ?_); clear hK K) | refine wk_reg ?_ | refine wk_seq fun K hK => ?_ | (refine wk_skip (hK _ _ ?_); clear hK K) | (refine wk_label (hK _ _ ?_); clear hK K) | refine wk_scope ?_ | refine wk_block ?_ | refine wk_cond_t rfl ?_ | refine wk_cond_f rfl ?_ | (refine wk_exit ?_; (repeat (refine blockK_other rfl ?_)); refine blockK_same ?_; try ((repeat ((fail_if_success (refine hK _ _ ?_)); clear hK K)); refine hK _ _ ?_; clear hK K)) | (refine a_bin ?_ ?_ <;> intro _ <;> try (exfalso; omega)) | refine a_ld hl ?_ | (refine a_st hl ?_; clear hl; intro _ hl) | refine a_ix (fun _ => ?_) | refine a_row hX ?_ | refine a_row hB ?_ | refine a_row hW ?_ | refine o_mf [] [.pointer (some ⟨b3, 0, none⟩), .pointer (some ⟨b2, 0, none⟩)] rfl rfl rfl ?_ | fail)
    refine a_fc #[.map (some mo)] #[.pointer (some ⟨b3, 0, none⟩), .pointer (some ⟨b2, 0, none⟩)] _ rfl (reach_calls hB hX hW hMo) ?_
    rintro _ w5 ⟨rfl, rfl⟩
    repeat' (first | refine a_mov ?_ | refine a_asg ?_ | refine a_binN ?_ | refine a_notd ?_ | refine a_notb ?_ | refine a_nilc ?_ | refine a_fa ?_ | refine a_ext ?_ | refine a_lenv ?_ | refine a_lens ?_ | refine a_pick_t ?_ | refine a_pick_f ?_ | refine a_not ?_ | refine a_nilf ?_ | (refine o_nil (hK _ _ ?_); clear hK K) | refine wk_reg ?_ | refine wk_seq fun K hK => ?_ | (refine wk_skip (hK _ _ ?_); clear hK K) | (refine wk_label (hK _ _ ?_); clear hK K) | refine wk_scope ?_ | refine wk_block ?_ | refine wk_cond_t rfl ?_ | refine wk_cond_f rfl ?_ | (refine wk_exit ?_; (repeat (refine blockK_other rfl ?_)); refine blockK_same ?_; try ((repeat ((fail_if_success (refine hK _ _ ?_)); clear hK K)); refine hK _ _ ?_; clear hK K)) | (refine a_bin ?_ ?_ <;> intro _ <;> try (exfalso; omega)) | refine a_ld hl ?_ | (refine a_st hl ?_; clear hl; intro _ hl) | refine a_ix (fun _ => ?_) | refine a_row hX ?_ | refine a_row hB ?_ | refine a_row hW ?_ | refine o_mf [] [.pointer (some ⟨b3, 0, none⟩), .pointer (some ⟨b2, 0, none⟩)] rfl rfl rfl ?_ | fail)
    refine wk_ret (retQ_tmp1 Tryz.results32 (by decide) rfl (by conv => lhs; whnf) ?_)
    exact ⟨by rw [hh], hx⟩
  rw [if_neg h7] at hh
  by_cases h8 : s.op = 8
  · rw [if_pos h8] at hh
    have hcl : ∀ x ∈ s.kids, ∀ w1 kv1, Ext w2 w1 → KA w1 x.kids kv1 → CallF Tryz.prog (.func (.func 66) #[] #[.pointer (some ⟨b2, 0, none⟩)]) #[.agg (snL x kv1).toArray] w1 (fun v w2 => v = .bool (!hol E x) ∧ Ext w1 w2) := fun x hm w1 kv1 hx1 hk1 =>
      ⟨_, _, _, rfl, fun w => by rfl, kidNot_calls (ih x hm) hk1 ((hwm.ext hx).ext hx1) (hB.ext hx1) (fitL_mem hf3 _ hm) hlen⟩
    repeat' (first | refine a_mov ?_ | refine a_asg ?_ | refine a_binN ?_ | refine a_notd ?_ | refine a_notb ?_ | refine a_nilc ?_ | refine a_fa ?_ | refine a_ext ?_ | refine a_lenv ?_ | refine a_lens ?_ | refine a_pick_t ?_ | refine a_pick_f ?_ | refine a_not ?_ | refine a_nilf ?_ | (refine o_nil (hK _ _ ?_); clear hK K) | refine wk_reg ?_ | refine wk_seq fun K hK => ?_ | (refine wk_skip (hK _ _ ?_); clear hK K) | (refine wk_label (hK _ _ ?_); clear hK K) | refine wk_scope ?_ | refine wk_block ?_ | refine wk_cond_t rfl ?_ | refine wk_cond_f rfl ?_ | (refine wk_exit ?_; (repeat (refine blockK_other rfl ?_)); refine blockK_same ?_; try ((repeat ((fail_if_success (refine hK _ _ ?_)); clear hK K)); refine hK _ _ ?_; clear hK K)) | (refine a_bin ?_ ?_ <;> intro _ <;> try (exfalso; omega)) | refine a_ld hl ?_ | (refine a_st hl ?_; clear hl; intro _ hl) | refine a_ix (fun _ => ?_) | refine a_row hX ?_ | refine a_row hB ?_ | refine a_row hW ?_ | refine o_mf [] [.pointer (some ⟨b3, 0, none⟩), .pointer (some ⟨b2, 0, none⟩)] rfl rfl rfl ?_ | refine o_mf [] [.pointer (some ⟨b2, 0, none⟩)] rfl rfl rfl ?_ | fail)
    refine a_fn (staAny_calls hk2 hlenk hcl) ?_
    rintro _ w5 ⟨rfl, hx5⟩
    have he : s.kids.all (hol E) = !(s.kids.any fun x => !hol E x) := by rw [List.all_eq_not_any_not]
    rw [he] at hh
    cases hq : (s.kids.any fun x => !hol E x)
    all_goals
      repeat' (first | refine a_mov ?_ | refine a_asg ?_ | refine a_binN ?_ | refine a_notd ?_ | refine a_notb ?_ | refine a_nilc ?_ | refine a_fa ?_ | refine a_ext ?_ | refine a_lenv ?_ | refine a_lens ?_ | refine a_pick_t ?_ | refine a_pick_f ?_ | refine a_not ?_ | refine a_nilf ?_ | (refine o_nil (hK _ _ ?_); clear hK K) | refine wk_reg ?_ | refine wk_seq fun K hK => ?_ | (refine wk_skip (hK _ _ ?_); clear hK K) | (refine wk_label (hK _ _ ?_); clear hK K) | refine wk_scope ?_ | refine wk_block ?_ | refine wk_cond_t rfl ?_ | refine wk_cond_f rfl ?_ | (refine wk_exit ?_; (repeat (refine blockK_other rfl ?_)); refine blockK_same ?_; try ((repeat ((fail_if_success (refine hK _ _ ?_)); clear hK K)); refine hK _ _ ?_; clear hK K)) | (refine a_bin ?_ ?_ <;> intro _ <;> try (exfalso; omega)) | refine a_ld hl ?_ | (refine a_st hl ?_; clear hl; intro _ hl) | refine a_ix (fun _ => ?_) | refine a_row hX ?_ | refine a_row hB ?_ | refine a_row hW ?_ | refine o_mf [] [.pointer (some ⟨b3, 0, none⟩), .pointer (some ⟨b2, 0, none⟩)] rfl rfl rfl ?_ | fail)
      refine wk_ret (retQ_tmp1 Tryz.results32 (by decide) rfl (by conv => lhs; whnf) ?_)
      exact ⟨by rw [hh, hq], hx.trans hx5⟩
  rw [if_neg h8] at hh
  by_cases h9 : s.op = 9
  · rw [if_pos h9] at hh
    have hcl : ∀ x ∈ s.kids, ∀ w1 kv1, Ext w2 w1 → KA w1 x.kids kv1 → CallF Tryz.prog (.func (.func 32) #[.pointer (some ⟨wb, 0, none⟩)] #[]) #[.agg (snL x kv1).toArray] w1 (fun v w2 => v = .bool (hol E x) ∧ Ext w1 w2) := fun x hm w1 kv1 hx1 hk1 =>
      ⟨_, _, _, rfl, fun w => by rfl, ih x hm w1 kv1 wb hk1 ((hwm.ext hx).ext hx1) (fitL_mem hf3 _ hm) hlen⟩
    repeat' (first | refine a_mov ?_ | refine a_asg ?_ | refine a_binN ?_ | refine a_notd ?_ | refine a_notb ?_ | refine a_nilc ?_ | refine a_fa ?_ | refine a_ext ?_ | refine a_lenv ?_ | refine a_lens ?_ | refine a_pick_t ?_ | refine a_pick_f ?_ | refine a_not ?_ | refine a_nilf ?_ | (refine o_nil (hK _ _ ?_); clear hK K) | refine wk_reg ?_ | refine wk_seq fun K hK => ?_ | (refine wk_skip (hK _ _ ?_); clear hK K) | (refine wk_label (hK _ _ ?_); clear hK K) | refine wk_scope ?_ | refine wk_block ?_ | refine wk_cond_t rfl ?_ | refine wk_cond_f rfl ?_ | (refine wk_exit ?_; (repeat (refine blockK_other rfl ?_)); refine blockK_same ?_; try ((repeat ((fail_if_success (refine hK _ _ ?_)); clear hK K)); refine hK _ _ ?_; clear hK K)) | (refine a_bin ?_ ?_ <;> intro _ <;> try (exfalso; omega)) | refine a_ld hl ?_ | (refine a_st hl ?_; clear hl; intro _ hl) | refine a_ix (fun _ => ?_) | refine a_row hX ?_ | refine a_row hB ?_ | refine a_row hW ?_ | refine o_mf [] [.pointer (some ⟨b3, 0, none⟩), .pointer (some ⟨b2, 0, none⟩)] rfl rfl rfl ?_ | refine o_mf [.pointer (some ⟨wb, 0, none⟩)] [] rfl rfl rfl ?_ | fail)
    refine a_fn (staAny_calls hk2 hlenk hcl) ?_
    rintro _ w5 ⟨rfl, hx5⟩
    repeat' (first | refine a_mov ?_ | refine a_asg ?_ | refine a_binN ?_ | refine a_notd ?_ | refine a_notb ?_ | refine a_nilc ?_ | refine a_fa ?_ | refine a_ext ?_ | refine a_lenv ?_ | refine a_lens ?_ | refine a_pick_t ?_ | refine a_pick_f ?_ | refine a_not ?_ | refine a_nilf ?_ | (refine o_nil (hK _ _ ?_); clear hK K) | refine wk_reg ?_ | refine wk_seq fun K hK => ?_ | (refine wk_skip (hK _ _ ?_); clear hK K) | (refine wk_label (hK _ _ ?_); clear hK K) | refine wk_scope ?_ | refine wk_block ?_ | refine wk_cond_t rfl ?_ | refine wk_cond_f rfl ?_ | (refine wk_exit ?_; (repeat (refine blockK_other rfl ?_)); refine blockK_same ?_; try ((repeat ((fail_if_success (refine hK _ _ ?_)); clear hK K)); refine hK _ _ ?_; clear hK K)) | (refine a_bin ?_ ?_ <;> intro _ <;> try (exfalso; omega)) | refine a_ld hl ?_ | (refine a_st hl ?_; clear hl; intro _ hl) | refine a_ix (fun _ => ?_) | refine a_row hX ?_ | refine a_row hB ?_ | refine a_row hW ?_ | refine o_mf [] [.pointer (some ⟨b3, 0, none⟩), .pointer (some ⟨b2, 0, none⟩)] rfl rfl rfl ?_ | fail)
    refine wk_ret (retQ_tmp1 Tryz.results32 (by decide) rfl (by conv => lhs; whnf) ?_)
    exact ⟨by rw [hh], hx.trans hx5⟩
  rw [if_neg h9] at hh
  repeat' (first | refine a_mov ?_ | refine a_asg ?_ | refine a_binN ?_ | refine a_notd ?_ | refine a_notb ?_ | refine a_nilc ?_ | refine a_fa ?_ | refine a_ext ?_ | refine a_lenv ?_ | refine a_lens ?_ | refine a_pick_t ?_ | refine a_pick_f ?_ | refine a_not ?_ | refine a_nilf ?_ | (refine o_nil (hK _ _ ?_); clear hK K) | refine wk_reg ?_ | refine wk_seq fun K hK => ?_ | (refine wk_skip (hK _ _ ?_); clear hK K) | (refine wk_label (hK _ _ ?_); clear hK K) | refine wk_scope ?_ | refine wk_block ?_ | refine wk_cond_t rfl ?_ | refine wk_cond_f rfl ?_ | (refine wk_exit ?_; (repeat (refine blockK_other rfl ?_)); refine blockK_same ?_; try ((repeat ((fail_if_success (refine hK _ _ ?_)); clear hK K)); refine hK _ _ ?_; clear hK K)) | (refine a_bin ?_ ?_ <;> intro _ <;> try (exfalso; omega)) | refine a_ld hl ?_ | (refine a_st hl ?_; clear hl; intro _ hl) | refine a_ix (fun _ => ?_) | refine a_row hX ?_ | refine a_row hB ?_ | refine a_row hW ?_ | refine o_mf [] [.pointer (some ⟨b3, 0, none⟩), .pointer (some ⟨b2, 0, none⟩)] rfl rfl rfl ?_ | fail)
  refine wk_ret (retQ_tmp1 Tryz.results32 (by decide) rfl (by conv => lhs; whnf) ?_)
  exact ⟨by rw [hh], hx⟩
end Go.Proofs

set_option linter.unusedVariables false
set_option linter.unusedSimpArgs false
set_option linter.unnecessarySimpa false
set_option maxRecDepth 10000
namespace Go.Proofs
open Go Go.Pd Go.Sta
attribute [local irreducible] OpsL W RetQ OpsQ OpsC
def stuL (x : Stu) : List Value := [str x.id, .int .i64 x.begin_, .int .i64 x.end_, .int .i64 x.again]
theorem stuL_len (x : Stu) : (stuL x).length = 4 := rfl
theorem back_calls {w : World} {lv : Value} {a : Option Addr} {m c : Nat} (hv : lv = .slice a m c) : Calls Tryz.prog 31 #[lv] w (fun e w' => ∃ v, e = .returned v ∧ ∃ b, v = .func (.func 62) #[] #[.pointer (some ⟨b, 0, none⟩)] ∧ LH w (fun _ => False) w' [(b, .cells [lv].toArray 36 (0, 0))]) := by
  subst hv
  refine calls_of Tryz.func31 rfl Tryz.ntmps31 rfl ?_
  refine wk_seq fun K hK => ?_
  refine wk_reg ?_
  refine o_box (LH.start w (fun _ => False)) [.slice a m c] rfl rfl rfl ?_
  intro b1 w1 hb1 hl
  repeat' (first | refine a_mov ?_ | refine a_asg ?_ | refine a_binN ?_ | refine a_notd ?_ | refine a_notb ?_ | refine a_nilc ?_ | refine a_fa ?_ | refine a_ext ?_ | refine a_lenv ?_ | refine a_lens ?_ | refine a_pick_t ?_ | refine a_pick_f ?_ | refine a_not ?_ | refine a_nilf ?_ | (refine o_nil (hK _ _ ?_); clear hK K) | refine wk_reg ?_ | refine wk_seq fun K hK => ?_ | (refine wk_skip (hK _ _ ?_); clear hK K) | (refine wk_label (hK _ _ ?_); clear hK K) | refine wk_scope ?_ | refine wk_block ?_ | refine wk_cond_t rfl ?_ | refine wk_cond_f rfl ?_ | (refine wk_exit ?_; (repeat (refine blockK_other rfl ?_)); refine blockK_same ?_; try ((repeat ((fail_if_success (refine hK _ _ ?_)); clear hK K)); refine hK _ _ ?_; clear hK K)) | (refine a_bin ?_ ?_ <;> intro _ <;> try (exfalso; omega)) | refine a_ld hl ?_ | (refine a_st hl ?_; clear hl; intro _ hl) | refine a_ix (fun _ => ?_) | refine o_mf [] [.pointer (some ⟨b1, 0, none⟩)] rfl rfl rfl ?_ | fail)
  refine wk_ret (retQ_tmp1 Tryz.results31 (by decide) rfl (by conv => lhs; whnf) ?_)
  exact ⟨b1, rfl, hl⟩
theorem back1_calls {l : List Stu} {lv yv : Value} {b1 : Nat} (J : Nat → World → Prop) (hr : ∀ k w, J k w → Row w b1 0 [lv] ∧ Sl w lv 4 (l.flatMap stuL)) (hlen : l.length ≤ 140737488351232)
    (hst : ∀ (k : Nat) (h : k < l.length) (w : World), J k w → CallV Tryz.prog yv #[.int .i64 ((l.length - 1 - k : Nat) : Int), .agg (stuL l[l.length - 1 - k]).toArray] w (fun v w' => v = .bool true ∧ J (k + 1) w')) {w : World} (h0 : J 0 w) :
    Calls Tryz.prog 62 #[yv, .pointer (some ⟨b1, 0, none⟩)] w (fun e w' => ∃ v, e = .returned v ∧ J l.length w') := by
  obtain ⟨a, c, rfl, hc⟩ := (hr 0 w h0).2.shape (flat_length stuL_len l) (by omega)
  refine calls_of Tryz.func62 rfl Tryz.ntmps62 rfl ?_
  have hr0 := (hr 0 w h0).1
  repeat' (first | refine a_mov ?_ | refine a_asg ?_ | refine a_binN ?_ | refine a_notd ?_ | refine a_notb ?_ | refine a_nilc ?_ | refine a_fa ?_ | refine a_ext ?_ | refine a_lenv ?_ | refine a_lens ?_ | refine a_pick_t ?_ | refine a_pick_f ?_ | refine a_not ?_ | refine a_nilf ?_ | (refine o_nil (hK _ _ ?_); clear hK K) | refine wk_reg ?_ | refine wk_seq fun K hK => ?_ | (refine wk_skip (hK _ _ ?_); clear hK K) | (refine wk_label (hK _ _ ?_); clear hK K) | refine wk_scope ?_ | refine wk_block ?_ | refine wk_cond_t rfl ?_ | refine wk_cond_f rfl ?_ | (refine wk_exit ?_; (repeat (refine blockK_other rfl ?_)); refine blockK_same ?_; try ((repeat ((fail_if_success (refine hK _ _ ?_)); clear hK K)); refine hK _ _ ?_; clear hK K)) | (refine a_bin ?_ ?_ <;> intro _ <;> try (exfalso; omega)) | refine a_ld hl ?_ | (refine a_st hl ?_; clear hl; intro _ hl) | refine a_ix (fun _ => ?_) | refine a_row hr0 ?_ | fail)
  refine wk_loopH [] rfl (fun k : Nat => [(0, yv), (1, .pointer (some ⟨b1, 0, none⟩)), (3, .int .i64 ((l.length : Int) - 1 - (k : Int)))]) (fun k w' => k ≤ l.length ∧ J k w') (fun k => l.length - k) 0 ⟨rfl, rfl, by show Value.int .i64 ((l.length : Int) - 1) = _; congr 1; simp, trivial⟩ ⟨Nat.zero_le _, h0⟩ ?_
  rintro k t1 w1 ⟨hk1, hJ⟩
  obtain ⟨hr1, hs1⟩ := hr k w1 hJ
  by_cases hk : k < l.length
  · obtain ⟨b, o, hpp, hr⟩ := hs1.at (flat_length stuL_len l) (by omega) (by omega)
    have hr := hr.elem stuL_len (k := l.length - 1 - k) (t := l[l.length - 1 - k]'(by omega)) (by simp)
    have he : (l.length : Int) - 1 - (k : Int) = ((l.length - 1 - k : Nat) : Int) := by omega
    repeat' (first | refine a_mov ?_ | refine a_asg ?_ | refine a_binN ?_ | refine a_notd ?_ | refine a_notb ?_ | refine a_nilc ?_ | refine a_fa ?_ | refine a_ext ?_ | refine a_lenv ?_ | refine a_lens ?_ | refine a_pick_t ?_ | refine a_pick_f ?_ | refine a_not ?_ | refine a_nilf ?_ | (refine o_nil (hK _ _ ?_); clear hK K) | refine wk_reg ?_ | refine wk_seq fun K hK => ?_ | (refine wk_skip (hK _ _ ?_); clear hK K) | (refine wk_label (hK _ _ ?_); clear hK K) | refine wk_scope ?_ | refine wk_block ?_ | refine wk_cond_t rfl ?_ | refine wk_cond_f rfl ?_ | (refine wk_exit ?_; (repeat (refine blockK_other rfl ?_)); refine blockK_same ?_; try ((repeat ((fail_if_success (refine hK _ _ ?_)); clear hK K)); refine hK _ _ ?_; clear hK K)) | (refine a_bin ?_ ?_ <;> intro _ <;> try (exfalso; omega)) | refine a_ld hl ?_ | (refine a_st hl ?_; clear hl; intro _ hl) | refine a_ix (fun _ => ?_) | refine a_row hr1 ?_ | refine a_idx (c := 4) (l.length - 1 - k) hpp ?_ | refine a_all hr ?_ | fail)
    refine o_callv (args := #[.int .i64 ((l.length : Int) - 1 - (k : Int)), .agg (stuL l[l.length - 1 - k]).toArray]) rfl rfl rfl (by rw [he]; exact hst k hk w1 hJ) ?_
    rintro _ w2 ⟨rfl, hJ2⟩
    repeat' (first | refine a_mov ?_ | refine a_asg ?_ | refine a_binN ?_ | refine a_notd ?_ | refine a_notb ?_ | refine a_nilc ?_ | refine a_fa ?_ | refine a_ext ?_ | refine a_lenv ?_ | refine a_lens ?_ | refine a_pick_t ?_ | refine a_pick_f ?_ | refine a_not ?_ | refine a_nilf ?_ | (refine o_nil (hK _ _ ?_); clear hK K) | refine wk_reg ?_ | refine wk_seq fun K hK => ?_ | (refine wk_skip (hK _ _ ?_); clear hK K) | (refine wk_label (hK _ _ ?_); clear hK K) | refine wk_scope ?_ | refine wk_block ?_ | refine wk_cond_t rfl ?_ | refine wk_cond_f rfl ?_ | (refine wk_exit ?_; (repeat (refine blockK_other rfl ?_)); refine blockK_same ?_; try ((repeat ((fail_if_success (refine hK _ _ ?_)); clear hK K)); refine hK _ _ ?_; clear hK K)) | (refine a_bin ?_ ?_ <;> intro _ <;> try (exfalso; omega)) | refine a_ld hl ?_ | (refine a_st hl ?_; clear hl; intro _ hl) | refine a_ix (fun _ => ?_) | fail)
    refine o_nil ⟨k + 1, ⟨rfl, rfl, ?_, trivial⟩, rfl, ⟨hk, hJ2⟩, by omega⟩
    show Value.int .i64 ((l.length : Int) - 1 - (k : Int) - 1) = _
    congr 1
    omega
  · obtain rfl : k = l.length := by omega
    repeat' (first | refine a_mov ?_ | refine a_asg ?_ | refine a_binN ?_ | refine a_notd ?_ | refine a_notb ?_ | refine a_nilc ?_ | refine a_fa ?_ | refine a_ext ?_ | refine a_lenv ?_ | refine a_lens ?_ | refine a_pick_t ?_ | refine a_pick_f ?_ | refine a_not ?_ | refine a_nilf ?_ | (refine o_nil (hK _ _ ?_); clear hK K) | refine wk_reg ?_ | refine wk_seq fun K hK => ?_ | (refine wk_skip (hK _ _ ?_); clear hK K) | (refine wk_label (hK _ _ ?_); clear hK K) | refine wk_scope ?_ | refine wk_block ?_ | refine wk_cond_t rfl ?_ | refine wk_cond_f rfl ?_ | (refine wk_exit ?_; (repeat (refine blockK_other rfl ?_)); refine blockK_same ?_; try ((repeat ((fail_if_success (refine hK _ _ ?_)); clear hK K)); refine hK _ _ ?_; clear hK K)) | (refine a_bin ?_ ?_ <;> intro _ <;> try (exfalso; omega)) | refine a_ld hl ?_ | (refine a_st hl ?_; clear hl; intro _ hl) | refine a_ix (fun _ => ?_) | fail)
    exact retQ_tmp0 rfl rfl hJ
end Go.Proofs
