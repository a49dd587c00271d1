/-
  Conditions of commencement: what holds, the closures.
-/
import Derived.Test.YtebaoilkpedppaaDoorStE
set_option linter.unusedVariables false
set_option linter.unusedSimpArgs false
set_option linter.unnecessarySimpa false
set_option maxRecDepth 10000
namespace Go.Proofs
open Go Go.Pd Go.Sta
attribute [local irreducible] OpsL W RetQ OpsQ OpsC
def hapL (x : Hap) : List Value := [.bool x.event, str x.name, .int .i64 x.day, .int .i64 x.known]
theorem hapL_len (x : Hap) : (hapL x).length = 4 := rfl
/-- A map of numbers in memory. -/
def MapOf (w : World) (b : Nat) (g : Tx → Option Int) : Prop := ∃ es c l, w.heap[b]? = some (.map es c) ∧ MapR str es l ∧ ∀ id, get l id = (g id).map (Value.int .i64 ·)
theorem MapOf.ext {w w' : World} {b : Nat} {g : Tx → Option Int} (h : MapOf w b g) (e : Ext w w') : MapOf w' b g := by
  obtain ⟨es, c, l, h1, h2, h3⟩ := h
  exact ⟨es, c, l, by rw [e.same b (Array.getElem?_eq_some_iff.1 h1 |>.1) (fun h => h)]; exact h1, h2, h3⟩
def worldL (E : Env) (hv : Value) (mb mo : Nat) : List Value := [.int .i64 E.day, .int .i64 E.known, hv, .map (some mb), .map (some mo)]
/-- What conditions are about, in memory. -/
def WM (w : World) (E : Env) (wb : Nat) : Prop := ∃ hv mb mo, Row w wb 0 (worldL E hv mb mo) ∧ Sl w hv 4 (E.h.flatMap hapL) ∧ MapOf w mb (fun id => (stuOf E.l id).map (·.begin_)) ∧ MapOf w mo (fun id => (stuOf E.l id).map (·.end_))
theorem WM.ext {w w' : World} {E : Env} {wb : Nat} (h : WM w E wb) (e : Ext w w') : WM w' E wb := by
  obtain ⟨hv, mb, mo, h1, h2, h3, h4⟩ := h
  exact ⟨hv, mb, mo, h1.ext e, h2.ext e, h3.ext e, h4.ext e⟩
theorem reach_calls {w : World} {E : Env} {wb mb sb bb : Nat} {hv : Value} {s : Sn} {kv : Value} {g : Tx → Option Int} {m1 m2 : Nat} (hB : Row w bb 0 [.pointer (some ⟨wb, 0, none⟩)]) (hS : Row w sb 0 (snL s kv)) (hW : Row w wb 0 (worldL E hv m1 m2)) (hM : MapOf w mb g) :
    Calls Tryd.prog 38 #[.map (some mb), .pointer (some ⟨sb, 0, none⟩), .pointer (some ⟨bb, 0, none⟩)] w (fun e w' => ∃ v, e = .returned v ∧ v = .bool (reach E.day (g s.name)) ∧ w' = w) := by
  obtain ⟨es, c, l, hg, hm, hget⟩ := hM
  refine calls_of Tryd.func38 rfl Tryd.ntmps38 rfl ?_
  repeat' (first | refine a_mov ?_ | refine a_asg ?_ | refine a_binN ?_ | refine a_notd ?_ | refine a_notb ?_ | refine a_nilc ?_ | refine a_fa ?_ | refine a_ext ?_ | refine a_lenv ?_ | refine a_lens ?_ | refine a_pick_t ?_ | refine a_pick_f ?_ | refine a_not ?_ | refine a_nilf ?_ | (refine o_nil (hK _ _ ?_); clear hK K) | refine wk_reg ?_ | refine wk_seq fun K hK => ?_ | (refine wk_skip (hK _ _ ?_); clear hK K) | (refine wk_label (hK _ _ ?_); clear hK K) | refine wk_scope ?_ | refine wk_block ?_ | refine wk_cond_t rfl ?_ | refine wk_cond_f rfl ?_ | (refine wk_exit ?_; (repeat (refine blockK_other rfl ?_)); refine blockK_same ?_; try ((repeat ((fail_if_success (refine hK _ _ ?_)); clear hK K)); refine hK _ _ ?_; clear hK K)) | (refine a_bin ?_ ?_ <;> intro _ <;> try (exfalso; omega)) | refine a_ld hl ?_ | (refine a_st hl ?_; clear hl; intro _ hl) | refine a_ix (fun _ => ?_) | refine a_row hS ?_)
  refine o_lookup s.name hm hg (key_str rfl) rfl rfl rfl rfl rfl ?_
  rw [hget]
  cases hgs : g s.name with
  | none =>
    repeat' (first | refine a_mov ?_ | refine a_asg ?_ | refine a_binN ?_ | refine a_notd ?_ | refine a_notb ?_ | refine a_nilc ?_ | refine a_fa ?_ | refine a_ext ?_ | refine a_lenv ?_ | refine a_lens ?_ | refine a_pick_t ?_ | refine a_pick_f ?_ | refine a_not ?_ | refine a_nilf ?_ | (refine o_nil (hK _ _ ?_); clear hK K) | refine wk_reg ?_ | refine wk_seq fun K hK => ?_ | (refine wk_skip (hK _ _ ?_); clear hK K) | (refine wk_label (hK _ _ ?_); clear hK K) | refine wk_scope ?_ | refine wk_block ?_ | refine wk_cond_t rfl ?_ | refine wk_cond_f rfl ?_ | (refine wk_exit ?_; (repeat (refine blockK_other rfl ?_)); refine blockK_same ?_; try ((repeat ((fail_if_success (refine hK _ _ ?_)); clear hK K)); refine hK _ _ ?_; clear hK K)) | (refine a_bin ?_ ?_ <;> intro _ <;> try (exfalso; omega)) | refine a_ld hl ?_ | (refine a_st hl ?_; clear hl; intro _ hl) | refine a_ix (fun _ => ?_) | fail)
    refine wk_ret (retQ_tmp1 Tryd.results38 (by decide) rfl (by conv => lhs; whnf) ?_)
    exact ⟨by rw [hgs]; rfl, rfl⟩
  | some z =>
    have hr : reach E.day (g s.name) = decide (0 ≤ z ∧ z ≤ E.day) := by rw [hgs]; rfl
    by_cases h1 : 0 ≤ z
    · by_cases h2 : z ≤ E.day
      · repeat' (first | refine a_mov ?_ | refine a_asg ?_ | refine a_binN ?_ | refine a_notd ?_ | refine a_notb ?_ | refine a_nilc ?_ | refine a_fa ?_ | refine a_ext ?_ | refine a_lenv ?_ | refine a_lens ?_ | refine a_pick_t ?_ | refine a_pick_f ?_ | refine a_not ?_ | refine a_nilf ?_ | (refine o_nil (hK _ _ ?_); clear hK K) | refine wk_reg ?_ | refine wk_seq fun K hK => ?_ | (refine wk_skip (hK _ _ ?_); clear hK K) | (refine wk_label (hK _ _ ?_); clear hK K) | refine wk_scope ?_ | refine wk_block ?_ | refine wk_cond_t rfl ?_ | refine wk_cond_f rfl ?_ | (refine wk_exit ?_; (repeat (refine blockK_other rfl ?_)); refine blockK_same ?_; try ((repeat ((fail_if_success (refine hK _ _ ?_)); clear hK K)); refine hK _ _ ?_; clear hK K)) | (refine a_bin ?_ ?_ <;> intro _ <;> try (exfalso; omega)) | refine a_ld hl ?_ | (refine a_st hl ?_; clear hl; intro _ hl) | refine a_ix (fun _ => ?_) | refine a_row hB ?_ | refine a_row hW ?_)
        refine wk_ret (retQ_tmp1 Tryd.results38 (by decide) rfl (by conv => lhs; whnf) ?_)
        exact ⟨by rw [hr, decide_eq_true ⟨h1, h2⟩], rfl⟩
      · repeat' (first | refine a_mov ?_ | refine a_asg ?_ | refine a_binN ?_ | refine a_notd ?_ | refine a_notb ?_ | refine a_nilc ?_ | refine a_fa ?_ | refine a_ext ?_ | refine a_lenv ?_ | refine a_lens ?_ | refine a_pick_t ?_ | refine a_pick_f ?_ | refine a_not ?_ | refine a_nilf ?_ | (refine o_nil (hK _ _ ?_); clear hK K) | refine wk_reg ?_ | refine wk_seq fun K hK => ?_ | (refine wk_skip (hK _ _ ?_); clear hK K) | (refine wk_label (hK _ _ ?_); clear hK K) | refine wk_scope ?_ | refine wk_block ?_ | refine wk_cond_t rfl ?_ | refine wk_cond_f rfl ?_ | (refine wk_exit ?_; (repeat (refine blockK_other rfl ?_)); refine blockK_same ?_; try ((repeat ((fail_if_success (refine hK _ _ ?_)); clear hK K)); refine hK _ _ ?_; clear hK K)) | (refine a_bin ?_ ?_ <;> intro _ <;> try (exfalso; omega)) | refine a_ld hl ?_ | (refine a_st hl ?_; clear hl; intro _ hl) | refine a_ix (fun _ => ?_) | refine a_row hB ?_ | refine a_row hW ?_)
        refine wk_ret (retQ_tmp1 Tryd.results38 (by decide) rfl (by conv => lhs; whnf) ?_)
        exact ⟨by rw [hr, decide_eq_false fun h => h2 h.2], rfl⟩
    · repeat' (first | refine a_mov ?_ | refine a_asg ?_ | refine a_binN ?_ | refine a_notd ?_ | refine a_notb ?_ | refine a_nilc ?_ | refine a_fa ?_ | refine a_ext ?_ | refine a_lenv ?_ | refine a_lens ?_ | refine a_pick_t ?_ | refine a_pick_f ?_ | refine a_not ?_ | refine a_nilf ?_ | (refine o_nil (hK _ _ ?_); clear hK K) | refine wk_reg ?_ | refine wk_seq fun K hK => ?_ | (refine wk_skip (hK _ _ ?_); clear hK K) | (refine wk_label (hK _ _ ?_); clear hK K) | refine wk_scope ?_ | refine wk_block ?_ | refine wk_cond_t rfl ?_ | refine wk_cond_f rfl ?_ | (refine wk_exit ?_; (repeat (refine blockK_other rfl ?_)); refine blockK_same ?_; try ((repeat ((fail_if_success (refine hK _ _ ?_)); clear hK K)); refine hK _ _ ?_; clear hK K)) | (refine a_bin ?_ ?_ <;> intro _ <;> try (exfalso; omega)) | refine a_ld hl ?_ | (refine a_st hl ?_; clear hl; intro _ hl) | refine a_ix (fun _ => ?_) | fail)
      refine wk_ret (retQ_tmp1 Tryd.results38 (by decide) rfl (by conv => lhs; whnf) ?_)
      exact ⟨by rw [hr, decide_eq_false fun h => h1 h.1], rfl⟩
/-- A happening against a condition. -/
def fitsH (E : Env) (event : Bool) (name : Tx) (x : Hap) : Bool := decide (x.event = event ∧ x.name = name ∧ x.day ≤ E.day ∧ x.known ≤ E.known)
theorem hap_calls {w : World} {E : Env} {wb sb bb : Nat} {hv : Value} {s : Sn} {kv : Value} {m1 m2 : Nat} {x : Hap} (hB : Row w bb 0 [.pointer (some ⟨wb, 0, none⟩)]) (hS : Row w sb 0 (snL s kv)) (hW : Row w wb 0 (worldL E hv m1 m2)) :
    Calls Tryd.prog 40 #[.agg (hapL x).toArray, .pointer (some ⟨sb, 0, none⟩), .pointer (some ⟨bb, 0, none⟩)] w (fun e w' => ∃ v, e = .returned v ∧ v = .bool (fitsH E (decide (s.op = 5)) s.name x) ∧ Ext w w') := by
  refine calls_of Tryd.func40 rfl Tryd.ntmps40 rfl ?_
  refine wk_seq fun K hK => ?_
  refine wk_reg ?_
  refine o_box (LH.start w (fun _ => False)) (hapL x) rfl rfl rfl ?_
  intro b3 w1 hb3 hl
  have hx := hl.done
  have hX : Row w1 b3 0 (hapL x) := hl.rowL (vs := hapL x) 0 0 4 rfl
  clear hl
  refine o_asg rfl rfl ?_
  refine o_nil (hK _ _ ?_)
  clear hK K
  refine wk_seq fun K hK => ?_
  obtain ⟨ev, nm, dy, kn⟩ := x
  obtain ⟨bn, hbn⟩ : ∃ bn, bn = decide (nm = s.name) := ⟨_, rfl⟩
  have hval : fitsH E (decide (s.op = 5)) s.name ⟨ev, nm, dy, kn⟩ = ((ev == decide (s.op = 5)) && bn && decide (dy ≤ E.day) && decide (kn ≤ E.known)) := by
    rw [hbn]
    unfold fitsH
    simp only [Bool.decide_and]
    cases ev <;> by_cases h : s.op = 5 <;> simp [h, Bool.and_assoc]
  cases ev <;> cases bn
  all_goals
    refine wk_quiet (List.range 32) ?_
    repeat' (first | refine q_mov ?_ | refine q_asg ?_ | refine q_fa ?_ | refine q_ext ?_ | refine q_binN ?_ | refine q_notd ?_ | refine q_notb ?_ | refine q_pick_t ?_ | refine q_pick_f ?_ | refine q_nilc ?_ | refine q_skip ?_ | refine q_lens ?_ | refine q_lenv ?_ | refine q_nil ?_ | refine q_ix (fun _ => ?_) | (refine q_bin ?_ ?_ <;> intro _ <;> try (exfalso; omega)) | refine q_row (fun w_ hw_ => hX.ext hw_) ?_ | refine q_row (fun w_ hw_ => (hS.ext hx).ext hw_) ?_ | refine q_row (fun w_ hw_ => (hB.ext hx).ext hw_) ?_ | refine q_row (fun w_ hw_ => (hW.ext hx).ext hw_) ?_ | refine q_pur rfl rfl rfl (fun _ => r_eqB rfl rfl rfl) ?_ | refine q_pur rfl rfl rfl (fun _ => (r_eqs (a := nm) (b := s.name) rfl rfl).trans (by rw [← hbn])) ?_)
  all_goals (intro w5 hx5; refine hK _ _ ?_; refine wk_ret (retQ_tmp1 Tryd.results40 (by decide) rfl (by conv => lhs; whnf) ?_); refine ⟨?_, hx.trans hx5⟩; rw [hval])
  all_goals clear hbn hval
  all_goals simp [*]
end Go.Proofs
