/-
  Conditions of commencement: names and kinds of nodes.
-/
import Derived.Test.YtebaoilkpedppaaDoorStMem
set_option linter.unusedVariables false
set_option linter.unusedSimpArgs false
set_option linter.unnecessarySimpa false
set_option maxRecDepth 10000
namespace Go.Proofs
open Go Go.Pd Go.Sta
attribute [local irreducible] OpsL W RetQ OpsQ OpsC
theorem isNamed_calls (z : Int) (w : World) : Calls Tryd.prog 48 #[.int .i64 z] w (fun e w' => ∃ v, e = .returned v ∧ v = .bool (named z) ∧ w' = w) := by
  refine calls_of Tryd.func48 rfl Tryd.ntmps48 rfl ?_
  repeat' (first | refine a_mov ?_ | refine a_asg ?_ | refine a_binN ?_ | refine a_notd ?_ | refine a_notb ?_ | refine a_nilc ?_ | refine a_fa ?_ | refine a_ext ?_ | refine a_lenv ?_ | refine a_lens ?_ | refine a_pick_t ?_ | refine a_pick_f ?_ | refine a_not ?_ | refine a_nilf ?_ | (refine o_nil (hK _ _ ?_); clear hK K) | refine wk_reg ?_ | refine wk_seq fun K hK => ?_ | (refine wk_skip (hK _ _ ?_); clear hK K) | (refine wk_label (hK _ _ ?_); clear hK K) | refine wk_scope ?_ | refine wk_block ?_ | refine wk_cond_t rfl ?_ | refine wk_cond_f rfl ?_ | (refine wk_exit ?_; (repeat (refine blockK_other rfl ?_)); refine blockK_same ?_; try ((repeat ((fail_if_success (refine hK _ _ ?_)); clear hK K)); refine hK _ _ ?_; clear hK K)) | (refine a_bin ?_ ?_ <;> intro _ <;> try (exfalso; omega)) | refine a_ld hl ?_ | (refine a_st hl ?_; clear hl; intro _ hl) | refine a_ix (fun _ => ?_) | fail)
  all_goals refine wk_ret (retQ_tmp1 Tryd.results48 (by decide) rfl (by conv => lhs; whnf) ?_)
  all_goals first
    | exact ⟨by rw [named, decide_eq_true (by omega)], rfl⟩
    | exact ⟨by rw [named, decide_eq_false (by omega)], rfl⟩
theorem isMany_calls (z : Int) (w : World) : Calls Tryd.prog 50 #[.int .i64 z] w (fun e w' => ∃ v, e = .returned v ∧ v = .bool (many z) ∧ w' = w) := by
  refine calls_of Tryd.func50 rfl Tryd.ntmps50 rfl ?_
  repeat' (first | refine a_mov ?_ | refine a_asg ?_ | refine a_binN ?_ | refine a_notd ?_ | refine a_notb ?_ | refine a_nilc ?_ | refine a_fa ?_ | refine a_ext ?_ | refine a_lenv ?_ | refine a_lens ?_ | refine a_pick_t ?_ | refine a_pick_f ?_ | refine a_not ?_ | refine a_nilf ?_ | (refine o_nil (hK _ _ ?_); clear hK K) | refine wk_reg ?_ | refine wk_seq fun K hK => ?_ | (refine wk_skip (hK _ _ ?_); clear hK K) | (refine wk_label (hK _ _ ?_); clear hK K) | refine wk_scope ?_ | refine wk_block ?_ | refine wk_cond_t rfl ?_ | refine wk_cond_f rfl ?_ | (refine wk_exit ?_; (repeat (refine blockK_other rfl ?_)); refine blockK_same ?_; try ((repeat ((fail_if_success (refine hK _ _ ?_)); clear hK K)); refine hK _ _ ?_; clear hK K)) | (refine a_bin ?_ ?_ <;> intro _ <;> try (exfalso; omega)) | refine a_ld hl ?_ | (refine a_st hl ?_; clear hl; intro _ hl) | refine a_ix (fun _ => ?_) | fail)
  all_goals refine wk_ret (retQ_tmp1 Tryd.results50 (by decide) rfl (by conv => lhs; whnf) ?_)
  all_goals first
    | exact ⟨by rw [many, decide_eq_true (by omega)], rfl⟩
    | exact ⟨by rw [many, decide_eq_false (by omega)], rfl⟩
/-- A byte as the program looks at it. -/
def okAt (t : Tx) (i : Nat) (h : i < t.length) : Prop := isLet t[i] = true ∨ (0 < i ∧ isDig t[i] = true)
theorem isLet_iff (c : UInt8) : isLet c = true ↔ (97 ≤ c.toNat ∧ c.toNat ≤ 122) ∨ (65 ≤ c.toNat ∧ c.toNat ≤ 90) := by
  unfold isLet
  simp only [Bool.or_eq_true, Bool.and_eq_true, decide_eq_true_eq, UInt8.le_iff_toNat_le]
  exact Iff.rfl
theorem isDig_iff (c : UInt8) : isDig c = true ↔ (48 ≤ c.toNat ∧ c.toNat ≤ 57) ∨ c.toNat = 95 := by
  unfold isDig
  simp only [Bool.or_eq_true, Bool.and_eq_true, decide_eq_true_eq, beq_iff_eq, UInt8.le_iff_toNat_le]
  exact ⟨fun h => h.imp id fun h => by rw [h]; rfl, fun h => h.imp id fun h => UInt8.toNat_inj.1 h⟩
theorem nameB_iff (t : Tx) : nameB t = true ↔ t ≠ [] ∧ t.length ≤ 24 ∧ ∀ i (h : i < t.length), okAt t i h := by
  cases t with
  | nil => simp [nameB]
  | cons c l =>
    simp only [nameB, Bool.and_eq_true, List.all_eq_true, decide_eq_true_eq, Bool.or_eq_true]
    constructor
    · rintro ⟨⟨h1, h2⟩, h3⟩
      refine ⟨by simp, h3, fun i h => ?_⟩
      cases i with
      | zero => exact .inl h1
      | succ i =>
        rcases h2 (l[i]'(by simpa using h)) (List.getElem_mem _) with h | h
        · exact .inl h
        · exact .inr ⟨by omega, h⟩
    · rintro ⟨-, h2, h3⟩
      refine ⟨⟨?_, fun x hx => ?_⟩, h2⟩
      · rcases h3 0 (by simp) with h | h
        · exact h
        · omega
      · obtain ⟨i, hi, rfl⟩ := List.mem_iff_getElem.1 hx
        rcases h3 (i + 1) (by simpa using hi) with h | h
        · exact .inl h
        · exact .inr h.2

set_option maxHeartbeats 4000000 in
theorem isName_calls (t : Tx) (ht : t.length ≤ 140737488351232) (w : World) : Calls Tryd.prog 49 #[str t] w (fun e w' => ∃ v, e = .returned v ∧ v = .bool (nameB t) ∧ w' = w) := by
  refine calls_of Tryd.func49 rfl Tryd.ntmps49 rfl ?_
  repeat' (first | refine a_mov ?_ | refine a_asg ?_ | refine a_binN ?_ | refine a_notd ?_ | refine a_notb ?_ | refine a_nilc ?_ | refine a_fa ?_ | refine a_ext ?_ | refine a_lenv ?_ | refine a_lens ?_ | refine a_pick_t ?_ | refine a_pick_f ?_ | refine a_not ?_ | refine a_nilf ?_ | (refine o_nil (hK _ _ ?_); clear hK K) | refine wk_reg ?_ | refine wk_seq fun K hK => ?_ | (refine wk_skip (hK _ _ ?_); clear hK K) | (refine wk_label (hK _ _ ?_); clear hK K) | refine wk_scope ?_ | refine wk_block ?_ | refine wk_cond_t rfl ?_ | refine wk_cond_f rfl ?_ | (refine wk_exit ?_; (repeat (refine blockK_other rfl ?_)); refine blockK_same ?_; try ((repeat ((fail_if_success (refine hK _ _ ?_)); clear hK K)); refine hK _ _ ?_; clear hK K)) | (refine a_bin ?_ ?_ <;> intro _ <;> try (exfalso; omega)) | refine a_ld hl ?_ | (refine a_st hl ?_; clear hl; intro _ hl) | refine a_ix (fun _ => ?_) | fail)
  refine wk_loopH [] rfl (fun i : Nat => [(0, str t), (8, .int .i64 (t.length : Int)), (9, .int .i64 (i : Int))]) (fun i w' => (i ≤ t.length ∧ ∀ j (h : j < t.length), j < i → okAt t j h) ∧ w' = w) (fun i => t.length - i) 0 ⟨rfl, rfl, rfl, trivial⟩ ⟨⟨Nat.zero_le _, fun j _ h => absurd h (Nat.not_lt_zero j)⟩, rfl⟩ ?_
  rintro i t1 w1 ⟨⟨hi, hpre⟩, rfl⟩
  by_cases hi1 : i < t.length
  · have hbad : ¬ okAt t i hi1 → nameB t = false := fun h => by
      rw [← Bool.not_eq_true, nameB_iff]
      exact fun hh => h (hh.2.2 i hi1)
    have hgo : okAt t i hi1 → ∀ j (h : j < t.length), j < i + 1 → okAt t j h := fun h j hj hji => by
      by_cases e : j = i
      · subst e; exact h
      · exact hpre j hj (by omega)
    have hdef : okAt t i hi1 ↔ ((97 ≤ t[i].toNat ∧ t[i].toNat ≤ 122) ∨ (65 ≤ t[i].toNat ∧ t[i].toNat ≤ 90)) ∨ (0 < i ∧ ((48 ≤ t[i].toNat ∧ t[i].toNat ≤ 57) ∨ t[i].toNat = 95)) := by
      unfold okAt
      rw [isLet_iff, isDig_iff]
    repeat' (first | refine a_mov ?_ | refine a_asg ?_ | refine a_binN ?_ | refine a_notd ?_ | refine a_notb ?_ | refine a_nilc ?_ | refine a_fa ?_ | refine a_ext ?_ | refine a_lenv ?_ | refine a_lens ?_ | refine a_pick_t ?_ | refine a_pick_f ?_ | refine a_not ?_ | refine a_nilf ?_ | (refine o_nil (hK _ _ ?_); clear hK K) | refine wk_reg ?_ | refine wk_seq fun K hK => ?_ | (refine wk_skip (hK _ _ ?_); clear hK K) | (refine wk_label (hK _ _ ?_); clear hK K) | refine wk_scope ?_ | refine wk_block ?_ | refine wk_cond_t rfl ?_ | refine wk_cond_f rfl ?_ | (refine wk_exit ?_; (repeat (refine blockK_other rfl ?_)); refine blockK_same ?_; try ((repeat ((fail_if_success (refine hK _ _ ?_)); clear hK K)); refine hK _ _ ?_; clear hK K)) | (refine a_bin ?_ ?_ <;> intro _ <;> try (exfalso; omega)) | refine a_ld hl ?_ | (refine a_st hl ?_; clear hl; intro _ hl) | refine a_ix (fun _ => ?_) | fail)
    all_goals first
      | exact o_nil ⟨i + 1, ⟨rfl, rfl, rfl, trivial⟩, rfl, ⟨⟨hi1, hgo (hdef.2 (by omega))⟩, rfl⟩, by omega⟩
      | (refine wk_ret (retQ_tmp1 Tryd.results49 (by decide) rfl (by conv => lhs; whnf) ?_)
         exact ⟨by rw [hbad fun h => by have := hdef.1 h; omega], rfl⟩)
  · have hall : ∀ j (h : j < t.length), okAt t j h := fun j h => hpre j h (by omega)
    have hiff : nameB t = true ↔ t ≠ [] ∧ t.length ≤ 24 := by
      rw [nameB_iff]
      exact ⟨fun h => ⟨h.1, h.2.1⟩, fun h => ⟨h.1, h.2, hall⟩⟩
    repeat' (first | refine a_mov ?_ | refine a_asg ?_ | refine a_binN ?_ | refine a_notd ?_ | refine a_notb ?_ | refine a_nilc ?_ | refine a_fa ?_ | refine a_ext ?_ | refine a_lenv ?_ | refine a_lens ?_ | refine a_pick_t ?_ | refine a_pick_f ?_ | refine a_not ?_ | refine a_nilf ?_ | (refine o_nil (hK _ _ ?_); clear hK K) | refine wk_reg ?_ | refine wk_seq fun K hK => ?_ | (refine wk_skip (hK _ _ ?_); clear hK K) | (refine wk_label (hK _ _ ?_); clear hK K) | refine wk_scope ?_ | refine wk_block ?_ | refine wk_cond_t rfl ?_ | refine wk_cond_f rfl ?_ | (refine wk_exit ?_; (repeat (refine blockK_other rfl ?_)); refine blockK_same ?_; try ((repeat ((fail_if_success (refine hK _ _ ?_)); clear hK K)); refine hK _ _ ?_; clear hK K)) | (refine a_bin ?_ ?_ <;> intro _ <;> try (exfalso; omega)) | refine a_ld hl ?_ | (refine a_st hl ?_; clear hl; intro _ hl) | refine a_ix (fun _ => ?_) | fail)
    refine o_nesT (a := t) (b := []) rfl rfl (by simp only [str_eq]; rfl) ?_ ?_ <;> intro hne
    all_goals repeat' (first | refine a_mov ?_ | refine a_asg ?_ | refine a_binN ?_ | refine a_notd ?_ | refine a_notb ?_ | refine a_nilc ?_ | refine a_fa ?_ | refine a_ext ?_ | refine a_lenv ?_ | refine a_lens ?_ | refine a_pick_t ?_ | refine a_pick_f ?_ | refine a_not ?_ | refine a_nilf ?_ | (refine o_nil (hK _ _ ?_); clear hK K) | refine wk_reg ?_ | refine wk_seq fun K hK => ?_ | (refine wk_skip (hK _ _ ?_); clear hK K) | (refine wk_label (hK _ _ ?_); clear hK K) | refine wk_scope ?_ | refine wk_block ?_ | refine wk_cond_t rfl ?_ | refine wk_cond_f rfl ?_ | (refine wk_exit ?_; (repeat (refine blockK_other rfl ?_)); refine blockK_same ?_; try ((repeat ((fail_if_success (refine hK _ _ ?_)); clear hK K)); refine hK _ _ ?_; clear hK K)) | (refine a_bin ?_ ?_ <;> intro _ <;> try (exfalso; omega)) | refine a_ld hl ?_ | (refine a_st hl ?_; clear hl; intro _ hl) | refine a_ix (fun _ => ?_) | fail)
    all_goals refine wk_ret (retQ_tmp1 Tryd.results49 (by decide) rfl (by conv => lhs; whnf) ?_)
    all_goals refine ⟨?_, rfl⟩
    all_goals first
      | rw [hiff.2 ⟨hne, by omega⟩]
      | rw [show nameB t = false from by rw [← Bool.not_eq_true, hiff]; exact fun h => by first | omega | exact h.1 hne]
end Go.Proofs
