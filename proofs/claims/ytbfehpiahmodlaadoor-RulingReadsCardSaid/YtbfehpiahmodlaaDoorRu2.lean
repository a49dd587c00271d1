/-
  The statements RulingTakes and RulingOrder, walked.
-/
import Derived.Test.YtbfehpiahmodlaaDoorQl
import Derived.Test.YtbfehpiahmodlaaDoorLX
import Derived.Test.YtbfehpiahmodlaaDoorRu0
set_option linter.unusedVariables false
set_option linter.unusedSimpArgs false
set_option linter.unnecessarySimpa false
set_option maxRecDepth 10000
namespace Go.Rul
open Go.Lexs Go.Fin Go.Fo
theorem ordered_drop {l : List Spn} {i : Nat} (hi : i < l.length) : orderedB (l.drop i) = (!(decide (l[i].til ≠ -1 ∧ l[i].til ≤ l[i].fro)) && (if h : i + 1 < l.length then decide (l[i].til ≠ -1 ∧ l[i].til ≤ l[i + 1].fro) else true) && orderedB (l.drop (i + 1))) := by
  rw [List.drop_eq_getElem_cons hi]
  by_cases h : i + 1 < l.length
  · rw [dif_pos h, List.drop_eq_getElem_cons h]; rfl
  · rw [dif_neg h, List.drop_of_length_le (by omega)]; rfl
/-- In order, looked at from each span on. -/
def ordAt (l : List Spn) (i : Nat) : Prop := ∃ h : i < l.length, ¬ (l[i].til ≠ -1 ∧ l[i].til ≤ l[i].fro) ∧ (0 < i → l[i - 1].til ≠ -1 ∧ l[i - 1].til ≤ l[i].fro)
theorem ordered_at : ∀ {l : List Spn}, orderedB l = true ↔ ∀ i, i < l.length → ordAt l i
  | [] => by simp [orderedB]
  | [s] => by
    simp only [orderedB, Bool.and_true, Bool.not_eq_true', decide_eq_false_iff_not]
    constructor
    · intro h i hi
      obtain rfl : i = 0 := by simp at hi; omega
      exact ⟨hi, h, fun h => absurd h (by omega)⟩
    · intro h
      exact (h 0 (by simp)).2.1
  | s :: t :: l => by
    have ih := @ordered_at (t :: l)
    rw [orderedB, Bool.and_eq_true, Bool.and_eq_true, ih]
    simp only [Bool.not_eq_true', decide_eq_false_iff_not, decide_eq_true_eq]
    constructor
    · rintro ⟨⟨h1, h2⟩, h3⟩ i hi
      cases i with
      | zero => exact ⟨hi, h1, fun h => absurd h (by omega)⟩
      | succ i =>
        obtain ⟨h4, h5, h6⟩ := h3 i (by simpa using hi)
        refine ⟨hi, h5, fun _ => ?_⟩
        cases i with
        | zero => exact h2
        | succ i => exact h6 (by omega)
    · intro h
      refine ⟨⟨(h 0 (by simp)).2.1, ?_⟩, fun i hi => ?_⟩
      · have := (h 1 (by simp)).2.2 (by omega)
        exact this
      · obtain ⟨h4, h5, h6⟩ := h (i + 1) (by simpa using hi)
        refine ⟨hi, h5, fun h7 => ?_⟩
        have := h6 (by omega)
        have e : i + 1 - 1 = (i - 1) + 1 := by omega
        simp only [e] at this
        exact this
end Go.Rul

namespace Go.Proofs
open Go Go.Pd Go.Lexs Go.Fin Go.Fo
attribute [local irreducible] OpsL W RetQ OpsQ OpsC

set_option maxHeartbeats 4000000 in
theorem ordered_calls (l : List Rul.Spn) (v : Value) (w : World) (hL : SpnsAt w l v) (hlen : l.length ≤ 1000000) :
    Calls Tryd.prog 7 #[v] w (fun e w' => ∃ x, e = .returned x ∧ x = .bool (Rul.orderedB l) ∧ Ext w w') := by
  obtain ⟨pa, ca, rfl, -⟩ := hL.shape
  have hat := Rul.ordered_at (l := l)
  refine calls_of Tryd.func7 rfl Tryd.ntmps7 rfl ?_
  repeat' (first | refine a_mov ?_ | refine a_asg ?_ | refine a_binN ?_ | refine a_notd ?_ | refine a_notb ?_ | refine a_nilc ?_ | refine a_fa ?_ | refine a_ext ?_ | refine a_lenv ?_ | refine a_lens ?_ | refine a_pick_t ?_ | refine a_pick_f ?_ | refine a_not ?_ | refine a_nilf ?_ | (refine o_nil (hK _ _ ?_); clear hK K) | refine wk_reg ?_ | refine wk_seq fun K hK => ?_ | (refine wk_skip (hK _ _ ?_); clear hK K) | (refine wk_label (hK _ _ ?_); clear hK K) | refine wk_scope ?_ | refine wk_block ?_ | refine wk_cond_t rfl ?_ | refine wk_cond_f rfl ?_ | (refine wk_exit ?_; (repeat (refine blockK_other rfl ?_)); refine blockK_same ?_; try ((repeat ((fail_if_success (refine hK _ _ ?_)); clear hK K)); refine hK _ _ ?_; clear hK K)) | (refine a_bin ?_ ?_ <;> intro _ <;> try (exfalso; omega)) | refine a_ld hl ?_ | (refine a_st hl ?_; clear hl; intro _ hl) | refine a_ix (fun _ => ?_) | fail)
  refine wk_loopH [] rfl (fun k : Nat => [(0, .slice pa l.length ca), (3, .int .i64 (k : Int))]) (fun k w' => (k ≤ l.length ∧ ∀ i, i < l.length → i < k → Rul.ordAt l i) ∧ Ext w w') (fun k => l.length - k) 0 ⟨rfl, rfl, trivial⟩ ⟨⟨by omega, fun i hi h => by omega⟩, .refl _ _⟩ ?_
  rintro k t w1 ⟨⟨hk, hpre⟩, he⟩
  by_cases hk1 : k < l.length
  · obtain ⟨b, o, kv, hp, hr, -⟩ := (hL.ext he).at hk1
    have hgo : Rul.ordAt l k → ∀ i, i < l.length → i < k + 1 → Rul.ordAt l i := fun h i hi hik => by
      by_cases e : i = k
      · rw [e]; exact h
      · exact hpre i hi (by omega)
    have hbad : ¬ Rul.ordAt l k → Rul.orderedB l = false := fun h => by
      cases ho : Rul.orderedB l
      · rfl
      · exact absurd (hat.1 ho k hk1) h
    clear hpre
    by_cases hk0 : 0 < k
    · have hk2 : k - 1 < l.length := by omega
      obtain ⟨b2, o2, kv2, hp2, hr2, -⟩ := (hL.ext he).at hk2
      have hdef : Rul.ordAt l k ↔ (¬ (l[k].til ≠ -1 ∧ l[k].til ≤ l[k].fro) ∧ (l[k - 1].til ≠ -1 ∧ l[k - 1].til ≤ l[k].fro)) := ⟨fun ⟨_, h1, h2⟩ => ⟨h1, h2 hk0⟩, fun h => ⟨hk1, h.1, fun _ => h.2⟩⟩
      generalize l[k] = x at *
      generalize l[k - 1] = y at *
      repeat' (first | refine a_mov ?_ | refine a_asg ?_ | refine a_binN ?_ | refine a_notd ?_ | refine a_notb ?_ | refine a_nilc ?_ | refine a_fa ?_ | refine a_ext ?_ | refine a_lenv ?_ | refine a_lens ?_ | refine a_pick_t ?_ | refine a_pick_f ?_ | refine a_not ?_ | refine a_nilf ?_ | (refine o_nil (hK _ _ ?_); clear hK K) | refine wk_reg ?_ | refine wk_seq fun K hK => ?_ | (refine wk_skip (hK _ _ ?_); clear hK K) | (refine wk_label (hK _ _ ?_); clear hK K) | refine wk_scope ?_ | refine wk_block ?_ | refine wk_cond_t rfl ?_ | refine wk_cond_f rfl ?_ | (refine wk_exit ?_; (repeat (refine blockK_other rfl ?_)); refine blockK_same ?_; try ((repeat ((fail_if_success (refine hK _ _ ?_)); clear hK K)); refine hK _ _ ?_; clear hK K)) | (refine a_bin ?_ ?_ <;> intro _ <;> try (exfalso; omega)) | refine a_ld hl ?_ | (refine a_st hl ?_; clear hl; intro _ hl) | refine a_ix (fun _ => ?_) | fail)
      refine wk_quiet [0, 1, 2, 3, 4, 5, 6, 7, 8, 9, 10, 11, 12, 13, 14, 15, 16, 17, 18, 19, 20, 21, 22, 23, 24, 25, 26, 27, 28, 29, 30, 31, 32, 33, 34, 35, 36, 37, 38, 39, 40, 41, 42, 43, 44, 45] ?_
      repeat' (first | refine q_mov ?_ | refine q_asg ?_ | refine q_fa ?_ | refine q_ext ?_ | refine q_binN ?_ | refine q_notd ?_ | refine q_notb ?_ | refine q_pick_t ?_ | refine q_pick_f ?_ | refine q_nilc ?_ | refine q_skip ?_ | refine q_lens ?_ | refine q_lenv ?_ | refine q_nil ?_ | refine q_ix (fun _ => ?_) | (refine q_bin ?_ ?_ <;> intro _ <;> try (exfalso; omega)) | refine q_idx (c := 7) k hp ?_ | refine q_idx (c := 7) (k - 1) hp2 ?_ | refine q_row (fun w_ hw_ => hr.ext hw_) ?_ | refine q_row (fun w_ hw_ => hr2.ext hw_) ?_)
      all_goals (intro w2 hw2; refine hK _ _ ?_; clear hK K)
      all_goals repeat' (first | refine a_mov ?_ | refine a_asg ?_ | refine a_binN ?_ | refine a_notd ?_ | refine a_notb ?_ | refine a_nilc ?_ | refine a_fa ?_ | refine a_ext ?_ | refine a_lenv ?_ | refine a_lens ?_ | refine a_pick_t ?_ | refine a_pick_f ?_ | refine a_not ?_ | refine a_nilf ?_ | (refine o_nil (hK _ _ ?_); clear hK K) | refine wk_reg ?_ | refine wk_seq fun K hK => ?_ | (refine wk_skip (hK _ _ ?_); clear hK K) | (refine wk_label (hK _ _ ?_); clear hK K) | refine wk_scope ?_ | refine wk_block ?_ | refine wk_cond_t rfl ?_ | refine wk_cond_f rfl ?_ | (refine wk_exit ?_; (repeat (refine blockK_other rfl ?_)); refine blockK_same ?_; try ((repeat ((fail_if_success (refine hK _ _ ?_)); clear hK K)); refine hK _ _ ?_; clear hK K)) | (refine a_bin ?_ ?_ <;> intro _ <;> try (exfalso; omega)) | refine a_ld hl ?_ | (refine a_st hl ?_; clear hl; intro _ hl) | refine a_ix (fun _ => ?_) | fail)
      all_goals first
        | exact o_nil ⟨k + 1, ⟨rfl, rfl, trivial⟩, rfl, ⟨⟨hk1, hgo (hdef.2 (by omega))⟩, he.trans hw2⟩, by omega⟩
        | (refine wk_ret (retQ_tmp1 Tryd.results7 (by decide) rfl (by conv => lhs; whnf) ?_)
           exact ⟨by rw [hbad fun h => by have := hdef.1 h; omega], he.trans hw2⟩)
    · have hdef : Rul.ordAt l k ↔ ¬ (l[k].til ≠ -1 ∧ l[k].til ≤ l[k].fro) := ⟨fun ⟨_, h1, h2⟩ => h1, fun h => ⟨hk1, h, fun h => absurd h hk0⟩⟩
      generalize l[k] = x at *
      repeat' (first | refine a_mov ?_ | refine a_asg ?_ | refine a_binN ?_ | refine a_notd ?_ | refine a_notb ?_ | refine a_nilc ?_ | refine a_fa ?_ | refine a_ext ?_ | refine a_lenv ?_ | refine a_lens ?_ | refine a_pick_t ?_ | refine a_pick_f ?_ | refine a_not ?_ | refine a_nilf ?_ | (refine o_nil (hK _ _ ?_); clear hK K) | refine wk_reg ?_ | refine wk_seq fun K hK => ?_ | (refine wk_skip (hK _ _ ?_); clear hK K) | (refine wk_label (hK _ _ ?_); clear hK K) | refine wk_scope ?_ | refine wk_block ?_ | refine wk_cond_t rfl ?_ | refine wk_cond_f rfl ?_ | (refine wk_exit ?_; (repeat (refine blockK_other rfl ?_)); refine blockK_same ?_; try ((repeat ((fail_if_success (refine hK _ _ ?_)); clear hK K)); refine hK _ _ ?_; clear hK K)) | (refine a_bin ?_ ?_ <;> intro _ <;> try (exfalso; omega)) | refine a_ld hl ?_ | (refine a_st hl ?_; clear hl; intro _ hl) | refine a_ix (fun _ => ?_) | fail)
      refine wk_quiet [0, 1, 2, 3, 4, 5, 6, 7, 8, 9, 10, 11, 12, 13, 14, 15, 16, 17, 18, 19, 20, 21, 22, 23, 24, 25, 26, 27, 28, 29, 30, 31, 32, 33, 34, 35, 36, 37, 38, 39, 40, 41, 42, 43, 44, 45] ?_
      repeat' (first | refine q_mov ?_ | refine q_asg ?_ | refine q_fa ?_ | refine q_ext ?_ | refine q_binN ?_ | refine q_notd ?_ | refine q_notb ?_ | refine q_pick_t ?_ | refine q_pick_f ?_ | refine q_nilc ?_ | refine q_skip ?_ | refine q_lens ?_ | refine q_lenv ?_ | refine q_nil ?_ | refine q_ix (fun _ => ?_) | (refine q_bin ?_ ?_ <;> intro _ <;> try (exfalso; omega)) | refine q_idx (c := 7) k hp ?_ | refine q_row (fun w_ hw_ => hr.ext hw_) ?_)
      all_goals (intro w2 hw2; refine hK _ _ ?_; clear hK K)
      all_goals repeat' (first | refine a_mov ?_ | refine a_asg ?_ | refine a_binN ?_ | refine a_notd ?_ | refine a_notb ?_ | refine a_nilc ?_ | refine a_fa ?_ | refine a_ext ?_ | refine a_lenv ?_ | refine a_lens ?_ | refine a_pick_t ?_ | refine a_pick_f ?_ | refine a_not ?_ | refine a_nilf ?_ | (refine o_nil (hK _ _ ?_); clear hK K) | refine wk_reg ?_ | refine wk_seq fun K hK => ?_ | (refine wk_skip (hK _ _ ?_); clear hK K) | (refine wk_label (hK _ _ ?_); clear hK K) | refine wk_scope ?_ | refine wk_block ?_ | refine wk_cond_t rfl ?_ | refine wk_cond_f rfl ?_ | (refine wk_exit ?_; (repeat (refine blockK_other rfl ?_)); refine blockK_same ?_; try ((repeat ((fail_if_success (refine hK _ _ ?_)); clear hK K)); refine hK _ _ ?_; clear hK K)) | (refine a_bin ?_ ?_ <;> intro _ <;> try (exfalso; omega)) | refine a_ld hl ?_ | (refine a_st hl ?_; clear hl; intro _ hl) | refine a_ix (fun _ => ?_) | fail)
      all_goals first
        | exact o_nil ⟨k + 1, ⟨rfl, rfl, trivial⟩, rfl, ⟨⟨hk1, hgo (hdef.2 (by omega))⟩, he.trans hw2⟩, by omega⟩
        | (refine wk_ret (retQ_tmp1 Tryd.results7 (by decide) rfl (by conv => lhs; whnf) ?_)
           exact ⟨by rw [hbad fun h => by have := hdef.1 h; omega], he.trans hw2⟩)
  · have ho : Rul.orderedB l = true := hat.2 fun i hi => hpre i hi (by omega)
    repeat' (first | refine a_mov ?_ | refine a_asg ?_ | refine a_binN ?_ | refine a_notd ?_ | refine a_notb ?_ | refine a_nilc ?_ | refine a_fa ?_ | refine a_ext ?_ | refine a_lenv ?_ | refine a_lens ?_ | refine a_pick_t ?_ | refine a_pick_f ?_ | refine a_not ?_ | refine a_nilf ?_ | (refine o_nil (hK _ _ ?_); clear hK K) | refine wk_reg ?_ | refine wk_seq fun K hK => ?_ | (refine wk_skip (hK _ _ ?_); clear hK K) | (refine wk_label (hK _ _ ?_); clear hK K) | refine wk_scope ?_ | refine wk_block ?_ | refine wk_cond_t rfl ?_ | refine wk_cond_f rfl ?_ | (refine wk_exit ?_; (repeat (refine blockK_other rfl ?_)); refine blockK_same ?_; try ((repeat ((fail_if_success (refine hK _ _ ?_)); clear hK K)); refine hK _ _ ?_; clear hK K)) | (refine a_bin ?_ ?_ <;> intro _ <;> try (exfalso; omega)) | refine a_ld hl ?_ | (refine a_st hl ?_; clear hl; intro _ hl) | refine a_ix (fun _ => ?_) | fail)
    refine wk_ret (retQ_tmp1 Tryd.results7 (by decide) rfl (by conv => lhs; whnf) ?_)
    exact ⟨by rw [ho], he⟩
end Go.Proofs
