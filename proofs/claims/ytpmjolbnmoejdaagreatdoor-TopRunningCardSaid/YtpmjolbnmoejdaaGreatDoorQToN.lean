/-
  Matters: is a text a name.
-/
import Derived.Test.YtpmjolbnmoejdaaGreatDoorQLZ
import Derived.Test.YtpmjolbnmoejdaaGreatDoorQLx
import Derived.Test.YtpmjolbnmoejdaaGreatDoorQLD
import Derived.Test.YtpmjolbnmoejdaaGreatDoorQSp
set_option linter.unusedVariables false
set_option linter.unusedSimpArgs false
set_option linter.unnecessarySimpa false
set_option maxRecDepth 10000
namespace Go.Proofs
open Go Go.Pd Go.Lexs Go.Fin
attribute [local irreducible] OpsL W RetQ OpsQ OpsC
theorem toks_len4 (l : List Tok) : (toksL l).length = l.length * 4 := flat_length (f := tokL) (fun _ => rfl) l

set_option maxHeartbeats 2000000 in
theorem name_calls (s : List UInt8) (w : World) : Calls Tryz.prog 82 #[str s] w (fun e w' => ∃ x, e = .returned x ∧ x = .bool (Nm s) ∧ Ext w w') := by
  refine calls_of Tryz.func82 rfl Tryz.ntmps82 rfl ?_
  repeat' (first | refine a_mov ?_ | refine a_asg ?_ | refine a_fa ?_ | refine a_ext ?_ | refine a_lenv ?_ | refine a_pick_t ?_ | refine a_pick_f ?_ | refine a_not ?_ | (refine o_nil (hK _ _ ?_); clear hK K) | refine wk_reg ?_ | refine wk_seq fun K hK => ?_ | (refine a_bin ?_ ?_ <;> intro _ <;> try (exfalso; omega)) | fail)
  refine o_fn (lex_calls s w) rfl (fun _ => rfl) rfl ?_
  rintro v w1 ⟨he, ho⟩
  have hnm := lex_name s
  cases hx : lex s with
  | bad e off =>
    rw [hx] at ho
    have ho : v = _ := ho
    subst ho
    have hf : Nm s = false := by
      cases h : Nm s
      · rfl
      · obtain ⟨t, ht, -⟩ := hnm.2 h
        rw [hx] at ht; cases ht
    have hne : e ≠ 0 := lex_err hx
    clear hnm hx
    repeat' (first | refine a_mov ?_ | refine a_asg ?_ | refine a_fa ?_ | refine a_ext ?_ | refine a_lenv ?_ | refine a_pick_t ?_ | refine a_pick_f ?_ | refine a_not ?_ | (refine o_nil (hK _ _ ?_); clear hK K) | refine wk_reg ?_ | refine wk_seq fun K hK => ?_ | (refine a_bin ?_ ?_ <;> intro _ <;> try (exfalso; omega)) | fail)
    refine wk_ret (retQ_tmp1 Tryz.results82 (by decide) rfl (by conv => lhs; whnf) ?_)
    exact ⟨by rw [hf], he⟩
  | ok l =>
    rw [hx] at ho
    obtain ⟨sv, rfl, hsl⟩ := ho
    obtain ⟨pa, ca, rfl, -⟩ := hsl.shape (toks_len4 l) (by omega)
    by_cases h1 : l.length = 1
    · obtain ⟨t, rfl⟩ := List.length_eq_one_iff.1 h1
      obtain ⟨ba, oa, hpa, hra⟩ := hsl.at (m := 1) rfl (by omega) (by omega)
      have hr0 : Row w1 ba (oa + 0 * 4) [.int .i64 (t.kind : Int), str t.text, .int .i64 (t.num : Int), .int .i64 (t.pos : Int)] := hra.elem (f := tokL) (fun _ => rfl) (k := 0) (t := t) rfl
      have hnm2 : Nm s = true ↔ t.kind = 1 ∧ t.text = s := by
        rw [← hnm, hx]
        constructor
        · rintro ⟨u, hu, h⟩
          cases hu; exact h
        · intro h; exact ⟨t, rfl, h⟩
      have h11 : ([t] : List Tok).length = 1 := rfl
      rw [h11]
      clear hnm hx
      repeat' (first | refine a_mov ?_ | refine a_asg ?_ | refine a_fa ?_ | refine a_ext ?_ | refine a_lenv ?_ | refine a_pick_t ?_ | refine a_pick_f ?_ | refine a_not ?_ | (refine o_nil (hK _ _ ?_); clear hK K) | refine wk_reg ?_ | refine wk_seq fun K hK => ?_ | (refine a_bin ?_ ?_ <;> intro _ <;> try (exfalso; omega)) | refine a_idx (c := 4) 0 hpa ?_ | refine a_row hr0 ?_ | refine o_eqs rfl rfl rfl ?_)
      all_goals (refine wk_ret (retQ_tmp1 Tryz.results82 (by decide) rfl (by conv => lhs; whnf) ?_))
      all_goals refine ⟨congrArg Value.bool ?_, he⟩
      · rw [Bool.eq_iff_iff, hnm2, decide_eq_true_eq]
        exact ⟨fun h => ⟨by omega, h⟩, And.right⟩
      · cases hq : Nm s
        · rfl
        · exact absurd (hnm2.1 hq).1 (by omega)
    · have hf : Nm s = false := by
        cases h : Nm s
        · rfl
        · obtain ⟨t, ht, -⟩ := hnm.2 h
          rw [hx] at ht
          cases ht
          exact absurd rfl h1
      clear hnm hx
      repeat' (first | refine a_mov ?_ | refine a_asg ?_ | refine a_fa ?_ | refine a_ext ?_ | refine a_lenv ?_ | refine a_pick_t ?_ | refine a_pick_f ?_ | refine a_not ?_ | (refine o_nil (hK _ _ ?_); clear hK K) | refine wk_reg ?_ | refine wk_seq fun K hK => ?_ | (refine a_bin ?_ ?_ <;> intro _ <;> try (exfalso; omega)) | fail)
      refine wk_ret (retQ_tmp1 Tryz.results82 (by decide) rfl (by conv => lhs; whnf) ?_)
      exact ⟨by rw [hf], he⟩

theorem mis_calls (z : Int) (w : World) : Calls Tryz.prog 81 #[.int .i64 z] w (fun e w' => ∃ v, e = .returned v ∧ v = .bool (Go.Top.isD z) ∧ w' = w) := by
  refine calls_of Tryz.func81 rfl Tryz.ntmps81 rfl ?_
  repeat' (first | refine a_mov ?_ | refine a_asg ?_ | refine a_pick_t ?_ | refine a_pick_f ?_ | refine a_not ?_ | (refine o_nil (hK _ _ ?_); clear hK K) | refine wk_reg ?_ | refine wk_seq fun K hK => ?_ | (refine a_bin ?_ ?_ <;> intro _ <;> try (exfalso; omega)) | fail)
  all_goals (refine wk_ret (retQ_tmp1 Tryz.results81 (by decide) rfl (by conv => lhs; whnf) ?_))
  all_goals (refine ⟨congrArg Value.bool ?_, rfl⟩; unfold Go.Top.isD; first | (rw [eq_comm, decide_eq_true_iff]; omega) | (rw [eq_comm, decide_eq_false_iff_not]; omega))
end Go.Proofs
