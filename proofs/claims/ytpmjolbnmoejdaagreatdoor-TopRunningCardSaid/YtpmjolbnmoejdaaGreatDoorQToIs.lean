/-
  Facts: a test of names, letter by letter (fact.isName).
-/
import Derived.Test.YtpmjolbnmoejdaaGreatDoorQNrP
import Derived.Test.YtpmjolbnmoejdaaGreatDoorQLD
import Derived.Test.YtpmjolbnmoejdaaGreatDoorQLZ
set_option linter.unusedVariables false
set_option linter.unusedSimpArgs false
set_option linter.unnecessarySimpa false
set_option maxRecDepth 10000
namespace Go.Proofs
open Go Go.Pd Go.Lexs Go.Fin
attribute [local irreducible] OpsL W RetQ OpsQ OpsC

set_option maxHeartbeats 4000000 in
theorem isName_calls (s : List UInt8) (hn : s.length ≤ 9223372036854775806) (w : World) : Calls Tryz.prog 64 #[str s] w (fun e w' => ∃ x, e = .returned x ∧ x = .bool (Nm s) ∧ w' = w) := by
  refine calls_of Tryz.func64 rfl Tryz.ntmps64 rfl ?_
  repeat' (first | refine a_mov ?_ | refine a_asg ?_ | refine a_binN ?_ | refine a_notb ?_ | refine a_lens ?_ | refine a_pick_t ?_ | refine a_pick_f ?_ | refine a_not ?_ | (refine o_nil (hK _ _ ?_); clear hK K) | refine wk_reg ?_ | refine wk_seq fun K hK => ?_ | (refine wk_skip (hK _ _ ?_); clear hK K) | refine wk_block ?_ | refine wk_cond_t rfl ?_ | refine wk_cond_f rfl ?_ | (refine wk_exit ?_; (repeat (refine blockK_other rfl ?_)); refine blockK_same ?_; try ((repeat ((fail_if_success (refine hK _ _ ?_)); clear hK K)); refine hK _ _ ?_; clear hK K)) | (refine a_bin ?_ ?_ <;> intro _ <;> try (exfalso; omega)) | fail)
  refine wk_loopH [] rfl (fun k : Nat => [(0, str s), (8, .int .i64 (s.length : Int)), (9, .int .i64 (k : Int))]) (fun k w' => (k ≤ s.length ∧ ∀ j (hj : j < s.length), j < k → okAt j s[j]) ∧ w' = w) (fun k => s.length - k) 0 ⟨rfl, rfl, rfl, trivial⟩ ⟨⟨by omega, fun j hj h => by omega⟩, rfl⟩ ?_
  rintro k t _ ⟨⟨hk, hpre⟩, rfl⟩
  by_cases hlt : k < s.length
  · have hwd := wd_iff s[k]
    have hlt2 := lt_iff s[k]
    have hc : s[k]? = some s[k] := by simp [hlt]
    generalize hck : s[k] = c at *
    have hgo : okAt k c → ∀ j (hj : j < s.length), j < k + 1 → okAt j s[j] := fun h j hj hjk => by
      by_cases e : j = k
      · subst e; rw [hck]; exact h
      · exact hpre j hj (by omega)
    have hno : ¬ okAt k c → Nm s = false := fun h => nm_false hlt (by rw [hck]; exact h)
    clear hpre hck
    by_cases hok : okAt k c
    · have hgo := hgo hok
      have hok' : ((97 ≤ c.toNat ∧ c.toNat ≤ 122) ∨ (65 ≤ c.toNat ∧ c.toNat ≤ 90)) ∨ (k ≠ 0 ∧ ((97 ≤ c.toNat ∧ c.toNat ≤ 122) ∨ (65 ≤ c.toNat ∧ c.toNat ≤ 90) ∨ (48 ≤ c.toNat ∧ c.toNat ≤ 57) ∨ c.toNat = 95)) := by
        rcases hok with h | ⟨h1, h2⟩
        · exact .inl (hlt2.1 h)
        · refine .inr ⟨h1, ?_⟩
          rcases hwd.1 h2 with h | h | h
          · rcases hlt2.1 h with h | h
            · exact .inl h
            · exact .inr (.inl h)
          · exact .inr (.inr (.inl h))
          · exact .inr (.inr (.inr h))
      clear hok hwd hlt2 hno
      repeat' (first | refine o_index (c := c) k rfl rfl rfl rfl rfl hc ?_ | refine a_mov ?_ | refine a_asg ?_ | refine a_binN ?_ | refine a_notb ?_ | refine a_lens ?_ | refine a_pick_t ?_ | refine a_pick_f ?_ | refine a_not ?_ | (refine o_nil (hK _ _ ?_); clear hK K) | refine wk_reg ?_ | refine wk_seq fun K hK => ?_ | (refine wk_skip (hK _ _ ?_); clear hK K) | refine wk_block ?_ | refine wk_cond_t rfl ?_ | refine wk_cond_f rfl ?_ | (refine wk_exit ?_; (repeat (refine blockK_other rfl ?_)); refine blockK_same ?_; try ((repeat ((fail_if_success (refine hK _ _ ?_)); clear hK K)); refine hK _ _ ?_; clear hK K)) | (refine a_bin ?_ ?_ <;> intro _ <;> try (exfalso; omega)))
      all_goals exact o_nil ⟨k + 1, ⟨rfl, rfl, rfl, trivial⟩, rfl, ⟨⟨by omega, hgo⟩, rfl⟩, by omega⟩
    · have hno := hno hok
      have hok' : ¬ (((97 ≤ c.toNat ∧ c.toNat ≤ 122) ∨ (65 ≤ c.toNat ∧ c.toNat ≤ 90)) ∨ (k ≠ 0 ∧ ((48 ≤ c.toNat ∧ c.toNat ≤ 57) ∨ c.toNat = 95))) := by
        rintro (h | ⟨h1, h2⟩)
        · exact hok (.inl (hlt2.2 h))
        · exact hok (.inr ⟨h1, hwd.2 (.inr h2)⟩)
      clear hok hwd hlt2 hgo
      repeat' (first | refine o_index (c := c) k rfl rfl rfl rfl rfl hc ?_ | refine a_mov ?_ | refine a_asg ?_ | refine a_binN ?_ | refine a_notb ?_ | refine a_lens ?_ | refine a_pick_t ?_ | refine a_pick_f ?_ | refine a_not ?_ | (refine o_nil (hK _ _ ?_); clear hK K) | refine wk_reg ?_ | refine wk_seq fun K hK => ?_ | (refine wk_skip (hK _ _ ?_); clear hK K) | refine wk_block ?_ | refine wk_cond_t rfl ?_ | refine wk_cond_f rfl ?_ | (refine wk_exit ?_; (repeat (refine blockK_other rfl ?_)); refine blockK_same ?_; try ((repeat ((fail_if_success (refine hK _ _ ?_)); clear hK K)); refine hK _ _ ?_; clear hK K)) | (refine a_bin ?_ ?_ <;> intro _ <;> try (exfalso; omega)))
      all_goals (refine wk_ret (retQ_tmp1 Tryz.results64 (by decide) rfl (by conv => lhs; whnf) ?_))
      all_goals exact ⟨by rw [hno], rfl⟩
  · have hke : k = s.length := by omega
    have hiff := nm_iff s
    have hall : ∀ j (hj : j < s.length), okAt j s[j] := fun j hj => hpre j hj (by omega)
    clear hpre
    repeat' (first | refine a_mov ?_ | refine a_asg ?_ | refine a_binN ?_ | refine a_notb ?_ | refine a_lens ?_ | refine a_pick_t ?_ | refine a_pick_f ?_ | refine a_not ?_ | (refine o_nil (hK _ _ ?_); clear hK K) | refine wk_reg ?_ | refine wk_seq fun K hK => ?_ | (refine wk_skip (hK _ _ ?_); clear hK K) | refine wk_block ?_ | refine wk_cond_t rfl ?_ | refine wk_cond_f rfl ?_ | (refine wk_exit ?_; (repeat (refine blockK_other rfl ?_)); refine blockK_same ?_; try ((repeat ((fail_if_success (refine hK _ _ ?_)); clear hK K)); refine hK _ _ ?_; clear hK K)) | (refine a_bin ?_ ?_ <;> intro _ <;> try (exfalso; omega)) | refine o_nesT (b := []) rfl rfl (by simp only [str_eq]; rfl) ?_ ?_ <;> intro hemp)
    all_goals (refine wk_ret (retQ_tmp1 Tryz.results64 (by decide) rfl (by conv => lhs; whnf) ?_))
    all_goals (refine ⟨?_, rfl⟩)
    all_goals have hpos : (s = [] ↔ s.length = 0) := by cases s <;> simp
    all_goals (cases hx : Nm s)
    all_goals (first | rfl | (exfalso; have h1 := (hiff.1 hx).2; first | omega | (rw [hpos] at hemp; omega)) | (exfalso; exact absurd (hiff.2 ⟨hall, by first | omega | (rw [ne_eq, hpos] at hemp; omega), by omega⟩) (by rw [hx]; simp)))
end Go.Proofs
