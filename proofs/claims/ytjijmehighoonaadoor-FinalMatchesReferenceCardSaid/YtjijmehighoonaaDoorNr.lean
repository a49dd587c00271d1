/-
  A test of names, letter by letter (pandectref07.Name).
-/
import Derived.Test.YtjijmehighoonaaDoorF
import Derived.Test.YtjijmehighoonaaDoorFspec
set_option linter.unusedVariables false
set_option linter.unusedSimpArgs false
set_option linter.unnecessarySimpa false
set_option maxRecDepth 10000
namespace Go.Proofs
open Go Go.Pd Go.Lexs Go.Fin
attribute [local irreducible] OpsL W RetQ OpsQ OpsC

theorem wd_iff (c : UInt8) : isWord c = true ↔ isLetter c = true ∨ (48 ≤ c.toNat ∧ c.toNat ≤ 57) ∨ c.toNat = 95 := by
  have h95 : c = 95 ↔ c.toNat = 95 := ⟨fun h => by rw [h]; rfl, fun h => UInt8.toNat_inj.1 h⟩
  have hd : isDigit c = true ↔ (48 ≤ c.toNat ∧ c.toNat ≤ 57) := by simp [isDigit, UInt8.le_iff_toNat_le]
  unfold isWord cls
  cases h1 : isLetter c
  · cases h2 : isDigit c
    · rw [h2] at hd
      simp only [Bool.false_eq_true, false_iff] at hd
      by_cases h3 : c.toNat = 95
      · have := h95.2 h3
        subst this
        simp [h1, h2]
      · have hc : c ≠ 95 := fun h => h3 (h95.1 h)
        simp only [h1, h2, hc, Bool.or_false, Bool.false_eq_true, if_false, decide_false, h3, or_false, false_or]
        constructor
        · intro h
          exfalso
          revert h
          repeat' split
          all_goals simp
        · intro h; exact absurd h hd
    · have := hd.1 h2
      simp [h1, h2, this]
  · simp [h1]

theorem lt_iff (c : UInt8) : isLetter c = true ↔ (97 ≤ c.toNat ∧ c.toNat ≤ 122) ∨ (65 ≤ c.toNat ∧ c.toNat ≤ 90) := by
  simp [isLetter, UInt8.le_iff_toNat_le]

/-- What a name's letter must be at its place. -/
def okAt (j : Nat) (c : UInt8) : Prop := isLetter c = true ∨ (j ≠ 0 ∧ isWord c = true)

theorem cls_3 (c : UInt8) : cls c = 3 ↔ isLetter c = true := by
  constructor
  · intro h
    unfold cls at h
    split at h
    · assumption
    · repeat (split at h; · cases h)
      cases h
  · intro h; simp [cls, h]

theorem nm_iff (s : List UInt8) : Nm s = true ↔ (∀ j (hj : j < s.length), okAt j s[j]) ∧ 0 < s.length ∧ s.length ≤ 24 := by
  unfold Nm
  simp only [Bool.and_eq_true, decide_eq_true_eq]
  have hh : ∀ (h0 : 0 < s.length), hd s = 3 ↔ isLetter s[0] = true := fun h0 => by
    cases s with
    | nil => simp at h0
    | cons c s => exact cls_3 c
  constructor
  · rintro ⟨h1, h2, h3, h4⟩
    refine ⟨fun j hj => ?_, h2, h3⟩
    by_cases hj0 : j = 0
    · subst hj0; exact .inl ((hh h2).1 h4)
    · exact .inr ⟨hj0, List.all_eq_true.1 h1 _ (List.getElem_mem hj)⟩
  · rintro ⟨h1, h2, h3⟩
    refine ⟨List.all_eq_true.2 fun c hc => ?_, h2, h3, (hh h2).2 ?_⟩
    · obtain ⟨j, hj, rfl⟩ := List.mem_iff_getElem.1 hc
      rcases h1 j hj with h | ⟨_, h⟩
      · exact (wd_iff _).2 (.inl h)
      · exact h
    · rcases h1 0 h2 with h | ⟨h, _⟩
      · exact h
      · exact absurd rfl h

theorem nm_false {s : List UInt8} {k : Nat} (hk : k < s.length) (h : ¬ okAt k s[k]) : Nm s = false := by
  cases hn : Nm s
  · rfl
  · exact absurd ((nm_iff s).1 hn |>.1 k hk) h

set_option maxHeartbeats 2000000 in
theorem refName_calls (s : List UInt8) (hn : s.length ≤ 9223372036854775806) (w : World) : Calls Tryd.prog 30 #[str s] w (fun e w' => ∃ x, e = .returned x ∧ x = .bool (Nm s) ∧ w' = w) := by
  refine calls_of Tryd.func30 rfl Tryd.ntmps30 rfl ?_
  repeat' (first | refine o_mov rfl (by conv => lhs; whnf) ?_ | refine o_asg rfl (by conv => lhs; whnf) ?_ | refine o_binN rfl rfl rfl rfl (by omega) ?_ | refine o_notd rfl rfl ?_ | refine o_notb rfl rfl ?_ | refine o_nilc rfl rfl ?_ | refine o_fa2 rfl rfl (by conv => lhs; whnf; arg 1; whnf) (by first | (conv => lhs; simp only [Nat.reduceAdd, Nat.zero_add, Nat.add_zero]) | rfl) ?_ | refine o_ext rfl rfl (by conv => lhs; whnf) ?_ | refine o_lenv rfl rfl rfl ?_ | refine o_lens rfl rfl rfl ?_ | refine o_pick_t rfl rfl (by conv => lhs; whnf) ?_ | refine o_pick_f rfl rfl (by conv => lhs; whnf) ?_ | refine o_not rfl ?_ | refine o_nilf rfl rfl ?_ | (refine o_nil (hK _ _ ?_); clear hK K) | refine wk_reg ?_ | refine wk_seq fun K hK => ?_ | (refine wk_skip (hK _ _ ?_); clear hK K) | (refine wk_label (hK _ _ ?_); clear hK K) | refine wk_scope ?_ | refine wk_block ?_ | refine wk_cond_t rfl ?_ | refine wk_cond_f rfl ?_ | (refine wk_exit ?_; (repeat (refine blockK_other rfl ?_)); refine blockK_same ?_; (first | (refine hK _ _ ?_; clear hK K) | (clear hK K; refine hK _ _ ?_; clear hK K) | (clear hK K; clear hK K; refine hK _ _ ?_; clear hK K) | (clear hK K; clear hK K; clear hK K; refine hK _ _ ?_; clear hK K) | (clear hK K; clear hK K; clear hK K; clear hK K; refine hK _ _ ?_; clear hK K) | (clear hK K; clear hK K; clear hK K; clear hK K; clear hK K; refine hK _ _ ?_; clear hK K) | skip)) | (refine o_binT rfl rfl rfl rfl ?_ ?_ <;> intro _ <;> try (exfalso; omega)) | refine o_load rfl rfl rfl (by first | exact hl.cell 0 rfl rfl | exact hl.cell 1 rfl rfl | exact hl.cell 2 rfl rfl | exact hl.cell 3 rfl rfl | exact hl.cell 4 rfl rfl | exact hl.cell 5 rfl rfl | exact hl.cell 6 rfl rfl | exact hl.cell 7 rfl rfl | exact hl.cell 8 rfl rfl | exact hl.cell 9 rfl rfl) ?_ | (refine o_put1 hl rfl rfl (by conv => lhs; whnf) (by first | exact ⟨rfl, rfl⟩ | exact cell1_str _) rfl (by repeat (first | exact Put.here rfl (by conv => lhs; simp only [List.set_cons_zero, List.set_cons_succ, Nat.reduceAdd, Nat.zero_add]) | refine Put.there ?_)) ?_; clear hl; intro _ hl) | refine o_ix (by omega) rfl rfl rfl rfl rfl ?_ | fail)
  refine wk_loopH [] rfl (fun k : Nat => [(0, str s), (3, .int .i64 (k : Int))]) (fun k w' => (k ≤ s.length ∧ ∀ j (hj : j < s.length), j < k → okAt j s[j]) ∧ w' = w) (fun k => s.length - k) 0 ⟨rfl, rfl, trivial⟩ ⟨⟨by omega, fun j hj h => by omega⟩, rfl⟩ ?_
  rintro k t _ ⟨⟨hk, hpre⟩, rfl⟩
  by_cases hlt : k < s.length
  · have hwd := wd_iff s[k]
    have hlt2 := lt_iff s[k]
    have hc : s[k]? = some s[k] := by simp [hlt]
    generalize hck : s[k] = c at *
    have hgo : okAt k c → ∀ j (hj : j < s.length), j < k + 1 → okAt j s[j] := fun h j hj hjk => by
      by_cases e : j = k
      · subst e; rw [hck]; exact h
      · exact hpre j hj (by omega)
    have hno : ¬ okAt k c → Nm s = false := fun h => nm_false hlt (by rw [hck]; exact h)
    clear hpre hck
    by_cases hok : okAt k c
    · have hgo := hgo hok
      have hok' : ((97 ≤ c.toNat ∧ c.toNat ≤ 122) ∨ (65 ≤ c.toNat ∧ c.toNat ≤ 90)) ∨ (k ≠ 0 ∧ ((97 ≤ c.toNat ∧ c.toNat ≤ 122) ∨ (65 ≤ c.toNat ∧ c.toNat ≤ 90) ∨ (48 ≤ c.toNat ∧ c.toNat ≤ 57) ∨ c.toNat = 95)) := by
        rcases hok with h | ⟨h1, h2⟩
        · exact .inl (hlt2.1 h)
        · refine .inr ⟨h1, ?_⟩
          rcases hwd.1 h2 with h | h | h
          · rcases hlt2.1 h with h | h
            · exact .inl h
            · exact .inr (.inl h)
          · exact .inr (.inr (.inl h))
          · exact .inr (.inr (.inr h))
      clear hok hwd hlt2 hno
      repeat' (first | refine o_mov rfl (by conv => lhs; whnf) ?_ | refine o_asg rfl (by conv => lhs; whnf) ?_ | refine o_binN rfl rfl rfl rfl (by omega) ?_ | refine o_notd rfl rfl ?_ | refine o_notb rfl rfl ?_ | refine o_nilc rfl rfl ?_ | refine o_fa2 rfl rfl (by conv => lhs; whnf; arg 1; whnf) (by first | (conv => lhs; simp only [Nat.reduceAdd, Nat.zero_add, Nat.add_zero]) | rfl) ?_ | refine o_ext rfl rfl (by conv => lhs; whnf) ?_ | refine o_lenv rfl rfl rfl ?_ | refine o_lens rfl rfl rfl ?_ | refine o_pick_t rfl rfl (by conv => lhs; whnf) ?_ | refine o_pick_f rfl rfl (by conv => lhs; whnf) ?_ | refine o_not rfl ?_ | refine o_nilf rfl rfl ?_ | (refine o_nil (hK _ _ ?_); clear hK K) | refine wk_reg ?_ | refine wk_seq fun K hK => ?_ | (refine wk_skip (hK _ _ ?_); clear hK K) | (refine wk_label (hK _ _ ?_); clear hK K) | refine wk_scope ?_ | refine wk_block ?_ | refine wk_cond_t rfl ?_ | refine wk_cond_f rfl ?_ | (refine wk_exit ?_; (repeat (refine blockK_other rfl ?_)); refine blockK_same ?_; (first | (refine hK _ _ ?_; clear hK K) | (clear hK K; refine hK _ _ ?_; clear hK K) | (clear hK K; clear hK K; refine hK _ _ ?_; clear hK K) | (clear hK K; clear hK K; clear hK K; refine hK _ _ ?_; clear hK K) | (clear hK K; clear hK K; clear hK K; clear hK K; refine hK _ _ ?_; clear hK K) | (clear hK K; clear hK K; clear hK K; clear hK K; clear hK K; refine hK _ _ ?_; clear hK K) | skip)) | (refine o_binT rfl rfl rfl rfl ?_ ?_ <;> intro _ <;> try (exfalso; omega)) | refine o_load rfl rfl rfl (by first | exact hl.cell 0 rfl rfl | exact hl.cell 1 rfl rfl | exact hl.cell 2 rfl rfl | exact hl.cell 3 rfl rfl | exact hl.cell 4 rfl rfl | exact hl.cell 5 rfl rfl | exact hl.cell 6 rfl rfl | exact hl.cell 7 rfl rfl | exact hl.cell 8 rfl rfl | exact hl.cell 9 rfl rfl) ?_ | (refine o_put1 hl rfl rfl (by conv => lhs; whnf) (by first | exact ⟨rfl, rfl⟩ | exact cell1_str _) rfl (by repeat (first | exact Put.here rfl (by conv => lhs; simp only [List.set_cons_zero, List.set_cons_succ, Nat.reduceAdd, Nat.zero_add]) | refine Put.there ?_)) ?_; clear hl; intro _ hl) | refine o_ix (by omega) rfl rfl rfl rfl rfl ?_ | fail | refine o_index (c := c) k rfl rfl rfl rfl rfl hc ?_)
      all_goals exact o_nil ⟨k + 1, ⟨rfl, rfl, trivial⟩, rfl, ⟨⟨by omega, hgo⟩, rfl⟩, by omega⟩
    · have hno := hno hok
      have hok' : ¬ (((97 ≤ c.toNat ∧ c.toNat ≤ 122) ∨ (65 ≤ c.toNat ∧ c.toNat ≤ 90)) ∨ (k ≠ 0 ∧ ((48 ≤ c.toNat ∧ c.toNat ≤ 57) ∨ c.toNat = 95))) := by
        rintro (h | ⟨h1, h2⟩)
        · exact hok (.inl (hlt2.2 h))
        · exact hok (.inr ⟨h1, hwd.2 (.inr h2)⟩)
      clear hok hwd hlt2 hgo
      repeat' (first | refine o_mov rfl (by conv => lhs; whnf) ?_ | refine o_asg rfl (by conv => lhs; whnf) ?_ | refine o_binN rfl rfl rfl rfl (by omega) ?_ | refine o_notd rfl rfl ?_ | refine o_notb rfl rfl ?_ | refine o_nilc rfl rfl ?_ | refine o_fa2 rfl rfl (by conv => lhs; whnf; arg 1; whnf) (by first | (conv => lhs; simp only [Nat.reduceAdd, Nat.zero_add, Nat.add_zero]) | rfl) ?_ | refine o_ext rfl rfl (by conv => lhs; whnf) ?_ | refine o_lenv rfl rfl rfl ?_ | refine o_lens rfl rfl rfl ?_ | refine o_pick_t rfl rfl (by conv => lhs; whnf) ?_ | refine o_pick_f rfl rfl (by conv => lhs; whnf) ?_ | refine o_not rfl ?_ | refine o_nilf rfl rfl ?_ | (refine o_nil (hK _ _ ?_); clear hK K) | refine wk_reg ?_ | refine wk_seq fun K hK => ?_ | (refine wk_skip (hK _ _ ?_); clear hK K) | (refine wk_label (hK _ _ ?_); clear hK K) | refine wk_scope ?_ | refine wk_block ?_ | refine wk_cond_t rfl ?_ | refine wk_cond_f rfl ?_ | (refine wk_exit ?_; (repeat (refine blockK_other rfl ?_)); refine blockK_same ?_; (first | (refine hK _ _ ?_; clear hK K) | (clear hK K; refine hK _ _ ?_; clear hK K) | (clear hK K; clear hK K; refine hK _ _ ?_; clear hK K) | (clear hK K; clear hK K; clear hK K; refine hK _ _ ?_; clear hK K) | (clear hK K; clear hK K; clear hK K; clear hK K; refine hK _ _ ?_; clear hK K) | (clear hK K; clear hK K; clear hK K; clear hK K; clear hK K; refine hK _ _ ?_; clear hK K) | skip)) | (refine o_binT rfl rfl rfl rfl ?_ ?_ <;> intro _ <;> try (exfalso; omega)) | refine o_load rfl rfl rfl (by first | exact hl.cell 0 rfl rfl | exact hl.cell 1 rfl rfl | exact hl.cell 2 rfl rfl | exact hl.cell 3 rfl rfl | exact hl.cell 4 rfl rfl | exact hl.cell 5 rfl rfl | exact hl.cell 6 rfl rfl | exact hl.cell 7 rfl rfl | exact hl.cell 8 rfl rfl | exact hl.cell 9 rfl rfl) ?_ | (refine o_put1 hl rfl rfl (by conv => lhs; whnf) (by first | exact ⟨rfl, rfl⟩ | exact cell1_str _) rfl (by repeat (first | exact Put.here rfl (by conv => lhs; simp only [List.set_cons_zero, List.set_cons_succ, Nat.reduceAdd, Nat.zero_add]) | refine Put.there ?_)) ?_; clear hl; intro _ hl) | refine o_ix (by omega) rfl rfl rfl rfl rfl ?_ | fail | refine o_index (c := c) k rfl rfl rfl rfl rfl hc ?_)
      all_goals (refine wk_ret (retQ_tmp1 Tryd.results30 (by decide) rfl (by conv => lhs; whnf) ?_))
      all_goals exact ⟨by rw [hno], rfl⟩
  · have hke : k = s.length := by omega
    have hiff := nm_iff s
    have hall : ∀ j (hj : j < s.length), okAt j s[j] := fun j hj => hpre j hj (by omega)
    clear hpre
    repeat' (first | refine o_mov rfl (by conv => lhs; whnf) ?_ | refine o_asg rfl (by conv => lhs; whnf) ?_ | refine o_binN rfl rfl rfl rfl (by omega) ?_ | refine o_notd rfl rfl ?_ | refine o_notb rfl rfl ?_ | refine o_nilc rfl rfl ?_ | refine o_fa2 rfl rfl (by conv => lhs; whnf; arg 1; whnf) (by first | (conv => lhs; simp only [Nat.reduceAdd, Nat.zero_add, Nat.add_zero]) | rfl) ?_ | refine o_ext rfl rfl (by conv => lhs; whnf) ?_ | refine o_lenv rfl rfl rfl ?_ | refine o_lens rfl rfl rfl ?_ | refine o_pick_t rfl rfl (by conv => lhs; whnf) ?_ | refine o_pick_f rfl rfl (by conv => lhs; whnf) ?_ | refine o_not rfl ?_ | refine o_nilf rfl rfl ?_ | (refine o_nil (hK _ _ ?_); clear hK K) | refine wk_reg ?_ | refine wk_seq fun K hK => ?_ | (refine wk_skip (hK _ _ ?_); clear hK K) | (refine wk_label (hK _ _ ?_); clear hK K) | refine wk_scope ?_ | refine wk_block ?_ | refine wk_cond_t rfl ?_ | refine wk_cond_f rfl ?_ | (refine wk_exit ?_; (repeat (refine blockK_other rfl ?_)); refine blockK_same ?_; (first | (refine hK _ _ ?_; clear hK K) | (clear hK K; refine hK _ _ ?_; clear hK K) | (clear hK K; clear hK K; refine hK _ _ ?_; clear hK K) | (clear hK K; clear hK K; clear hK K; refine hK _ _ ?_; clear hK K) | (clear hK K; clear hK K; clear hK K; clear hK K; refine hK _ _ ?_; clear hK K) | (clear hK K; clear hK K; clear hK K; clear hK K; clear hK K; refine hK _ _ ?_; clear hK K) | skip)) | (refine o_binT rfl rfl rfl rfl ?_ ?_ <;> intro _ <;> try (exfalso; omega)) | refine o_load rfl rfl rfl (by first | exact hl.cell 0 rfl rfl | exact hl.cell 1 rfl rfl | exact hl.cell 2 rfl rfl | exact hl.cell 3 rfl rfl | exact hl.cell 4 rfl rfl | exact hl.cell 5 rfl rfl | exact hl.cell 6 rfl rfl | exact hl.cell 7 rfl rfl | exact hl.cell 8 rfl rfl | exact hl.cell 9 rfl rfl) ?_ | (refine o_put1 hl rfl rfl (by conv => lhs; whnf) (by first | exact ⟨rfl, rfl⟩ | exact cell1_str _) rfl (by repeat (first | exact Put.here rfl (by conv => lhs; simp only [List.set_cons_zero, List.set_cons_succ, Nat.reduceAdd, Nat.zero_add]) | refine Put.there ?_)) ?_; clear hl; intro _ hl) | refine o_ix (by omega) rfl rfl rfl rfl rfl ?_ | fail)
    all_goals (refine wk_ret (retQ_tmp1 Tryd.results30 (by decide) rfl (by conv => lhs; whnf) ?_))
    all_goals (refine ⟨?_, rfl⟩)
    all_goals (cases hx : Nm s)
    all_goals (first | rfl | (exfalso; have h1 := (hiff.1 hx).2; omega) | (exfalso; exact absurd (hiff.2 ⟨hall, by omega, by omega⟩) (by rw [hx]; simp)))
end Go.Proofs
