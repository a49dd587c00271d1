/-
  Rulings: names, days, sizes, Valid (the program's, the reference's).
-/
import Derived.Test.YtbfehpiahmodlaaDoorRM
import Derived.Test.YtbfehpiahmodlaaDoorRA
set_option linter.unusedVariables false
set_option linter.unusedSimpArgs false
set_option linter.unnecessarySimpa false
set_option maxRecDepth 10000
namespace Go.Proofs
open Go Go.Pd Go.Lexs Go.Fin Go.Fo
attribute [local irreducible] OpsL W RetQ OpsQ OpsC

set_option maxHeartbeats 4000000 in
theorem ruName_calls (s : List UInt8) (hn : s.length ≤ 9223372036854775806) (w : World) : Calls Tryd.prog 19 #[str s] w (fun e w' => ∃ x, e = .returned x ∧ x = .bool (Nm s) ∧ w' = w) := by
  refine calls_of Tryd.func19 rfl Tryd.ntmps19 rfl ?_
  repeat' (first | refine a_mov ?_ | refine a_asg ?_ | refine a_binN ?_ | refine a_notd ?_ | refine a_notb ?_ | refine a_nilc ?_ | refine a_fa ?_ | refine a_ext ?_ | refine a_lenv ?_ | refine a_lens ?_ | refine a_pick_t ?_ | refine a_pick_f ?_ | refine a_not ?_ | refine a_nilf ?_ | (refine o_nil (hK _ _ ?_); clear hK K) | refine wk_reg ?_ | refine wk_seq fun K hK => ?_ | (refine wk_skip (hK _ _ ?_); clear hK K) | (refine wk_label (hK _ _ ?_); clear hK K) | refine wk_scope ?_ | refine wk_block ?_ | refine wk_cond_t rfl ?_ | refine wk_cond_f rfl ?_ | (refine wk_exit ?_; (repeat (refine blockK_other rfl ?_)); refine blockK_same ?_; try ((repeat ((fail_if_success (refine hK _ _ ?_)); clear hK K)); refine hK _ _ ?_; clear hK K)) | (refine a_bin ?_ ?_ <;> intro _ <;> try (exfalso; omega)) | refine a_ld hl ?_ | (refine a_st hl ?_; clear hl; intro _ hl) | refine a_ix (fun _ => ?_) | fail)
  refine wk_loopH [] rfl (fun k : Nat => [(0, str s), (7, .int .i64 (s.length : Int)), (8, .int .i64 (k : Int))]) (fun k w' => (k ≤ s.length ∧ ∀ j (hj : j < s.length), j < k → okAt j s[j]) ∧ w' = w) (fun k => s.length - k) 0 ⟨rfl, rfl, rfl, trivial⟩ ⟨⟨by omega, fun j hj h => by omega⟩, rfl⟩ ?_
  rintro k t _ ⟨⟨hk, hpre⟩, rfl⟩
  by_cases hlt : k < s.length
  · have hwd := wd_iff s[k]
    have hlt2 := lt_iff s[k]
    have hc : s[k]? = some s[k] := by simp [hlt]
    generalize hck : s[k] = c at *
    have hgo : okAt k c → ∀ j (hj : j < s.length), j < k + 1 → okAt j s[j] := fun h j hj hjk => by
      by_cases e : j = k
      · subst e; rw [hck]; exact h
      · exact hpre j hj (by omega)
    have hno : ¬ okAt k c → Nm s = false := fun h => nm_false hlt (by rw [hck]; exact h)
    clear hpre hck
    by_cases hok : okAt k c
    · have hgo := hgo hok
      have hok' : ((97 ≤ c.toNat ∧ c.toNat ≤ 122) ∨ (65 ≤ c.toNat ∧ c.toNat ≤ 90)) ∨ (k ≠ 0 ∧ ((97 ≤ c.toNat ∧ c.toNat ≤ 122) ∨ (65 ≤ c.toNat ∧ c.toNat ≤ 90) ∨ (48 ≤ c.toNat ∧ c.toNat ≤ 57) ∨ c.toNat = 95)) := by
        rcases hok with h | ⟨h1, h2⟩
        · exact .inl (hlt2.1 h)
        · refine .inr ⟨h1, ?_⟩
          rcases hwd.1 h2 with h | h | h
          · rcases hlt2.1 h with h | h
            · exact .inl h
            · exact .inr (.inl h)
          · exact .inr (.inr (.inl h))
          · exact .inr (.inr (.inr h))
      clear hok hwd hlt2 hno
      repeat' (first | refine o_index (c := c) k rfl rfl rfl rfl rfl hc ?_ | refine a_mov ?_ | refine a_asg ?_ | refine a_binN ?_ | refine a_notd ?_ | refine a_notb ?_ | refine a_nilc ?_ | refine a_fa ?_ | refine a_ext ?_ | refine a_lenv ?_ | refine a_lens ?_ | refine a_pick_t ?_ | refine a_pick_f ?_ | refine a_not ?_ | refine a_nilf ?_ | (refine o_nil (hK _ _ ?_); clear hK K) | refine wk_reg ?_ | refine wk_seq fun K hK => ?_ | (refine wk_skip (hK _ _ ?_); clear hK K) | (refine wk_label (hK _ _ ?_); clear hK K) | refine wk_scope ?_ | refine wk_block ?_ | refine wk_cond_t rfl ?_ | refine wk_cond_f rfl ?_ | (refine wk_exit ?_; (repeat (refine blockK_other rfl ?_)); refine blockK_same ?_; try ((repeat ((fail_if_success (refine hK _ _ ?_)); clear hK K)); refine hK _ _ ?_; clear hK K)) | (refine a_bin ?_ ?_ <;> intro _ <;> try (exfalso; omega)) | refine a_ld hl ?_ | (refine a_st hl ?_; clear hl; intro _ hl) | refine a_ix (fun _ => ?_))
      all_goals exact o_nil ⟨k + 1, ⟨rfl, rfl, rfl, trivial⟩, rfl, ⟨⟨by omega, hgo⟩, rfl⟩, by omega⟩
    · have hno := hno hok
      have hok' : ¬ (((97 ≤ c.toNat ∧ c.toNat ≤ 122) ∨ (65 ≤ c.toNat ∧ c.toNat ≤ 90)) ∨ (k ≠ 0 ∧ ((48 ≤ c.toNat ∧ c.toNat ≤ 57) ∨ c.toNat = 95))) := by
        rintro (h | ⟨h1, h2⟩)
        · exact hok (.inl (hlt2.2 h))
        · exact hok (.inr ⟨h1, hwd.2 (.inr h2)⟩)
      clear hok hwd hlt2 hgo
      repeat' (first | refine o_index (c := c) k rfl rfl rfl rfl rfl hc ?_ | refine a_mov ?_ | refine a_asg ?_ | refine a_binN ?_ | refine a_notd ?_ | refine a_notb ?_ | refine a_nilc ?_ | refine a_fa ?_ | refine a_ext ?_ | refine a_lenv ?_ | refine a_lens ?_ | refine a_pick_t ?_ | refine a_pick_f ?_ | refine a_not ?_ | refine a_nilf ?_ | (refine o_nil (hK _ _ ?_); clear hK K) | refine wk_reg ?_ | refine wk_seq fun K hK => ?_ | (refine wk_skip (hK _ _ ?_); clear hK K) | (refine wk_label (hK _ _ ?_); clear hK K) | refine wk_scope ?_ | refine wk_block ?_ | refine wk_cond_t rfl ?_ | refine wk_cond_f rfl ?_ | (refine wk_exit ?_; (repeat (refine blockK_other rfl ?_)); refine blockK_same ?_; try ((repeat ((fail_if_success (refine hK _ _ ?_)); clear hK K)); refine hK _ _ ?_; clear hK K)) | (refine a_bin ?_ ?_ <;> intro _ <;> try (exfalso; omega)) | refine a_ld hl ?_ | (refine a_st hl ?_; clear hl; intro _ hl) | refine a_ix (fun _ => ?_))
      all_goals (refine wk_ret (retQ_tmp1 Tryd.results19 (by decide) rfl (by conv => lhs; whnf) ?_))
      all_goals exact ⟨by rw [hno], rfl⟩
  · have hke : k = s.length := by omega
    have hiff := nm_iff s
    have hall : ∀ j (hj : j < s.length), okAt j s[j] := fun j hj => hpre j hj (by omega)
    clear hpre
    repeat' (first | refine a_mov ?_ | refine a_asg ?_ | refine a_binN ?_ | refine a_notd ?_ | refine a_notb ?_ | refine a_nilc ?_ | refine a_fa ?_ | refine a_ext ?_ | refine a_lenv ?_ | refine a_lens ?_ | refine a_pick_t ?_ | refine a_pick_f ?_ | refine a_not ?_ | refine a_nilf ?_ | (refine o_nil (hK _ _ ?_); clear hK K) | refine wk_reg ?_ | refine wk_seq fun K hK => ?_ | (refine wk_skip (hK _ _ ?_); clear hK K) | (refine wk_label (hK _ _ ?_); clear hK K) | refine wk_scope ?_ | refine wk_block ?_ | refine wk_cond_t rfl ?_ | refine wk_cond_f rfl ?_ | (refine wk_exit ?_; (repeat (refine blockK_other rfl ?_)); refine blockK_same ?_; try ((repeat ((fail_if_success (refine hK _ _ ?_)); clear hK K)); refine hK _ _ ?_; clear hK K)) | (refine a_bin ?_ ?_ <;> intro _ <;> try (exfalso; omega)) | refine a_ld hl ?_ | (refine a_st hl ?_; clear hl; intro _ hl) | refine a_ix (fun _ => ?_) | fail)
    all_goals (refine wk_ret (retQ_tmp1 Tryd.results19 (by decide) rfl (by conv => lhs; whnf) ?_))
    all_goals (refine ⟨?_, rfl⟩)
    all_goals (cases hx : Nm s)
    all_goals (first | rfl | (exfalso; have h1 := (hiff.1 hx).2; omega) | (exfalso; exact absurd (hiff.2 ⟨hall, by omega, by omega⟩) (by rw [hx]; simp)))

/-! ### Days -/
theorem days1_calls (n : Int) (w : World) : Calls Tryd.prog 40 #[.int .i64 n] w (fun e w' => ∃ x, e = .returned x ∧ x = .bool (!Rul.dayB n) ∧ w' = w) := by
  refine calls_of Tryd.func40 rfl Tryd.ntmps40 rfl ?_
  repeat' (first | refine a_mov ?_ | refine a_asg ?_ | refine a_binN ?_ | refine a_notd ?_ | refine a_notb ?_ | refine a_nilc ?_ | refine a_fa ?_ | refine a_ext ?_ | refine a_lenv ?_ | refine a_lens ?_ | refine a_pick_t ?_ | refine a_pick_f ?_ | refine a_not ?_ | refine a_nilf ?_ | (refine o_nil (hK _ _ ?_); clear hK K) | refine wk_reg ?_ | refine wk_seq fun K hK => ?_ | (refine wk_skip (hK _ _ ?_); clear hK K) | (refine wk_label (hK _ _ ?_); clear hK K) | refine wk_scope ?_ | refine wk_block ?_ | refine wk_cond_t rfl ?_ | refine wk_cond_f rfl ?_ | (refine wk_exit ?_; (repeat (refine blockK_other rfl ?_)); refine blockK_same ?_; try ((repeat ((fail_if_success (refine hK _ _ ?_)); clear hK K)); refine hK _ _ ?_; clear hK K)) | (refine a_bin ?_ ?_ <;> intro _ <;> try (exfalso; omega)) | refine a_ld hl ?_ | (refine a_st hl ?_; clear hl; intro _ hl) | refine a_ix (fun _ => ?_) | fail)
  all_goals (refine wk_ret (retQ_tmp1 Tryd.results40 (by decide) rfl (by conv => lhs; whnf) ?_))
  all_goals refine ⟨?_, rfl⟩
  all_goals unfold Rul.dayB
  · rw [decide_eq_false (by omega)]; rfl
  · rw [decide_eq_false (by omega)]; rfl
  · rw [decide_eq_true (by omega)]; rfl

def intL1 (n : Int) : List Value := [.int .i64 n]
def intsL1 (l : List Int) : List Value := l.flatMap intL1
theorem intsL1_len (l : List Int) : (intsL1 l).length = l.length * 1 := flat_length (f := intL1) (c := 1) (fun _ => rfl) l
theorem Sl.num {w : World} {a : Option Addr} {m c : Nat} {l : List Int} (hv : Sl w (.slice a m c) 1 (intsL1 l)) (hm : m = l.length) {k : Nat} (hk : k < l.length) : ∃ b o, a = some ⟨b, o, none⟩ ∧ Row w b (o + k * 1) [.int .i64 l[k]] := by
  subst hm
  obtain ⟨b, o, hp, hr⟩ := hv.at (intsL1_len l) (by omega) (by omega)
  exact ⟨b, o, hp, hr.elem (f := intL1) (fun _ => rfl) (k := k) (t := l[k]) (by simp)⟩

theorem daysIdx_calls {l : List Int} {v : Value} {w : World} (hv : Sl w v 1 (intsL1 l)) (hlen : l.length ≤ 9223372036854775806) :
    Calls Tryd.prog 52 #[v, .func (.func 40) #[] #[]] w (fun e w' => ∃ x, e = .returned x ∧ (∃ z : Int, x = .int .i64 z ∧ (0 ≤ z ↔ l.all Rul.dayB = false)) ∧ w' = w) := by
  obtain ⟨pa, ca, rfl, -⟩ := hv.shape (intsL1_len l) (by omega)
  refine calls_of Tryd.func52 rfl Tryd.ntmps52 rfl ?_
  repeat' (first | refine a_mov ?_ | refine a_asg ?_ | refine a_binN ?_ | refine a_notd ?_ | refine a_notb ?_ | refine a_nilc ?_ | refine a_fa ?_ | refine a_ext ?_ | refine a_lenv ?_ | refine a_lens ?_ | refine a_pick_t ?_ | refine a_pick_f ?_ | refine a_not ?_ | refine a_nilf ?_ | (refine o_nil (hK _ _ ?_); clear hK K) | refine wk_reg ?_ | refine wk_seq fun K hK => ?_ | (refine wk_skip (hK _ _ ?_); clear hK K) | (refine wk_label (hK _ _ ?_); clear hK K) | refine wk_scope ?_ | refine wk_block ?_ | refine wk_cond_t rfl ?_ | refine wk_cond_f rfl ?_ | (refine wk_exit ?_; (repeat (refine blockK_other rfl ?_)); refine blockK_same ?_; try ((repeat ((fail_if_success (refine hK _ _ ?_)); clear hK K)); refine hK _ _ ?_; clear hK K)) | (refine a_bin ?_ ?_ <;> intro _ <;> try (exfalso; omega)) | refine a_ld hl ?_ | (refine a_st hl ?_; clear hl; intro _ hl) | refine a_ix (fun _ => ?_) | fail)
  refine wk_loopH [] rfl (fun k : Nat => [(0, .slice pa l.length ca), (1, .func (.func 40) #[] #[]), (7, .int .i64 (l.length : Int)), (8, .int .i64 (k : Int))]) (fun k w' => (k ≤ l.length ∧ ∀ j (hj : j < l.length), j < k → Rul.dayB l[j] = true) ∧ w' = w) (fun k => l.length - k) 0 ⟨rfl, rfl, rfl, rfl, trivial⟩ ⟨⟨by omega, fun j hj h => by omega⟩, rfl⟩ ?_
  rintro k t _ ⟨⟨hk, hno⟩, rfl⟩
  by_cases hk1 : k < l.length
  · obtain ⟨b, o, hp, hr⟩ := Sl.num hv rfl hk1
    repeat' (first | refine a_mov ?_ | refine a_asg ?_ | refine a_binN ?_ | refine a_notd ?_ | refine a_notb ?_ | refine a_nilc ?_ | refine a_fa ?_ | refine a_ext ?_ | refine a_lenv ?_ | refine a_lens ?_ | refine a_pick_t ?_ | refine a_pick_f ?_ | refine a_not ?_ | refine a_nilf ?_ | (refine o_nil (hK _ _ ?_); clear hK K) | refine wk_reg ?_ | refine wk_seq fun K hK => ?_ | (refine wk_skip (hK _ _ ?_); clear hK K) | (refine wk_label (hK _ _ ?_); clear hK K) | refine wk_scope ?_ | refine wk_block ?_ | refine wk_cond_t rfl ?_ | refine wk_cond_f rfl ?_ | (refine wk_exit ?_; (repeat (refine blockK_other rfl ?_)); refine blockK_same ?_; try ((repeat ((fail_if_success (refine hK _ _ ?_)); clear hK K)); refine hK _ _ ?_; clear hK K)) | (refine a_bin ?_ ?_ <;> intro _ <;> try (exfalso; omega)) | refine a_ld hl ?_ | (refine a_st hl ?_; clear hl; intro _ hl) | refine a_ix (fun _ => ?_) | refine a_idx (c := 1) k hp ?_ | refine a_row hr ?_)
    refine a_fv (days1_calls l[k] _) ?_
    rintro _ w3 ⟨rfl, rfl⟩
    cases hd : Rul.dayB l[k]
    · repeat' (first | refine a_mov ?_ | refine a_asg ?_ | refine a_binN ?_ | refine a_notd ?_ | refine a_notb ?_ | refine a_nilc ?_ | refine a_fa ?_ | refine a_ext ?_ | refine a_lenv ?_ | refine a_lens ?_ | refine a_pick_t ?_ | refine a_pick_f ?_ | refine a_not ?_ | refine a_nilf ?_ | (refine o_nil (hK _ _ ?_); clear hK K) | refine wk_reg ?_ | refine wk_seq fun K hK => ?_ | (refine wk_skip (hK _ _ ?_); clear hK K) | (refine wk_label (hK _ _ ?_); clear hK K) | refine wk_scope ?_ | refine wk_block ?_ | refine wk_cond_t rfl ?_ | refine wk_cond_f rfl ?_ | (refine wk_exit ?_; (repeat (refine blockK_other rfl ?_)); refine blockK_same ?_; try ((repeat ((fail_if_success (refine hK _ _ ?_)); clear hK K)); refine hK _ _ ?_; clear hK K)) | (refine a_bin ?_ ?_ <;> intro _ <;> try (exfalso; omega)) | refine a_ld hl ?_ | (refine a_st hl ?_; clear hl; intro _ hl) | refine a_ix (fun _ => ?_) | fail)
      refine wk_ret (retQ_tmp1 Tryd.results52 (by decide) rfl (by conv => lhs; whnf) ?_)
      refine ⟨⟨(k : Int), rfl, fun _ => ?_, fun _ => by omega⟩, rfl⟩
      rw [List.all_eq_false]
      exact ⟨l[k], List.getElem_mem hk1, by rw [hd]; simp⟩
    · repeat' (first | refine a_mov ?_ | refine a_asg ?_ | refine a_binN ?_ | refine a_notd ?_ | refine a_notb ?_ | refine a_nilc ?_ | refine a_fa ?_ | refine a_ext ?_ | refine a_lenv ?_ | refine a_lens ?_ | refine a_pick_t ?_ | refine a_pick_f ?_ | refine a_not ?_ | refine a_nilf ?_ | (refine o_nil (hK _ _ ?_); clear hK K) | refine wk_reg ?_ | refine wk_seq fun K hK => ?_ | (refine wk_skip (hK _ _ ?_); clear hK K) | (refine wk_label (hK _ _ ?_); clear hK K) | refine wk_scope ?_ | refine wk_block ?_ | refine wk_cond_t rfl ?_ | refine wk_cond_f rfl ?_ | (refine wk_exit ?_; (repeat (refine blockK_other rfl ?_)); refine blockK_same ?_; try ((repeat ((fail_if_success (refine hK _ _ ?_)); clear hK K)); refine hK _ _ ?_; clear hK K)) | (refine a_bin ?_ ?_ <;> intro _ <;> try (exfalso; omega)) | refine a_ld hl ?_ | (refine a_st hl ?_; clear hl; intro _ hl) | refine a_ix (fun _ => ?_) | fail)
      exact o_nil ⟨k + 1, ⟨rfl, rfl, rfl, rfl, trivial⟩, rfl, ⟨⟨hk1, fun j hj hjk => by
        by_cases e : j = k
        · subst e; exact hd
        · exact hno j hj (by omega)⟩, rfl⟩, by omega⟩
  · have hall : l.all Rul.dayB = true := List.all_eq_true.2 fun x hx => by
      obtain ⟨j, hj, rfl⟩ := List.mem_iff_getElem.1 hx
      exact hno j hj (by omega)
    clear hno
    repeat' (first | refine a_mov ?_ | refine a_asg ?_ | refine a_binN ?_ | refine a_notd ?_ | refine a_notb ?_ | refine a_nilc ?_ | refine a_fa ?_ | refine a_ext ?_ | refine a_lenv ?_ | refine a_lens ?_ | refine a_pick_t ?_ | refine a_pick_f ?_ | refine a_not ?_ | refine a_nilf ?_ | (refine o_nil (hK _ _ ?_); clear hK K) | refine wk_reg ?_ | refine wk_seq fun K hK => ?_ | (refine wk_skip (hK _ _ ?_); clear hK K) | (refine wk_label (hK _ _ ?_); clear hK K) | refine wk_scope ?_ | refine wk_block ?_ | refine wk_cond_t rfl ?_ | refine wk_cond_f rfl ?_ | (refine wk_exit ?_; (repeat (refine blockK_other rfl ?_)); refine blockK_same ?_; try ((repeat ((fail_if_success (refine hK _ _ ?_)); clear hK K)); refine hK _ _ ?_; clear hK K)) | (refine a_bin ?_ ?_ <;> intro _ <;> try (exfalso; omega)) | refine a_ld hl ?_ | (refine a_st hl ?_; clear hl; intro _ hl) | refine a_ix (fun _ => ?_) | fail)
    refine wk_ret (retQ_tmp1 Tryd.results52 (by decide) rfl (by conv => lhs; whnf) ?_)
    exact ⟨⟨-1, rfl, by rw [hall]; simp⟩, rfl⟩

theorem days_calls {l : List Int} {v : Value} {w : World} (hv : Sl w v 1 (intsL1 l)) (hlen : l.length ≤ 9223372036854775806) :
    Calls Tryd.prog 20 #[v] w (fun e w' => ∃ x, e = .returned x ∧ x = .bool (l.all Rul.dayB) ∧ w' = w) := by
  obtain ⟨pa, ca, rfl, -⟩ := hv.shape (intsL1_len l) (by omega)
  have hc : Calls Tryd.prog 39 #[.slice pa l.length ca, .func (.func 40) #[] #[]] w (fun e w' => ∃ x, e = .returned x ∧ x = .bool (!l.all Rul.dayB) ∧ w' = w) := by
    refine calls_of Tryd.func39 rfl Tryd.ntmps39 rfl ?_
    repeat' (first | refine a_mov ?_ | refine a_asg ?_ | refine a_binN ?_ | refine a_notd ?_ | refine a_notb ?_ | refine a_nilc ?_ | refine a_fa ?_ | refine a_ext ?_ | refine a_lenv ?_ | refine a_lens ?_ | refine a_pick_t ?_ | refine a_pick_f ?_ | refine a_not ?_ | refine a_nilf ?_ | (refine o_nil (hK _ _ ?_); clear hK K) | refine wk_reg ?_ | refine wk_seq fun K hK => ?_ | (refine wk_skip (hK _ _ ?_); clear hK K) | (refine wk_label (hK _ _ ?_); clear hK K) | refine wk_scope ?_ | refine wk_block ?_ | refine wk_cond_t rfl ?_ | refine wk_cond_f rfl ?_ | (refine wk_exit ?_; (repeat (refine blockK_other rfl ?_)); refine blockK_same ?_; try ((repeat ((fail_if_success (refine hK _ _ ?_)); clear hK K)); refine hK _ _ ?_; clear hK K)) | (refine a_bin ?_ ?_ <;> intro _ <;> try (exfalso; omega)) | refine a_ld hl ?_ | (refine a_st hl ?_; clear hl; intro _ hl) | refine a_ix (fun _ => ?_) | fail)
    refine a_fn (daysIdx_calls hv hlen) ?_
    rintro _ w2 ⟨⟨z, rfl, hz⟩, rfl⟩
    cases ha : l.all Rul.dayB
    · have := hz.2 ha
      repeat' (first | refine a_mov ?_ | refine a_asg ?_ | refine a_binN ?_ | refine a_notd ?_ | refine a_notb ?_ | refine a_nilc ?_ | refine a_fa ?_ | refine a_ext ?_ | refine a_lenv ?_ | refine a_lens ?_ | refine a_pick_t ?_ | refine a_pick_f ?_ | refine a_not ?_ | refine a_nilf ?_ | (refine o_nil (hK _ _ ?_); clear hK K) | refine wk_reg ?_ | refine wk_seq fun K hK => ?_ | (refine wk_skip (hK _ _ ?_); clear hK K) | (refine wk_label (hK _ _ ?_); clear hK K) | refine wk_scope ?_ | refine wk_block ?_ | refine wk_cond_t rfl ?_ | refine wk_cond_f rfl ?_ | (refine wk_exit ?_; (repeat (refine blockK_other rfl ?_)); refine blockK_same ?_; try ((repeat ((fail_if_success (refine hK _ _ ?_)); clear hK K)); refine hK _ _ ?_; clear hK K)) | (refine a_bin ?_ ?_ <;> intro _ <;> try (exfalso; omega)) | refine a_ld hl ?_ | (refine a_st hl ?_; clear hl; intro _ hl) | refine a_ix (fun _ => ?_) | fail)
      refine wk_ret (retQ_tmp1 Tryd.results39 (by decide) rfl (by conv => lhs; whnf) ?_)
      exact ⟨by rw [ha]; rfl, rfl⟩
    · have : z < 0 := by
        rcases Int.lt_or_le z 0 with h | h
        · exact h
        · rw [hz.1 h] at ha; cases ha
      repeat' (first | refine a_mov ?_ | refine a_asg ?_ | refine a_binN ?_ | refine a_notd ?_ | refine a_notb ?_ | refine a_nilc ?_ | refine a_fa ?_ | refine a_ext ?_ | refine a_lenv ?_ | refine a_lens ?_ | refine a_pick_t ?_ | refine a_pick_f ?_ | refine a_not ?_ | refine a_nilf ?_ | (refine o_nil (hK _ _ ?_); clear hK K) | refine wk_reg ?_ | refine wk_seq fun K hK => ?_ | (refine wk_skip (hK _ _ ?_); clear hK K) | (refine wk_label (hK _ _ ?_); clear hK K) | refine wk_scope ?_ | refine wk_block ?_ | refine wk_cond_t rfl ?_ | refine wk_cond_f rfl ?_ | (refine wk_exit ?_; (repeat (refine blockK_other rfl ?_)); refine blockK_same ?_; try ((repeat ((fail_if_success (refine hK _ _ ?_)); clear hK K)); refine hK _ _ ?_; clear hK K)) | (refine a_bin ?_ ?_ <;> intro _ <;> try (exfalso; omega)) | refine a_ld hl ?_ | (refine a_st hl ?_; clear hl; intro _ hl) | refine a_ix (fun _ => ?_) | fail)
      refine wk_ret (retQ_tmp1 Tryd.results39 (by decide) rfl (by conv => lhs; whnf) ?_)
      exact ⟨by rw [ha]; rfl, rfl⟩
  refine calls_of Tryd.func20 rfl Tryd.ntmps20 rfl ?_
  repeat' (first | refine a_mov ?_ | refine a_asg ?_ | refine a_binN ?_ | refine a_notd ?_ | refine a_notb ?_ | refine a_nilc ?_ | refine a_fa ?_ | refine a_ext ?_ | refine a_lenv ?_ | refine a_lens ?_ | refine a_pick_t ?_ | refine a_pick_f ?_ | refine a_not ?_ | refine a_nilf ?_ | (refine o_nil (hK _ _ ?_); clear hK K) | refine wk_reg ?_ | refine wk_seq fun K hK => ?_ | (refine wk_skip (hK _ _ ?_); clear hK K) | (refine wk_label (hK _ _ ?_); clear hK K) | refine wk_scope ?_ | refine wk_block ?_ | refine wk_cond_t rfl ?_ | refine wk_cond_f rfl ?_ | (refine wk_exit ?_; (repeat (refine blockK_other rfl ?_)); refine blockK_same ?_; try ((repeat ((fail_if_success (refine hK _ _ ?_)); clear hK K)); refine hK _ _ ?_; clear hK K)) | (refine a_bin ?_ ?_ <;> intro _ <;> try (exfalso; omega)) | refine a_ld hl ?_ | (refine a_st hl ?_; clear hl; intro _ hl) | refine a_ix (fun _ => ?_) | fail)
  refine a_fn hc ?_
  rintro _ w2 ⟨rfl, rfl⟩
  repeat' (first | refine a_mov ?_ | refine a_asg ?_ | refine a_binN ?_ | refine a_notd ?_ | refine a_notb ?_ | refine a_nilc ?_ | refine a_fa ?_ | refine a_ext ?_ | refine a_lenv ?_ | refine a_lens ?_ | refine a_pick_t ?_ | refine a_pick_f ?_ | refine a_not ?_ | refine a_nilf ?_ | (refine o_nil (hK _ _ ?_); clear hK K) | refine wk_reg ?_ | refine wk_seq fun K hK => ?_ | (refine wk_skip (hK _ _ ?_); clear hK K) | (refine wk_label (hK _ _ ?_); clear hK K) | refine wk_scope ?_ | refine wk_block ?_ | refine wk_cond_t rfl ?_ | refine wk_cond_f rfl ?_ | (refine wk_exit ?_; (repeat (refine blockK_other rfl ?_)); refine blockK_same ?_; try ((repeat ((fail_if_success (refine hK _ _ ?_)); clear hK K)); refine hK _ _ ?_; clear hK K)) | (refine a_bin ?_ ?_ <;> intro _ <;> try (exfalso; omega)) | refine a_ld hl ?_ | (refine a_st hl ?_; clear hl; intro _ hl) | refine a_ix (fun _ => ?_) | fail)
  refine wk_ret (retQ_tmp1 Tryd.results20 (by decide) rfl (by conv => lhs; whnf) ?_)
  exact ⟨by rw [Bool.not_not], rfl⟩

/-! ### Sizes -/
set_option maxHeartbeats 2000000 in
theorem ruSize_calls : ∀ (f : Fm) (w : World) (G : Nat → Prop) (kv : Value), KR w G f.kids kv → cnt f ≤ 1000000 → Calls Tryd.prog 21 #[.agg (fmL f kv).toArray] w (fun e w' => ∃ x, e = .returned x ∧ x = .tuple #[.int .i64 (cnt f : Int), .int .i64 (dep f : Int)] ∧ Ext w w') := by
  refine Fm.ind ?_
  intro f ih w G kv hk hc
  obtain ⟨a, c, rfl, -⟩ := hk.shape
  have hcl := len_cntL f.kids
  have hce := cnt_eq f
  have hde := dep_eq f
  refine calls_of Tryd.func21 rfl Tryd.ntmps21 rfl ?_
  refine wk_seq fun K hK => ?_
  refine wk_reg ?_
  refine o_box (LH.start w (fun _ => False)) [.int .i64 (f).op, str (f).name, .int .i64 (f).cmp, .int .i64 (f).num, .slice a f.kids.length c] rfl rfl rfl ?_
  intro b w1 hb hl
  repeat' (first | refine a_mov ?_ | refine a_asg ?_ | refine a_binN ?_ | refine a_notd ?_ | refine a_notb ?_ | refine a_nilc ?_ | refine a_fa ?_ | refine a_ext ?_ | refine a_lenv ?_ | refine a_lens ?_ | refine a_pick_t ?_ | refine a_pick_f ?_ | refine a_not ?_ | refine a_nilf ?_ | (refine o_nil (hK _ _ ?_); clear hK K) | refine wk_reg ?_ | refine wk_seq fun K hK => ?_ | (refine wk_skip (hK _ _ ?_); clear hK K) | (refine wk_label (hK _ _ ?_); clear hK K) | refine wk_scope ?_ | refine wk_block ?_ | refine wk_cond_t rfl ?_ | refine wk_cond_f rfl ?_ | (refine wk_exit ?_; (repeat (refine blockK_other rfl ?_)); refine blockK_same ?_; try ((repeat ((fail_if_success (refine hK _ _ ?_)); clear hK K)); refine hK _ _ ?_; clear hK K)) | (refine a_bin ?_ ?_ <;> intro _ <;> try (exfalso; omega)) | refine a_ld hl ?_ | (refine a_st hl ?_; clear hl; intro _ hl) | refine a_ix (fun _ => ?_) | fail)
  refine wk_loopH [] rfl (fun i : Nat => [(2, .int .i64 (1 + (cntL (f.kids.take i) : Nat) : Int)), (3, .int .i64 (depL (f.kids.take i) : Nat)), (9, .slice a f.kids.length c), (10, .int .i64 (f.kids.length : Int)), (11, .int .i64 (i : Int))]) (fun i w' => i ≤ f.kids.length ∧ Ext w w') (fun i => f.kids.length - i) 0 ⟨rfl, rfl, rfl, rfl, rfl, trivial⟩ ⟨by omega, hl.done⟩ ?_
  clear hl w1
  rintro i t w1 ⟨hi, he⟩
  by_cases hi1 : i < f.kids.length
  · obtain ⟨bk, ok, kv, hp, hr, hkk⟩ := (hk.ext he).at hi1
    have hck := cnt_kid hi1
    have hdk := depL_snoc (f.kids.take i) f.kids[i]
    have hcs := cntL_snoc (f.kids.take i) f.kids[i]
    rw [← List.take_succ_eq_append_getElem hi1] at hdk hcs
    have hdc := dep_le_cnt f.kids[i]
    have hone := fmL_one hkk
    have ihk := ih f.kids[i] (List.getElem_mem hi1)
    generalize f.kids[i] = k at *
    repeat' (first | refine a_mov ?_ | refine a_asg ?_ | refine a_binN ?_ | refine a_notd ?_ | refine a_notb ?_ | refine a_nilc ?_ | refine a_fa ?_ | refine a_ext ?_ | refine a_lenv ?_ | refine a_lens ?_ | refine a_pick_t ?_ | refine a_pick_f ?_ | refine a_not ?_ | refine a_nilf ?_ | (refine o_nil (hK _ _ ?_); clear hK K) | refine wk_reg ?_ | refine wk_seq fun K hK => ?_ | (refine wk_skip (hK _ _ ?_); clear hK K) | (refine wk_label (hK _ _ ?_); clear hK K) | refine wk_scope ?_ | refine wk_block ?_ | refine wk_cond_t rfl ?_ | refine wk_cond_f rfl ?_ | (refine wk_exit ?_; (repeat (refine blockK_other rfl ?_)); refine blockK_same ?_; try ((repeat ((fail_if_success (refine hK _ _ ?_)); clear hK K)); refine hK _ _ ?_; clear hK K)) | (refine a_bin ?_ ?_ <;> intro _ <;> try (exfalso; omega)) | refine a_ld hl ?_ | (refine a_st hl ?_; clear hl; intro _ hl) | refine a_ix (fun _ => ?_) | refine a_idx (c := 5) i hp ?_ | refine a_all hr ?_)
    refine o_alloc (LH.start w1 (fun _ => False)) [.int .i64 0, .string ⟨#[]⟩, .int .i64 0, .int .i64 0, .slice none 0 0] rfl rfl ?_
    intro b2 w2 hb2 hl
    refine o_putN (us := [.int .i64 (k).op, str (k).name, .int .i64 (k).cmp, .int .i64 (k).num, kv]) hl rfl rfl rfl hone rfl (.all rfl rfl) ?_
    clear hl
    intro w3 hl
    repeat' (first | refine a_mov ?_ | refine a_asg ?_ | refine a_binN ?_ | refine a_notd ?_ | refine a_notb ?_ | refine a_nilc ?_ | refine a_fa ?_ | refine a_ext ?_ | refine a_lenv ?_ | refine a_lens ?_ | refine a_pick_t ?_ | refine a_pick_f ?_ | refine a_not ?_ | refine a_nilf ?_ | (refine o_nil (hK _ _ ?_); clear hK K) | refine wk_reg ?_ | refine wk_seq fun K hK => ?_ | (refine wk_skip (hK _ _ ?_); clear hK K) | (refine wk_label (hK _ _ ?_); clear hK K) | refine wk_scope ?_ | refine wk_block ?_ | refine wk_cond_t rfl ?_ | refine wk_cond_f rfl ?_ | (refine wk_exit ?_; (repeat (refine blockK_other rfl ?_)); refine blockK_same ?_; try ((repeat ((fail_if_success (refine hK _ _ ?_)); clear hK K)); refine hK _ _ ?_; clear hK K)) | (refine a_bin ?_ ?_ <;> intro _ <;> try (exfalso; omega)) | refine a_ld hl ?_ | (refine a_st hl ?_; clear hl; intro _ hl) | refine a_ix (fun _ => ?_) | fail)
    refine a_all (hl.rowL (vs := [.int .i64 (k).op, str (k).name, .int .i64 (k).cmp, .int .i64 (k).num, kv]) 0 0 5 rfl) ?_
    refine o_fn (ihk w3 G kv (hkk.ext hl.done) (by omega)) rfl (fun _ => rfl) rfl ?_
    rintro _ w4 ⟨rfl, he4⟩
    repeat' (first | refine a_mov ?_ | refine a_asg ?_ | refine a_binN ?_ | refine a_notd ?_ | refine a_notb ?_ | refine a_nilc ?_ | refine a_fa ?_ | refine a_ext ?_ | refine a_lenv ?_ | refine a_lens ?_ | refine a_pick_t ?_ | refine a_pick_f ?_ | refine a_not ?_ | refine a_nilf ?_ | (refine o_nil (hK _ _ ?_); clear hK K) | refine wk_reg ?_ | refine wk_seq fun K hK => ?_ | (refine wk_skip (hK _ _ ?_); clear hK K) | (refine wk_label (hK _ _ ?_); clear hK K) | refine wk_scope ?_ | refine wk_block ?_ | refine wk_cond_t rfl ?_ | refine wk_cond_f rfl ?_ | (refine wk_exit ?_; (repeat (refine blockK_other rfl ?_)); refine blockK_same ?_; try ((repeat ((fail_if_success (refine hK _ _ ?_)); clear hK K)); refine hK _ _ ?_; clear hK K)) | (refine a_bin ?_ ?_ <;> intro _ <;> try (exfalso; omega)) | refine a_ld hl ?_ | (refine a_st hl ?_; clear hl; intro _ hl) | refine a_ix (fun _ => ?_) | refine o_max rfl rfl rfl ?_)
    refine o_nil ⟨i + 1, ⟨?_, ?_, rfl, rfl, rfl, trivial⟩, rfl, ⟨hi1, (he.trans hl.done).trans he4⟩, by omega⟩
    · show Value.int .i64 _ = Value.int .i64 _
      congr 1; omega
    · show Value.int .i64 (max _ _) = Value.int .i64 _
      congr 1; omega
  · obtain rfl : i = f.kids.length := by omega
    rw [List.take_of_length_le (Nat.le_refl _)]
    have hdc := dep_le_cnt f
    repeat' (first | refine a_mov ?_ | refine a_asg ?_ | refine a_binN ?_ | refine a_notd ?_ | refine a_notb ?_ | refine a_nilc ?_ | refine a_fa ?_ | refine a_ext ?_ | refine a_lenv ?_ | refine a_lens ?_ | refine a_pick_t ?_ | refine a_pick_f ?_ | refine a_not ?_ | refine a_nilf ?_ | (refine o_nil (hK _ _ ?_); clear hK K) | refine wk_reg ?_ | refine wk_seq fun K hK => ?_ | (refine wk_skip (hK _ _ ?_); clear hK K) | (refine wk_label (hK _ _ ?_); clear hK K) | refine wk_scope ?_ | refine wk_block ?_ | refine wk_cond_t rfl ?_ | refine wk_cond_f rfl ?_ | (refine wk_exit ?_; (repeat (refine blockK_other rfl ?_)); refine blockK_same ?_; try ((repeat ((fail_if_success (refine hK _ _ ?_)); clear hK K)); refine hK _ _ ?_; clear hK K)) | (refine a_bin ?_ ?_ <;> intro _ <;> try (exfalso; omega)) | refine a_ld hl ?_ | (refine a_st hl ?_; clear hl; intro _ hl) | refine a_ix (fun _ => ?_) | fail)
    refine wk_ret (retQ_res [.int .i64 (cnt f : Int), .int .i64 (dep f : Int)] rfl rfl ⟨by decide, ?_, by decide, ?_, trivial⟩ ⟨rfl, he⟩)
    · show Value.int .i64 _ = Value.int .i64 _
      congr 1; omega
    · show Value.int .i64 _ = Value.int .i64 _
      congr 1; omega
end Go.Proofs
