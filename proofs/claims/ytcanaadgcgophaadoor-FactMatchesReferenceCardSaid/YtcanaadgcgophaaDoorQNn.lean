/-
  Names, in plain Lean: what the lexer says of a text that is one token.
-/
import Derived.Test.YtcanaadgcgophaaDoorQLX
import Derived.Test.YtcanaadgcgophaaDoorProg
import Derived.Test.YtcanaadgcgophaaDoorQLB
set_option linter.unusedVariables false
set_option linter.unusedSimpArgs false
set_option linter.unnecessarySimpa false
set_option maxRecDepth 10000
namespace Go.Fin
open Go.Lexs

def Nm (s : List UInt8) : Bool := s.all isWord && decide (0 < s.length ∧ s.length ≤ 24 ∧ hd s = 3)

end Go.Fin

set_option linter.unusedVariables false
set_option linter.unusedSimpArgs false
set_option linter.unnecessarySimpa false
set_option maxRecDepth 10000
namespace Go.Proofs
open Go Go.Pd Go.Lexs Go.Fin
attribute [local irreducible] OpsL W RetQ OpsQ OpsC

theorem isLetter_iff (c : UInt8) : isLetter c = true ↔ (97 ≤ c.toNat ∧ c.toNat ≤ 122) ∨ (65 ≤ c.toNat ∧ c.toNat ≤ 90) := by
  simp [isLetter, UInt8.le_iff_toNat_le]
theorem isLetter_iff_f (c : UInt8) : isLetter c = false ↔ ¬ ((97 ≤ c.toNat ∧ c.toNat ≤ 122) ∨ (65 ≤ c.toNat ∧ c.toNat ≤ 90)) := by
  rw [← isLetter_iff, Bool.not_eq_true]
theorem isDigit_iff (c : UInt8) : isDigit c = true ↔ (48 ≤ c.toNat ∧ c.toNat ≤ 57) := by
  simp [isDigit, UInt8.le_iff_toNat_le]
theorem isDigit_iff_f (c : UInt8) : isDigit c = false ↔ ¬ (48 ≤ c.toNat ∧ c.toNat ≤ 57) := by
  rw [← isDigit_iff, Bool.not_eq_true]

theorem letter_calls (c : UInt8) (w : World) : Calls Tryd.prog 63 #[.int .u8 (c.toNat : Int)] w (fun e w' => ∃ v, e = .returned v ∧ v = .bool (isLetter c) ∧ w' = w) := by
  refine calls_of Tryd.func63 rfl Tryd.ntmps63 rfl ?_
  repeat' (first | refine o_mov rfl (by conv => lhs; whnf) ?_ | refine o_asg rfl (by conv => lhs; whnf) ?_ | refine o_binN rfl rfl rfl rfl (by omega) ?_ | refine o_notd rfl rfl ?_ | refine o_notb rfl rfl ?_ | refine o_nilc rfl rfl ?_ | refine o_fa rfl rfl rfl ?_ | refine o_ext rfl rfl (by conv => lhs; whnf) ?_ | refine o_lenv rfl rfl rfl ?_ | refine o_lens rfl rfl rfl ?_ | refine o_pick_t rfl rfl (by conv => lhs; whnf) ?_ | refine o_pick_f rfl rfl (by conv => lhs; whnf) ?_ | refine o_not rfl ?_ | refine o_nilf rfl rfl ?_ | (refine o_nil (hK _ _ ?_); clear hK K) | refine wk_reg ?_ | refine wk_seq fun K hK => ?_ | (refine wk_skip (hK _ _ ?_); clear hK K) | (refine wk_label (hK _ _ ?_); clear hK K) | refine wk_scope ?_ | refine wk_block ?_ | refine wk_cond_t rfl ?_ | refine wk_cond_f rfl ?_ | (refine wk_exit ?_; (repeat (refine blockK_other rfl ?_)); refine blockK_same ?_; (first | (refine hK _ _ ?_; clear hK K) | (clear hK K; refine hK _ _ ?_; clear hK K) | (clear hK K; clear hK K; refine hK _ _ ?_; clear hK K) | (clear hK K; clear hK K; clear hK K; refine hK _ _ ?_; clear hK K) | (clear hK K; clear hK K; clear hK K; clear hK K; refine hK _ _ ?_; clear hK K) | (clear hK K; clear hK K; clear hK K; clear hK K; clear hK K; refine hK _ _ ?_; clear hK K) | skip)) | (refine o_binT rfl rfl rfl rfl ?_ ?_ <;> intro _))
  all_goals (refine wk_ret (retQ_tmp1 Tryd.results63 (by decide) rfl (by conv => lhs; whnf) ?_))
  all_goals (refine ⟨?_, rfl⟩)
  all_goals (cases h : isLetter c)
  all_goals (first | rfl | (exfalso; first | (rw [isLetter_iff] at h; omega) | (rw [isLetter_iff_f] at h; omega)))

theorem digit_calls (c : UInt8) (w : World) : Calls Tryd.prog 73 #[.int .u8 (c.toNat : Int)] w (fun e w' => ∃ v, e = .returned v ∧ v = .bool (isDigit c) ∧ w' = w) := by
  refine calls_of Tryd.func73 rfl Tryd.ntmps73 rfl ?_
  repeat' (first | refine o_mov rfl (by conv => lhs; whnf) ?_ | refine o_asg rfl (by conv => lhs; whnf) ?_ | refine o_binN rfl rfl rfl rfl (by omega) ?_ | refine o_notd rfl rfl ?_ | refine o_notb rfl rfl ?_ | refine o_nilc rfl rfl ?_ | refine o_fa rfl rfl rfl ?_ | refine o_ext rfl rfl (by conv => lhs; whnf) ?_ | refine o_lenv rfl rfl rfl ?_ | refine o_lens rfl rfl rfl ?_ | refine o_pick_t rfl rfl (by conv => lhs; whnf) ?_ | refine o_pick_f rfl rfl (by conv => lhs; whnf) ?_ | refine o_not rfl ?_ | refine o_nilf rfl rfl ?_ | (refine o_nil (hK _ _ ?_); clear hK K) | refine wk_reg ?_ | refine wk_seq fun K hK => ?_ | (refine wk_skip (hK _ _ ?_); clear hK K) | (refine wk_label (hK _ _ ?_); clear hK K) | refine wk_scope ?_ | refine wk_block ?_ | refine wk_cond_t rfl ?_ | refine wk_cond_f rfl ?_ | (refine wk_exit ?_; (repeat (refine blockK_other rfl ?_)); refine blockK_same ?_; (first | (refine hK _ _ ?_; clear hK K) | (clear hK K; refine hK _ _ ?_; clear hK K) | (clear hK K; clear hK K; refine hK _ _ ?_; clear hK K) | (clear hK K; clear hK K; clear hK K; refine hK _ _ ?_; clear hK K) | (clear hK K; clear hK K; clear hK K; clear hK K; refine hK _ _ ?_; clear hK K) | (clear hK K; clear hK K; clear hK K; clear hK K; clear hK K; refine hK _ _ ?_; clear hK K) | skip)) | (refine o_binT rfl rfl rfl rfl ?_ ?_ <;> intro _))
  all_goals (refine wk_ret (retQ_tmp1 Tryd.results73 (by decide) rfl (by conv => lhs; whnf) ?_))
  all_goals (refine ⟨?_, rfl⟩)
  all_goals (cases h : isDigit c)
  all_goals (first | rfl | (exfalso; first | (rw [isDigit_iff] at h; omega) | (rw [isDigit_iff_f] at h; omega)))

theorem isWord_or (c : UInt8) : isWord c = (isLetter c || isDigit c || decide (c.toNat = 95)) := by
  cases h1 : isLetter c
  · cases h2 : isDigit c
    · by_cases h3 : c.toNat = 95
      · have : c = 95 := UInt8.toNat_inj.1 h3
        subst this; rfl
      · have hc : c ≠ 95 := fun h => h3 (by rw [h]; rfl)
        unfold isWord cls
        simp [h1, h2, h3, hc]
        repeat' split
        all_goals simp
    · have : cls c = 4 := by simp [cls, h1, h2]
      simp [isWord, this]
  · have : cls c = 3 := by simp [cls, h1]
    simp [isWord, this]

theorem word_calls (c : UInt8) (w : World) : Calls Tryd.prog 62 #[.int .u8 (c.toNat : Int)] w (fun e w' => ∃ v, e = .returned v ∧ v = .bool (isWord c) ∧ w' = w) := by
  refine calls_of Tryd.func62 rfl Tryd.ntmps62 rfl ?_
  repeat' (first | refine o_mov rfl (by conv => lhs; whnf) ?_ | refine o_asg rfl (by conv => lhs; whnf) ?_ | refine o_binN rfl rfl rfl rfl (by omega) ?_ | refine o_notd rfl rfl ?_ | refine o_notb rfl rfl ?_ | refine o_nilc rfl rfl ?_ | refine o_fa rfl rfl rfl ?_ | refine o_ext rfl rfl (by conv => lhs; whnf) ?_ | refine o_lenv rfl rfl rfl ?_ | refine o_lens rfl rfl rfl ?_ | refine o_pick_t rfl rfl (by conv => lhs; whnf) ?_ | refine o_pick_f rfl rfl (by conv => lhs; whnf) ?_ | refine o_not rfl ?_ | refine o_nilf rfl rfl ?_ | (refine o_nil (hK _ _ ?_); clear hK K) | refine wk_reg ?_ | refine wk_seq fun K hK => ?_ | (refine wk_skip (hK _ _ ?_); clear hK K) | (refine wk_label (hK _ _ ?_); clear hK K) | refine wk_scope ?_ | refine wk_block ?_ | refine wk_cond_t rfl ?_ | refine wk_cond_f rfl ?_ | (refine wk_exit ?_; (repeat (refine blockK_other rfl ?_)); refine blockK_same ?_; (first | (refine hK _ _ ?_; clear hK K) | (clear hK K; refine hK _ _ ?_; clear hK K) | (clear hK K; clear hK K; refine hK _ _ ?_; clear hK K) | (clear hK K; clear hK K; clear hK K; refine hK _ _ ?_; clear hK K) | (clear hK K; clear hK K; clear hK K; clear hK K; refine hK _ _ ?_; clear hK K) | (clear hK K; clear hK K; clear hK K; clear hK K; clear hK K; refine hK _ _ ?_; clear hK K) | skip)) | (refine o_binT rfl rfl rfl rfl ?_ ?_ <;> intro _))
  refine o_fn (letter_calls c w) rfl (fun _ => rfl) rfl ?_
  rintro _ _ ⟨rfl, rfl⟩
  have hor := isWord_or c
  cases h1 : isLetter c
  · repeat' (first | refine o_mov rfl (by conv => lhs; whnf) ?_ | refine o_asg rfl (by conv => lhs; whnf) ?_ | refine o_binN rfl rfl rfl rfl (by omega) ?_ | refine o_notd rfl rfl ?_ | refine o_notb rfl rfl ?_ | refine o_nilc rfl rfl ?_ | refine o_fa rfl rfl rfl ?_ | refine o_ext rfl rfl (by conv => lhs; whnf) ?_ | refine o_lenv rfl rfl rfl ?_ | refine o_lens rfl rfl rfl ?_ | refine o_pick_t rfl rfl (by conv => lhs; whnf) ?_ | refine o_pick_f rfl rfl (by conv => lhs; whnf) ?_ | refine o_not rfl ?_ | refine o_nilf rfl rfl ?_ | (refine o_nil (hK _ _ ?_); clear hK K) | refine wk_reg ?_ | refine wk_seq fun K hK => ?_ | (refine wk_skip (hK _ _ ?_); clear hK K) | (refine wk_label (hK _ _ ?_); clear hK K) | refine wk_scope ?_ | refine wk_block ?_ | refine wk_cond_t rfl ?_ | refine wk_cond_f rfl ?_ | (refine wk_exit ?_; (repeat (refine blockK_other rfl ?_)); refine blockK_same ?_; (first | (refine hK _ _ ?_; clear hK K) | (clear hK K; refine hK _ _ ?_; clear hK K) | (clear hK K; clear hK K; refine hK _ _ ?_; clear hK K) | (clear hK K; clear hK K; clear hK K; refine hK _ _ ?_; clear hK K) | (clear hK K; clear hK K; clear hK K; clear hK K; refine hK _ _ ?_; clear hK K) | (clear hK K; clear hK K; clear hK K; clear hK K; clear hK K; refine hK _ _ ?_; clear hK K) | skip)) | (refine o_binT rfl rfl rfl rfl ?_ ?_ <;> intro _))
    refine o_fn (digit_calls c _) rfl (fun _ => rfl) rfl ?_
    rintro _ _ ⟨rfl, rfl⟩
    cases h2 : isDigit c
    · repeat' (first | refine o_mov rfl (by conv => lhs; whnf) ?_ | refine o_asg rfl (by conv => lhs; whnf) ?_ | refine o_binN rfl rfl rfl rfl (by omega) ?_ | refine o_notd rfl rfl ?_ | refine o_notb rfl rfl ?_ | refine o_nilc rfl rfl ?_ | refine o_fa rfl rfl rfl ?_ | refine o_ext rfl rfl (by conv => lhs; whnf) ?_ | refine o_lenv rfl rfl rfl ?_ | refine o_lens rfl rfl rfl ?_ | refine o_pick_t rfl rfl (by conv => lhs; whnf) ?_ | refine o_pick_f rfl rfl (by conv => lhs; whnf) ?_ | refine o_not rfl ?_ | refine o_nilf rfl rfl ?_ | (refine o_nil (hK _ _ ?_); clear hK K) | refine wk_reg ?_ | refine wk_seq fun K hK => ?_ | (refine wk_skip (hK _ _ ?_); clear hK K) | (refine wk_label (hK _ _ ?_); clear hK K) | refine wk_scope ?_ | refine wk_block ?_ | refine wk_cond_t rfl ?_ | refine wk_cond_f rfl ?_ | (refine wk_exit ?_; (repeat (refine blockK_other rfl ?_)); refine blockK_same ?_; (first | (refine hK _ _ ?_; clear hK K) | (clear hK K; refine hK _ _ ?_; clear hK K) | (clear hK K; clear hK K; refine hK _ _ ?_; clear hK K) | (clear hK K; clear hK K; clear hK K; refine hK _ _ ?_; clear hK K) | (clear hK K; clear hK K; clear hK K; clear hK K; refine hK _ _ ?_; clear hK K) | (clear hK K; clear hK K; clear hK K; clear hK K; clear hK K; refine hK _ _ ?_; clear hK K) | skip)) | (refine o_binT rfl rfl rfl rfl ?_ ?_ <;> intro _))
      all_goals (refine wk_ret (retQ_tmp1 Tryd.results62 (by decide) rfl (by conv => lhs; whnf) ?_))
      all_goals (refine ⟨?_, rfl⟩)
      all_goals (rw [hor, h1, h2]; simp)
      all_goals omega
    · repeat' (first | refine o_mov rfl (by conv => lhs; whnf) ?_ | refine o_asg rfl (by conv => lhs; whnf) ?_ | refine o_binN rfl rfl rfl rfl (by omega) ?_ | refine o_notd rfl rfl ?_ | refine o_notb rfl rfl ?_ | refine o_nilc rfl rfl ?_ | refine o_fa rfl rfl rfl ?_ | refine o_ext rfl rfl (by conv => lhs; whnf) ?_ | refine o_lenv rfl rfl rfl ?_ | refine o_lens rfl rfl rfl ?_ | refine o_pick_t rfl rfl (by conv => lhs; whnf) ?_ | refine o_pick_f rfl rfl (by conv => lhs; whnf) ?_ | refine o_not rfl ?_ | refine o_nilf rfl rfl ?_ | (refine o_nil (hK _ _ ?_); clear hK K) | refine wk_reg ?_ | refine wk_seq fun K hK => ?_ | (refine wk_skip (hK _ _ ?_); clear hK K) | (refine wk_label (hK _ _ ?_); clear hK K) | refine wk_scope ?_ | refine wk_block ?_ | refine wk_cond_t rfl ?_ | refine wk_cond_f rfl ?_ | (refine wk_exit ?_; (repeat (refine blockK_other rfl ?_)); refine blockK_same ?_; (first | (refine hK _ _ ?_; clear hK K) | (clear hK K; refine hK _ _ ?_; clear hK K) | (clear hK K; clear hK K; refine hK _ _ ?_; clear hK K) | (clear hK K; clear hK K; clear hK K; refine hK _ _ ?_; clear hK K) | (clear hK K; clear hK K; clear hK K; clear hK K; refine hK _ _ ?_; clear hK K) | (clear hK K; clear hK K; clear hK K; clear hK K; clear hK K; refine hK _ _ ?_; clear hK K) | skip)) | (refine o_binT rfl rfl rfl rfl ?_ ?_ <;> intro _))
      refine wk_ret (retQ_tmp1 Tryd.results62 (by decide) rfl (by conv => lhs; whnf) ?_)
      refine ⟨?_, rfl⟩
      rw [hor, h1, h2]; rfl
  · repeat' (first | refine o_mov rfl (by conv => lhs; whnf) ?_ | refine o_asg rfl (by conv => lhs; whnf) ?_ | refine o_binN rfl rfl rfl rfl (by omega) ?_ | refine o_notd rfl rfl ?_ | refine o_notb rfl rfl ?_ | refine o_nilc rfl rfl ?_ | refine o_fa rfl rfl rfl ?_ | refine o_ext rfl rfl (by conv => lhs; whnf) ?_ | refine o_lenv rfl rfl rfl ?_ | refine o_lens rfl rfl rfl ?_ | refine o_pick_t rfl rfl (by conv => lhs; whnf) ?_ | refine o_pick_f rfl rfl (by conv => lhs; whnf) ?_ | refine o_not rfl ?_ | refine o_nilf rfl rfl ?_ | (refine o_nil (hK _ _ ?_); clear hK K) | refine wk_reg ?_ | refine wk_seq fun K hK => ?_ | (refine wk_skip (hK _ _ ?_); clear hK K) | (refine wk_label (hK _ _ ?_); clear hK K) | refine wk_scope ?_ | refine wk_block ?_ | refine wk_cond_t rfl ?_ | refine wk_cond_f rfl ?_ | (refine wk_exit ?_; (repeat (refine blockK_other rfl ?_)); refine blockK_same ?_; (first | (refine hK _ _ ?_; clear hK K) | (clear hK K; refine hK _ _ ?_; clear hK K) | (clear hK K; clear hK K; refine hK _ _ ?_; clear hK K) | (clear hK K; clear hK K; clear hK K; refine hK _ _ ?_; clear hK K) | (clear hK K; clear hK K; clear hK K; clear hK K; refine hK _ _ ?_; clear hK K) | (clear hK K; clear hK K; clear hK K; clear hK K; clear hK K; refine hK _ _ ?_; clear hK K) | skip)) | (refine o_binT rfl rfl rfl rfl ?_ ?_ <;> intro _))
    refine wk_ret (retQ_tmp1 Tryd.results62 (by decide) rfl (by conv => lhs; whnf) ?_)
    refine ⟨?_, rfl⟩
    rw [hor, h1]; rfl

theorem cls3b (c : UInt8) : cls c = 3 ↔ isLetter c = true := by
  constructor
  · intro h
    unfold cls at h
    split at h
    · assumption
    · repeat (split at h; · cases h)
      cases h
  · intro h; simp [cls, h]

theorem refNm_calls (s : List UInt8) (hn : s.length ≤ 9223372036854775806) (w : World) : Calls Tryd.prog 50 #[str s] w (fun e w' => ∃ x, e = .returned x ∧ x = .bool (Nm s) ∧ w' = w) := by
  refine calls_of Tryd.func50 rfl Tryd.ntmps50 rfl ?_
  repeat' (first | refine o_mov rfl (by conv => lhs; whnf) ?_ | refine o_asg rfl (by conv => lhs; whnf) ?_ | refine o_binN rfl rfl rfl rfl (by omega) ?_ | refine o_notd rfl rfl ?_ | refine o_notb rfl rfl ?_ | refine o_nilc rfl rfl ?_ | refine o_fa rfl rfl rfl ?_ | refine o_ext rfl rfl (by conv => lhs; whnf) ?_ | refine o_lenv rfl rfl rfl ?_ | refine o_lens rfl rfl rfl ?_ | refine o_pick_t rfl rfl (by conv => lhs; whnf) ?_ | refine o_pick_f rfl rfl (by conv => lhs; whnf) ?_ | refine o_not rfl ?_ | refine o_nilf rfl rfl ?_ | (refine o_nil (hK _ _ ?_); clear hK K) | refine wk_reg ?_ | refine wk_seq fun K hK => ?_ | (refine wk_skip (hK _ _ ?_); clear hK K) | (refine wk_label (hK _ _ ?_); clear hK K) | refine wk_scope ?_ | refine wk_block ?_ | refine wk_cond_t rfl ?_ | refine wk_cond_f rfl ?_ | (refine wk_exit ?_; (repeat (refine blockK_other rfl ?_)); refine blockK_same ?_; (first | (refine hK _ _ ?_; clear hK K) | (clear hK K; refine hK _ _ ?_; clear hK K) | (clear hK K; clear hK K; refine hK _ _ ?_; clear hK K) | (clear hK K; clear hK K; clear hK K; refine hK _ _ ?_; clear hK K) | (clear hK K; clear hK K; clear hK K; clear hK K; refine hK _ _ ?_; clear hK K) | (clear hK K; clear hK K; clear hK K; clear hK K; clear hK K; refine hK _ _ ?_; clear hK K) | skip)) | (refine o_binT rfl rfl rfl rfl ?_ ?_ <;> intro _))
  refine wk_loopH [] rfl (fun k : Nat => [(0, str s), (3, .int .i64 (k : Int))]) (fun k w' => (k ≤ s.length ∧ (s.take k).all isWord = true) ∧ w' = w) (fun k => s.length - k) 0 ⟨rfl, rfl, trivial⟩ ⟨⟨by omega, by simp⟩, rfl⟩ ?_
  rintro k t _ ⟨⟨hk, hpre⟩, rfl⟩
  repeat' (first | refine o_mov rfl (by conv => lhs; whnf) ?_ | refine o_asg rfl (by conv => lhs; whnf) ?_ | refine o_binN rfl rfl rfl rfl (by omega) ?_ | refine o_notd rfl rfl ?_ | refine o_notb rfl rfl ?_ | refine o_nilc rfl rfl ?_ | refine o_fa2 rfl rfl (by conv => lhs; whnf; arg 1; whnf) (by first | (conv => lhs; simp only [Nat.reduceAdd, Nat.zero_add, Nat.add_zero]) | rfl) ?_ | refine o_ext rfl rfl (by conv => lhs; whnf) ?_ | refine o_lenv rfl rfl rfl ?_ | refine o_lens rfl rfl rfl ?_ | refine o_pick_t rfl rfl (by conv => lhs; whnf) ?_ | refine o_pick_f rfl rfl (by conv => lhs; whnf) ?_ | refine o_not rfl ?_ | refine o_nilf rfl rfl ?_ | (refine o_nil (hK _ _ ?_); clear hK K) | refine wk_reg ?_ | refine wk_seq fun K hK => ?_ | (refine wk_skip (hK _ _ ?_); clear hK K) | (refine wk_label (hK _ _ ?_); clear hK K) | refine wk_scope ?_ | refine wk_block ?_ | refine wk_cond_t rfl ?_ | refine wk_cond_f rfl ?_ | (refine wk_exit ?_; (repeat (refine blockK_other rfl ?_)); refine blockK_same ?_; (first | (refine hK _ _ ?_; clear hK K) | (clear hK K; refine hK _ _ ?_; clear hK K) | (clear hK K; clear hK K; refine hK _ _ ?_; clear hK K) | (clear hK K; clear hK K; clear hK K; refine hK _ _ ?_; clear hK K) | (clear hK K; clear hK K; clear hK K; clear hK K; refine hK _ _ ?_; clear hK K) | (clear hK K; clear hK K; clear hK K; clear hK K; clear hK K; refine hK _ _ ?_; clear hK K) | skip)) | (refine o_binT rfl rfl rfl rfl ?_ ?_ <;> intro _) | refine o_load rfl rfl rfl (by first | exact hl.cell 0 rfl rfl | exact hl.cell 1 rfl rfl | exact hl.cell 2 rfl rfl | exact hl.cell 3 rfl rfl | exact hl.cell 4 rfl rfl | exact hl.cell 5 rfl rfl | exact hl.cell 6 rfl rfl | exact hl.cell 7 rfl rfl | exact hl.cell 8 rfl rfl | exact hl.cell 9 rfl rfl) ?_ | (refine o_put1 hl rfl rfl (by conv => lhs; whnf) (by first | exact ⟨rfl, rfl⟩ | exact cell1_str _) rfl (by repeat (first | exact Put.here rfl (by conv => lhs; simp only [List.set_cons_zero, List.set_cons_succ, Nat.reduceAdd, Nat.zero_add]) | apply Put.there)) ?_; clear hl; intro _ hl) | refine o_ix (by omega) rfl rfl rfl rfl rfl ?_ | fail)
  · have hlt : k < s.length := by omega
    refine o_fn (word_calls s[k] _) rfl (fun _ => rfl) rfl ?_
    rintro _ w2 ⟨rfl, rfl⟩
    cases hw : isWord s[k]
    · repeat' (first | refine o_mov rfl (by conv => lhs; whnf) ?_ | refine o_asg rfl (by conv => lhs; whnf) ?_ | refine o_binN rfl rfl rfl rfl (by omega) ?_ | refine o_notd rfl rfl ?_ | refine o_notb rfl rfl ?_ | refine o_nilc rfl rfl ?_ | refine o_fa2 rfl rfl (by conv => lhs; whnf; arg 1; whnf) (by first | (conv => lhs; simp only [Nat.reduceAdd, Nat.zero_add, Nat.add_zero]) | rfl) ?_ | refine o_ext rfl rfl (by conv => lhs; whnf) ?_ | refine o_lenv rfl rfl rfl ?_ | refine o_lens rfl rfl rfl ?_ | refine o_pick_t rfl rfl (by conv => lhs; whnf) ?_ | refine o_pick_f rfl rfl (by conv => lhs; whnf) ?_ | refine o_not rfl ?_ | refine o_nilf rfl rfl ?_ | (refine o_nil (hK _ _ ?_); clear hK K) | refine wk_reg ?_ | refine wk_seq fun K hK => ?_ | (refine wk_skip (hK _ _ ?_); clear hK K) | (refine wk_label (hK _ _ ?_); clear hK K) | refine wk_scope ?_ | refine wk_block ?_ | refine wk_cond_t rfl ?_ | refine wk_cond_f rfl ?_ | (refine wk_exit ?_; (repeat (refine blockK_other rfl ?_)); refine blockK_same ?_; (first | (refine hK _ _ ?_; clear hK K) | (clear hK K; refine hK _ _ ?_; clear hK K) | (clear hK K; clear hK K; refine hK _ _ ?_; clear hK K) | (clear hK K; clear hK K; clear hK K; refine hK _ _ ?_; clear hK K) | (clear hK K; clear hK K; clear hK K; clear hK K; refine hK _ _ ?_; clear hK K) | (clear hK K; clear hK K; clear hK K; clear hK K; clear hK K; refine hK _ _ ?_; clear hK K) | skip)) | (refine o_binT rfl rfl rfl rfl ?_ ?_ <;> intro _) | refine o_load rfl rfl rfl (by first | exact hl.cell 0 rfl rfl | exact hl.cell 1 rfl rfl | exact hl.cell 2 rfl rfl | exact hl.cell 3 rfl rfl | exact hl.cell 4 rfl rfl | exact hl.cell 5 rfl rfl | exact hl.cell 6 rfl rfl | exact hl.cell 7 rfl rfl | exact hl.cell 8 rfl rfl | exact hl.cell 9 rfl rfl) ?_ | (refine o_put1 hl rfl rfl (by conv => lhs; whnf) (by first | exact ⟨rfl, rfl⟩ | exact cell1_str _) rfl (by repeat (first | exact Put.here rfl (by conv => lhs; simp only [List.set_cons_zero, List.set_cons_succ, Nat.reduceAdd, Nat.zero_add]) | apply Put.there)) ?_; clear hl; intro _ hl) | refine o_ix (by omega) rfl rfl rfl rfl rfl ?_ | fail)
      refine wk_ret (retQ_tmp1 Tryd.results50 (by decide) rfl (by conv => lhs; whnf) ?_)
      refine ⟨?_, rfl⟩
      have : s.all isWord = false := by
        rw [List.all_eq_false]
        exact ⟨s[k], List.getElem_mem hlt, by rw [hw]; simp⟩
      simp [Nm, this]
    · repeat' (first | refine o_mov rfl (by conv => lhs; whnf) ?_ | refine o_asg rfl (by conv => lhs; whnf) ?_ | refine o_binN rfl rfl rfl rfl (by omega) ?_ | refine o_notd rfl rfl ?_ | refine o_notb rfl rfl ?_ | refine o_nilc rfl rfl ?_ | refine o_fa2 rfl rfl (by conv => lhs; whnf; arg 1; whnf) (by first | (conv => lhs; simp only [Nat.reduceAdd, Nat.zero_add, Nat.add_zero]) | rfl) ?_ | refine o_ext rfl rfl (by conv => lhs; whnf) ?_ | refine o_lenv rfl rfl rfl ?_ | refine o_lens rfl rfl rfl ?_ | refine o_pick_t rfl rfl (by conv => lhs; whnf) ?_ | refine o_pick_f rfl rfl (by conv => lhs; whnf) ?_ | refine o_not rfl ?_ | refine o_nilf rfl rfl ?_ | (refine o_nil (hK _ _ ?_); clear hK K) | refine wk_reg ?_ | refine wk_seq fun K hK => ?_ | (refine wk_skip (hK _ _ ?_); clear hK K) | (refine wk_label (hK _ _ ?_); clear hK K) | refine wk_scope ?_ | refine wk_block ?_ | refine wk_cond_t rfl ?_ | refine wk_cond_f rfl ?_ | (refine wk_exit ?_; (repeat (refine blockK_other rfl ?_)); refine blockK_same ?_; (first | (refine hK _ _ ?_; clear hK K) | (clear hK K; refine hK _ _ ?_; clear hK K) | (clear hK K; clear hK K; refine hK _ _ ?_; clear hK K) | (clear hK K; clear hK K; clear hK K; refine hK _ _ ?_; clear hK K) | (clear hK K; clear hK K; clear hK K; clear hK K; refine hK _ _ ?_; clear hK K) | (clear hK K; clear hK K; clear hK K; clear hK K; clear hK K; refine hK _ _ ?_; clear hK K) | skip)) | (refine o_binT rfl rfl rfl rfl ?_ ?_ <;> intro _) | refine o_load rfl rfl rfl (by first | exact hl.cell 0 rfl rfl | exact hl.cell 1 rfl rfl | exact hl.cell 2 rfl rfl | exact hl.cell 3 rfl rfl | exact hl.cell 4 rfl rfl | exact hl.cell 5 rfl rfl | exact hl.cell 6 rfl rfl | exact hl.cell 7 rfl rfl | exact hl.cell 8 rfl rfl | exact hl.cell 9 rfl rfl) ?_ | (refine o_put1 hl rfl rfl (by conv => lhs; whnf) (by first | exact ⟨rfl, rfl⟩ | exact cell1_str _) rfl (by repeat (first | exact Put.here rfl (by conv => lhs; simp only [List.set_cons_zero, List.set_cons_succ, Nat.reduceAdd, Nat.zero_add]) | apply Put.there)) ?_; clear hl; intro _ hl) | refine o_ix (by omega) rfl rfl rfl rfl rfl ?_ | fail)
      refine o_nil ⟨k + 1, ⟨rfl, rfl, trivial⟩, rfl, ⟨⟨hlt, ?_⟩, rfl⟩, by omega⟩
      rw [List.take_succ_eq_append_getElem hlt, List.all_append, hpre]
      simp [hw]
  all_goals (have hke : k = s.length := by omega)
  all_goals (rw [hke, List.take_length] at hpre)
  · have h0 : 0 < s.length := by omega
    refine o_index (c := s[0]) 0 rfl rfl rfl rfl rfl (by simp [h0]) ?_
    refine o_fn (letter_calls s[0] _) rfl (fun _ => rfl) rfl ?_
    rintro _ w2 ⟨rfl, rfl⟩
    repeat' (first | refine o_mov rfl (by conv => lhs; whnf) ?_ | refine o_asg rfl (by conv => lhs; whnf) ?_ | refine o_binN rfl rfl rfl rfl (by omega) ?_ | refine o_notd rfl rfl ?_ | refine o_notb rfl rfl ?_ | refine o_nilc rfl rfl ?_ | refine o_fa2 rfl rfl (by conv => lhs; whnf; arg 1; whnf) (by first | (conv => lhs; simp only [Nat.reduceAdd, Nat.zero_add, Nat.add_zero]) | rfl) ?_ | refine o_ext rfl rfl (by conv => lhs; whnf) ?_ | refine o_lenv rfl rfl rfl ?_ | refine o_lens rfl rfl rfl ?_ | refine o_pick_t rfl rfl (by conv => lhs; whnf) ?_ | refine o_pick_f rfl rfl (by conv => lhs; whnf) ?_ | refine o_not rfl ?_ | refine o_nilf rfl rfl ?_ | (refine o_nil (hK _ _ ?_); clear hK K) | refine wk_reg ?_ | refine wk_seq fun K hK => ?_ | (refine wk_skip (hK _ _ ?_); clear hK K) | (refine wk_label (hK _ _ ?_); clear hK K) | refine wk_scope ?_ | refine wk_block ?_ | refine wk_cond_t rfl ?_ | refine wk_cond_f rfl ?_ | (refine wk_exit ?_; (repeat (refine blockK_other rfl ?_)); refine blockK_same ?_; (first | (refine hK _ _ ?_; clear hK K) | (clear hK K; refine hK _ _ ?_; clear hK K) | (clear hK K; clear hK K; refine hK _ _ ?_; clear hK K) | (clear hK K; clear hK K; clear hK K; refine hK _ _ ?_; clear hK K) | (clear hK K; clear hK K; clear hK K; clear hK K; refine hK _ _ ?_; clear hK K) | (clear hK K; clear hK K; clear hK K; clear hK K; clear hK K; refine hK _ _ ?_; clear hK K) | skip)) | (refine o_binT rfl rfl rfl rfl ?_ ?_ <;> intro _) | refine o_load rfl rfl rfl (by first | exact hl.cell 0 rfl rfl | exact hl.cell 1 rfl rfl | exact hl.cell 2 rfl rfl | exact hl.cell 3 rfl rfl | exact hl.cell 4 rfl rfl | exact hl.cell 5 rfl rfl | exact hl.cell 6 rfl rfl | exact hl.cell 7 rfl rfl | exact hl.cell 8 rfl rfl | exact hl.cell 9 rfl rfl) ?_ | (refine o_put1 hl rfl rfl (by conv => lhs; whnf) (by first | exact ⟨rfl, rfl⟩ | exact cell1_str _) rfl (by repeat (first | exact Put.here rfl (by conv => lhs; simp only [List.set_cons_zero, List.set_cons_succ, Nat.reduceAdd, Nat.zero_add]) | apply Put.there)) ?_; clear hl; intro _ hl) | refine o_ix (by omega) rfl rfl rfl rfl rfl ?_ | fail)
    refine wk_ret (retQ_tmp1 Tryd.results50 (by decide) rfl (by conv => lhs; whnf) ?_)
    refine ⟨?_, rfl⟩
    have hh : hd s = cls s[0] := by
      cases s with
      | nil => simp at h0
      | cons c s => rfl
    simp only [Nm, hpre, hh, Bool.true_and]
    congr 1
    rw [Bool.eq_iff_iff, decide_eq_true_iff]
    have := cls3b s[0]
    constructor
    · intro h; exact ⟨h0, by omega, this.2 h⟩
    · rintro ⟨-, -, h⟩; exact this.1 h
  all_goals (refine wk_ret (retQ_tmp1 Tryd.results50 (by decide) rfl (by conv => lhs; whnf) ?_))
  all_goals (refine ⟨?_, rfl⟩)
  all_goals (simp only [Nm])
  all_goals (rw [decide_eq_false (by omega)]; simp)
end Go.Proofs
