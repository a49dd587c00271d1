/-
  tokens.
-/
import Derived.Test.YtjijmehighoonaaDoorD
import Derived.Test.YtjijmehighoonaaDoorJoin
import Derived.Test.YtjijmehighoonaaDoorB
set_option linter.unusedVariables false
set_option linter.unusedSimpArgs false
set_option linter.unnecessarySimpa false
set_option maxRecDepth 10000
namespace Go.Proofs
open Go Go.Pd Go.Lexs
attribute [local irreducible] OpsL W RetQ OpsQ OpsC

theorem classL_len : classL.length = 256 := by simp [classL]
theorem classL_one : classL.all Value.oneCell' = true := by simp [classL, Value.oneCell']

def atF (bt bc : Nat) : Value := .func (.func 33) #[] #[.pointer (some ⟨bt, 0, none⟩), .pointer (some ⟨bc, 0, none⟩)]

theorem tokens_calls (text : List UInt8) (w : World) :
    Calls Tryd.prog 31 #[str text] w (fun e w' => ∃ v, e = .returned v ∧ ∃ bt bc bf, v = .func (.func 34) #[] #[.pointer (some ⟨bt, 0, none⟩), .pointer (some ⟨bf, 0, none⟩)] ∧
      LH w (fun _ => False) w' [(bf, .cells #[atF bt bc] 68 (0, 0)), (bc, .cells classL.toArray 66 (0, 0)), (bt, .cells #[str text] 9 (0, 0))]) := by
  refine calls_of Tryd.func31 rfl Tryd.ntmps31 rfl ?_
  repeat (first | refine o_mov rfl (by conv => lhs; whnf) ?_ | refine o_asg rfl (by conv => lhs; whnf) ?_ | refine o_binC rfl rfl rfl rfl ?_ | refine o_binN rfl rfl rfl rfl (by omega) ?_ | refine o_notd rfl rfl ?_ | refine o_notb rfl rfl ?_ | refine o_nilc rfl rfl ?_ | refine o_fa rfl rfl rfl ?_ | refine o_ext rfl rfl (by conv => lhs; whnf) ?_ | refine o_lenv rfl rfl rfl ?_ | refine o_lens rfl rfl rfl ?_ | refine o_eqs rfl rfl rfl ?_ | refine o_nes rfl rfl rfl ?_ | refine o_pick_t rfl rfl (by conv => lhs; whnf) ?_ | refine o_pick_f rfl rfl (by conv => lhs; whnf) ?_ | refine o_not rfl ?_ | refine o_nilf rfl rfl ?_ | (refine o_nil (hK _ _ ?_); clear hK K) | refine wk_reg ?_ | refine wk_seq fun K hK => ?_ | (refine wk_skip (hK _ _ ?_); clear hK K) | (refine wk_label (hK _ _ ?_); clear hK K) | refine wk_scope ?_ | refine wk_block ?_ | refine wk_cond_t rfl ?_ | refine wk_cond_f rfl ?_)
  refine o_box (LH.start w (fun _ => False)) [str text] rfl rfl (by simp only [str_eq]; rfl) ?_
  intro bt w1 hbt hl
  repeat (first | refine o_mov rfl (by conv => lhs; whnf) ?_ | refine o_asg rfl (by conv => lhs; whnf) ?_ | refine o_binC rfl rfl rfl rfl ?_ | refine o_binN rfl rfl rfl rfl (by omega) ?_ | refine o_notd rfl rfl ?_ | refine o_notb rfl rfl ?_ | refine o_nilc rfl rfl ?_ | refine o_fa rfl rfl rfl ?_ | refine o_ext rfl rfl (by conv => lhs; whnf) ?_ | refine o_lenv rfl rfl rfl ?_ | refine o_lens rfl rfl rfl ?_ | refine o_eqs rfl rfl rfl ?_ | refine o_nes rfl rfl rfl ?_ | refine o_pick_t rfl rfl (by conv => lhs; whnf) ?_ | refine o_pick_f rfl rfl (by conv => lhs; whnf) ?_ | refine o_not rfl ?_ | refine o_nilf rfl rfl ?_ | (refine o_nil (hK _ _ ?_); clear hK K) | refine wk_reg ?_ | refine wk_seq fun K hK => ?_ | (refine wk_skip (hK _ _ ?_); clear hK K) | (refine wk_label (hK _ _ ?_); clear hK K) | refine wk_scope ?_ | refine wk_block ?_ | refine wk_cond_t rfl ?_ | refine wk_cond_f rfl ?_)
  refine o_fn (classes_calls w1) rfl (fun _ => rfl) rfl ?_
  rintro _ w2 ⟨rfl, he2⟩
  replace hl := hl.ext he2
  refine o_alloc hl (List.replicate 256 (.int .u8 0)) (by kernel_rfl) rfl ?_
  intro bc w3 hbc hl3
  refine o_store hl3 0 classL rfl rfl rfl rfl (by rw [classL_len]; rfl) (by rw [classL_len, List.length_replicate]; omega) classL_one ?_
  intro w4 hl4
  rw [putL_all classL (List.replicate 256 (.int .u8 0)) 0 (by rw [classL_len, List.length_replicate]), List.take_zero, List.nil_append] at hl4
  clear hl hl3
  have hl : LH w (fun _ => False) w4 [(bc, .cells classL.toArray 66 (0, 0)), (bt, .cells #[str text] 9 (0, 0))] := hl4
  clear hl4
  repeat (first | refine o_mov rfl (by conv => lhs; whnf) ?_ | refine o_asg rfl (by conv => lhs; whnf) ?_ | refine o_binC rfl rfl rfl rfl ?_ | refine o_binN rfl rfl rfl rfl (by omega) ?_ | refine o_notd rfl rfl ?_ | refine o_notb rfl rfl ?_ | refine o_nilc rfl rfl ?_ | refine o_fa rfl rfl rfl ?_ | refine o_ext rfl rfl (by conv => lhs; whnf) ?_ | refine o_lenv rfl rfl rfl ?_ | refine o_lens rfl rfl rfl ?_ | refine o_eqs rfl rfl rfl ?_ | refine o_nes rfl rfl rfl ?_ | refine o_pick_t rfl rfl (by conv => lhs; whnf) ?_ | refine o_pick_f rfl rfl (by conv => lhs; whnf) ?_ | refine o_not rfl ?_ | refine o_nilf rfl rfl ?_ | (refine o_nil (hK _ _ ?_); clear hK K) | refine wk_reg ?_ | refine wk_seq fun K hK => ?_ | (refine wk_skip (hK _ _ ?_); clear hK K) | (refine wk_label (hK _ _ ?_); clear hK K) | refine wk_scope ?_ | refine wk_block ?_ | refine wk_cond_t rfl ?_ | refine wk_cond_f rfl ?_)
  refine o_mf [] [.pointer (some ⟨bt, 0, none⟩), .pointer (some ⟨bc, 0, none⟩)] rfl rfl rfl ?_
  refine o_alloc hl [.nilFunc] rfl rfl ?_
  intro bf w5 hbf hl5
  refine o_store hl5 0 [atF bt bc] rfl rfl rfl rfl rfl (by simp) rfl ?_
  intro w6 hl6
  repeat (first | refine o_mov rfl (by conv => lhs; whnf) ?_ | refine o_asg rfl (by conv => lhs; whnf) ?_ | refine o_binC rfl rfl rfl rfl ?_ | refine o_binN rfl rfl rfl rfl (by omega) ?_ | refine o_notd rfl rfl ?_ | refine o_notb rfl rfl ?_ | refine o_nilc rfl rfl ?_ | refine o_fa rfl rfl rfl ?_ | refine o_ext rfl rfl (by conv => lhs; whnf) ?_ | refine o_lenv rfl rfl rfl ?_ | refine o_lens rfl rfl rfl ?_ | refine o_eqs rfl rfl rfl ?_ | refine o_nes rfl rfl rfl ?_ | refine o_pick_t rfl rfl (by conv => lhs; whnf) ?_ | refine o_pick_f rfl rfl (by conv => lhs; whnf) ?_ | refine o_not rfl ?_ | refine o_nilf rfl rfl ?_ | (refine o_nil (hK _ _ ?_); clear hK K) | refine wk_reg ?_ | refine wk_seq fun K hK => ?_ | (refine wk_skip (hK _ _ ?_); clear hK K) | (refine wk_label (hK _ _ ?_); clear hK K) | refine wk_scope ?_ | refine wk_block ?_ | refine wk_cond_t rfl ?_ | refine wk_cond_f rfl ?_)
  refine o_mf [] [.pointer (some ⟨bt, 0, none⟩), .pointer (some ⟨bf, 0, none⟩)] rfl rfl rfl ?_
  repeat (first | refine o_mov rfl (by conv => lhs; whnf) ?_ | refine o_asg rfl (by conv => lhs; whnf) ?_ | refine o_binC rfl rfl rfl rfl ?_ | refine o_binN rfl rfl rfl rfl (by omega) ?_ | refine o_notd rfl rfl ?_ | refine o_notb rfl rfl ?_ | refine o_nilc rfl rfl ?_ | refine o_fa rfl rfl rfl ?_ | refine o_ext rfl rfl (by conv => lhs; whnf) ?_ | refine o_lenv rfl rfl rfl ?_ | refine o_lens rfl rfl rfl ?_ | refine o_eqs rfl rfl rfl ?_ | refine o_nes rfl rfl rfl ?_ | refine o_pick_t rfl rfl (by conv => lhs; whnf) ?_ | refine o_pick_f rfl rfl (by conv => lhs; whnf) ?_ | refine o_not rfl ?_ | refine o_nilf rfl rfl ?_ | (refine o_nil (hK _ _ ?_); clear hK K) | refine wk_reg ?_ | refine wk_seq fun K hK => ?_ | (refine wk_skip (hK _ _ ?_); clear hK K) | (refine wk_label (hK _ _ ?_); clear hK K) | refine wk_scope ?_ | refine wk_block ?_ | refine wk_cond_t rfl ?_ | refine wk_cond_f rfl ?_)
  refine wk_ret (retQ_tmp1 Tryd.results31 (by decide) rfl (by conv => lhs; whnf) ?_)
  exact ⟨bt, bc, bf, rfl, hl6⟩
end Go.Proofs
