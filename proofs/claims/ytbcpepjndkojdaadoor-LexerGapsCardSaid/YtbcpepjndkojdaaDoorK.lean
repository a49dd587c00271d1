/-
  head: five texts.
-/
import Derived.Test.YtbcpepjndkojdaaDoorI
set_option linter.unusedVariables false
set_option linter.unusedSimpArgs false
namespace Go.Proofs
open Go Go.Pd Go.Lexs
attribute [local irreducible] OpsL W RetQ OpsQ OpsC

theorem lex_h1 : lex [114, 111, 119, 32, 97, 49, 32, 97, 116, 32, 55, 62, 61, 120, 35, 32, 121] = .ok [⟨1, [114, 111, 119], 0, 0⟩, ⟨1, [97, 49], 0, 4⟩, ⟨1, [97, 116], 0, 7⟩, ⟨2, [55], 7, 10⟩, ⟨3, [62, 61], 0, 11⟩, ⟨1, [120], 0, 13⟩] := by kernel_rfl
theorem lex_h2 : lex [97, 32, 33, 98] = .bad 3 2 := by kernel_rfl
theorem lex_h3 : lex [55, 120] = .bad 4 0 := by kernel_rfl
theorem lex_h4 : lex [49, 50, 51, 52, 53, 54, 55, 56] = .bad 4 0 := by kernel_rfl
theorem lex_h5 : lex [10, 97, 98, 99, 100, 101, 102, 103, 104, 105, 106, 107, 108, 109, 110, 111, 112, 113, 114, 115, 116, 117, 118, 119, 120, 121] = .bad 2 1 := by kernel_rfl

set_option maxHeartbeats 1000000 in
theorem head_calls (w : World) : Calls Tryd.prog 11 #[] w (fun e w' => ∃ x, e = .returned x ∧ x = .bool true ∧ Ext w w') := by
  refine calls_of Tryd.func11 rfl Tryd.ntmps11 rfl ?_
  repeat (first | refine o_mov rfl (by conv => lhs; whnf) ?_ | refine o_asg rfl (by conv => lhs; whnf) ?_ | refine o_binC rfl rfl rfl rfl ?_ | refine o_binN rfl rfl rfl rfl (by omega) ?_ | refine o_notd rfl rfl ?_ | refine o_notb rfl rfl ?_ | refine o_nilc rfl rfl ?_ | refine o_fa rfl rfl rfl ?_ | refine o_ext rfl rfl (by conv => lhs; whnf) ?_ | refine o_lenv rfl rfl rfl ?_ | refine o_lens rfl rfl rfl ?_ | refine o_eqs rfl rfl rfl ?_ | refine o_nes rfl rfl rfl ?_ | refine o_pick_t rfl rfl (by conv => lhs; whnf) ?_ | refine o_pick_f rfl rfl (by conv => lhs; whnf) ?_ | refine o_not rfl ?_ | refine o_nilf rfl rfl ?_ | (refine o_nil (hK _ _ ?_); clear hK K) | refine wk_reg ?_ | refine wk_seq fun K hK => ?_ | (refine wk_skip (hK _ _ ?_); clear hK K) | (refine wk_label (hK _ _ ?_); clear hK K) | refine wk_scope ?_ | refine wk_block ?_ | refine wk_cond_t rfl ?_ | refine wk_cond_f rfl ?_)
  refine o_fn (lex_calls [114, 111, 119, 32, 97, 49, 32, 97, 116, 32, 55, 62, 61, 120, 35, 32, 121] w) rfl (fun _ => rfl) (by simp only [str_eq]; rfl) ?_
  rintro _ w1 ⟨he1, ho⟩
  rw [lex_h1] at ho
  obtain ⟨sv, rfl, hsl⟩ := ho
  obtain ⟨b, o, c, rfl, hc, hrow⟩ := hsl.ne (m := 6) rfl (by omega) (by omega)
  repeat (first | refine o_mov rfl (by conv => lhs; whnf) ?_ | refine o_asg rfl (by conv => lhs; whnf) ?_ | refine o_binC rfl rfl rfl rfl ?_ | refine o_binN rfl rfl rfl rfl (by omega) ?_ | refine o_notd rfl rfl ?_ | refine o_notb rfl rfl ?_ | refine o_nilc rfl rfl ?_ | refine o_fa rfl rfl rfl ?_ | refine o_ext rfl rfl (by conv => lhs; whnf) ?_ | refine o_lenv rfl rfl rfl ?_ | refine o_lens rfl rfl rfl ?_ | refine o_eqs rfl rfl rfl ?_ | refine o_nes rfl rfl rfl ?_ | refine o_pick_t rfl rfl (by conv => lhs; whnf) ?_ | refine o_pick_f rfl rfl (by conv => lhs; whnf) ?_ | refine o_not rfl ?_ | refine o_nilf rfl rfl ?_ | (refine o_nil (hK _ _ ?_); clear hK K) | refine wk_reg ?_ | refine wk_seq fun K hK => ?_ | (refine wk_skip (hK _ _ ?_); clear hK K) | (refine wk_label (hK _ _ ?_); clear hK K) | refine wk_scope ?_ | refine wk_block ?_ | refine wk_cond_t rfl ?_ | refine wk_cond_f rfl ?_)
  refine o_fn (lex_calls [97, 32, 33, 98] w1) rfl (fun _ => rfl) (by simp only [str_eq]; rfl) ?_
  rintro v w2 ⟨he2, ho⟩
  rw [lex_h2] at ho
  have ho : v = _ := ho
  subst ho
  repeat (first | refine o_mov rfl (by conv => lhs; whnf) ?_ | refine o_asg rfl (by conv => lhs; whnf) ?_ | refine o_binC rfl rfl rfl rfl ?_ | refine o_binN rfl rfl rfl rfl (by omega) ?_ | refine o_notd rfl rfl ?_ | refine o_notb rfl rfl ?_ | refine o_nilc rfl rfl ?_ | refine o_fa rfl rfl rfl ?_ | refine o_ext rfl rfl (by conv => lhs; whnf) ?_ | refine o_lenv rfl rfl rfl ?_ | refine o_lens rfl rfl rfl ?_ | refine o_eqs rfl rfl rfl ?_ | refine o_nes rfl rfl rfl ?_ | refine o_pick_t rfl rfl (by conv => lhs; whnf) ?_ | refine o_pick_f rfl rfl (by conv => lhs; whnf) ?_ | refine o_not rfl ?_ | refine o_nilf rfl rfl ?_ | (refine o_nil (hK _ _ ?_); clear hK K) | refine wk_reg ?_ | refine wk_seq fun K hK => ?_ | (refine wk_skip (hK _ _ ?_); clear hK K) | (refine wk_label (hK _ _ ?_); clear hK K) | refine wk_scope ?_ | refine wk_block ?_ | refine wk_cond_t rfl ?_ | refine wk_cond_f rfl ?_)
  refine o_fn (lex_calls [55, 120] w2) rfl (fun _ => rfl) (by simp only [str_eq]; rfl) ?_
  rintro v w3 ⟨he3, ho⟩
  rw [lex_h3] at ho
  have ho : v = _ := ho
  subst ho
  repeat (first | refine o_mov rfl (by conv => lhs; whnf) ?_ | refine o_asg rfl (by conv => lhs; whnf) ?_ | refine o_binC rfl rfl rfl rfl ?_ | refine o_binN rfl rfl rfl rfl (by omega) ?_ | refine o_notd rfl rfl ?_ | refine o_notb rfl rfl ?_ | refine o_nilc rfl rfl ?_ | refine o_fa rfl rfl rfl ?_ | refine o_ext rfl rfl (by conv => lhs; whnf) ?_ | refine o_lenv rfl rfl rfl ?_ | refine o_lens rfl rfl rfl ?_ | refine o_eqs rfl rfl rfl ?_ | refine o_nes rfl rfl rfl ?_ | refine o_pick_t rfl rfl (by conv => lhs; whnf) ?_ | refine o_pick_f rfl rfl (by conv => lhs; whnf) ?_ | refine o_not rfl ?_ | refine o_nilf rfl rfl ?_ | (refine o_nil (hK _ _ ?_); clear hK K) | refine wk_reg ?_ | refine wk_seq fun K hK => ?_ | (refine wk_skip (hK _ _ ?_); clear hK K) | (refine wk_label (hK _ _ ?_); clear hK K) | refine wk_scope ?_ | refine wk_block ?_ | refine wk_cond_t rfl ?_ | refine wk_cond_f rfl ?_)
  refine o_fn (lex_calls [49, 50, 51, 52, 53, 54, 55, 56] w3) rfl (fun _ => rfl) (by simp only [str_eq]; rfl) ?_
  rintro v w4 ⟨he4, ho⟩
  rw [lex_h4] at ho
  have ho : v = _ := ho
  subst ho
  repeat (first | refine o_mov rfl (by conv => lhs; whnf) ?_ | refine o_asg rfl (by conv => lhs; whnf) ?_ | refine o_binC rfl rfl rfl rfl ?_ | refine o_binN rfl rfl rfl rfl (by omega) ?_ | refine o_notd rfl rfl ?_ | refine o_notb rfl rfl ?_ | refine o_nilc rfl rfl ?_ | refine o_fa rfl rfl rfl ?_ | refine o_ext rfl rfl (by conv => lhs; whnf) ?_ | refine o_lenv rfl rfl rfl ?_ | refine o_lens rfl rfl rfl ?_ | refine o_eqs rfl rfl rfl ?_ | refine o_nes rfl rfl rfl ?_ | refine o_pick_t rfl rfl (by conv => lhs; whnf) ?_ | refine o_pick_f rfl rfl (by conv => lhs; whnf) ?_ | refine o_not rfl ?_ | refine o_nilf rfl rfl ?_ | (refine o_nil (hK _ _ ?_); clear hK K) | refine wk_reg ?_ | refine wk_seq fun K hK => ?_ | (refine wk_skip (hK _ _ ?_); clear hK K) | (refine wk_label (hK _ _ ?_); clear hK K) | refine wk_scope ?_ | refine wk_block ?_ | refine wk_cond_t rfl ?_ | refine wk_cond_f rfl ?_)
  refine o_fn (lex_calls [10, 97, 98, 99, 100, 101, 102, 103, 104, 105, 106, 107, 108, 109, 110, 111, 112, 113, 114, 115, 116, 117, 118, 119, 120, 121] w4) rfl (fun _ => rfl) (by simp only [str_eq]; rfl) ?_
  rintro v w5 ⟨he5, ho⟩
  rw [lex_h5] at ho
  have ho : v = _ := ho
  subst ho
  have he : Ext w1 w5 := ((he2.trans he3).trans he4).trans he5
  have hrow := hrow.ext he
  repeat (first | refine o_mov rfl (by conv => lhs; whnf) ?_ | refine o_asg rfl (by conv => lhs; whnf) ?_ | refine o_binC rfl rfl rfl rfl ?_ | refine o_binN rfl rfl rfl rfl (by omega) ?_ | refine o_notd rfl rfl ?_ | refine o_notb rfl rfl ?_ | refine o_nilc rfl rfl ?_ | refine o_fa rfl rfl rfl ?_ | refine o_ext rfl rfl (by conv => lhs; whnf) ?_ | refine o_lenv rfl rfl rfl ?_ | refine o_lens rfl rfl rfl ?_ | refine o_eqs rfl rfl rfl ?_ | refine o_nes rfl rfl rfl ?_ | refine o_pick_t rfl rfl (by conv => lhs; whnf) ?_ | refine o_pick_f rfl rfl (by conv => lhs; whnf) ?_ | refine o_not rfl ?_ | refine o_nilf rfl rfl ?_ | (refine o_nil (hK _ _ ?_); clear hK K) | refine wk_reg ?_ | refine wk_seq fun K hK => ?_ | (refine wk_skip (hK _ _ ?_); clear hK K) | (refine wk_label (hK _ _ ?_); clear hK K) | refine wk_scope ?_ | refine wk_block ?_ | refine wk_cond_t rfl ?_ | refine wk_cond_f rfl ?_)
  refine o_indexAddr (k := 4) 1 rfl (by omega) rfl rfl rfl rfl rfl rfl ?_
  refine o_loadN (vs := [.int .i64 1, str [97, 49], .int .i64 0, .int .i64 4]) rfl rfl rfl rfl (hrow.elem tokL_len (k := 1) (t := ⟨1, [97, 49], 0, 4⟩) rfl) ?_
  refine o_build [.int .i64 1, str [97, 49], .int .i64 0, .int .i64 4] rfl (by simp only [str_eq]; rfl) ?_
  refine o_eqS rfl rfl rfl (by kernel_rfl) rfl (by kernel_rfl) (.cons (by decide) rfl rfl rfl (by first | exact .int rfl | exact .str rfl | exact .bool rfl) (.cons (by decide) rfl rfl rfl (by first | exact .int rfl | exact .str rfl | exact .bool rfl) (.cons (by decide) rfl rfl rfl (by first | exact .int rfl | exact .str rfl | exact .bool rfl) (.cons (by decide) rfl rfl rfl (by first | exact .int rfl | exact .str rfl | exact .bool rfl) .nil)))) ?_
  repeat (first | refine o_mov rfl (by conv => lhs; whnf) ?_ | refine o_asg rfl (by conv => lhs; whnf) ?_ | refine o_binC rfl rfl rfl rfl ?_ | refine o_binN rfl rfl rfl rfl (by omega) ?_ | refine o_notd rfl rfl ?_ | refine o_notb rfl rfl ?_ | refine o_nilc rfl rfl ?_ | refine o_fa rfl rfl rfl ?_ | refine o_ext rfl rfl (by conv => lhs; whnf) ?_ | refine o_lenv rfl rfl rfl ?_ | refine o_lens rfl rfl rfl ?_ | refine o_eqs rfl rfl rfl ?_ | refine o_nes rfl rfl rfl ?_ | refine o_pick_t rfl rfl (by conv => lhs; whnf) ?_ | refine o_pick_f rfl rfl (by conv => lhs; whnf) ?_ | refine o_not rfl ?_ | refine o_nilf rfl rfl ?_ | (refine o_nil (hK _ _ ?_); clear hK K) | refine wk_reg ?_ | refine wk_seq fun K hK => ?_ | (refine wk_skip (hK _ _ ?_); clear hK K) | (refine wk_label (hK _ _ ?_); clear hK K) | refine wk_scope ?_ | refine wk_block ?_ | refine wk_cond_t rfl ?_ | refine wk_cond_f rfl ?_)
  refine o_indexAddr (k := 4) 3 rfl (by omega) rfl rfl rfl rfl rfl rfl ?_
  refine o_loadN (vs := [.int .i64 2, str [55], .int .i64 7, .int .i64 10]) rfl rfl rfl rfl (hrow.elem tokL_len (k := 3) (t := ⟨2, [55], 7, 10⟩) rfl) ?_
  refine o_build [.int .i64 2, str [55], .int .i64 7, .int .i64 10] rfl (by simp only [str_eq]; rfl) ?_
  refine o_eqS rfl rfl rfl (by kernel_rfl) rfl (by kernel_rfl) (.cons (by decide) rfl rfl rfl (by first | exact .int rfl | exact .str rfl | exact .bool rfl) (.cons (by decide) rfl rfl rfl (by first | exact .int rfl | exact .str rfl | exact .bool rfl) (.cons (by decide) rfl rfl rfl (by first | exact .int rfl | exact .str rfl | exact .bool rfl) (.cons (by decide) rfl rfl rfl (by first | exact .int rfl | exact .str rfl | exact .bool rfl) .nil)))) ?_
  repeat (first | refine o_mov rfl (by conv => lhs; whnf) ?_ | refine o_asg rfl (by conv => lhs; whnf) ?_ | refine o_binC rfl rfl rfl rfl ?_ | refine o_binN rfl rfl rfl rfl (by omega) ?_ | refine o_notd rfl rfl ?_ | refine o_notb rfl rfl ?_ | refine o_nilc rfl rfl ?_ | refine o_fa rfl rfl rfl ?_ | refine o_ext rfl rfl (by conv => lhs; whnf) ?_ | refine o_lenv rfl rfl rfl ?_ | refine o_lens rfl rfl rfl ?_ | refine o_eqs rfl rfl rfl ?_ | refine o_nes rfl rfl rfl ?_ | refine o_pick_t rfl rfl (by conv => lhs; whnf) ?_ | refine o_pick_f rfl rfl (by conv => lhs; whnf) ?_ | refine o_not rfl ?_ | refine o_nilf rfl rfl ?_ | (refine o_nil (hK _ _ ?_); clear hK K) | refine wk_reg ?_ | refine wk_seq fun K hK => ?_ | (refine wk_skip (hK _ _ ?_); clear hK K) | (refine wk_label (hK _ _ ?_); clear hK K) | refine wk_scope ?_ | refine wk_block ?_ | refine wk_cond_t rfl ?_ | refine wk_cond_f rfl ?_)
  refine o_indexAddr (k := 4) 4 rfl (by omega) rfl rfl rfl rfl rfl rfl ?_
  refine o_loadN (vs := [.int .i64 3, str [62, 61], .int .i64 0, .int .i64 11]) rfl rfl rfl rfl (hrow.elem tokL_len (k := 4) (t := ⟨3, [62, 61], 0, 11⟩) rfl) ?_
  refine o_build [.int .i64 3, str [62, 61], .int .i64 0, .int .i64 11] rfl (by simp only [str_eq]; rfl) ?_
  refine o_eqS rfl rfl rfl (by kernel_rfl) rfl (by kernel_rfl) (.cons (by decide) rfl rfl rfl (by first | exact .int rfl | exact .str rfl | exact .bool rfl) (.cons (by decide) rfl rfl rfl (by first | exact .int rfl | exact .str rfl | exact .bool rfl) (.cons (by decide) rfl rfl rfl (by first | exact .int rfl | exact .str rfl | exact .bool rfl) (.cons (by decide) rfl rfl rfl (by first | exact .int rfl | exact .str rfl | exact .bool rfl) .nil)))) ?_
  repeat (first | refine o_mov rfl (by conv => lhs; whnf) ?_ | refine o_asg rfl (by conv => lhs; whnf) ?_ | refine o_binC rfl rfl rfl rfl ?_ | refine o_binN rfl rfl rfl rfl (by omega) ?_ | refine o_notd rfl rfl ?_ | refine o_notb rfl rfl ?_ | refine o_nilc rfl rfl ?_ | refine o_fa rfl rfl rfl ?_ | refine o_ext rfl rfl (by conv => lhs; whnf) ?_ | refine o_lenv rfl rfl rfl ?_ | refine o_lens rfl rfl rfl ?_ | refine o_eqs rfl rfl rfl ?_ | refine o_nes rfl rfl rfl ?_ | refine o_pick_t rfl rfl (by conv => lhs; whnf) ?_ | refine o_pick_f rfl rfl (by conv => lhs; whnf) ?_ | refine o_not rfl ?_ | refine o_nilf rfl rfl ?_ | (refine o_nil (hK _ _ ?_); clear hK K) | refine wk_reg ?_ | refine wk_seq fun K hK => ?_ | (refine wk_skip (hK _ _ ?_); clear hK K) | (refine wk_label (hK _ _ ?_); clear hK K) | refine wk_scope ?_ | refine wk_block ?_ | refine wk_cond_t rfl ?_ | refine wk_cond_f rfl ?_)
  refine o_indexAddr (k := 4) 5 rfl (by omega) rfl rfl rfl rfl rfl rfl ?_
  refine o_fa rfl rfl rfl ?_
  refine o_load rfl rfl rfl (hrow.elem tokL_len (k := 5) (t := ⟨1, [120], 0, 13⟩) rfl 3 _ rfl) ?_
  repeat (first | refine o_mov rfl (by conv => lhs; whnf) ?_ | refine o_asg rfl (by conv => lhs; whnf) ?_ | refine o_binC rfl rfl rfl rfl ?_ | refine o_binN rfl rfl rfl rfl (by omega) ?_ | refine o_notd rfl rfl ?_ | refine o_notb rfl rfl ?_ | refine o_nilc rfl rfl ?_ | refine o_fa rfl rfl rfl ?_ | refine o_ext rfl rfl (by conv => lhs; whnf) ?_ | refine o_lenv rfl rfl rfl ?_ | refine o_lens rfl rfl rfl ?_ | refine o_eqs rfl rfl rfl ?_ | refine o_nes rfl rfl rfl ?_ | refine o_pick_t rfl rfl (by conv => lhs; whnf) ?_ | refine o_pick_f rfl rfl (by conv => lhs; whnf) ?_ | refine o_not rfl ?_ | refine o_nilf rfl rfl ?_ | (refine o_nil (hK _ _ ?_); clear hK K) | refine wk_reg ?_ | refine wk_seq fun K hK => ?_ | (refine wk_skip (hK _ _ ?_); clear hK K) | (refine wk_label (hK _ _ ?_); clear hK K) | refine wk_scope ?_ | refine wk_block ?_ | refine wk_cond_t rfl ?_ | refine wk_cond_f rfl ?_)
  refine wk_ret (retQ_tmp1 Tryd.results11 (by decide) rfl (by conv => lhs; whnf) ?_)
  exact ⟨rfl, he1.trans he⟩
end Go.Proofs
