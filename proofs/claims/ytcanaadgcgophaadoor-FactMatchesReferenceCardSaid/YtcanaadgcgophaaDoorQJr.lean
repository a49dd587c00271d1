/-
  The reference's Lex (with its own small lemmas over tokens).
-/
import Derived.Test.YtcanaadgcgophaaDoorQH
import Derived.Test.YtcanaadgcgophaaDoorQLZ
set_option linter.unusedVariables false
set_option linter.unusedSimpArgs false
set_option linter.unnecessarySimpa false
set_option maxRecDepth 10000
namespace Go.Proofs
open Go Go.Pd Go.Lexs
attribute [local irreducible] OpsL W RetQ OpsQ OpsC
theorem tkL_one (t : Tok) : (tokL t).all Value.oneCell' = true := by simp only [tokL, str_eq]; rfl
def RefJ (text : List UInt8) (w : World) (x : List Tok × Nat × Value) (w' : World) : Prop :=
  (x.2.1 ≤ text.length ∧ x.1.length ≤ 5000 ∧ skip false (text.drop x.2.1) = text.drop x.2.1 ∧ lex text = gather x.1 (founds (text.length - x.2.1) x.2.1 (text.drop x.2.1))) ∧
  ∃ acc, LH w (fun _ => False) w' ([] ++ acc) ∧ Acc x.2.2 4 65 x.1.length (toksL x.1) acc

set_option maxHeartbeats 2000000 in
theorem refLex_calls (text : List UInt8) (hn : text.length ≤ 9223372036854775806) (w : World) : Calls Tryd.prog 42 #[str text] w (fun e w' => ∃ v, e = .returned v ∧ Ext w w' ∧ LexOut w' (lex text) v) := by
  refine calls_of Tryd.func42 rfl Tryd.ntmps42 rfl ?_
  repeat' (first | refine o_mov rfl (by conv => lhs; whnf) ?_ | refine o_asg rfl (by conv => lhs; whnf) ?_ | refine o_binN rfl rfl rfl rfl (by omega) ?_ | refine o_notd rfl rfl ?_ | refine o_notb rfl rfl ?_ | refine o_nilc rfl rfl ?_ | refine o_fa2 rfl rfl (by conv => lhs; whnf; arg 1; whnf) (by first | (conv => lhs; simp only [Nat.reduceAdd, Nat.zero_add, Nat.add_zero]) | rfl) ?_ | refine o_ext rfl rfl (by conv => lhs; whnf) ?_ | refine o_lenv rfl rfl rfl ?_ | refine o_lens rfl rfl rfl ?_ | refine o_pick_t rfl rfl (by conv => lhs; whnf) ?_ | refine o_pick_f rfl rfl (by conv => lhs; whnf) ?_ | refine o_not rfl ?_ | refine o_nilf rfl rfl ?_ | (refine o_nil (hK _ _ ?_); clear hK K) | refine wk_reg ?_ | refine wk_seq fun K hK => ?_ | (refine wk_skip (hK _ _ ?_); clear hK K) | (refine wk_label (hK _ _ ?_); clear hK K) | refine wk_scope ?_ | refine wk_block ?_ | refine wk_cond_t rfl ?_ | refine wk_cond_f rfl ?_ | (refine wk_exit ?_; (repeat (refine blockK_other rfl ?_)); refine blockK_same ?_; (first | (refine hK _ _ ?_; clear hK K) | (clear hK K; refine hK _ _ ?_; clear hK K) | (clear hK K; clear hK K; refine hK _ _ ?_; clear hK K) | (clear hK K; clear hK K; clear hK K; refine hK _ _ ?_; clear hK K) | (clear hK K; clear hK K; clear hK K; clear hK K; refine hK _ _ ?_; clear hK K) | (clear hK K; clear hK K; clear hK K; clear hK K; clear hK K; refine hK _ _ ?_; clear hK K) | skip)) | (refine o_binT rfl rfl rfl rfl ?_ ?_ <;> intro _) | refine o_load rfl rfl rfl (by first | exact hl.cell 0 rfl rfl | exact hl.cell 1 rfl rfl | exact hl.cell 2 rfl rfl | exact hl.cell 3 rfl rfl | exact hl.cell 4 rfl rfl | exact hl.cell 5 rfl rfl | exact hl.cell 6 rfl rfl | exact hl.cell 7 rfl rfl | exact hl.cell 8 rfl rfl | exact hl.cell 9 rfl rfl) ?_ | (refine o_put1 hl rfl rfl (by conv => lhs; whnf) (by first | exact ⟨rfl, rfl⟩ | exact cell1_str _) rfl (by repeat (first | exact Put.here rfl (by conv => lhs; simp only [List.set_cons_zero, List.set_cons_succ, Nat.reduceAdd, Nat.zero_add]) | apply Put.there)) ?_; clear hl; intro _ hl) | refine o_ix (by omega) rfl rfl rfl rfl rfl ?_ | fail)
  · refine wk_ret (retQ_res [.slice none 0 0, .int .i64 2, .int .i64 (-1)] rfl rfl ⟨by decide, rfl, by decide, rfl, by decide, rfl, trivial⟩ ⟨.refl _ _, ?_⟩)
    have : lex text = .bad 2 (-1) := by unfold lex; rw [if_pos (by omega)]
    rw [this]; rfl
  have hlen : text.length ≤ 20000 := by omega
  refine o_fn (gap_calls text 0 hn (Nat.zero_le _) w) rfl (fun _ => rfl) rfl ?_
  rintro _ w ⟨rfl, rfl⟩
  rw [List.drop_zero]
  generalize hat : text.length - (skip false text).length = at0
  repeat' (first | refine o_mov rfl (by conv => lhs; whnf) ?_ | refine o_asg rfl (by conv => lhs; whnf) ?_ | refine o_binN rfl rfl rfl rfl (by omega) ?_ | refine o_notd rfl rfl ?_ | refine o_notb rfl rfl ?_ | refine o_nilc rfl rfl ?_ | refine o_fa2 rfl rfl (by conv => lhs; whnf; arg 1; whnf) (by first | (conv => lhs; simp only [Nat.reduceAdd, Nat.zero_add, Nat.add_zero]) | rfl) ?_ | refine o_ext rfl rfl (by conv => lhs; whnf) ?_ | refine o_lenv rfl rfl rfl ?_ | refine o_lens rfl rfl rfl ?_ | refine o_pick_t rfl rfl (by conv => lhs; whnf) ?_ | refine o_pick_f rfl rfl (by conv => lhs; whnf) ?_ | refine o_not rfl ?_ | refine o_nilf rfl rfl ?_ | (refine o_nil (hK _ _ ?_); clear hK K) | refine wk_reg ?_ | refine wk_seq fun K hK => ?_ | (refine wk_skip (hK _ _ ?_); clear hK K) | (refine wk_label (hK _ _ ?_); clear hK K) | refine wk_scope ?_ | refine wk_block ?_ | refine wk_cond_t rfl ?_ | refine wk_cond_f rfl ?_ | (refine wk_exit ?_; (repeat (refine blockK_other rfl ?_)); refine blockK_same ?_; (first | (refine hK _ _ ?_; clear hK K) | (clear hK K; refine hK _ _ ?_; clear hK K) | (clear hK K; clear hK K; refine hK _ _ ?_; clear hK K) | (clear hK K; clear hK K; clear hK K; refine hK _ _ ?_; clear hK K) | (clear hK K; clear hK K; clear hK K; clear hK K; refine hK _ _ ?_; clear hK K) | (clear hK K; clear hK K; clear hK K; clear hK K; clear hK K; refine hK _ _ ?_; clear hK K) | skip)) | (refine o_binT rfl rfl rfl rfl ?_ ?_ <;> intro _) | refine o_load rfl rfl rfl (by first | exact hl.cell 0 rfl rfl | exact hl.cell 1 rfl rfl | exact hl.cell 2 rfl rfl | exact hl.cell 3 rfl rfl | exact hl.cell 4 rfl rfl | exact hl.cell 5 rfl rfl | exact hl.cell 6 rfl rfl | exact hl.cell 7 rfl rfl | exact hl.cell 8 rfl rfl | exact hl.cell 9 rfl rfl) ?_ | (refine o_put1 hl rfl rfl (by conv => lhs; whnf) (by first | exact ⟨rfl, rfl⟩ | exact cell1_str _) rfl (by repeat (first | exact Put.here rfl (by conv => lhs; simp only [List.set_cons_zero, List.set_cons_succ, Nat.reduceAdd, Nat.zero_add]) | apply Put.there)) ?_; clear hl; intro _ hl) | refine o_ix (by omega) rfl rfl rfl rfl rfl ?_ | fail)
  have hl0 := skip_length false text
  have hdr : text.drop at0 = skip false text := by rw [← hat]; exact skip_drop rfl
  refine wk_loopH [] rfl (fun x : List Tok × Nat × Value => [(0, str text), (5, x.2.2), (6, .int .i64 (x.2.1 : Int))]) (RefJ text w) (fun x => text.length - x.2.1) ([], at0, .slice none 0 0) ⟨rfl, rfl, rfl, trivial⟩ ⟨⟨by simp only; omega, Nat.zero_le _, ?_, ?_⟩, [], LH.start _ _, Acc.nil _ _⟩ ?_
  · simp only; rw [hdr]; exact skip_skip _ _
  · simp only
    rw [hdr]
    unfold lex
    rw [if_neg (by omega)]
    congr 1
    have hl1 : (skip false text).length = text.length - at0 := by omega
    rw [← hl1, ← founds_fuel text.length (skip false text).length at0 (skip false text) hl0 (Nat.le_refl _)]
    exact founds_congr (skip_skip _ _).symm (by omega) (Nat.le_refl _) hl0
  rintro ⟨toks, at_, ov⟩ t w1 ⟨⟨hat1, hk, hsk, hlex⟩, acc, hl, hacc⟩
  simp only at hat1 hk hsk hlex hacc
  obtain ⟨a0, c0, rfl⟩ := hacc.shape
  dsimp only
  repeat' (first | refine o_mov rfl (by conv => lhs; whnf) ?_ | refine o_asg rfl (by conv => lhs; whnf) ?_ | refine o_binN rfl rfl rfl rfl (by omega) ?_ | refine o_notd rfl rfl ?_ | refine o_notb rfl rfl ?_ | refine o_nilc rfl rfl ?_ | refine o_fa2 rfl rfl (by conv => lhs; whnf; arg 1; whnf) (by first | (conv => lhs; simp only [Nat.reduceAdd, Nat.zero_add, Nat.add_zero]) | rfl) ?_ | refine o_ext rfl rfl (by conv => lhs; whnf) ?_ | refine o_lenv rfl rfl rfl ?_ | refine o_lens rfl rfl rfl ?_ | refine o_pick_t rfl rfl (by conv => lhs; whnf) ?_ | refine o_pick_f rfl rfl (by conv => lhs; whnf) ?_ | refine o_not rfl ?_ | refine o_nilf rfl rfl ?_ | (refine o_nil (hK _ _ ?_); clear hK K) | refine wk_reg ?_ | refine wk_seq fun K hK => ?_ | (refine wk_skip (hK _ _ ?_); clear hK K) | (refine wk_label (hK _ _ ?_); clear hK K) | refine wk_scope ?_ | refine wk_block ?_ | refine wk_cond_t rfl ?_ | refine wk_cond_f rfl ?_ | (refine wk_exit ?_; (repeat (refine blockK_other rfl ?_)); refine blockK_same ?_; (first | (refine hK _ _ ?_; clear hK K) | (clear hK K; refine hK _ _ ?_; clear hK K) | (clear hK K; clear hK K; refine hK _ _ ?_; clear hK K) | (clear hK K; clear hK K; clear hK K; refine hK _ _ ?_; clear hK K) | (clear hK K; clear hK K; clear hK K; clear hK K; refine hK _ _ ?_; clear hK K) | (clear hK K; clear hK K; clear hK K; clear hK K; clear hK K; refine hK _ _ ?_; clear hK K) | skip)) | (refine o_binT rfl rfl rfl rfl ?_ ?_ <;> intro _) | refine o_load rfl rfl rfl (by first | exact hl.cell 0 rfl rfl | exact hl.cell 1 rfl rfl | exact hl.cell 2 rfl rfl | exact hl.cell 3 rfl rfl | exact hl.cell 4 rfl rfl | exact hl.cell 5 rfl rfl | exact hl.cell 6 rfl rfl | exact hl.cell 7 rfl rfl | exact hl.cell 8 rfl rfl | exact hl.cell 9 rfl rfl) ?_ | (refine o_put1 hl rfl rfl (by conv => lhs; whnf) (by first | exact ⟨rfl, rfl⟩ | exact cell1_str _) rfl (by repeat (first | exact Put.here rfl (by conv => lhs; simp only [List.set_cons_zero, List.set_cons_succ, Nat.reduceAdd, Nat.zero_add]) | apply Put.there)) ?_; clear hl; intro _ hl) | refine o_ix (by omega) rfl rfl rfl rfl rfl ?_ | fail)
  · have hlt : at_ < text.length := by omega
    have hd1 : text.drop at_ = text[at_] :: text.drop (at_ + 1) := List.drop_eq_getElem_cons hlt
    have hne : text.drop at_ ≠ [] := by rw [hd1]; exact List.cons_ne_nil _ _
    have hcl : cls text[at_] ≠ 1 ∧ cls text[at_] ≠ 2 := skip_head' (b := false) (s := text.drop at_) (by rw [hsk]; exact hd1)
    refine o_fn (next_calls text at_ hlen hlt hcl.1 hcl.2 w1) rfl (fun _ => rfl) rfl ?_
    rintro _ w2 ⟨rfl, hx⟩
    have hstep : founds (text.length - at_) at_ (text.drop at_) = found at_ (text.drop at_) :: (if (one (text.drop at_)).err = 0 then founds (text.length - at_ - 1) (at_ + (one (text.drop at_)).len) ((text.drop at_).drop (one (text.drop at_)).len) else []) := by
      obtain ⟨m, hm⟩ : ∃ m, text.length - at_ = m + 1 := ⟨text.length - at_ - 1, by omega⟩
      rw [hm]
      simp only [founds, hsk]
      rw [hd1]
      simp only
      have e : (text[at_] :: text.drop (at_ + 1)).length - (text[at_] :: text.drop (at_ + 1)).length = 0 := Nat.sub_self _
      rw [e]
      simp
    rw [hstep] at hlex
    replace hl := hl.ext hx
    by_cases herr : (one (text.drop at_)).err = 0
    · have hnx : nextV text at_ = .tuple #[.agg (tokV (one (text.drop at_)).kind ((text.drop at_).take (one (text.drop at_)).len) (one (text.drop at_)).num at_).toArray, .int .i64 0] := by unfold nextV; rw [if_pos herr]
      rw [hnx]
      have hle := one_len_le _ hne
      have hp := one_len_pos _ herr
      rw [List.length_drop] at hle
      rw [if_pos herr] at hlex
      repeat' (first | refine o_mov rfl (by conv => lhs; whnf) ?_ | refine o_asg rfl (by conv => lhs; whnf) ?_ | refine o_binN rfl rfl rfl rfl (by omega) ?_ | refine o_notd rfl rfl ?_ | refine o_notb rfl rfl ?_ | refine o_nilc rfl rfl ?_ | refine o_fa2 rfl rfl (by conv => lhs; whnf; arg 1; whnf) (by first | (conv => lhs; simp only [Nat.reduceAdd, Nat.zero_add, Nat.add_zero]) | rfl) ?_ | refine o_ext rfl rfl (by conv => lhs; whnf) ?_ | refine o_lenv rfl rfl rfl ?_ | refine o_lens rfl rfl rfl ?_ | refine o_pick_t rfl rfl (by conv => lhs; whnf) ?_ | refine o_pick_f rfl rfl (by conv => lhs; whnf) ?_ | refine o_not rfl ?_ | refine o_nilf rfl rfl ?_ | (refine o_nil (hK _ _ ?_); clear hK K) | refine wk_reg ?_ | refine wk_seq fun K hK => ?_ | (refine wk_skip (hK _ _ ?_); clear hK K) | (refine wk_label (hK _ _ ?_); clear hK K) | refine wk_scope ?_ | refine wk_block ?_ | refine wk_cond_t rfl ?_ | refine wk_cond_f rfl ?_ | (refine wk_exit ?_; (repeat (refine blockK_other rfl ?_)); refine blockK_same ?_; (first | (refine hK _ _ ?_; clear hK K) | (clear hK K; refine hK _ _ ?_; clear hK K) | (clear hK K; clear hK K; refine hK _ _ ?_; clear hK K) | (clear hK K; clear hK K; clear hK K; refine hK _ _ ?_; clear hK K) | (clear hK K; clear hK K; clear hK K; clear hK K; refine hK _ _ ?_; clear hK K) | (clear hK K; clear hK K; clear hK K; clear hK K; clear hK K; refine hK _ _ ?_; clear hK K) | skip)) | (refine o_binT rfl rfl rfl rfl ?_ ?_ <;> intro _) | refine o_load rfl rfl rfl (by first | exact hl.cell 0 rfl rfl | exact hl.cell 1 rfl rfl | exact hl.cell 2 rfl rfl | exact hl.cell 3 rfl rfl | exact hl.cell 4 rfl rfl | exact hl.cell 5 rfl rfl | exact hl.cell 6 rfl rfl | exact hl.cell 7 rfl rfl | exact hl.cell 8 rfl rfl | exact hl.cell 9 rfl rfl) ?_ | (refine o_put1 hl rfl rfl (by conv => lhs; whnf) (by first | exact ⟨rfl, rfl⟩ | exact cell1_str _) rfl (by repeat (first | exact Put.here rfl (by conv => lhs; simp only [List.set_cons_zero, List.set_cons_succ, Nat.reduceAdd, Nat.zero_add]) | apply Put.there)) ?_; clear hl; intro _ hl) | refine o_ix (by omega) rfl rfl rfl rfl rfl ?_ | fail)
      refine o_alloc hl [.int .i64 0, .string ⟨#[]⟩, .int .i64 0, .int .i64 0] rfl rfl ?_
      clear hl
      intro x w3 hxx hl
      refine o_putN (us := tokL (found at_ (text.drop at_)).tok) hl rfl rfl rfl (tkL_one _) rfl (.all rfl rfl) ?_
      clear hl
      intro w4 hl
      repeat' (first | refine o_mov rfl (by conv => lhs; whnf) ?_ | refine o_asg rfl (by conv => lhs; whnf) ?_ | refine o_binN rfl rfl rfl rfl (by omega) ?_ | refine o_notd rfl rfl ?_ | refine o_notb rfl rfl ?_ | refine o_nilc rfl rfl ?_ | refine o_fa2 rfl rfl (by conv => lhs; whnf; arg 1; whnf) (by first | (conv => lhs; simp only [Nat.reduceAdd, Nat.zero_add, Nat.add_zero]) | rfl) ?_ | refine o_ext rfl rfl (by conv => lhs; whnf) ?_ | refine o_lenv rfl rfl rfl ?_ | refine o_lens rfl rfl rfl ?_ | refine o_pick_t rfl rfl (by conv => lhs; whnf) ?_ | refine o_pick_f rfl rfl (by conv => lhs; whnf) ?_ | refine o_not rfl ?_ | refine o_nilf rfl rfl ?_ | (refine o_nil (hK _ _ ?_); clear hK K) | refine wk_reg ?_ | refine wk_seq fun K hK => ?_ | (refine wk_skip (hK _ _ ?_); clear hK K) | (refine wk_label (hK _ _ ?_); clear hK K) | refine wk_scope ?_ | refine wk_block ?_ | refine wk_cond_t rfl ?_ | refine wk_cond_f rfl ?_ | (refine wk_exit ?_; (repeat (refine blockK_other rfl ?_)); refine blockK_same ?_; (first | (refine hK _ _ ?_; clear hK K) | (clear hK K; refine hK _ _ ?_; clear hK K) | (clear hK K; clear hK K; refine hK _ _ ?_; clear hK K) | (clear hK K; clear hK K; clear hK K; refine hK _ _ ?_; clear hK K) | (clear hK K; clear hK K; clear hK K; clear hK K; refine hK _ _ ?_; clear hK K) | (clear hK K; clear hK K; clear hK K; clear hK K; clear hK K; refine hK _ _ ?_; clear hK K) | skip)) | (refine o_binT rfl rfl rfl rfl ?_ ?_ <;> intro _) | refine o_load rfl rfl rfl (by first | exact hl.cell 0 rfl rfl | exact hl.cell 1 rfl rfl | exact hl.cell 2 rfl rfl | exact hl.cell 3 rfl rfl | exact hl.cell 4 rfl rfl | exact hl.cell 5 rfl rfl | exact hl.cell 6 rfl rfl | exact hl.cell 7 rfl rfl | exact hl.cell 8 rfl rfl | exact hl.cell 9 rfl rfl) ?_ | (refine o_put1 hl rfl rfl (by conv => lhs; whnf) (by first | exact ⟨rfl, rfl⟩ | exact cell1_str _) rfl (by repeat (first | exact Put.here rfl (by conv => lhs; simp only [List.set_cons_zero, List.set_cons_succ, Nat.reduceAdd, Nat.zero_add]) | apply Put.there)) ?_; clear hl; intro _ hl) | refine o_ix (by omega) rfl rfl rfl rfl rfl ?_ | fail)
      · rename_i h; exact absurd rfl h
      · refine wk_ret (retQ_res [.slice none 0 0, .int .i64 2, .int .i64 (at_ : Int)] rfl rfl ⟨by decide, rfl, by decide, rfl, by decide, rfl, trivial⟩ ⟨hl.done, ?_⟩)
        have : lex text = .bad 2 (at_ : Int) := by
          rw [hlex]
          simp only [gather, found, herr, ne_eq, not_true_eq_false, if_false]
          rw [if_pos (by omega)]
        rw [this]; rfl
      have h5 : toks.length ≠ 5000 := by omega
      refine o_loadN (vs := tokL (found at_ (text.drop at_)).tok) rfl rfl rfl rfl (hl.rowL (vs := tokL (found at_ (text.drop at_)).tok) 0 0 4 rfl) ?_
      refine o_buildSlice hl (tokL (found at_ (text.drop at_)).tok) rfl rfl (by simp only [tokL, str_eq]; kernel_rfl) ?_
      intro b w5 hb hl2
      refine o_append (bl' := [(b, .cells (tokL (found at_ (text.drop at_)).tok).toArray 65 (0, 0)), (x, .cells (tokL (found at_ (text.drop at_)).tok).toArray 65 (0, 0))]) (q := 1) (bytes := 40) (us := tokL (found at_ (text.drop at_)).tok) hl2 hacc (hl2.rowL (vs := tokL (found at_ (text.drop at_)).tok) 0 0 4 rfl) rfl (tkL_one _) (by omega) (by omega) (by omega) rfl rfl rfl rfl rfl ?_
      clear hl hl2
      intro v' w6 acc' hl ha'
      obtain ⟨a1, c1, hv1⟩ := ha'.shape
      subst hv1
      repeat (first | refine o_mov rfl (by conv => lhs; whnf) ?_ | refine o_asg rfl (by conv => lhs; whnf) ?_ | refine o_binC rfl rfl rfl rfl ?_ | refine o_binN rfl rfl rfl rfl (by omega) ?_ | refine o_notd rfl rfl ?_ | refine o_notb rfl rfl ?_ | refine o_nilc rfl rfl ?_ | refine o_fa rfl rfl rfl ?_ | refine o_ext rfl rfl (by conv => lhs; whnf) ?_ | refine o_lenv rfl rfl rfl ?_ | refine o_lens rfl rfl rfl ?_ | refine o_eqs rfl rfl rfl ?_ | refine o_nes rfl rfl rfl ?_ | refine o_pick_t rfl rfl (by conv => lhs; whnf) ?_ | refine o_pick_f rfl rfl (by conv => lhs; whnf) ?_ | refine o_not rfl ?_ | refine o_nilf rfl rfl ?_)
      (refine o_nil (hK _ _ ?_); clear hK K)
      refine wk_reg ?_
      refine o_mov rfl (by conv => lhs; whnf) ?_
      refine o_fa2 rfl rfl (by conv => lhs; whnf; arg 1; whnf) (by first | (conv => lhs; simp only [Nat.reduceAdd, Nat.zero_add, Nat.add_zero]) | rfl) ?_
      refine o_load rfl rfl rfl (hl.rowL (vs := tokL (found at_ (text.drop at_)).tok) 1 0 4 rfl 1 _ rfl) ?_
      have htl : ((text.drop at_).take (one (text.drop at_)).len).length = (one (text.drop at_)).len := by rw [List.length_take, List.length_drop]; omega
      refine o_lens (a := (text.drop at_).take (one (text.drop at_)).len) rfl rfl rfl ?_
      rw [htl]
      repeat' (first | refine o_mov rfl (by conv => lhs; whnf) ?_ | refine o_asg rfl (by conv => lhs; whnf) ?_ | refine o_binN rfl rfl rfl rfl (by omega) ?_ | refine o_notd rfl rfl ?_ | refine o_notb rfl rfl ?_ | refine o_nilc rfl rfl ?_ | refine o_fa2 rfl rfl (by conv => lhs; whnf; arg 1; whnf) (by first | (conv => lhs; simp only [Nat.reduceAdd, Nat.zero_add, Nat.add_zero]) | rfl) ?_ | refine o_ext rfl rfl (by conv => lhs; whnf) ?_ | refine o_lenv rfl rfl rfl ?_ | refine o_lens rfl rfl rfl ?_ | refine o_pick_t rfl rfl (by conv => lhs; whnf) ?_ | refine o_pick_f rfl rfl (by conv => lhs; whnf) ?_ | refine o_not rfl ?_ | refine o_nilf rfl rfl ?_ | (refine o_nil (hK _ _ ?_); clear hK K) | refine wk_reg ?_ | refine wk_seq fun K hK => ?_ | (refine wk_skip (hK _ _ ?_); clear hK K) | (refine wk_label (hK _ _ ?_); clear hK K) | refine wk_scope ?_ | refine wk_block ?_ | refine wk_cond_t rfl ?_ | refine wk_cond_f rfl ?_ | (refine wk_exit ?_; (repeat (refine blockK_other rfl ?_)); refine blockK_same ?_; (first | (refine hK _ _ ?_; clear hK K) | (clear hK K; refine hK _ _ ?_; clear hK K) | (clear hK K; clear hK K; refine hK _ _ ?_; clear hK K) | (clear hK K; clear hK K; clear hK K; refine hK _ _ ?_; clear hK K) | (clear hK K; clear hK K; clear hK K; clear hK K; refine hK _ _ ?_; clear hK K) | (clear hK K; clear hK K; clear hK K; clear hK K; clear hK K; refine hK _ _ ?_; clear hK K) | skip)) | (refine o_binT rfl rfl rfl rfl ?_ ?_ <;> intro _) | refine o_load rfl rfl rfl (by first | exact hl.cell 0 rfl rfl | exact hl.cell 1 rfl rfl | exact hl.cell 2 rfl rfl | exact hl.cell 3 rfl rfl | exact hl.cell 4 rfl rfl | exact hl.cell 5 rfl rfl | exact hl.cell 6 rfl rfl | exact hl.cell 7 rfl rfl | exact hl.cell 8 rfl rfl | exact hl.cell 9 rfl rfl) ?_ | (refine o_put1 hl rfl rfl (by conv => lhs; whnf) (by first | exact ⟨rfl, rfl⟩ | exact cell1_str _) rfl (by repeat (first | exact Put.here rfl (by conv => lhs; simp only [List.set_cons_zero, List.set_cons_succ, Nat.reduceAdd, Nat.zero_add]) | apply Put.there)) ?_; clear hl; intro _ hl) | refine o_ix (by omega) rfl rfl rfl rfl rfl ?_ | fail)
      refine o_fn (gap_calls text (at_ + (one (text.drop at_)).len) hn (by omega) _) rfl (fun _ => rfl) rfl ?_
      rintro _ w7 ⟨rfl, rfl⟩
      have hl3 := skip_length false (text.drop (at_ + (one (text.drop at_)).len))
      rw [List.length_drop] at hl3
      generalize hat2 : text.length - (skip false (text.drop (at_ + (one (text.drop at_)).len))).length = at2
      have hsd := skip_drop (s := text.drop (at_ + (one (text.drop at_)).len)) rfl
      rw [List.length_drop, List.drop_drop] at hsd
      have hd2 : text.drop at2 = skip false (text.drop (at_ + (one (text.drop at_)).len)) := by
        rw [← hsd]; congr 1; omega
      repeat' (first | refine o_mov rfl (by conv => lhs; whnf) ?_ | refine o_asg rfl (by conv => lhs; whnf) ?_ | refine o_binN rfl rfl rfl rfl (by omega) ?_ | refine o_notd rfl rfl ?_ | refine o_notb rfl rfl ?_ | refine o_nilc rfl rfl ?_ | refine o_fa2 rfl rfl (by conv => lhs; whnf; arg 1; whnf) (by first | (conv => lhs; simp only [Nat.reduceAdd, Nat.zero_add, Nat.add_zero]) | rfl) ?_ | refine o_ext rfl rfl (by conv => lhs; whnf) ?_ | refine o_lenv rfl rfl rfl ?_ | refine o_lens rfl rfl rfl ?_ | refine o_pick_t rfl rfl (by conv => lhs; whnf) ?_ | refine o_pick_f rfl rfl (by conv => lhs; whnf) ?_ | refine o_not rfl ?_ | refine o_nilf rfl rfl ?_ | (refine o_nil (hK _ _ ?_); clear hK K) | refine wk_reg ?_ | refine wk_seq fun K hK => ?_ | (refine wk_skip (hK _ _ ?_); clear hK K) | (refine wk_label (hK _ _ ?_); clear hK K) | refine wk_scope ?_ | refine wk_block ?_ | refine wk_cond_t rfl ?_ | refine wk_cond_f rfl ?_ | (refine wk_exit ?_; (repeat (refine blockK_other rfl ?_)); refine blockK_same ?_; (first | (refine hK _ _ ?_; clear hK K) | (clear hK K; refine hK _ _ ?_; clear hK K) | (clear hK K; clear hK K; refine hK _ _ ?_; clear hK K) | (clear hK K; clear hK K; clear hK K; refine hK _ _ ?_; clear hK K) | (clear hK K; clear hK K; clear hK K; clear hK K; refine hK _ _ ?_; clear hK K) | (clear hK K; clear hK K; clear hK K; clear hK K; clear hK K; refine hK _ _ ?_; clear hK K) | skip)) | (refine o_binT rfl rfl rfl rfl ?_ ?_ <;> intro _) | refine o_load rfl rfl rfl (by first | exact hl.cell 0 rfl rfl | exact hl.cell 1 rfl rfl | exact hl.cell 2 rfl rfl | exact hl.cell 3 rfl rfl | exact hl.cell 4 rfl rfl | exact hl.cell 5 rfl rfl | exact hl.cell 6 rfl rfl | exact hl.cell 7 rfl rfl | exact hl.cell 8 rfl rfl | exact hl.cell 9 rfl rfl) ?_ | (refine o_put1 hl rfl rfl (by conv => lhs; whnf) (by first | exact ⟨rfl, rfl⟩ | exact cell1_str _) rfl (by repeat (first | exact Put.here rfl (by conv => lhs; simp only [List.set_cons_zero, List.set_cons_succ, Nat.reduceAdd, Nat.zero_add]) | apply Put.there)) ?_; clear hl; intro _ hl) | refine o_ix (by omega) rfl rfl rfl rfl rfl ?_ | fail)
      have e1 : (toks ++ [(found at_ (text.drop at_)).tok]).length = toks.length + 1 := by simp
      have e2 : toksL (toks ++ [(found at_ (text.drop at_)).tok]) = toksL toks ++ tokL (found at_ (text.drop at_)).tok := by simp [toksL]
      refine o_nil ⟨(toks ++ [(found at_ (text.drop at_)).tok], at2, .slice a1 (toks.length + 1) c1), ⟨rfl, rfl, rfl, trivial⟩, rfl, ⟨⟨by simp only; omega, by simp only; rw [e1]; omega, ?_, ?_⟩, acc', hl.sub ((List.sublist_cons_self _ _).trans (List.sublist_cons_self _ _)), ?_⟩, by simp only; omega⟩
      · simp only; rw [hd2]; exact skip_skip _ _
      · simp only
        rw [hlex]
        simp only [gather, found, herr, ne_eq, not_true_eq_false, if_false]
        rw [if_neg h5, List.drop_drop, hd2]
        congr 1
        have hl4 : (skip false (text.drop (at_ + (one (text.drop at_)).len))).length = text.length - at2 := by omega
        rw [← hl4]
        rw [founds_fuel (text.length - at_ - 1) (text.drop (at_ + (one (text.drop at_)).len)).length _ _ (by rw [List.length_drop]; omega) (Nat.le_refl _)]
        rw [founds_fuel _ (text.drop (at_ + (one (text.drop at_)).len)).length at2 (skip false (text.drop (at_ + (one (text.drop at_)).len))) (Nat.le_refl _) (skip_length _ _)]
        exact founds_congr (skip_skip _ _).symm (by rw [List.length_drop]; omega) (Nat.le_refl _) (skip_length _ _)
      · simp only; rw [e1, e2]; exact ha'
    · have hnx : nextV text at_ = .tuple #[.agg #[.int .i64 0, .string ⟨#[]⟩, .int .i64 0, .int .i64 0], .int .i64 ((one (text.drop at_)).err : Int)] := by unfold nextV; rw [if_neg herr]
      rw [hnx]
      repeat' (first | refine o_mov rfl (by conv => lhs; whnf) ?_ | refine o_asg rfl (by conv => lhs; whnf) ?_ | refine o_binN rfl rfl rfl rfl (by omega) ?_ | refine o_notd rfl rfl ?_ | refine o_notb rfl rfl ?_ | refine o_nilc rfl rfl ?_ | refine o_fa2 rfl rfl (by conv => lhs; whnf; arg 1; whnf) (by first | (conv => lhs; simp only [Nat.reduceAdd, Nat.zero_add, Nat.add_zero]) | rfl) ?_ | refine o_ext rfl rfl (by conv => lhs; whnf) ?_ | refine o_lenv rfl rfl rfl ?_ | refine o_lens rfl rfl rfl ?_ | refine o_pick_t rfl rfl (by conv => lhs; whnf) ?_ | refine o_pick_f rfl rfl (by conv => lhs; whnf) ?_ | refine o_not rfl ?_ | refine o_nilf rfl rfl ?_ | (refine o_nil (hK _ _ ?_); clear hK K) | refine wk_reg ?_ | refine wk_seq fun K hK => ?_ | (refine wk_skip (hK _ _ ?_); clear hK K) | (refine wk_label (hK _ _ ?_); clear hK K) | refine wk_scope ?_ | refine wk_block ?_ | refine wk_cond_t rfl ?_ | refine wk_cond_f rfl ?_ | (refine wk_exit ?_; (repeat (refine blockK_other rfl ?_)); refine blockK_same ?_; (first | (refine hK _ _ ?_; clear hK K) | (clear hK K; refine hK _ _ ?_; clear hK K) | (clear hK K; clear hK K; refine hK _ _ ?_; clear hK K) | (clear hK K; clear hK K; clear hK K; refine hK _ _ ?_; clear hK K) | (clear hK K; clear hK K; clear hK K; clear hK K; refine hK _ _ ?_; clear hK K) | (clear hK K; clear hK K; clear hK K; clear hK K; clear hK K; refine hK _ _ ?_; clear hK K) | skip)) | (refine o_binT rfl rfl rfl rfl ?_ ?_ <;> intro _) | refine o_load rfl rfl rfl (by first | exact hl.cell 0 rfl rfl | exact hl.cell 1 rfl rfl | exact hl.cell 2 rfl rfl | exact hl.cell 3 rfl rfl | exact hl.cell 4 rfl rfl | exact hl.cell 5 rfl rfl | exact hl.cell 6 rfl rfl | exact hl.cell 7 rfl rfl | exact hl.cell 8 rfl rfl | exact hl.cell 9 rfl rfl) ?_ | (refine o_put1 hl rfl rfl (by conv => lhs; whnf) (by first | exact ⟨rfl, rfl⟩ | exact cell1_str _) rfl (by repeat (first | exact Put.here rfl (by conv => lhs; simp only [List.set_cons_zero, List.set_cons_succ, Nat.reduceAdd, Nat.zero_add]) | apply Put.there)) ?_; clear hl; intro _ hl) | refine o_ix (by omega) rfl rfl rfl rfl rfl ?_ | fail)
      refine o_alloc hl [.int .i64 0, .string ⟨#[]⟩, .int .i64 0, .int .i64 0] rfl rfl ?_
      clear hl
      intro x w3 hxx hl
      refine o_putN (us := [.int .i64 0, .string ⟨#[]⟩, .int .i64 0, .int .i64 0]) hl rfl rfl rfl rfl rfl (.all rfl rfl) ?_
      clear hl
      intro w4 hl
      repeat' (first | refine o_mov rfl (by conv => lhs; whnf) ?_ | refine o_asg rfl (by conv => lhs; whnf) ?_ | refine o_binN rfl rfl rfl rfl (by omega) ?_ | refine o_notd rfl rfl ?_ | refine o_notb rfl rfl ?_ | refine o_nilc rfl rfl ?_ | refine o_fa2 rfl rfl (by conv => lhs; whnf; arg 1; whnf) (by first | (conv => lhs; simp only [Nat.reduceAdd, Nat.zero_add, Nat.add_zero]) | rfl) ?_ | refine o_ext rfl rfl (by conv => lhs; whnf) ?_ | refine o_lenv rfl rfl rfl ?_ | refine o_lens rfl rfl rfl ?_ | refine o_pick_t rfl rfl (by conv => lhs; whnf) ?_ | refine o_pick_f rfl rfl (by conv => lhs; whnf) ?_ | refine o_not rfl ?_ | refine o_nilf rfl rfl ?_ | (refine o_nil (hK _ _ ?_); clear hK K) | refine wk_reg ?_ | refine wk_seq fun K hK => ?_ | (refine wk_skip (hK _ _ ?_); clear hK K) | (refine wk_label (hK _ _ ?_); clear hK K) | refine wk_scope ?_ | refine wk_block ?_ | refine wk_cond_t rfl ?_ | refine wk_cond_f rfl ?_ | (refine wk_exit ?_; (repeat (refine blockK_other rfl ?_)); refine blockK_same ?_; (first | (refine hK _ _ ?_; clear hK K) | (clear hK K; refine hK _ _ ?_; clear hK K) | (clear hK K; clear hK K; refine hK _ _ ?_; clear hK K) | (clear hK K; clear hK K; clear hK K; refine hK _ _ ?_; clear hK K) | (clear hK K; clear hK K; clear hK K; clear hK K; refine hK _ _ ?_; clear hK K) | (clear hK K; clear hK K; clear hK K; clear hK K; clear hK K; refine hK _ _ ?_; clear hK K) | skip)) | (refine o_binT rfl rfl rfl rfl ?_ ?_ <;> intro _) | refine o_load rfl rfl rfl (by first | exact hl.cell 0 rfl rfl | exact hl.cell 1 rfl rfl | exact hl.cell 2 rfl rfl | exact hl.cell 3 rfl rfl | exact hl.cell 4 rfl rfl | exact hl.cell 5 rfl rfl | exact hl.cell 6 rfl rfl | exact hl.cell 7 rfl rfl | exact hl.cell 8 rfl rfl | exact hl.cell 9 rfl rfl) ?_ | (refine o_put1 hl rfl rfl (by conv => lhs; whnf) (by first | exact ⟨rfl, rfl⟩ | exact cell1_str _) rfl (by repeat (first | exact Put.here rfl (by conv => lhs; simp only [List.set_cons_zero, List.set_cons_succ, Nat.reduceAdd, Nat.zero_add]) | apply Put.there)) ?_; clear hl; intro _ hl) | refine o_ix (by omega) rfl rfl rfl rfl rfl ?_ | fail)
      · refine wk_ret (retQ_res [.slice none 0 0, .int .i64 ((one (text.drop at_)).err : Int), .int .i64 (at_ : Int)] rfl rfl ⟨by decide, rfl, by decide, rfl, by decide, rfl, trivial⟩ ⟨hl.done, ?_⟩)
        have : lex text = .bad (one (text.drop at_)).err (at_ : Int) := by
          rw [hlex]
          simp only [gather, found, herr, ne_eq, not_false_eq_true, if_true]
        rw [this]; rfl
      all_goals (exfalso; omega)
  · have hle : at_ = text.length := by omega
    refine wk_ret (retQ_res [.slice a0 toks.length c0, .int .i64 0, .int .i64 0] rfl rfl ⟨by decide, rfl, by decide, rfl, by decide, rfl, trivial⟩ ⟨hl.done, ?_⟩)
    have : lex text = .ok toks := by
      rw [hlex, hle, Nat.sub_self]; rfl
    rw [this]
    exact ⟨_, rfl, hl.acc_sl hacc⟩
end Go.Proofs
