/-
  The statement about texts, walked.
-/
import Derived.Test.YtebaoilkpedppaaGreatDoorStAf
import Derived.Test.YtebaoilkpedppaaGreatDoorStY
set_option linter.unusedVariables false
set_option linter.unusedSimpArgs false
set_option linter.unnecessarySimpa false
set_option maxRecDepth 10000
namespace Go.Sta
open Go.Lexs (Tok lex)
/-! ### Errors are errors -/
def BadNe {α : Type} (read : List Tok → Rd α) : Prop := ∀ ts e a, read ts = .bad e a → e ≠ 0
theorem failR_ne {α : Type} {en : Int} : BadNe (failR (α := α) en) := fun ts e a hb => by
  cases hb
  cases ts <;> simp [failE]
theorem sevTail_ne {w : Tx} {read : List Tok → Rd Sn} (hb : BadNe read) : ∀ (n : Nat) (acc : List Sn), BadNe (sevTail w read n acc)
  | 0, acc => fun ts e a he => nomatch he
  | n + 1, acc => fun ts e a he => by
    simp only [sevTail] at he
    split at he
    · cases hr : read ts.tail with
      | bad e2 a2 => rw [hr] at he; cases he; exact hb _ _ _ hr
      | ok x r2 => rw [hr] at he; exact sevTail_ne hb n _ _ _ _ he
    · cases he
theorem sev_ne {w : Tx} {op : Int} {read : List Tok → Rd Sn} (hb : BadNe read) : BadNe (sev w op read) := fun ts e a he => by
  unfold sev at he
  cases hr : read ts with
  | bad e2 a2 => rw [hr] at he; cases he; exact hb _ _ _ hr
  | ok y r1 =>
    rw [hr] at he
    simp only at he
    cases ht : sevTail w read r1.length [y] r1 with
    | bad e2 a2 => rw [ht] at he; cases he; exact sevTail_ne hb _ _ _ _ _ ht
    | ok l r2 => rw [ht] at he; cases he
theorem takeT_ne {en : Int} {k : Nat} : BadNe (takeT en k) := fun ts e a he => by
  cases ts with
  | nil => exact failR_ne [] e a he
  | cons t r =>
    simp only [takeT] at he
    split at he
    · cases he
    · exact failR_ne _ e a he
theorem wordR_ne {en : Int} (op : Int) : BadNe (wordR en op) := fun ts e a he => by
  unfold wordR at he
  split at he
  · cases ht : takeT en 2 ts with
    | bad e2 a2 => rw [ht] at he; cases he; exact takeT_ne _ _ _ ht
    | ok t r2 =>
      rw [ht] at he
      simp only at he
      split at he
      · cases he; decide
      · cases he
  · split at he
    · cases ht : takeT en 1 ts with
      | bad e2 a2 => rw [ht] at he; cases he; exact takeT_ne _ _ _ ht
      | ok t r2 => rw [ht] at he; cases he
    · cases he
theorem pOne_ne (en : Int) : ∀ f, BadNe (pOne en f)
  | 0 => failR_ne
  | f + 1 => fun ts e a he => by
    simp only [pOne] at he
    split at he
    · cases hs : sev kOr 9 (sev kAnd 8 (pOne en f)) ts.tail with
      | bad e2 a2 => rw [hs] at he; cases he; exact sev_ne (sev_ne (pOne_ne en f)) _ _ _ hs
      | ok s r2 =>
        rw [hs] at he
        simp only at he
        split at he
        · cases he
        · exact failR_ne _ _ _ he
    · cases hf : wordL.find? fun p => isT p.1 ts with
      | none => rw [hf] at he; exact failR_ne _ _ _ he
      | some p => rw [hf] at he; exact wordR_ne p.2 _ _ _ he
theorem parse_ne {t : Tx} {e a : Int} (h : parse t = .inr (e, a)) : e ≠ 0 := by
  unfold parse at h
  cases hl : lex t with
  | bad e2 a2 =>
    rw [hl] at h
    cases h
    have := Go.Proofs.lex_ne hl
    omega
  | ok ts =>
    rw [hl] at h
    simp only at h
    unfold parseT at h
    cases hr : pStart t.length (ts.length + 1) ts with
    | bad e2 a2 => rw [hr] at h; cases h; exact sev_ne (sev_ne (pOne_ne _ _)) _ _ _ hr
    | ok s r =>
      rw [hr] at h
      simp only at h
      split at h
      · split at h
        · cases h
        · cases h; decide
      · cases h
        cases r <;> simp [failE]
theorem parse_fit {t : Tx} {s : Sn} (h : parse t = .inl s) : fitS s := by
  unfold parse at h
  cases hl : lex t with
  | bad e2 a2 => rw [hl] at h; cases h
  | ok ts =>
    rw [hl] at h
    simp only at h
    obtain ⟨h1, h2⟩ := lex_tok hl
    unfold parseT at h
    cases hr : pStart t.length (ts.length + 1) ts with
    | bad e2 a2 => rw [hr] at h; cases h
    | ok s2 r =>
      rw [hr] at h
      simp only at h
      have := pStart_good _ _ _ _ _ h1 h2 hr
      split at h
      · split at h
        · cases h; exact this.1
        · cases h
      · cases h
end Go.Sta
namespace Go.Proofs
open Go Go.Pd Go.Sta
attribute [local irreducible] OpsL W RetQ OpsQ OpsC
theorem Text_calls2 {s : Sn} {w : World} {kv : Value} (hk : KA w s.kids kv) (hfit : fitS s) (ht : Tabs w) : Calls Tryz.prog 10 #[.agg (snL s kv).toArray] w (fun e w' => ∃ v, e = .returned v ∧ ∃ (sa : Tx) (ea : Int), v = .tuple #[str sa, .int .i64 ea] ∧ (validB s = true → sa = textS s ∧ ea = 0) ∧ (validB s = false → ea = 1) ∧ Ext w w') := by
  refine Calls.mono (Text_calls hk hfit ht) ?_
  rintro e w' ⟨v, he, hv, hx⟩
  cases h : validB s
  · rw [h, if_neg (by decide)] at hv
    exact ⟨v, he, [], 1, hv, (fun h => nomatch h), fun _ => rfl, hx⟩
  · rw [h, if_pos rfl] at hv
    exact ⟨v, he, textS s, 0, hv, fun _ => ⟨rfl, rfl⟩, (fun h => nomatch h), hx⟩
set_option maxHeartbeats 8000000 in
theorem Texts_calls {a b : Sn} {text : Tx} {av bv : Value} {w : World} (ht : Tabs w) (ha : SnIn w a av) (hb : SnIn w b bv) :
    Calls Tryz.prog 3 #[.agg (snL a av).toArray, .agg (snL b bv).toArray, str text] w (fun e w' => ∃ v, e = .returned v ∧ v = .bool true ∧ Ext w w') := by
  obtain ⟨hka, hfa⟩ := ha
  obtain ⟨hkb, hfb⟩ := hb
  obtain ⟨aa, ac, rfl, -⟩ := hka.shape
  obtain ⟨ba, bc, rfl, -⟩ := hkb.shape
  refine calls_of Tryz.func3 rfl Tryz.ntmps3 rfl ?_
  refine wk_seq fun K hK => ?_
  refine wk_reg ?_
  refine o_box (LH.start w (fun _ => False)) (snL a (.slice aa a.kids.length ac)) rfl rfl rfl ?_
  intro b3 w1 hb3 hl
  refine o_box hl (snL b (.slice ba b.kids.length bc)) rfl rfl rfl ?_
  clear hl
  intro b4 w2 hb4 hl
  have hra : Row w2 b3 0 (snL a (.slice aa a.kids.length ac)) := hl.rowL (vs := snL a (.slice aa a.kids.length ac)) 1 0 4 rfl
  have hrb : Row w2 b4 0 (snL b (.slice ba b.kids.length bc)) := hl.rowL (vs := snL b (.slice ba b.kids.length bc)) 0 0 4 rfl
  have hx2 := hl.done
  clear hl
  refine a_asg ?_
  refine o_nil (hK _ _ ?_)
  clear hK K
  refine wk_seq fun K hK => ?_
  refine wk_reg ?_
  refine a_fn (head_calls (ht.ext hx2)) ?_
  rintro _ w3 ⟨rfl, hx3⟩
  refine a_asg ?_
  refine o_nil (hK _ _ ?_)
  clear hK K
  refine wk_seq fun K hK => ?_
  refine wk_cut [] (fun _ : Unit => [(2, str text), (3, .pointer (some ⟨b3, 0, none⟩)), (4, .pointer (some ⟨b4, 0, none⟩)), (7, .bool true)]) (fun _ w' => Ext w3 w') ?_ ?_
  · refine wk_seq fun K2 hK2 => ?_
    refine wk_reg ?_
    refine a_all (hra.ext hx3) ?_
    refine a_fn (few_calls ((hka.ext hx2).ext hx3)) ?_
    rintro _ w4 ⟨bf, rfl, -, hx4⟩
    cases bf
    · repeat' (first | refine a_mov ?_ | refine a_asg ?_ | refine a_binN ?_ | refine a_notd ?_ | refine a_notb ?_ | refine a_nilc ?_ | refine a_fa ?_ | refine a_ext ?_ | refine a_lenv ?_ | refine a_lens ?_ | refine a_pick_t ?_ | refine a_pick_f ?_ | refine a_not ?_ | refine a_nilf ?_ | (refine a_bin ?_ ?_ <;> intro _ <;> try (exfalso; omega)) | refine a_ld hl ?_ | (refine a_st hl ?_; clear hl; intro _ hl) | refine a_ix (fun _ => ?_) | fail)
      refine o_nil (hK2 _ _ ?_)
      clear hK2 K2
      refine wk_cond_t rfl ?_
      refine wk_seq fun K2 hK2 => ?_
      refine wk_reg ?_
      repeat' (first | refine a_mov ?_ | refine a_asg ?_ | refine a_binN ?_ | refine a_notd ?_ | refine a_notb ?_ | refine a_nilc ?_ | refine a_fa ?_ | refine a_ext ?_ | refine a_lenv ?_ | refine a_lens ?_ | refine a_pick_t ?_ | refine a_pick_f ?_ | refine a_not ?_ | refine a_nilf ?_ | (refine a_bin ?_ ?_ <;> intro _ <;> try (exfalso; omega)) | refine a_ld hl ?_ | (refine a_st hl ?_; clear hl; intro _ hl) | refine a_ix (fun _ => ?_) | fail)
      refine o_nil (hK2 _ _ ?_)
      refine wk_ret (retQ_tmp1 Tryz.results3 (by decide) rfl (by conv => lhs; whnf) ?_)
      exact ⟨rfl, (hx2.trans hx3).trans hx4⟩
    · repeat' (first | refine a_mov ?_ | refine a_asg ?_ | refine a_binN ?_ | refine a_notd ?_ | refine a_notb ?_ | refine a_nilc ?_ | refine a_fa ?_ | refine a_ext ?_ | refine a_lenv ?_ | refine a_lens ?_ | refine a_pick_t ?_ | refine a_pick_f ?_ | refine a_not ?_ | refine a_nilf ?_ | (refine a_bin ?_ ?_ <;> intro _ <;> try (exfalso; omega)) | refine a_ld hl ?_ | (refine a_st hl ?_; clear hl; intro _ hl) | refine a_ix (fun _ => ?_) | fail)
      refine a_all ((hrb.ext hx3).ext hx4) ?_
      refine a_fn (few_calls (((hkb.ext hx2).ext hx3).ext hx4)) ?_
      rintro _ w5 ⟨bf, rfl, -, hx5⟩
      cases bf
      · repeat' (first | refine a_mov ?_ | refine a_asg ?_ | refine a_binN ?_ | refine a_notd ?_ | refine a_notb ?_ | refine a_nilc ?_ | refine a_fa ?_ | refine a_ext ?_ | refine a_lenv ?_ | refine a_lens ?_ | refine a_pick_t ?_ | refine a_pick_f ?_ | refine a_not ?_ | refine a_nilf ?_ | (refine a_bin ?_ ?_ <;> intro _ <;> try (exfalso; omega)) | refine a_ld hl ?_ | (refine a_st hl ?_; clear hl; intro _ hl) | refine a_ix (fun _ => ?_) | fail)
        refine o_nil (hK2 _ _ ?_)
        clear hK2 K2
        refine wk_cond_t rfl ?_
        refine wk_seq fun K2 hK2 => ?_
        refine wk_reg ?_
        repeat' (first | refine a_mov ?_ | refine a_asg ?_ | refine a_binN ?_ | refine a_notd ?_ | refine a_notb ?_ | refine a_nilc ?_ | refine a_fa ?_ | refine a_ext ?_ | refine a_lenv ?_ | refine a_lens ?_ | refine a_pick_t ?_ | refine a_pick_f ?_ | refine a_not ?_ | refine a_nilf ?_ | (refine a_bin ?_ ?_ <;> intro _ <;> try (exfalso; omega)) | refine a_ld hl ?_ | (refine a_st hl ?_; clear hl; intro _ hl) | refine a_ix (fun _ => ?_) | fail)
        refine o_nil (hK2 _ _ ?_)
        refine wk_ret (retQ_tmp1 Tryz.results3 (by decide) rfl (by conv => lhs; whnf) ?_)
        exact ⟨rfl, ((hx2.trans hx3).trans hx4).trans hx5⟩
      · repeat' (first | refine a_mov ?_ | refine a_asg ?_ | refine a_binN ?_ | refine a_notd ?_ | refine a_notb ?_ | refine a_nilc ?_ | refine a_fa ?_ | refine a_ext ?_ | refine a_lenv ?_ | refine a_lens ?_ | refine a_pick_t ?_ | refine a_pick_f ?_ | refine a_not ?_ | refine a_nilf ?_ | (refine a_bin ?_ ?_ <;> intro _ <;> try (exfalso; omega)) | refine a_ld hl ?_ | (refine a_st hl ?_; clear hl; intro _ hl) | refine a_ix (fun _ => ?_) | fail)
        · refine o_nil (hK2 _ _ ?_)
          clear hK2 K2
          refine wk_cond_t rfl ?_
          refine wk_seq fun K2 hK2 => ?_
          refine wk_reg ?_
          repeat' (first | refine a_mov ?_ | refine a_asg ?_ | refine a_binN ?_ | refine a_notd ?_ | refine a_notb ?_ | refine a_nilc ?_ | refine a_fa ?_ | refine a_ext ?_ | refine a_lenv ?_ | refine a_lens ?_ | refine a_pick_t ?_ | refine a_pick_f ?_ | refine a_not ?_ | refine a_nilf ?_ | (refine a_bin ?_ ?_ <;> intro _ <;> try (exfalso; omega)) | refine a_ld hl ?_ | (refine a_st hl ?_; clear hl; intro _ hl) | refine a_ix (fun _ => ?_) | fail)
          refine o_nil (hK2 _ _ ?_)
          refine wk_ret (retQ_tmp1 Tryz.results3 (by decide) rfl (by conv => lhs; whnf) ?_)
          exact ⟨rfl, ((hx2.trans hx3).trans hx4).trans hx5⟩
        · refine o_nil (hK2 _ _ ?_)
          clear hK2 K2
          refine wk_cond_f rfl ?_
          exact wk_skip ⟨(), ⟨rfl, rfl, rfl, rfl, trivial⟩, rfl, hx4.trans hx5⟩
  rintro _ t w4 hx34
  refine hK _ _ ?_
  clear hK K
  have hx4 := (hx2.trans hx3).trans hx34
  replace hra := (hra.ext hx3).ext hx34
  replace hrb := (hrb.ext hx3).ext hx34
  clear hx2 hx3 hx34
  refine wk_seq fun K hK => ?_
  refine wk_reg ?_
  refine a_all hra ?_
  refine a_fn (Text_calls2 (hka.ext hx4) hfa (ht.ext hx4)) ?_
  rintro _ w5 ⟨sa, ea, rfl, hva, hva2, hx5⟩
  refine a_mov ?_
  refine a_ext ?_
  refine a_ext ?_
  refine a_asg ?_
  refine a_asg ?_
  refine o_nil (hK _ _ ?_)
  clear hK K
  refine wk_seq fun K hK => ?_
  refine wk_reg ?_
  refine a_all (hrb.ext hx5) ?_
  refine a_fn (Text_calls2 ((hkb.ext hx4).ext hx5) hfb ((ht.ext hx4).ext hx5)) ?_
  rintro _ w6 ⟨sb, eb, rfl, hvb, hvb2, hx6⟩
  refine a_mov ?_
  refine a_ext ?_
  refine a_ext ?_
  refine a_asg ?_
  refine a_asg ?_
  refine o_nil (hK _ _ ?_)
  clear hK K
  replace hra := (hra.ext hx5).ext hx6
  replace hrb := (hrb.ext hx5).ext hx6
  have hx6' := (hx4.trans hx5).trans hx6
  clear hx4 hx5 hx6
  have hkaw := hka.ext hx6'
  have hkbw := hkb.ext hx6'
  refine wk_seq fun K hK => ?_
  refine wk_cut [] (fun _ : Unit => [(2, str text), (3, .pointer (some ⟨b3, 0, none⟩)), (4, .pointer (some ⟨b4, 0, none⟩)), (7, .bool true), (8, str sa), (9, .int .i64 ea), (10, str sb), (11, .int .i64 eb)]) (fun _ w' => Ext w6 w') ?_ ?_
  · refine wk_seq fun K2 hK2 => ?_
    refine wk_reg ?_
    refine a_mov ?_
    cases hv : validB a
    · have hea := hva2 hv
      repeat' (first | refine a_mov ?_ | refine a_asg ?_ | refine a_binN ?_ | refine a_notd ?_ | refine a_notb ?_ | refine a_nilc ?_ | refine a_fa ?_ | refine a_ext ?_ | refine a_lenv ?_ | refine a_lens ?_ | refine a_pick_t ?_ | refine a_pick_f ?_ | refine a_not ?_ | refine a_nilf ?_ | (refine a_bin ?_ ?_ <;> intro _ <;> try (exfalso; omega)) | refine a_ld hl ?_ | (refine a_st hl ?_; clear hl; intro _ hl) | refine a_ix (fun _ => ?_) | refine a_all hra ?_ | fail)
      refine a_fn (valid_calls hkaw hfa) ?_
      rintro _ w7 ⟨rfl, hx7⟩
      rw [hv]
      refine o_neB rfl rfl rfl rfl ?_
      refine o_nil (hK2 _ _ ?_)
      clear hK2 K2
      refine wk_cond_f rfl ?_
      exact wk_skip ⟨(), ⟨rfl, rfl, rfl, rfl, rfl, rfl, rfl, rfl, trivial⟩, rfl, hx7⟩
    · have hea := (hva hv).2
      repeat' (first | refine a_mov ?_ | refine a_asg ?_ | refine a_binN ?_ | refine a_notd ?_ | refine a_notb ?_ | refine a_nilc ?_ | refine a_fa ?_ | refine a_ext ?_ | refine a_lenv ?_ | refine a_lens ?_ | refine a_pick_t ?_ | refine a_pick_f ?_ | refine a_not ?_ | refine a_nilf ?_ | (refine a_bin ?_ ?_ <;> intro _ <;> try (exfalso; omega)) | refine a_ld hl ?_ | (refine a_st hl ?_; clear hl; intro _ hl) | refine a_ix (fun _ => ?_) | refine a_all hra ?_ | fail)
      refine a_fn (valid_calls hkaw hfa) ?_
      rintro _ w7 ⟨rfl, hx7⟩
      rw [hv]
      refine o_neB rfl rfl rfl rfl ?_
      refine o_nil (hK2 _ _ ?_)
      clear hK2 K2
      refine wk_cond_f rfl ?_
      exact wk_skip ⟨(), ⟨rfl, rfl, rfl, rfl, rfl, rfl, rfl, rfl, trivial⟩, rfl, hx7⟩
  rintro _ t w7 hx7
  refine hK _ _ ?_
  clear hK K
  refine wk_seq fun K hK => ?_
  refine wk_cut [] (fun _ : Unit => [(2, str text), (7, .bool true)]) (fun _ w' => Ext w6 w') ?_ ?_
  · refine wk_seq fun K2 hK2 => ?_
    refine wk_reg ?_
    refine a_mov ?_
    cases hv : validB a
    · have hea := hva2 hv
      repeat' (first | refine a_mov ?_ | refine a_asg ?_ | refine a_binN ?_ | refine a_notd ?_ | refine a_notb ?_ | refine a_nilc ?_ | refine a_fa ?_ | refine a_ext ?_ | refine a_lenv ?_ | refine a_lens ?_ | refine a_pick_t ?_ | refine a_pick_f ?_ | refine a_not ?_ | refine a_nilf ?_ | (refine a_bin ?_ ?_ <;> intro _ <;> try (exfalso; omega)) | refine a_ld hl ?_ | (refine a_st hl ?_; clear hl; intro _ hl) | refine a_ix (fun _ => ?_) | fail)
      refine o_nil (hK2 _ _ ?_)
      clear hK2 K2
      refine wk_cond_f rfl ?_
      exact wk_skip ⟨(), ⟨rfl, rfl, trivial⟩, rfl, hx7⟩
    · obtain ⟨hsa, hea⟩ := hva hv
      repeat' (first | refine a_mov ?_ | refine a_asg ?_ | refine a_binN ?_ | refine a_notd ?_ | refine a_notb ?_ | refine a_nilc ?_ | refine a_fa ?_ | refine a_ext ?_ | refine a_lenv ?_ | refine a_lens ?_ | refine a_pick_t ?_ | refine a_pick_f ?_ | refine a_not ?_ | refine a_nilf ?_ | (refine a_bin ?_ ?_ <;> intro _ <;> try (exfalso; omega)) | refine a_ld hl ?_ | (refine a_st hl ?_; clear hl; intro _ hl) | refine a_ix (fun _ => ?_) | fail)
      refine o_nil (hK2 _ _ ?_)
      clear hK2 K2
      refine wk_cond_t rfl ?_
      refine wk_seq fun K2 hK2 => ?_
      refine wk_reg ?_
      refine a_mov ?_
      refine a_fn (parse_calls sa w7) ?_
      rintro v w8 ⟨hx8, hout⟩
      rw [hsa, parse_text hv] at hout
      obtain ⟨xk, rfl, hxk⟩ := hout
      have hxka : KA w8 a.kids xk := hxk.mono fun b hb => hb.2
      refine a_mov ?_
      refine a_ext ?_
      refine a_ext ?_
      refine a_ext ?_
      refine o_alloc (LH.start w8 (fun _ => False)) [.int .i64 0, .string "".toByteArray, .int .i64 0, .slice none 0 0] (by kernel_rfl) rfl ?_
      intro b12 w9 hb12 hl
      refine o_putN (us := snL a xk) hl rfl rfl rfl (snL_one hxka) rfl (.here rfl rfl) ?_
      clear hl
      intro w10 hl
      have hr12 : Row w10 b12 0 (snL a xk) := hl.rowL (vs := snL a xk) 0 0 4 rfl
      have hx10 := hl.done
      clear hl
      refine a_asg ?_
      refine a_asg ?_
      refine o_nil (hK2 _ _ ?_)
      clear hK2 K2
      have hxx : Ext w6 w10 := (hx7.trans hx8).trans hx10
      refine wk_seq fun K2 hK2 => ?_
      refine wk_reg ?_
      repeat' (first | refine a_mov ?_ | refine a_asg ?_ | refine a_binN ?_ | refine a_notd ?_ | refine a_notb ?_ | refine a_nilc ?_ | refine a_fa ?_ | refine a_ext ?_ | refine a_lenv ?_ | refine a_lens ?_ | refine a_pick_t ?_ | refine a_pick_f ?_ | refine a_not ?_ | refine a_nilf ?_ | (refine a_bin ?_ ?_ <;> intro _ <;> try (exfalso; omega)) | refine a_ld hl ?_ | (refine a_st hl ?_; clear hl; intro _ hl) | refine a_ix (fun _ => ?_) | fail)
      refine a_all hr12 ?_
      refine a_all (hra.ext hxx) ?_
      refine a_fn (sameS_calls a a w10 xk (.slice aa a.kids.length ac) (hxka.ext hx10) (hkaw.ext hxx) hfa) ?_
      rintro _ w11 ⟨q, rfl, hq, hx11⟩
      obtain rfl : q = true := hq.2 rfl
      have hx11' : Ext w6 w11 := hxx.trans hx11
      cases hv2 : validB b
      · have heb := hvb2 hv2
        repeat' (first | refine a_mov ?_ | refine a_asg ?_ | refine a_binN ?_ | refine a_notd ?_ | refine a_notb ?_ | refine a_nilc ?_ | refine a_fa ?_ | refine a_ext ?_ | refine a_lenv ?_ | refine a_lens ?_ | refine a_pick_t ?_ | refine a_pick_f ?_ | refine a_not ?_ | refine a_nilf ?_ | (refine a_bin ?_ ?_ <;> intro _ <;> try (exfalso; omega)) | refine a_ld hl ?_ | (refine a_st hl ?_; clear hl; intro _ hl) | refine a_ix (fun _ => ?_) | fail)
        refine o_nil (hK2 _ _ ?_)
        clear hK2 K2
        refine wk_cond_f rfl ?_
        exact wk_skip ⟨(), ⟨rfl, rfl, trivial⟩, rfl, hx11'⟩
      · obtain ⟨hsb, heb⟩ := hvb hv2
        repeat' (first | refine a_mov ?_ | refine a_asg ?_ | refine a_binN ?_ | refine a_notd ?_ | refine a_notb ?_ | refine a_nilc ?_ | refine a_fa ?_ | refine a_ext ?_ | refine a_lenv ?_ | refine a_lens ?_ | refine a_pick_t ?_ | refine a_pick_f ?_ | refine a_not ?_ | refine a_nilf ?_ | (refine a_bin ?_ ?_ <;> intro _ <;> try (exfalso; omega)) | refine a_ld hl ?_ | (refine a_st hl ?_; clear hl; intro _ hl) | refine a_ix (fun _ => ?_) | fail)
        obtain ⟨z, hz⟩ : ∃ z, z = decide (sa = sb) := ⟨_, rfl⟩
        refine o_eqs rfl rfl rfl ?_
        rw [← hz]
        refine a_all (hra.ext hx11') ?_
        refine a_all (hrb.ext hx11') ?_
        refine a_fn (sameS_calls a b w11 (.slice aa a.kids.length ac) (.slice ba b.kids.length bc) (hkaw.ext hx11') (hkbw.ext hx11') hfa) ?_
        rintro _ w12 ⟨q2, rfl, hq2, hx12⟩
        have hzq : z = q2 := by
          rw [Bool.eq_iff_iff, hq2, hz, decide_eq_true_eq, hsa, hsb]
          exact ⟨text_inj hv hv2, fun h => by rw [h]⟩
        subst hzq
        refine o_neB rfl rfl rfl rfl ?_
        rw [show (!(z == z)) = false by simp]
        repeat' (first | refine a_mov ?_ | refine a_asg ?_ | refine a_binN ?_ | refine a_notd ?_ | refine a_notb ?_ | refine a_nilc ?_ | refine a_fa ?_ | refine a_ext ?_ | refine a_lenv ?_ | refine a_lens ?_ | refine a_pick_t ?_ | refine a_pick_f ?_ | refine a_not ?_ | refine a_nilf ?_ | (refine a_bin ?_ ?_ <;> intro _ <;> try (exfalso; omega)) | refine a_ld hl ?_ | (refine a_st hl ?_; clear hl; intro _ hl) | refine a_ix (fun _ => ?_) | fail)
        refine o_nil (hK2 _ _ ?_)
        clear hK2 K2
        refine wk_cond_f rfl ?_
        exact wk_skip ⟨(), ⟨rfl, rfl, trivial⟩, rfl, hx11'.trans hx12⟩
  clear hx7
  rintro _ t w8 hx8
  refine hK _ _ ?_
  clear hK K
  have hx8' : Ext w w8 := hx6'.trans hx8
  refine wk_seq fun K hK => ?_
  refine wk_reg ?_
  refine a_mov ?_
  refine a_fn (parse_calls text w8) ?_
  rintro v w9 ⟨hx9, hout⟩
  have hx9' := hx8'.trans hx9
  cases hpt : parse text with
  | inr ea =>
    obtain ⟨e, p⟩ := ea
    rw [hpt] at hout
    obtain rfl := hout
    have hne := parse_ne hpt
    have hat := parse_at hpt
    refine a_mov ?_
    refine a_ext ?_
    refine a_ext ?_
    refine a_ext ?_
    refine o_alloc (LH.start w9 (fun _ => False)) [.int .i64 0, .string "".toByteArray, .int .i64 0, .slice none 0 0] (by kernel_rfl) rfl ?_
    intro b15 w10 hb15 hl
    refine o_putN (us := snL nilS (.slice none 0 0)) hl rfl rfl rfl (by simp only [snL, List.all_cons, List.all_nil, oneCell_str]; rfl) rfl (.here rfl rfl) ?_
    clear hl
    intro w11 hl
    have hr15 : Row w11 b15 0 [.int .i64 0, str [], .int .i64 0, .slice none 0 0] := hl.rowL (vs := snL nilS (.slice none 0 0)) 0 0 4 rfl
    have hx11 := hl.done
    clear hl
    refine a_asg ?_
    refine a_asg ?_
    refine o_nil (hK _ _ ?_)
    clear hK K
    refine wk_seq fun K hK => ?_
    refine wk_seq fun K2 hK2 => ?_
    refine wk_reg ?_
    repeat' (first | refine a_mov ?_ | refine a_asg ?_ | refine a_binN ?_ | refine a_notd ?_ | refine a_notb ?_ | refine a_nilc ?_ | refine a_fa ?_ | refine a_ext ?_ | refine a_lenv ?_ | refine a_lens ?_ | refine a_pick_t ?_ | refine a_pick_f ?_ | refine a_not ?_ | refine a_nilf ?_ | (refine a_bin ?_ ?_ <;> intro _ <;> try (exfalso; omega)) | refine a_ld hl ?_ | (refine a_st hl ?_; clear hl; intro _ hl) | refine a_ix (fun _ => ?_) | fail)
    refine o_nil (hK2 _ _ ?_)
    clear hK2 K2
    refine wk_cond_t rfl ?_
    refine wk_seq fun K2 hK2 => ?_
    refine wk_reg ?_
    repeat' (first | refine a_mov ?_ | refine a_asg ?_ | refine a_binN ?_ | refine a_notd ?_ | refine a_notb ?_ | refine a_nilc ?_ | refine a_fa ?_ | refine a_ext ?_ | refine a_lenv ?_ | refine a_lens ?_ | refine a_pick_t ?_ | refine a_pick_f ?_ | refine a_not ?_ | refine a_nilf ?_ | (refine a_bin ?_ ?_ <;> intro _ <;> try (exfalso; omega)) | refine a_ld hl ?_ | (refine a_st hl ?_; clear hl; intro _ hl) | refine a_ix (fun _ => ?_) | refine a_row hr15 ?_ | fail)
    refine o_nil (hK2 _ _ ?_)
    refine wk_ret (retQ_tmp1 Tryz.results3 (by decide) rfl (by conv => lhs; whnf) ?_)
    exact ⟨rfl, hx9'.trans hx11⟩
  | inl y =>
    rw [hpt] at hout
    obtain ⟨yk, rfl, hyk⟩ := hout
    have hyka : KA w9 y.kids yk := hyk.mono fun b hb => hb.2
    have hvy := parse_valid hpt
    have hfy := parse_fit hpt
    refine a_mov ?_
    refine a_ext ?_
    refine a_ext ?_
    refine a_ext ?_
    refine o_alloc (LH.start w9 (fun _ => False)) [.int .i64 0, .string "".toByteArray, .int .i64 0, .slice none 0 0] (by kernel_rfl) rfl ?_
    intro b15 w10 hb15 hl
    refine o_putN (us := snL y yk) hl rfl rfl rfl (snL_one hyka) rfl (.here rfl rfl) ?_
    clear hl
    intro w11 hl
    have hr15 : Row w11 b15 0 (snL y yk) := hl.rowL (vs := snL y yk) 0 0 4 rfl
    have hx11 := hl.done
    clear hl
    refine a_asg ?_
    refine a_asg ?_
    refine o_nil (hK _ _ ?_)
    clear hK K
    refine wk_seq fun K hK => ?_
    refine wk_seq fun K2 hK2 => ?_
    refine wk_reg ?_
    repeat' (first | refine a_mov ?_ | refine a_asg ?_ | refine a_binN ?_ | refine a_notd ?_ | refine a_notb ?_ | refine a_nilc ?_ | refine a_fa ?_ | refine a_ext ?_ | refine a_lenv ?_ | refine a_lens ?_ | refine a_pick_t ?_ | refine a_pick_f ?_ | refine a_not ?_ | refine a_nilf ?_ | (refine a_bin ?_ ?_ <;> intro _ <;> try (exfalso; omega)) | refine a_ld hl ?_ | (refine a_st hl ?_; clear hl; intro _ hl) | refine a_ix (fun _ => ?_) | fail)
    refine o_nil (hK2 _ _ ?_)
    clear hK2 K2
    refine wk_cond_f rfl ?_
    refine wk_skip (hK _ _ ?_)
    clear hK K
    refine wk_seq fun K hK => ?_
    refine wk_reg ?_
    repeat' (first | refine a_mov ?_ | refine a_asg ?_ | refine a_binN ?_ | refine a_notd ?_ | refine a_notb ?_ | refine a_nilc ?_ | refine a_fa ?_ | refine a_ext ?_ | refine a_lenv ?_ | refine a_lens ?_ | refine a_pick_t ?_ | refine a_pick_f ?_ | refine a_not ?_ | refine a_nilf ?_ | (refine a_bin ?_ ?_ <;> intro _ <;> try (exfalso; omega)) | refine a_ld hl ?_ | (refine a_st hl ?_; clear hl; intro _ hl) | refine a_ix (fun _ => ?_) | fail)
    refine a_all hr15 ?_
    refine a_fn (valid_calls (hyka.ext hx11) hfy) ?_
    rintro _ w12 ⟨rfl, hx12⟩
    rw [hvy]
    repeat' (first | refine a_mov ?_ | refine a_asg ?_ | refine a_binN ?_ | refine a_notd ?_ | refine a_notb ?_ | refine a_nilc ?_ | refine a_fa ?_ | refine a_ext ?_ | refine a_lenv ?_ | refine a_lens ?_ | refine a_pick_t ?_ | refine a_pick_f ?_ | refine a_not ?_ | refine a_nilf ?_ | (refine a_bin ?_ ?_ <;> intro _ <;> try (exfalso; omega)) | refine a_ld hl ?_ | (refine a_st hl ?_; clear hl; intro _ hl) | refine a_ix (fun _ => ?_) | fail)
    refine o_nil (hK _ _ ?_)
    clear hK K
    refine wk_ret (retQ_tmp1 Tryz.results3 (by decide) rfl (by conv => lhs; whnf) ?_)
    exact ⟨rfl, (hx9'.trans hx11).trans hx12⟩
end Go.Proofs
