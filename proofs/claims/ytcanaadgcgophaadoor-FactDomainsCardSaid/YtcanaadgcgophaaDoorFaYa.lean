/-
  The statement about domains, walked.
-/
import Derived.Test.YtcanaadgcgophaaDoorFaX
set_option linter.unusedVariables false
set_option linter.unusedSimpArgs false
set_option linter.unnecessarySimpa false
set_option maxRecDepth 10000
namespace Go.Proofs
open Go Go.Pd Go.Fac Go.Fo
attribute [local irreducible] OpsL W RetQ OpsQ OpsC
set_option maxHeartbeats 8000000 in
theorem Domains_calls {A B : List Fact} {av bv : Value} {text : Tx} {w : World} (ht : Tabs w) (ha : DomIn w A av) (hb : DomIn w B bv) :
    Calls Tryd.prog 4 #[.agg #[av], .agg #[bv], str text] w (fun e w' => ∃ v, e = .returned v ∧ v = .bool true ∧ Ext w w') := by
  obtain ⟨aa, ac, rfl⟩ := ha.shape
  obtain ⟨ba, bc, rfl⟩ := hb.shape
  refine calls_of Tryd.func4 rfl Tryd.ntmps4 rfl ?_
  refine wk_seq fun K hK => ?_
  refine wk_reg ?_
  refine o_box (LH.start w (fun _ => False)) [.slice aa A.length ac] rfl rfl rfl ?_
  intro b3 w1 hb3 hl
  refine o_box hl [.slice ba B.length bc] rfl rfl rfl ?_
  clear hl
  intro b4 w2 hb4 hl
  have hra : Row w2 b3 0 [.slice aa A.length ac] := hl.rowL (vs := [.slice aa A.length ac]) 1 0 1 rfl
  have hrb : Row w2 b4 0 [.slice ba B.length bc] := hl.rowL (vs := [.slice ba B.length bc]) 0 0 1 rfl
  have hx2 := hl.done
  clear hl
  refine a_asg ?_
  refine o_nil (hK _ _ ?_)
  clear hK K
  refine wk_seq fun K hK => ?_
  refine wk_reg ?_
  refine a_fn (head_calls (ht.ext hx2)) ?_
  rintro _ w3 ⟨rfl, hx3⟩
  refine a_asg ?_
  refine o_nil (hK _ _ ?_)
  clear hK K
  have hx := hx2.trans hx3
  replace ht := ht.ext hx
  replace ha := ha.ext hx
  replace hb := hb.ext hx
  replace hra := hra.ext hx3
  replace hrb := hrb.ext hx3
  clear hx2 hx3
  have hA := ha.n
  have hAn := ha.m
  have hB := hb.n
  have hBn := hb.m
  refine wk_seq fun K hK => ?_
  refine wk_cut [] (fun _ : Unit => [(2, str text), (3, .pointer (some ⟨b3, 0, none⟩)), (4, .pointer (some ⟨b4, 0, none⟩)), (7, .bool true)]) (fun _ w' => Ext w3 w') ?_ ?_
  · refine wk_seq fun K2 hK2 => ?_
    refine wk_reg ?_
    refine a_all hra ?_
    refine a_fn (few_calls (c := []) ha.1 (Sl.nil _ _) hA (by simp) hAn) ?_
    rintro _ w4 ⟨rfl, hx4⟩
    cases hfa : (fewD A 70 && decide ([].length ≤ 70))
    · repeat' (first | refine a_mov ?_ | refine a_asg ?_ | refine a_binN ?_ | refine a_notd ?_ | refine a_notb ?_ | refine a_nilc ?_ | refine a_fa ?_ | refine a_ext ?_ | refine a_lenv ?_ | refine a_lens ?_ | refine a_pick_t ?_ | refine a_pick_f ?_ | refine a_not ?_ | refine a_nilf ?_ | (refine a_bin ?_ ?_ <;> intro _ <;> try (exfalso; omega)) | refine a_ld hl ?_ | (refine a_st hl ?_; clear hl; intro _ hl) | refine a_ix (fun _ => ?_) | fail)
      refine o_nil (hK2 _ _ ?_)
      clear hK2 K2
      refine wk_cond_t rfl ?_
      refine wk_seq fun K2 hK2 => ?_
      refine wk_reg ?_
      repeat' (first | refine a_mov ?_ | refine a_asg ?_ | refine a_binN ?_ | refine a_notd ?_ | refine a_notb ?_ | refine a_nilc ?_ | refine a_fa ?_ | refine a_ext ?_ | refine a_lenv ?_ | refine a_lens ?_ | refine a_pick_t ?_ | refine a_pick_f ?_ | refine a_not ?_ | refine a_nilf ?_ | (refine a_bin ?_ ?_ <;> intro _ <;> try (exfalso; omega)) | refine a_ld hl ?_ | (refine a_st hl ?_; clear hl; intro _ hl) | refine a_ix (fun _ => ?_) | fail)
      refine o_nil (hK2 _ _ ?_)
      refine wk_ret (retQ_tmp1 Tryd.results4 (by decide) rfl (by conv => lhs; whnf) ?_)
      exact ⟨rfl, hx.trans hx4⟩
    · repeat' (first | refine a_mov ?_ | refine a_asg ?_ | refine a_binN ?_ | refine a_notd ?_ | refine a_notb ?_ | refine a_nilc ?_ | refine a_fa ?_ | refine a_ext ?_ | refine a_lenv ?_ | refine a_lens ?_ | refine a_pick_t ?_ | refine a_pick_f ?_ | refine a_not ?_ | refine a_nilf ?_ | (refine a_bin ?_ ?_ <;> intro _ <;> try (exfalso; omega)) | refine a_ld hl ?_ | (refine a_st hl ?_; clear hl; intro _ hl) | refine a_ix (fun _ => ?_) | fail)
      refine a_all (hrb.ext hx4) ?_
      refine a_fn (few_calls (c := []) (hb.1.ext hx4) (Sl.nil _ _) hB (by simp) hBn) ?_
      rintro _ w5 ⟨rfl, hx5⟩
      have hx45 := hx4.trans hx5
      cases hfb : (fewD B 70 && decide ([].length ≤ 70))
      · repeat' (first | refine a_mov ?_ | refine a_asg ?_ | refine a_binN ?_ | refine a_notd ?_ | refine a_notb ?_ | refine a_nilc ?_ | refine a_fa ?_ | refine a_ext ?_ | refine a_lenv ?_ | refine a_lens ?_ | refine a_pick_t ?_ | refine a_pick_f ?_ | refine a_not ?_ | refine a_nilf ?_ | (refine a_bin ?_ ?_ <;> intro _ <;> try (exfalso; omega)) | refine a_ld hl ?_ | (refine a_st hl ?_; clear hl; intro _ hl) | refine a_ix (fun _ => ?_) | fail)
        refine o_nil (hK2 _ _ ?_)
        clear hK2 K2
        refine wk_cond_t rfl ?_
        refine wk_seq fun K2 hK2 => ?_
        refine wk_reg ?_
        repeat' (first | refine a_mov ?_ | refine a_asg ?_ | refine a_binN ?_ | refine a_notd ?_ | refine a_notb ?_ | refine a_nilc ?_ | refine a_fa ?_ | refine a_ext ?_ | refine a_lenv ?_ | refine a_lens ?_ | refine a_pick_t ?_ | refine a_pick_f ?_ | refine a_not ?_ | refine a_nilf ?_ | (refine a_bin ?_ ?_ <;> intro _ <;> try (exfalso; omega)) | refine a_ld hl ?_ | (refine a_st hl ?_; clear hl; intro _ hl) | refine a_ix (fun _ => ?_) | fail)
        refine o_nil (hK2 _ _ ?_)
        refine wk_ret (retQ_tmp1 Tryd.results4 (by decide) rfl (by conv => lhs; whnf) ?_)
        exact ⟨rfl, hx.trans hx45⟩
      · repeat' (first | refine a_mov ?_ | refine a_asg ?_ | refine a_binN ?_ | refine a_notd ?_ | refine a_notb ?_ | refine a_nilc ?_ | refine a_fa ?_ | refine a_ext ?_ | refine a_lenv ?_ | refine a_lens ?_ | refine a_pick_t ?_ | refine a_pick_f ?_ | refine a_not ?_ | refine a_nilf ?_ | (refine a_bin ?_ ?_ <;> intro _ <;> try (exfalso; omega)) | refine a_ld hl ?_ | (refine a_st hl ?_; clear hl; intro _ hl) | refine a_ix (fun _ => ?_) | fail)
        · refine o_nil (hK2 _ _ ?_)
          clear hK2 K2
          refine wk_cond_t rfl ?_
          refine wk_seq fun K2 hK2 => ?_
          refine wk_reg ?_
          repeat' (first | refine a_mov ?_ | refine a_asg ?_ | refine a_binN ?_ | refine a_notd ?_ | refine a_notb ?_ | refine a_nilc ?_ | refine a_fa ?_ | refine a_ext ?_ | refine a_lenv ?_ | refine a_lens ?_ | refine a_pick_t ?_ | refine a_pick_f ?_ | refine a_not ?_ | refine a_nilf ?_ | (refine a_bin ?_ ?_ <;> intro _ <;> try (exfalso; omega)) | refine a_ld hl ?_ | (refine a_st hl ?_; clear hl; intro _ hl) | refine a_ix (fun _ => ?_) | fail)
          refine o_nil (hK2 _ _ ?_)
          refine wk_ret (retQ_tmp1 Tryd.results4 (by decide) rfl (by conv => lhs; whnf) ?_)
          exact ⟨rfl, hx.trans hx45⟩
        · refine o_nil (hK2 _ _ ?_)
          clear hK2 K2
          refine wk_cond_f rfl ?_
          exact wk_skip ⟨(), ⟨rfl, rfl, rfl, rfl, trivial⟩, rfl, hx45⟩
  rintro _ t w4 hx4
  refine hK _ _ ?_
  clear hK K
  replace ht := ht.ext hx4
  replace ha := ha.ext hx4
  replace hb := hb.ext hx4
  replace hra := hra.ext hx4
  replace hrb := hrb.ext hx4
  replace hx := hx.trans hx4
  clear hx4
  refine wk_seq fun K hK => ?_
  refine wk_reg ?_
  refine a_all hra ?_
  refine a_fn (factText_calls ha.1 hA hAn ht) ?_
  rintro _ w5 ⟨rfl, hx5⟩
  refine a_asg ?_
  refine o_nil (hK _ _ ?_)
  clear hK K
  replace ht := ht.ext hx5
  replace ha := ha.ext hx5
  replace hb := hb.ext hx5
  replace hra := hra.ext hx5
  replace hrb := hrb.ext hx5
  replace hx := hx.trans hx5
  clear hx5
  have htn := textD_nil A
  refine wk_seq fun K hK => ?_
  refine wk_cut [] (fun _ : Unit => [(2, str text), (3, .pointer (some ⟨b3, 0, none⟩)), (4, .pointer (some ⟨b4, 0, none⟩)), (7, .bool true), (8, str (textD A))]) (fun _ w' => Ext w5 w') ?_ ?_
  · refine wk_seq fun K2 hK2 => ?_
    refine wk_reg ?_
    refine a_mov ?_
    refine o_eqs (a := textD A) (b := []) rfl rfl (by simp only [str_eq]; rfl) ?_
    refine a_all hra ?_
    refine a_fn (valid_calls ha.1 hA hAn) ?_
    rintro _ w6 ⟨rfl, hx6⟩
    have hra6 := hra.ext hx6
    cases hva : validD A
    · rw [decide_eq_true (htn.2 (.inl hva))]
      repeat' (first | refine a_mov ?_ | refine a_asg ?_ | refine a_binN ?_ | refine a_notd ?_ | refine a_notb ?_ | refine a_nilc ?_ | refine a_fa ?_ | refine a_ext ?_ | refine a_lenv ?_ | refine a_lens ?_ | refine a_pick_t ?_ | refine a_pick_f ?_ | refine a_not ?_ | refine a_nilf ?_ | (refine a_bin ?_ ?_ <;> intro _ <;> try (exfalso; omega)) | refine a_ld hl ?_ | (refine a_st hl ?_; clear hl; intro _ hl) | refine a_ix (fun _ => ?_) | fail)
      refine o_neB rfl rfl rfl rfl ?_
      refine o_nil (hK2 _ _ ?_)
      clear hK2 K2
      refine wk_cond_f rfl ?_
      exact wk_skip ⟨(), ⟨rfl, rfl, rfl, rfl, rfl, trivial⟩, rfl, hx6⟩
    · by_cases hA0 : A = []
      · rw [decide_eq_true (htn.2 (.inr hA0))]
        have hl0 : A.length = 0 := by rw [hA0]; rfl
        repeat' (first | refine a_mov ?_ | refine a_asg ?_ | refine a_binN ?_ | refine a_notd ?_ | refine a_notb ?_ | refine a_nilc ?_ | refine a_fa ?_ | refine a_ext ?_ | refine a_lenv ?_ | refine a_lens ?_ | refine a_pick_t ?_ | refine a_pick_f ?_ | refine a_not ?_ | refine a_nilf ?_ | (refine a_bin ?_ ?_ <;> intro _ <;> try (exfalso; omega)) | refine a_ld hl ?_ | (refine a_st hl ?_; clear hl; intro _ hl) | refine a_ix (fun _ => ?_) | refine a_row hra6 ?_ | fail)
        refine o_neB rfl rfl rfl rfl ?_
        refine o_nil (hK2 _ _ ?_)
        clear hK2 K2
        refine wk_cond_f rfl ?_
        exact wk_skip ⟨(), ⟨rfl, rfl, rfl, rfl, rfl, trivial⟩, rfl, hx6⟩
      · have hl0 : A.length ≠ 0 := fun h => hA0 (List.eq_nil_of_length_eq_zero h)
        rw [decide_eq_false (fun h => (htn.1 h).elim (fun h => by rw [hva] at h; cases h) hA0)]
        repeat' (first | refine a_mov ?_ | refine a_asg ?_ | refine a_binN ?_ | refine a_notd ?_ | refine a_notb ?_ | refine a_nilc ?_ | refine a_fa ?_ | refine a_ext ?_ | refine a_lenv ?_ | refine a_lens ?_ | refine a_pick_t ?_ | refine a_pick_f ?_ | refine a_not ?_ | refine a_nilf ?_ | (refine a_bin ?_ ?_ <;> intro _ <;> try (exfalso; omega)) | refine a_ld hl ?_ | (refine a_st hl ?_; clear hl; intro _ hl) | refine a_ix (fun _ => ?_) | refine a_row hra6 ?_ | fail)
        refine o_neB rfl rfl rfl rfl ?_
        refine o_nil (hK2 _ _ ?_)
        clear hK2 K2
        refine wk_cond_f rfl ?_
        exact wk_skip ⟨(), ⟨rfl, rfl, rfl, rfl, rfl, trivial⟩, rfl, hx6⟩
  rintro _ t2 w6 hx6
  refine hK _ _ ?_
  clear hK K htn
  replace ht := ht.ext hx6
  replace ha := ha.ext hx6
  replace hb := hb.ext hx6
  replace hra := hra.ext hx6
  replace hrb := hrb.ext hx6
  replace hx := hx.trans hx6
  clear hx6
  refine wk_seq fun K hK => ?_
  refine wk_reg ?_
  refine a_mov ?_
  refine a_fn (parseD_calls2 (textD A) w6) ?_
  rintro _ w7 ⟨⟨xv, rfl, hxv⟩, hx7⟩
  obtain ⟨xa, xm, xc, rfl⟩ := sl_is hxv
  refine a_mov ?_
  refine a_ext ?_
  refine a_ext ?_
  refine a_ext ?_
  refine o_alloc (LH.start w7 (fun _ => False)) [.slice none 0 0] rfl rfl ?_
  intro b9 wa_ hb_ hl
  refine o_putN (us := [.slice xa xm xc]) hl rfl rfl rfl rfl rfl (.here rfl rfl) ?_
  clear hl
  intro w8 hl
  have hx8 := hl.done
  have hr9 : Row w8 b9 0 [.slice xa xm xc] := hl.rowL (vs := [.slice xa xm xc]) 0 0 1 rfl
  clear hl
  refine a_asg ?_
  refine a_asg ?_
  refine o_nil (hK _ _ ?_)
  clear hK K
  replace hxv := hxv.ext hx8
  have hx78 := hx7.trans hx8
  clear hx7 hx8
  replace ht := ht.ext hx78
  replace ha := ha.ext hx78
  replace hb := hb.ext hx78
  replace hra := hra.ext hx78
  replace hrb := hrb.ext hx78
  replace hx := hx.trans hx78
  clear hx78
  refine wk_seq fun K hK => ?_
  refine wk_cut [] (fun _ : Unit => [(2, str text), (7, .bool true)]) (fun _ w' => Ext w8 w') ?_ ?_
  · refine wk_seq fun K2 hK2 => ?_
    have hvA : ∀ w_, Ext w8 w_ → Calls Tryd.prog 17 #[.agg #[.slice aa A.length ac]] w_ (fun e w' => ∃ x, e = .returned x ∧ x = .bool (validD A) ∧ Ext w_ w') := fun w_ hx_ => valid_calls (ha.1.ext hx_) hA hAn
    cases hva : validD A
    · rw [hva] at hvA
      refine wk_quiet (List.range 30) ?_
      repeat' (first | refine q_mov ?_ | refine q_asg ?_ | refine q_fa ?_ | refine q_ext ?_ | refine q_binN ?_ | refine q_notd ?_ | refine q_notb ?_ | refine q_pick_t ?_ | refine q_pick_f ?_ | refine q_nilc ?_ | refine q_skip ?_ | refine q_lens ?_ | refine q_lenv ?_ | refine q_nil ?_ | refine q_ix (fun _ => ?_) | (refine q_bin ?_ ?_ <;> intro _ <;> try (exfalso; omega)) | refine q_all (fun w_ hw_ => hra.ext hw_) ?_ | refine q_fn hvA ?_ | fail)
      intro w9 hx9
      refine hK2 _ _ ?_
      clear hK2 K2
      refine wk_cond_f rfl ?_
      exact wk_skip ⟨(), ⟨rfl, rfl, trivial⟩, rfl, hx9⟩
    · rw [hva] at hvA
      rw [parseD_text hva] at hxv ⊢
      rw [show erO (Sum.inl A : List Fact ⊕ (Int × Int)) = 0 from rfl]
      have hxv : Sl w8 (.slice xa xm xc) 4 (factsL A) := hxv
      have hsm : ∀ w_, Ext w8 w_ → Calls Tryd.prog 27 #[.agg #[.slice xa xm xc], .agg #[.slice aa A.length ac]] w_ (fun e w' => ∃ x, e = .returned x ∧ x = .bool true ∧ Ext w_ w') := fun w_ hx_ => by
        have := same_calls (hxv.ext hx_) (ha.1.ext hx_) hA hA
        rw [decide_eq_true rfl] at this
        exact this
      have hvB : ∀ w_, Ext w8 w_ → Calls Tryd.prog 17 #[.agg #[.slice ba B.length bc]] w_ (fun e w' => ∃ x, e = .returned x ∧ x = .bool (validD B) ∧ Ext w_ w') := fun w_ hx_ => valid_calls (hb.1.ext hx_) hB hBn
      cases hvb : validD B
      · rw [hvb] at hvB
        refine wk_quiet (List.range 30) ?_
        repeat' (first | refine q_mov ?_ | refine q_asg ?_ | refine q_fa ?_ | refine q_ext ?_ | refine q_binN ?_ | refine q_notd ?_ | refine q_notb ?_ | refine q_pick_t ?_ | refine q_pick_f ?_ | refine q_nilc ?_ | refine q_skip ?_ | refine q_lens ?_ | refine q_lenv ?_ | refine q_nil ?_ | refine q_ix (fun _ => ?_) | (refine q_bin ?_ ?_ <;> intro _ <;> try (exfalso; omega)) | refine q_all (fun w_ hw_ => hra.ext hw_) ?_ | refine q_all (fun w_ hw_ => hrb.ext hw_) ?_ | refine q_all (fun w_ hw_ => hr9.ext hw_) ?_ | refine q_fn hvA ?_ | refine q_fn hsm ?_ | refine q_fn hvB ?_ | fail)
        intro w9 hx9
        refine hK2 _ _ ?_
        clear hK2 K2
        refine wk_cond_f rfl ?_
        exact wk_skip ⟨(), ⟨rfl, rfl, trivial⟩, rfl, hx9⟩
      · rw [hvb] at hvB
        have htB : ∀ w_, Ext w8 w_ → Calls Tryd.prog 23 #[.agg #[.slice ba B.length bc]] w_ (fun e w' => ∃ x, e = .returned x ∧ x = str (textD B) ∧ Ext w_ w') := fun w_ hx_ => factText_calls (hb.1.ext hx_) hB hBn (ht.ext hx_)
        obtain ⟨q, hq⟩ : ∃ q, q = decide (A = B) := ⟨_, rfl⟩
        have hq2 : decide (textD A = textD B) = q := by
          rw [hq]
          by_cases h : A = B
          · rw [decide_eq_true h, decide_eq_true (by rw [h])]
          · rw [decide_eq_false h, decide_eq_false fun h2 => h (textD_inj hva hvb h2)]
        have hsB : ∀ w_, Ext w8 w_ → Calls Tryd.prog 27 #[.agg #[.slice aa A.length ac], .agg #[.slice ba B.length bc]] w_ (fun e w' => ∃ x, e = .returned x ∧ x = .bool q ∧ Ext w_ w') := fun w_ hx_ => by
          rw [hq]
          exact same_calls (ha.1.ext hx_) (hb.1.ext hx_) hA hB
        clear hq
        cases q
        all_goals
          refine wk_quiet (List.range 30) ?_
          repeat' (first | refine q_mov ?_ | refine q_asg ?_ | refine q_fa ?_ | refine q_ext ?_ | refine q_binN ?_ | refine q_notd ?_ | refine q_notb ?_ | refine q_pick_t ?_ | refine q_pick_f ?_ | refine q_nilc ?_ | refine q_skip ?_ | refine q_lens ?_ | refine q_lenv ?_ | refine q_nil ?_ | refine q_ix (fun _ => ?_) | (refine q_bin ?_ ?_ <;> intro _ <;> try (exfalso; omega)) | refine q_all (fun w_ hw_ => hra.ext hw_) ?_ | refine q_all (fun w_ hw_ => hrb.ext hw_) ?_ | refine q_all (fun w_ hw_ => hr9.ext hw_) ?_ | refine q_fn hvA ?_ | refine q_fn hsm ?_ | refine q_fn hvB ?_ | refine q_fn htB ?_ | refine q_fn hsB ?_ | refine q_pur rfl rfl rfl (fun _ => (r_eqs (a := textD A) (b := textD B) rfl rfl).trans (by rw [hq2])) ?_ | refine q_pur rfl rfl rfl (fun _ => r_neB rfl rfl rfl) ?_ | fail)
          intro w9 hx9
          refine hK2 _ _ ?_
          clear hK2 K2
          refine wk_cond_f rfl ?_
          exact wk_skip ⟨(), ⟨rfl, rfl, trivial⟩, rfl, hx9⟩
  rintro _ t3 w9 hx9
  refine hK _ _ ?_
  clear hK K hr9 hxv
  replace hx := hx.trans hx9
  clear hx9 ha hb hra hrb ht
  refine wk_seq fun K hK => ?_
  refine wk_reg ?_
  refine a_mov ?_
  refine a_fn (parseD_calls2 text w9) ?_
  rintro _ w10 ⟨⟨yv, rfl, hyv⟩, hx10⟩
  cases hp : parseD text with
  | inl F =>
    rw [hp] at hyv
    obtain ⟨ya, ym, yc, rfl⟩ := sl_is hyv
    have hyv : Sl w10 (.slice ya ym yc) 4 (factsL F) := hyv
    have hvF := parseD_valid hp
    have hgF := (valid_iff F).1 hvF
    have hF60 := hgF.2.2
    rw [show erO (Sum.inl F : List Fact ⊕ (Int × Int)) = 0 from rfl, show atO (Sum.inl F : List Fact ⊕ (Int × Int)) = 0 from rfl]
    refine a_mov ?_
    refine a_ext ?_
    refine a_ext ?_
    refine a_ext ?_
    refine o_alloc (LH.start w10 (fun _ => False)) [.slice none 0 0] rfl rfl ?_
    intro b12 wa_ hb_ hl
    refine o_putN (us := [.slice ya ym yc]) hl rfl rfl rfl rfl rfl (.here rfl rfl) ?_
    clear hl
    intro w11 hl
    have hx11 := hl.done
    have hr12 : Row w11 b12 0 [.slice ya ym yc] := hl.rowL (vs := [.slice ya ym yc]) 0 0 1 rfl
    clear hl
    refine a_asg ?_
    refine a_asg ?_
    refine o_nil (hK _ _ ?_)
    clear hK K
    replace hyv := hyv.ext hx11
    refine wk_seq fun K hK => ?_
    refine wk_seq fun K2 hK2 => ?_
    refine wk_reg ?_
    repeat' (first | refine a_mov ?_ | refine a_asg ?_ | refine a_binN ?_ | refine a_notd ?_ | refine a_notb ?_ | refine a_nilc ?_ | refine a_fa ?_ | refine a_ext ?_ | refine a_lenv ?_ | refine a_lens ?_ | refine a_pick_t ?_ | refine a_pick_f ?_ | refine a_not ?_ | refine a_nilf ?_ | (refine a_bin ?_ ?_ <;> intro _ <;> try (exfalso; omega)) | refine a_ld hl ?_ | (refine a_st hl ?_; clear hl; intro _ hl) | refine a_ix (fun _ => ?_) | fail)
    refine o_nil (hK2 _ _ ?_)
    clear hK2 K2
    refine wk_cond_f rfl ?_
    refine wk_skip (hK _ _ ?_)
    clear hK K
    refine wk_seq fun K hK => ?_
    refine wk_reg ?_
    repeat' (first | refine a_mov ?_ | refine a_asg ?_ | refine a_binN ?_ | refine a_notd ?_ | refine a_notb ?_ | refine a_nilc ?_ | refine a_fa ?_ | refine a_ext ?_ | refine a_lenv ?_ | refine a_lens ?_ | refine a_pick_t ?_ | refine a_pick_f ?_ | refine a_not ?_ | refine a_nilf ?_ | (refine a_bin ?_ ?_ <;> intro _ <;> try (exfalso; omega)) | refine a_ld hl ?_ | (refine a_st hl ?_; clear hl; intro _ hl) | refine a_ix (fun _ => ?_) | refine a_all hr12 ?_ | fail)
    refine a_fn (valid_calls hyv (by omega) (fun f hf => by have := (good_fact hgF hf).1; omega)) ?_
    rintro _ w12 ⟨rfl, hx12⟩
    rw [hvF]
    repeat' (first | refine a_mov ?_ | refine a_asg ?_ | refine a_binN ?_ | refine a_notd ?_ | refine a_notb ?_ | refine a_nilc ?_ | refine a_fa ?_ | refine a_ext ?_ | refine a_lenv ?_ | refine a_lens ?_ | refine a_pick_t ?_ | refine a_pick_f ?_ | refine a_not ?_ | refine a_nilf ?_ | (refine a_bin ?_ ?_ <;> intro _ <;> try (exfalso; omega)) | refine a_ld hl ?_ | (refine a_st hl ?_; clear hl; intro _ hl) | refine a_ix (fun _ => ?_) | fail)
    refine o_nil (hK _ _ ?_)
    refine wk_ret (retQ_tmp1 Tryd.results4 (by decide) rfl (by conv => lhs; whnf) ?_)
    exact ⟨rfl, ((hx.trans hx10).trans hx11).trans hx12⟩
  | inr p =>
    obtain ⟨e, a⟩ := p
    have hne := parseD_ne hp
    have hat := parseD_at hp
    rw [hp] at hyv
    rw [show erO (Sum.inr (e, a) : List Fact ⊕ (Int × Int)) = e from rfl, show atO (Sum.inr (e, a) : List Fact ⊕ (Int × Int)) = a from rfl]
    obtain ⟨ya, yc, rfl, -⟩ := hyv.shape (m := 0) rfl (by omega)
    refine a_mov ?_
    refine a_ext ?_
    refine a_ext ?_
    refine a_ext ?_
    refine o_alloc (LH.start w10 (fun _ => False)) [.slice none 0 0] rfl rfl ?_
    intro b12 wa_ hb_ hl
    refine o_putN (us := [.slice ya 0 yc]) hl rfl rfl rfl rfl rfl (.here rfl rfl) ?_
    clear hl
    intro w11 hl
    have hx11 := hl.done
    have hr12 : Row w11 b12 0 [.slice ya 0 yc] := hl.rowL (vs := [.slice ya 0 yc]) 0 0 1 rfl
    clear hl
    refine a_asg ?_
    refine a_asg ?_
    refine o_nil (hK _ _ ?_)
    clear hK K
    refine wk_seq fun K hK => ?_
    refine wk_seq fun K2 hK2 => ?_
    refine wk_reg ?_
    repeat' (first | refine a_mov ?_ | refine a_asg ?_ | refine a_binN ?_ | refine a_notd ?_ | refine a_notb ?_ | refine a_nilc ?_ | refine a_fa ?_ | refine a_ext ?_ | refine a_lenv ?_ | refine a_lens ?_ | refine a_pick_t ?_ | refine a_pick_f ?_ | refine a_not ?_ | refine a_nilf ?_ | (refine a_bin ?_ ?_ <;> intro _ <;> try (exfalso; omega)) | refine a_ld hl ?_ | (refine a_st hl ?_; clear hl; intro _ hl) | refine a_ix (fun _ => ?_) | fail)
    refine o_nil (hK2 _ _ ?_)
    clear hK2 K2
    refine wk_cond_t rfl ?_
    refine wk_seq fun K2 hK2 => ?_
    refine wk_reg ?_
    repeat' (first | refine a_mov ?_ | refine a_asg ?_ | refine a_binN ?_ | refine a_notd ?_ | refine a_notb ?_ | refine a_nilc ?_ | refine a_fa ?_ | refine a_ext ?_ | refine a_lenv ?_ | refine a_lens ?_ | refine a_pick_t ?_ | refine a_pick_f ?_ | refine a_not ?_ | refine a_nilf ?_ | (refine a_bin ?_ ?_ <;> intro _ <;> try (exfalso; omega)) | refine a_ld hl ?_ | (refine a_st hl ?_; clear hl; intro _ hl) | refine a_ix (fun _ => ?_) | refine a_row hr12 ?_ | fail)
    refine o_nil (hK2 _ _ ?_)
    refine wk_ret (retQ_tmp1 Tryd.results4 (by decide) rfl (by conv => lhs; whnf) ?_)
    exact ⟨rfl, (hx.trans hx10).trans hx11⟩
end Go.Proofs
