/-
  The statement about cases, walked.
-/
import Derived.Test.YtcanaadgcgophaaDoorFaX
set_option linter.unusedVariables false
set_option linter.unusedSimpArgs false
set_option linter.unnecessarySimpa false
set_option maxRecDepth 10000
namespace Go.Proofs
open Go Go.Pd Go.Fac Go.Fo
attribute [local irreducible] OpsL W RetQ OpsQ OpsC
set_option maxHeartbeats 8000000 in
theorem Cases_calls {F : List Fact} {a b : List Int} {dv av bv : Value} {text : Tx} {w : World} (ht : Tabs w) (hd : DomIn w F dv) (ha : CaseIn w a av) (hb : CaseIn w b bv) :
    Calls Tryd.prog 5 #[.agg #[dv], av, bv, str text] w (fun e w' => ∃ v, e = .returned v ∧ v = .bool true ∧ Ext w w') := by
  obtain ⟨da, dc, rfl⟩ := hd.shape
  obtain ⟨aa, ac, rfl⟩ := ha.shape
  obtain ⟨ba, bc, rfl⟩ := hb.shape
  refine calls_of Tryd.func5 rfl Tryd.ntmps5 rfl ?_
  refine wk_seq fun K hK => ?_
  refine wk_reg ?_
  refine o_box (LH.start w (fun _ => False)) [.slice da F.length dc] rfl rfl rfl ?_
  intro b4 w2 hb4 hl
  have hrd : Row w2 b4 0 [.slice da F.length dc] := hl.rowL (vs := [.slice da F.length dc]) 0 0 1 rfl
  have hx2 := hl.done
  clear hl
  refine a_asg ?_
  refine o_nil (hK _ _ ?_)
  clear hK K
  refine wk_seq fun K hK => ?_
  refine wk_reg ?_
  refine a_fn (head_calls (ht.ext hx2)) ?_
  rintro _ w3 ⟨rfl, hx3⟩
  refine a_asg ?_
  refine o_nil (hK _ _ ?_)
  clear hK K
  have hx := hx2.trans hx3
  replace ht := ht.ext hx
  replace hd := hd.ext hx
  replace ha := ha.ext hx
  replace hb := hb.ext hx
  replace hrd := hrd.ext hx3
  clear hx2 hx3
  have hF := hd.n
  have hFn := hd.m
  have hA := ha.n
  have hB := hb.n
  refine wk_seq fun K hK => ?_
  refine wk_cut [] (fun _ : Unit => [(1, .slice aa a.length ac), (2, .slice ba b.length bc), (3, str text), (4, .pointer (some ⟨b4, 0, none⟩)), (9, .bool true)]) (fun _ w' => Ext w3 w') ?_ ?_
  · refine wk_seq fun K2 hK2 => ?_
    refine wk_reg ?_
    refine a_all hrd ?_
    refine a_mov ?_
    refine a_fn (few_calls hd.1 ha.1 hF hA hFn) ?_
    rintro _ w4 ⟨rfl, hx4⟩
    cases hfa : (fewD F 70 && decide (a.length ≤ 70))
    · repeat' (first | refine a_mov ?_ | refine a_asg ?_ | refine a_binN ?_ | refine a_notd ?_ | refine a_notb ?_ | refine a_nilc ?_ | refine a_fa ?_ | refine a_ext ?_ | refine a_lenv ?_ | refine a_lens ?_ | refine a_pick_t ?_ | refine a_pick_f ?_ | refine a_not ?_ | refine a_nilf ?_ | (refine a_bin ?_ ?_ <;> intro _ <;> try (exfalso; omega)) | refine a_ld hl ?_ | (refine a_st hl ?_; clear hl; intro _ hl) | refine a_ix (fun _ => ?_) | fail)
      refine o_nil (hK2 _ _ ?_)
      clear hK2 K2
      refine wk_cond_t rfl ?_
      refine wk_seq fun K2 hK2 => ?_
      refine wk_reg ?_
      repeat' (first | refine a_mov ?_ | refine a_asg ?_ | refine a_binN ?_ | refine a_notd ?_ | refine a_notb ?_ | refine a_nilc ?_ | refine a_fa ?_ | refine a_ext ?_ | refine a_lenv ?_ | refine a_lens ?_ | refine a_pick_t ?_ | refine a_pick_f ?_ | refine a_not ?_ | refine a_nilf ?_ | (refine a_bin ?_ ?_ <;> intro _ <;> try (exfalso; omega)) | refine a_ld hl ?_ | (refine a_st hl ?_; clear hl; intro _ hl) | refine a_ix (fun _ => ?_) | fail)
      refine o_nil (hK2 _ _ ?_)
      refine wk_ret (retQ_tmp1 Tryd.results5 (by decide) rfl (by conv => lhs; whnf) ?_)
      exact ⟨rfl, hx.trans hx4⟩
    · by_cases hlong : b.length ≤ 70 ∧ text.length ≤ 3000
      · obtain ⟨h1, h2⟩ := hlong
        repeat' (first | refine a_mov ?_ | refine a_asg ?_ | refine a_binN ?_ | refine a_notd ?_ | refine a_notb ?_ | refine a_nilc ?_ | refine a_fa ?_ | refine a_ext ?_ | refine a_lenv ?_ | refine a_lens ?_ | refine a_pick_t ?_ | refine a_pick_f ?_ | refine a_not ?_ | refine a_nilf ?_ | (refine a_bin ?_ ?_ <;> intro _ <;> try (exfalso; omega)) | refine a_ld hl ?_ | (refine a_st hl ?_; clear hl; intro _ hl) | refine a_ix (fun _ => ?_) | fail)
        refine o_nil (hK2 _ _ ?_)
        clear hK2 K2
        refine wk_cond_f rfl ?_
        exact wk_skip ⟨(), ⟨rfl, rfl, rfl, rfl, rfl, trivial⟩, rfl, hx4⟩
      · repeat' (first | refine a_mov ?_ | refine a_asg ?_ | refine a_binN ?_ | refine a_notd ?_ | refine a_notb ?_ | refine a_nilc ?_ | refine a_fa ?_ | refine a_ext ?_ | refine a_lenv ?_ | refine a_lens ?_ | refine a_pick_t ?_ | refine a_pick_f ?_ | refine a_not ?_ | refine a_nilf ?_ | (refine a_bin ?_ ?_ <;> intro _ <;> try (exfalso; omega)) | refine a_ld hl ?_ | (refine a_st hl ?_; clear hl; intro _ hl) | refine a_ix (fun _ => ?_) | fail)
        all_goals
          refine o_nil (hK2 _ _ ?_)
          clear hK2 K2
          refine wk_cond_t rfl ?_
          refine wk_seq fun K2 hK2 => ?_
          refine wk_reg ?_
          repeat' (first | refine a_mov ?_ | refine a_asg ?_ | refine a_binN ?_ | refine a_notd ?_ | refine a_notb ?_ | refine a_nilc ?_ | refine a_fa ?_ | refine a_ext ?_ | refine a_lenv ?_ | refine a_lens ?_ | refine a_pick_t ?_ | refine a_pick_f ?_ | refine a_not ?_ | refine a_nilf ?_ | (refine a_bin ?_ ?_ <;> intro _ <;> try (exfalso; omega)) | refine a_ld hl ?_ | (refine a_st hl ?_; clear hl; intro _ hl) | refine a_ix (fun _ => ?_) | fail)
          refine o_nil (hK2 _ _ ?_)
          refine wk_ret (retQ_tmp1 Tryd.results5 (by decide) rfl (by conv => lhs; whnf) ?_)
          exact ⟨rfl, hx.trans hx4⟩
  rintro _ t w4 hx4
  refine hK _ _ ?_
  clear hK K
  replace ht := ht.ext hx4
  replace hd := hd.ext hx4
  replace ha := ha.ext hx4
  replace hb := hb.ext hx4
  replace hrd := hrd.ext hx4
  replace hx := hx.trans hx4
  clear hx4
  refine wk_seq fun K hK => ?_
  refine wk_reg ?_
  refine a_all hrd ?_
  refine a_mov ?_
  refine a_fn (caseText_calls hd.1 ha.1 hF hA hFn ht) ?_
  rintro _ w5 ⟨rfl, hx5⟩
  refine a_asg ?_
  refine o_nil (hK _ _ ?_)
  clear hK K
  replace ht := ht.ext hx5
  replace hd := hd.ext hx5
  replace ha := ha.ext hx5
  replace hb := hb.ext hx5
  replace hrd := hrd.ext hx5
  replace hx := hx.trans hx5
  clear hx5
  refine wk_seq fun K hK => ?_
  refine wk_reg ?_
  refine a_all hrd ?_
  refine a_mov ?_
  refine a_fn (parseC_calls2 hd.1 hF hFn (textC F a)) ?_
  rintro _ w6 ⟨⟨xv, rfl, hxv⟩, hx6⟩
  obtain ⟨xa, xm, xc, rfl⟩ := sl_is hxv
  repeat' (first | refine a_mov ?_ | refine a_asg ?_ | refine a_binN ?_ | refine a_notd ?_ | refine a_notb ?_ | refine a_nilc ?_ | refine a_fa ?_ | refine a_ext ?_ | refine a_lenv ?_ | refine a_lens ?_ | refine a_pick_t ?_ | refine a_pick_f ?_ | refine a_not ?_ | refine a_nilf ?_ | (refine a_bin ?_ ?_ <;> intro _ <;> try (exfalso; omega)) | refine a_ld hl ?_ | (refine a_st hl ?_; clear hl; intro _ hl) | refine a_ix (fun _ => ?_) | fail)
  refine o_nil (hK _ _ ?_)
  clear hK K
  replace ht := ht.ext hx6
  replace hd := hd.ext hx6
  replace ha := ha.ext hx6
  replace hb := hb.ext hx6
  replace hrd := hrd.ext hx6
  replace hx := hx.trans hx6
  clear hx6
  refine wk_seq fun K hK => ?_
  refine wk_cut [] (fun _ : Unit => [(3, str text), (4, .pointer (some ⟨b4, 0, none⟩)), (9, .bool true)]) (fun _ w' => Ext w6 w') ?_ ?_
  · refine wk_seq fun K2 hK2 => ?_
    refine wk_reg ?_
    refine a_all hrd ?_
    refine a_mov ?_
    refine a_fn (fits_calls hd.1 ha.1 hF hA hFn) ?_
    rintro _ w7 ⟨rfl, hx7⟩
    cases hfa : fitsB F a
    · have htx : textC F a = [] := by unfold textC; rw [hfa, if_neg (by decide)]
      rw [htx]
      repeat' (first | refine a_mov ?_ | refine a_asg ?_ | refine a_binN ?_ | refine a_notd ?_ | refine a_notb ?_ | refine a_nilc ?_ | refine a_fa ?_ | refine a_ext ?_ | refine a_lenv ?_ | refine a_lens ?_ | refine a_pick_t ?_ | refine a_pick_f ?_ | refine a_not ?_ | refine a_nilf ?_ | (refine a_bin ?_ ?_ <;> intro _ <;> try (exfalso; omega)) | refine a_ld hl ?_ | (refine a_st hl ?_; clear hl; intro _ hl) | refine a_ix (fun _ => ?_) | refine a_all (hrd.ext hx7) ?_ | fail)
      refine a_fn (fits_calls (hd.1.ext hx7) (ha.1.ext hx7) hF hA hFn) ?_
      rintro _ w8 ⟨rfl, hx8⟩
      rw [hfa]
      repeat' (first | refine a_mov ?_ | refine a_asg ?_ | refine a_binN ?_ | refine a_notd ?_ | refine a_notb ?_ | refine a_nilc ?_ | refine a_fa ?_ | refine a_ext ?_ | refine a_lenv ?_ | refine a_lens ?_ | refine a_pick_t ?_ | refine a_pick_f ?_ | refine a_not ?_ | refine a_nilf ?_ | (refine a_bin ?_ ?_ <;> intro _ <;> try (exfalso; omega)) | refine a_ld hl ?_ | (refine a_st hl ?_; clear hl; intro _ hl) | refine a_ix (fun _ => ?_) | refine a_all ((hrd.ext hx7).ext hx8) ?_ | fail)
      refine a_fn (fits_calls ((hd.1.ext hx7).ext hx8) ((ha.1.ext hx7).ext hx8) hF hA hFn) ?_
      rintro _ w9 ⟨rfl, hx9⟩
      rw [hfa]
      repeat' (first | refine a_mov ?_ | refine a_asg ?_ | refine a_binN ?_ | refine a_notd ?_ | refine a_notb ?_ | refine a_nilc ?_ | refine a_fa ?_ | refine a_ext ?_ | refine a_lenv ?_ | refine a_lens ?_ | refine a_pick_t ?_ | refine a_pick_f ?_ | refine a_not ?_ | refine a_nilf ?_ | (refine a_bin ?_ ?_ <;> intro _ <;> try (exfalso; omega)) | refine a_ld hl ?_ | (refine a_st hl ?_; clear hl; intro _ hl) | refine a_ix (fun _ => ?_) | fail)
      refine o_nesT (a := []) (b := []) rfl rfl (by simp only [str_eq]; rfl) (fun h => absurd rfl h) (fun _ => ?_)
      repeat' (first | refine a_mov ?_ | refine a_asg ?_ | refine a_binN ?_ | refine a_notd ?_ | refine a_notb ?_ | refine a_nilc ?_ | refine a_fa ?_ | refine a_ext ?_ | refine a_lenv ?_ | refine a_lens ?_ | refine a_pick_t ?_ | refine a_pick_f ?_ | refine a_not ?_ | refine a_nilf ?_ | (refine a_bin ?_ ?_ <;> intro _ <;> try (exfalso; omega)) | refine a_ld hl ?_ | (refine a_st hl ?_; clear hl; intro _ hl) | refine a_ix (fun _ => ?_) | fail)
      refine o_nil (hK2 _ _ ?_)
      clear hK2 K2
      refine wk_cond_f rfl ?_
      exact wk_skip ⟨(), ⟨rfl, rfl, rfl, trivial⟩, rfl, (hx7.trans hx8).trans hx9⟩
    · rw [parseC_text hfa] at hxv ⊢
      rw [show erO (Sum.inl a : List Int ⊕ (Int × Int)) = 0 from rfl]
      have hxv : Sl w6 (.slice xa xm xc) 1 (intsL a) := hxv
      repeat' (first | refine a_mov ?_ | refine a_asg ?_ | refine a_binN ?_ | refine a_notd ?_ | refine a_notb ?_ | refine a_nilc ?_ | refine a_fa ?_ | refine a_ext ?_ | refine a_lenv ?_ | refine a_lens ?_ | refine a_pick_t ?_ | refine a_pick_f ?_ | refine a_not ?_ | refine a_nilf ?_ | (refine a_bin ?_ ?_ <;> intro _ <;> try (exfalso; omega)) | refine a_ld hl ?_ | (refine a_st hl ?_; clear hl; intro _ hl) | refine a_ix (fun _ => ?_) | fail)
      refine a_fn (equal_calls (hxv.ext hx7) (ha.1.ext hx7) hA hA) ?_
      rintro _ w8 ⟨rfl, hx8⟩
      rw [decide_eq_true rfl]
      have h78 := hx7.trans hx8
      repeat' (first | refine a_mov ?_ | refine a_asg ?_ | refine a_binN ?_ | refine a_notd ?_ | refine a_notb ?_ | refine a_nilc ?_ | refine a_fa ?_ | refine a_ext ?_ | refine a_lenv ?_ | refine a_lens ?_ | refine a_pick_t ?_ | refine a_pick_f ?_ | refine a_not ?_ | refine a_nilf ?_ | (refine a_bin ?_ ?_ <;> intro _ <;> try (exfalso; omega)) | refine a_ld hl ?_ | (refine a_st hl ?_; clear hl; intro _ hl) | refine a_ix (fun _ => ?_) | refine a_all (hrd.ext h78) ?_ | fail)
      refine a_fn (fits_calls (hd.1.ext h78) (ha.1.ext h78) hF hA hFn) ?_
      rintro _ w9 ⟨rfl, hx9⟩
      rw [hfa]
      have h79 := h78.trans hx9
      repeat' (first | refine a_mov ?_ | refine a_asg ?_ | refine a_binN ?_ | refine a_notd ?_ | refine a_notb ?_ | refine a_nilc ?_ | refine a_fa ?_ | refine a_ext ?_ | refine a_lenv ?_ | refine a_lens ?_ | refine a_pick_t ?_ | refine a_pick_f ?_ | refine a_not ?_ | refine a_nilf ?_ | (refine a_bin ?_ ?_ <;> intro _ <;> try (exfalso; omega)) | refine a_ld hl ?_ | (refine a_st hl ?_; clear hl; intro _ hl) | refine a_ix (fun _ => ?_) | refine a_all (hrd.ext h79) ?_ | fail)
      refine a_fn (fits_calls (hd.1.ext h79) (hb.1.ext h79) hF hB hFn) ?_
      rintro _ w10 ⟨rfl, hx10⟩
      have h710 := h79.trans hx10
      cases hfb : fitsB F b
      · repeat' (first | refine a_mov ?_ | refine a_asg ?_ | refine a_binN ?_ | refine a_notd ?_ | refine a_notb ?_ | refine a_nilc ?_ | refine a_fa ?_ | refine a_ext ?_ | refine a_lenv ?_ | refine a_lens ?_ | refine a_pick_t ?_ | refine a_pick_f ?_ | refine a_not ?_ | refine a_nilf ?_ | (refine a_bin ?_ ?_ <;> intro _ <;> try (exfalso; omega)) | refine a_ld hl ?_ | (refine a_st hl ?_; clear hl; intro _ hl) | refine a_ix (fun _ => ?_) | refine a_all (hrd.ext h710) ?_ | fail)
        refine a_fn (fits_calls (hd.1.ext h710) (ha.1.ext h710) hF hA hFn) ?_
        rintro _ w11 ⟨rfl, hx11⟩
        rw [hfa]
        repeat' (first | refine a_mov ?_ | refine a_asg ?_ | refine a_binN ?_ | refine a_notd ?_ | refine a_notb ?_ | refine a_nilc ?_ | refine a_fa ?_ | refine a_ext ?_ | refine a_lenv ?_ | refine a_lens ?_ | refine a_pick_t ?_ | refine a_pick_f ?_ | refine a_not ?_ | refine a_nilf ?_ | (refine a_bin ?_ ?_ <;> intro _ <;> try (exfalso; omega)) | refine a_ld hl ?_ | (refine a_st hl ?_; clear hl; intro _ hl) | refine a_ix (fun _ => ?_) | fail)
        refine o_nil (hK2 _ _ ?_)
        clear hK2 K2
        refine wk_cond_f rfl ?_
        exact wk_skip ⟨(), ⟨rfl, rfl, rfl, trivial⟩, rfl, h710.trans hx11⟩
      · obtain ⟨q, hq⟩ : ∃ q, q = decide (a = b) := ⟨_, rfl⟩
        have hq2 : decide (textC F a = textC F b) = q := by
          rw [hq]
          by_cases h : a = b
          · rw [decide_eq_true h, decide_eq_true (by rw [h])]
          · rw [decide_eq_false h, decide_eq_false fun h2 => h (textC_inj hfa hfb h2)]
        repeat' (first | refine a_mov ?_ | refine a_asg ?_ | refine a_binN ?_ | refine a_notd ?_ | refine a_notb ?_ | refine a_nilc ?_ | refine a_fa ?_ | refine a_ext ?_ | refine a_lenv ?_ | refine a_lens ?_ | refine a_pick_t ?_ | refine a_pick_f ?_ | refine a_not ?_ | refine a_nilf ?_ | (refine a_bin ?_ ?_ <;> intro _ <;> try (exfalso; omega)) | refine a_ld hl ?_ | (refine a_st hl ?_; clear hl; intro _ hl) | refine a_ix (fun _ => ?_) | refine a_all (hrd.ext h710) ?_ | fail)
        refine a_fn (caseText_calls (hd.1.ext h710) (hb.1.ext h710) hF hB hFn (ht.ext h710)) ?_
        rintro _ w11 ⟨rfl, hx11⟩
        have h711 := h710.trans hx11
        refine o_eqs (a := textC F a) (b := textC F b) rfl rfl rfl ?_
        rw [hq2]
        repeat' (first | refine a_mov ?_ | refine a_asg ?_ | refine a_binN ?_ | refine a_notd ?_ | refine a_notb ?_ | refine a_nilc ?_ | refine a_fa ?_ | refine a_ext ?_ | refine a_lenv ?_ | refine a_lens ?_ | refine a_pick_t ?_ | refine a_pick_f ?_ | refine a_not ?_ | refine a_nilf ?_ | (refine a_bin ?_ ?_ <;> intro _ <;> try (exfalso; omega)) | refine a_ld hl ?_ | (refine a_st hl ?_; clear hl; intro _ hl) | refine a_ix (fun _ => ?_) | fail)
        refine a_fn (equal_calls (ha.1.ext h711) (hb.1.ext h711) hA hB) ?_
        rintro _ w12 ⟨rfl, hx12⟩
        have h712 := h711.trans hx12
        rw [← hq]
        clear hq hq2
        cases q
        all_goals
          refine o_neB rfl rfl rfl rfl ?_
          repeat' (first | refine a_mov ?_ | refine a_asg ?_ | refine a_binN ?_ | refine a_notd ?_ | refine a_notb ?_ | refine a_nilc ?_ | refine a_fa ?_ | refine a_ext ?_ | refine a_lenv ?_ | refine a_lens ?_ | refine a_pick_t ?_ | refine a_pick_f ?_ | refine a_not ?_ | refine a_nilf ?_ | (refine a_bin ?_ ?_ <;> intro _ <;> try (exfalso; omega)) | refine a_ld hl ?_ | (refine a_st hl ?_; clear hl; intro _ hl) | refine a_ix (fun _ => ?_) | refine a_all (hrd.ext h712) ?_ | fail)
          refine a_fn (fits_calls (hd.1.ext h712) (ha.1.ext h712) hF hA hFn) ?_
          rintro _ w13 ⟨rfl, hx13⟩
          rw [hfa]
          repeat' (first | refine a_mov ?_ | refine a_asg ?_ | refine a_binN ?_ | refine a_notd ?_ | refine a_notb ?_ | refine a_nilc ?_ | refine a_fa ?_ | refine a_ext ?_ | refine a_lenv ?_ | refine a_lens ?_ | refine a_pick_t ?_ | refine a_pick_f ?_ | refine a_not ?_ | refine a_nilf ?_ | (refine a_bin ?_ ?_ <;> intro _ <;> try (exfalso; omega)) | refine a_ld hl ?_ | (refine a_st hl ?_; clear hl; intro _ hl) | refine a_ix (fun _ => ?_) | fail)
          refine o_nil (hK2 _ _ ?_)
          clear hK2 K2
          refine wk_cond_f rfl ?_
          exact wk_skip ⟨(), ⟨rfl, rfl, rfl, trivial⟩, rfl, h712.trans hx13⟩
  rintro _ t2 w7 hx7
  refine hK _ _ ?_
  clear hK K hxv
  replace hd := hd.ext hx7
  replace hrd := hrd.ext hx7
  replace hx := hx.trans hx7
  clear hx7 ha hb ht
  refine wk_seq fun K hK => ?_
  refine wk_reg ?_
  refine a_all hrd ?_
  refine a_mov ?_
  refine a_fn (parseC_calls2 hd.1 hF hFn text) ?_
  rintro _ w8 ⟨⟨yv, rfl, hyv⟩, hx8⟩
  cases hp : parseC F text with
  | inl c =>
    rw [hp] at hyv
    obtain ⟨ya, ym, yc, rfl⟩ := sl_is hyv
    have hyv : Sl w8 (.slice ya ym yc) 1 (intsL c) := hyv
    have hfc := parseC_fits hp
    obtain ⟨hvd, hfc2⟩ := fitsB_parts hfc
    have h60 := ((valid_iff F).1 hvd).2.2
    have hcl := ((Fo.fitsC_iff F c).1 hfc2).1
    rw [show erO (Sum.inl c : List Int ⊕ (Int × Int)) = 0 from rfl, show atO (Sum.inl c : List Int ⊕ (Int × Int)) = 0 from rfl]
    repeat' (first | refine a_mov ?_ | refine a_asg ?_ | refine a_binN ?_ | refine a_notd ?_ | refine a_notb ?_ | refine a_nilc ?_ | refine a_fa ?_ | refine a_ext ?_ | refine a_lenv ?_ | refine a_lens ?_ | refine a_pick_t ?_ | refine a_pick_f ?_ | refine a_not ?_ | refine a_nilf ?_ | (refine a_bin ?_ ?_ <;> intro _ <;> try (exfalso; omega)) | refine a_ld hl ?_ | (refine a_st hl ?_; clear hl; intro _ hl) | refine a_ix (fun _ => ?_) | fail)
    refine o_nil (hK _ _ ?_)
    clear hK K
    refine wk_seq fun K hK => ?_
    refine wk_seq fun K2 hK2 => ?_
    refine wk_reg ?_
    repeat' (first | refine a_mov ?_ | refine a_asg ?_ | refine a_binN ?_ | refine a_notd ?_ | refine a_notb ?_ | refine a_nilc ?_ | refine a_fa ?_ | refine a_ext ?_ | refine a_lenv ?_ | refine a_lens ?_ | refine a_pick_t ?_ | refine a_pick_f ?_ | refine a_not ?_ | refine a_nilf ?_ | (refine a_bin ?_ ?_ <;> intro _ <;> try (exfalso; omega)) | refine a_ld hl ?_ | (refine a_st hl ?_; clear hl; intro _ hl) | refine a_ix (fun _ => ?_) | fail)
    refine o_nil (hK2 _ _ ?_)
    clear hK2 K2
    refine wk_cond_f rfl ?_
    refine wk_skip (hK _ _ ?_)
    clear hK K
    refine wk_seq fun K hK => ?_
    refine wk_reg ?_
    repeat' (first | refine a_mov ?_ | refine a_asg ?_ | refine a_binN ?_ | refine a_notd ?_ | refine a_notb ?_ | refine a_nilc ?_ | refine a_fa ?_ | refine a_ext ?_ | refine a_lenv ?_ | refine a_lens ?_ | refine a_pick_t ?_ | refine a_pick_f ?_ | refine a_not ?_ | refine a_nilf ?_ | (refine a_bin ?_ ?_ <;> intro _ <;> try (exfalso; omega)) | refine a_ld hl ?_ | (refine a_st hl ?_; clear hl; intro _ hl) | refine a_ix (fun _ => ?_) | refine a_all (hrd.ext hx8) ?_ | fail)
    refine a_fn (fits_calls (hd.1.ext hx8) hyv hF (by omega) hFn) ?_
    rintro _ w9 ⟨rfl, hx9⟩
    rw [hfc]
    repeat' (first | refine a_mov ?_ | refine a_asg ?_ | refine a_binN ?_ | refine a_notd ?_ | refine a_notb ?_ | refine a_nilc ?_ | refine a_fa ?_ | refine a_ext ?_ | refine a_lenv ?_ | refine a_lens ?_ | refine a_pick_t ?_ | refine a_pick_f ?_ | refine a_not ?_ | refine a_nilf ?_ | (refine a_bin ?_ ?_ <;> intro _ <;> try (exfalso; omega)) | refine a_ld hl ?_ | (refine a_st hl ?_; clear hl; intro _ hl) | refine a_ix (fun _ => ?_) | fail)
    refine o_nil (hK _ _ ?_)
    refine wk_ret (retQ_tmp1 Tryd.results5 (by decide) rfl (by conv => lhs; whnf) ?_)
    exact ⟨rfl, (hx.trans hx8).trans hx9⟩
  | inr p =>
    obtain ⟨e, a⟩ := p
    have hne := parseC_ne hp
    have hat := parseC_at hp
    rw [hp] at hyv
    rw [show erO (Sum.inr (e, a) : List Int ⊕ (Int × Int)) = e from rfl, show atO (Sum.inr (e, a) : List Int ⊕ (Int × Int)) = a from rfl]
    obtain ⟨ya, yc, rfl, -⟩ := hyv.shape (m := 0) rfl (by omega)
    repeat' (first | refine a_mov ?_ | refine a_asg ?_ | refine a_binN ?_ | refine a_notd ?_ | refine a_notb ?_ | refine a_nilc ?_ | refine a_fa ?_ | refine a_ext ?_ | refine a_lenv ?_ | refine a_lens ?_ | refine a_pick_t ?_ | refine a_pick_f ?_ | refine a_not ?_ | refine a_nilf ?_ | (refine a_bin ?_ ?_ <;> intro _ <;> try (exfalso; omega)) | refine a_ld hl ?_ | (refine a_st hl ?_; clear hl; intro _ hl) | refine a_ix (fun _ => ?_) | fail)
    refine o_nil (hK _ _ ?_)
    clear hK K
    refine wk_seq fun K hK => ?_
    refine wk_seq fun K2 hK2 => ?_
    refine wk_reg ?_
    repeat' (first | refine a_mov ?_ | refine a_asg ?_ | refine a_binN ?_ | refine a_notd ?_ | refine a_notb ?_ | refine a_nilc ?_ | refine a_fa ?_ | refine a_ext ?_ | refine a_lenv ?_ | refine a_lens ?_ | refine a_pick_t ?_ | refine a_pick_f ?_ | refine a_not ?_ | refine a_nilf ?_ | (refine a_bin ?_ ?_ <;> intro _ <;> try (exfalso; omega)) | refine a_ld hl ?_ | (refine a_st hl ?_; clear hl; intro _ hl) | refine a_ix (fun _ => ?_) | fail)
    refine o_nil (hK2 _ _ ?_)
    clear hK2 K2
    refine wk_cond_t rfl ?_
    refine wk_seq fun K2 hK2 => ?_
    refine wk_reg ?_
    repeat' (first | refine a_mov ?_ | refine a_asg ?_ | refine a_binN ?_ | refine a_notd ?_ | refine a_notb ?_ | refine a_nilc ?_ | refine a_fa ?_ | refine a_ext ?_ | refine a_lenv ?_ | refine a_lens ?_ | refine a_pick_t ?_ | refine a_pick_f ?_ | refine a_not ?_ | refine a_nilf ?_ | (refine a_bin ?_ ?_ <;> intro _ <;> try (exfalso; omega)) | refine a_ld hl ?_ | (refine a_st hl ?_; clear hl; intro _ hl) | refine a_ix (fun _ => ?_) | fail)
    refine o_nil (hK2 _ _ ?_)
    refine wk_ret (retQ_tmp1 Tryd.results5 (by decide) rfl (by conv => lhs; whnf) ?_)
    exact ⟨rfl, hx.trans hx8⟩
end Go.Proofs
