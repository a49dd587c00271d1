/-
  The statement about the reference, walked.
-/
import Derived.Test.YtcanaadgcgophaaDoorQFaRv
import Derived.Test.YtcanaadgcgophaaDoorQFaRx
import Derived.Test.YtcanaadgcgophaaDoorQFaRy
import Derived.Test.YtcanaadgcgophaaDoorQFaRz
set_option linter.unusedVariables false
set_option linter.unusedSimpArgs false
set_option linter.unnecessarySimpa false
set_option maxRecDepth 10000
namespace Go.Fac
open Go.Fo
theorem domO_len (t : Tx) : (faO (parseD t)).length ≤ 60 := by
  cases hp : parseD t with
  | inl F => exact ((valid_iff F).1 (parseD_valid hp)).2.2
  | inr p => simp [faO]
theorem casO_len (F : List Fact) (t : Tx) (hF : F.length ≤ 9223372036854775806) : (caO (parseC F t)).length ≤ 9223372036854775806 := by
  cases hp : parseC F t with
  | inl c =>
    have := ((Fo.fitsC_iff F c).1 (fitsB_parts (parseC_fits hp)).2).1
    simp only [caO]
    omega
  | inr p => simp [caO]
theorem nextO_len (F : List Fact) (c : List Int) (hF : F.length ≤ 9223372036854775806) : ((nextC F c).getD []).length ≤ 9223372036854775806 := by
  unfold nextC
  split
  · rename_i h
    obtain ⟨hv, hf⟩ := fitsB_parts h
    cases hn : nextL F c with
    | none => simp
    | some d =>
      have := ((Fo.fitsC_iff F d).1 (next_fits F c d (valid_lohi hv) hf hn).1).1
      simp only [Option.getD_some]
      omega
  · simp
theorem least_len (F : List Fact) : (leastC F).length ≤ F.length := by
  unfold leastC
  split <;> simp
end Go.Fac
namespace Go.Proofs
open Go Go.Pd Go.Fac Go.Fo
attribute [local irreducible] OpsL W RetQ OpsQ OpsC
theorem nextOut_is {w' : World} {q : Option (List Int)} {v : Value} (h : NextOut w' q v) : ∃ nv, v = .tuple #[nv, .bool q.isSome] ∧ Sl w' nv 1 (intsL (q.getD [])) := by
  cases q with
  | none => exact ⟨.slice none 0 0, h, Sl.nil _ _⟩
  | some d => exact h
set_option maxHeartbeats 16000000 in
theorem Matches_calls {F : List Fact} {c : List Int} {dv cv : Value} {name text other : Tx} {w : World} (ht : Tabs w) (hd : DomIn w F dv) (hc : CaseIn w c cv) :
    Calls Tryd.prog 3 #[.agg #[dv], cv, str name, str text, str other] w (fun e w' => ∃ v, e = .returned v ∧ v = .bool true ∧ Ext w w') := by
  obtain ⟨da, dc, rfl⟩ := hd.shape
  obtain ⟨ca, cc, rfl⟩ := hc.shape
  refine calls_of Tryd.func3 rfl Tryd.ntmps3 rfl ?_
  refine wk_seq fun K hK => ?_
  refine wk_reg ?_
  refine o_box (LH.start w (fun _ => False)) [.slice da F.length dc] rfl rfl rfl ?_
  intro b5 w2 hb5 hl
  have hrd : Row w2 b5 0 [.slice da F.length dc] := hl.rowL (vs := [.slice da F.length dc]) 0 0 1 rfl
  have hx2 := hl.done
  clear hl
  refine a_asg ?_
  refine o_nil (hK _ _ ?_)
  clear hK K
  refine wk_seq fun K hK => ?_
  refine wk_reg ?_
  refine a_fn (head_calls (ht.ext hx2)) ?_
  rintro _ w3 ⟨rfl, hx3⟩
  refine a_asg ?_
  refine o_nil (hK _ _ ?_)
  clear hK K
  have hx := hx2.trans hx3
  replace ht := ht.ext hx
  replace hd := hd.ext hx
  replace hc := hc.ext hx
  replace hrd := hrd.ext hx3
  clear hx2 hx3
  have hF := hd.n
  have hFn := hd.m
  have hC := hc.n
  refine wk_seq fun K hK => ?_
  refine wk_seq fun K2 hK2 => ?_
  refine wk_reg ?_
  refine a_all hrd ?_
  refine a_mov ?_
  refine a_fn (few_calls hd.1 hc.1 hF hC hFn) ?_
  rintro _ w4 ⟨rfl, hx4⟩
  cases hfa : (fewD F 70 && decide (c.length ≤ 70))
  · repeat' (first | refine a_mov ?_ | refine a_asg ?_ | refine a_binN ?_ | refine a_notd ?_ | refine a_notb ?_ | refine a_nilc ?_ | refine a_fa ?_ | refine a_ext ?_ | refine a_lenv ?_ | refine a_lens ?_ | refine a_pick_t ?_ | refine a_pick_f ?_ | refine a_not ?_ | refine a_nilf ?_ | (refine a_bin ?_ ?_ <;> intro _ <;> try (exfalso; omega)) | refine a_ld hl ?_ | (refine a_st hl ?_; clear hl; intro _ hl) | refine a_ix (fun _ => ?_) | fail)
    refine o_nil (hK2 _ _ ?_)
    clear hK2 K2
    refine wk_cond_t rfl ?_
    refine wk_seq fun K2 hK2 => ?_
    refine wk_reg ?_
    repeat' (first | refine a_mov ?_ | refine a_asg ?_ | refine a_binN ?_ | refine a_notd ?_ | refine a_notb ?_ | refine a_nilc ?_ | refine a_fa ?_ | refine a_ext ?_ | refine a_lenv ?_ | refine a_lens ?_ | refine a_pick_t ?_ | refine a_pick_f ?_ | refine a_not ?_ | refine a_nilf ?_ | (refine a_bin ?_ ?_ <;> intro _ <;> try (exfalso; omega)) | refine a_ld hl ?_ | (refine a_st hl ?_; clear hl; intro _ hl) | refine a_ix (fun _ => ?_) | fail)
    refine o_nil (hK2 _ _ ?_)
    refine wk_ret (retQ_tmp1 Tryd.results3 (by decide) rfl (by conv => lhs; whnf) ?_)
    exact ⟨rfl, hx.trans hx4⟩
  by_cases hn1 : name.length ≤ 100
  rotate_left
  · repeat' (first | refine a_mov ?_ | refine a_asg ?_ | refine a_binN ?_ | refine a_notd ?_ | refine a_notb ?_ | refine a_nilc ?_ | refine a_fa ?_ | refine a_ext ?_ | refine a_lenv ?_ | refine a_lens ?_ | refine a_pick_t ?_ | refine a_pick_f ?_ | refine a_not ?_ | refine a_nilf ?_ | (refine a_bin ?_ ?_ <;> intro _ <;> try (exfalso; omega)) | refine a_ld hl ?_ | (refine a_st hl ?_; clear hl; intro _ hl) | refine a_ix (fun _ => ?_) | fail)
    refine o_nil (hK2 _ _ ?_)
    clear hK2 K2
    refine wk_cond_t rfl ?_
    refine wk_seq fun K2 hK2 => ?_
    refine wk_reg ?_
    repeat' (first | refine a_mov ?_ | refine a_asg ?_ | refine a_binN ?_ | refine a_notd ?_ | refine a_notb ?_ | refine a_nilc ?_ | refine a_fa ?_ | refine a_ext ?_ | refine a_lenv ?_ | refine a_lens ?_ | refine a_pick_t ?_ | refine a_pick_f ?_ | refine a_not ?_ | refine a_nilf ?_ | (refine a_bin ?_ ?_ <;> intro _ <;> try (exfalso; omega)) | refine a_ld hl ?_ | (refine a_st hl ?_; clear hl; intro _ hl) | refine a_ix (fun _ => ?_) | fail)
    refine o_nil (hK2 _ _ ?_)
    refine wk_ret (retQ_tmp1 Tryd.results3 (by decide) rfl (by conv => lhs; whnf) ?_)
    exact ⟨rfl, hx.trans hx4⟩
  by_cases hn2 : text.length ≤ 3000
  rotate_left
  · repeat' (first | refine a_mov ?_ | refine a_asg ?_ | refine a_binN ?_ | refine a_notd ?_ | refine a_notb ?_ | refine a_nilc ?_ | refine a_fa ?_ | refine a_ext ?_ | refine a_lenv ?_ | refine a_lens ?_ | refine a_pick_t ?_ | refine a_pick_f ?_ | refine a_not ?_ | refine a_nilf ?_ | (refine a_bin ?_ ?_ <;> intro _ <;> try (exfalso; omega)) | refine a_ld hl ?_ | (refine a_st hl ?_; clear hl; intro _ hl) | refine a_ix (fun _ => ?_) | fail)
    refine o_nil (hK2 _ _ ?_)
    clear hK2 K2
    refine wk_cond_t rfl ?_
    refine wk_seq fun K2 hK2 => ?_
    refine wk_reg ?_
    repeat' (first | refine a_mov ?_ | refine a_asg ?_ | refine a_binN ?_ | refine a_notd ?_ | refine a_notb ?_ | refine a_nilc ?_ | refine a_fa ?_ | refine a_ext ?_ | refine a_lenv ?_ | refine a_lens ?_ | refine a_pick_t ?_ | refine a_pick_f ?_ | refine a_not ?_ | refine a_nilf ?_ | (refine a_bin ?_ ?_ <;> intro _ <;> try (exfalso; omega)) | refine a_ld hl ?_ | (refine a_st hl ?_; clear hl; intro _ hl) | refine a_ix (fun _ => ?_) | fail)
    refine o_nil (hK2 _ _ ?_)
    refine wk_ret (retQ_tmp1 Tryd.results3 (by decide) rfl (by conv => lhs; whnf) ?_)
    exact ⟨rfl, hx.trans hx4⟩
  by_cases hn3 : other.length ≤ 3000
  rotate_left
  · repeat' (first | refine a_mov ?_ | refine a_asg ?_ | refine a_binN ?_ | refine a_notd ?_ | refine a_notb ?_ | refine a_nilc ?_ | refine a_fa ?_ | refine a_ext ?_ | refine a_lenv ?_ | refine a_lens ?_ | refine a_pick_t ?_ | refine a_pick_f ?_ | refine a_not ?_ | refine a_nilf ?_ | (refine a_bin ?_ ?_ <;> intro _ <;> try (exfalso; omega)) | refine a_ld hl ?_ | (refine a_st hl ?_; clear hl; intro _ hl) | refine a_ix (fun _ => ?_) | fail)
    refine o_nil (hK2 _ _ ?_)
    clear hK2 K2
    refine wk_cond_t rfl ?_
    refine wk_seq fun K2 hK2 => ?_
    refine wk_reg ?_
    repeat' (first | refine a_mov ?_ | refine a_asg ?_ | refine a_binN ?_ | refine a_notd ?_ | refine a_notb ?_ | refine a_nilc ?_ | refine a_fa ?_ | refine a_ext ?_ | refine a_lenv ?_ | refine a_lens ?_ | refine a_pick_t ?_ | refine a_pick_f ?_ | refine a_not ?_ | refine a_nilf ?_ | (refine a_bin ?_ ?_ <;> intro _ <;> try (exfalso; omega)) | refine a_ld hl ?_ | (refine a_st hl ?_; clear hl; intro _ hl) | refine a_ix (fun _ => ?_) | fail)
    refine o_nil (hK2 _ _ ?_)
    refine wk_ret (retQ_tmp1 Tryd.results3 (by decide) rfl (by conv => lhs; whnf) ?_)
    exact ⟨rfl, hx.trans hx4⟩
  repeat' (first | refine a_mov ?_ | refine a_asg ?_ | refine a_binN ?_ | refine a_notd ?_ | refine a_notb ?_ | refine a_nilc ?_ | refine a_fa ?_ | refine a_ext ?_ | refine a_lenv ?_ | refine a_lens ?_ | refine a_pick_t ?_ | refine a_pick_f ?_ | refine a_not ?_ | refine a_nilf ?_ | (refine a_bin ?_ ?_ <;> intro _ <;> try (exfalso; omega)) | refine a_ld hl ?_ | (refine a_st hl ?_; clear hl; intro _ hl) | refine a_ix (fun _ => ?_) | fail)
  refine o_nil (hK2 _ _ ?_)
  clear hK2 K2
  refine wk_cond_f rfl ?_
  refine wk_skip (hK _ _ ?_)
  clear hK K
  replace ht := ht.ext hx4
  replace hd := hd.ext hx4
  replace hc := hc.ext hx4
  replace hrd := hrd.ext hx4
  replace hx := hx.trans hx4
  clear hx4 hfa
  have hdl := domO_len text
  have hcl := casO_len F other hF
  have hnl := nextO_len F c hF
  have hll := least_len F
  -- Parse
  refine wk_seq fun K hK => ?_
  refine wk_reg ?_
  refine a_mov ?_
  refine a_fn (parseD_calls2 text w4) ?_
  rintro _ w5 ⟨⟨xv, rfl, hxv⟩, hx5⟩
  obtain ⟨xa, xm, xc, rfl⟩ := sl_is hxv
  refine a_mov ?_
  refine a_ext ?_
  refine a_ext ?_
  refine a_ext ?_
  refine o_alloc (LH.start w5 (fun _ => False)) [.slice none 0 0] rfl rfl ?_
  intro b12 wa_ hb_ hl
  refine o_putN (us := [.slice xa xm xc]) hl rfl rfl rfl rfl rfl (.here rfl rfl) ?_
  clear hl
  intro w6 hl
  have hx6 := hl.done
  have hr12 : Row w6 b12 0 [.slice xa xm xc] := hl.rowL (vs := [.slice xa xm xc]) 0 0 1 rfl
  clear hl
  refine a_asg ?_
  refine a_asg ?_
  refine o_nil (hK _ _ ?_)
  clear hK K
  replace hxv := hxv.ext hx6
  have hx46 := hx5.trans hx6
  clear hx5 hx6
  refine wk_seq fun K hK => ?_
  refine wk_reg ?_
  refine a_mov ?_
  refine a_fn (parse6_calls hn2 w6) ?_
  rintro _ w7 ⟨⟨yv, rfl, hyv⟩, hx7⟩
  obtain ⟨ya, ym, yc, rfl⟩ := sl_is hyv
  refine a_mov ?_
  refine a_ext ?_
  refine a_ext ?_
  refine a_ext ?_
  refine o_alloc (LH.start w7 (fun _ => False)) [.slice none 0 0] rfl rfl ?_
  intro b15 wa_ hb_ hl
  refine o_putN (us := [.slice ya ym yc]) hl rfl rfl rfl rfl rfl (.here rfl rfl) ?_
  clear hl
  intro w8 hl
  have hx8 := hl.done
  have hr15 : Row w8 b15 0 [.slice ya ym yc] := hl.rowL (vs := [.slice ya ym yc]) 0 0 1 rfl
  clear hl
  refine a_asg ?_
  refine a_asg ?_
  refine o_nil (hK _ _ ?_)
  clear hK K
  have hx68 := hx7.trans hx8
  replace hyv := hyv.ext hx8
  replace hxv := hxv.ext hx68
  replace hr12 := hr12.ext hx68
  have hx48 := hx46.trans hx68
  replace ht := ht.ext hx48
  replace hd := hd.ext hx48
  replace hc := hc.ext hx48
  replace hrd := hrd.ext hx48
  replace hx := hx.trans hx48
  clear hx7 hx8 hx68 hx48 hx46
  -- ParseCase
  refine wk_seq fun K hK => ?_
  refine wk_reg ?_
  refine a_all hrd ?_
  refine a_mov ?_
  refine a_fn (parseC_calls2 hd.1 hF hFn other) ?_
  rintro _ w9 ⟨⟨uv, rfl, huv⟩, hx9⟩
  obtain ⟨ua, um, uc, rfl⟩ := sl_is huv
  repeat' (first | refine a_mov ?_ | refine a_asg ?_ | refine a_binN ?_ | refine a_notd ?_ | refine a_notb ?_ | refine a_nilc ?_ | refine a_fa ?_ | refine a_ext ?_ | refine a_lenv ?_ | refine a_lens ?_ | refine a_pick_t ?_ | refine a_pick_f ?_ | refine a_not ?_ | refine a_nilf ?_ | (refine a_bin ?_ ?_ <;> intro _ <;> try (exfalso; omega)) | refine a_ld hl ?_ | (refine a_st hl ?_; clear hl; intro _ hl) | refine a_ix (fun _ => ?_) | fail)
  refine o_nil (hK _ _ ?_)
  clear hK K
  replace hd := hd.ext hx9
  replace hrd := hrd.ext hx9
  refine wk_seq fun K hK => ?_
  refine wk_reg ?_
  refine a_all hrd ?_
  refine a_mov ?_
  refine a_fn (parseC6_calls hd.1 hF hFn hn3) ?_
  rintro _ w10 ⟨⟨vv, rfl, hvv⟩, hx10⟩
  obtain ⟨va, vm, vc, rfl⟩ := sl_is hvv
  repeat' (first | refine a_mov ?_ | refine a_asg ?_ | refine a_binN ?_ | refine a_notd ?_ | refine a_notb ?_ | refine a_nilc ?_ | refine a_fa ?_ | refine a_ext ?_ | refine a_lenv ?_ | refine a_lens ?_ | refine a_pick_t ?_ | refine a_pick_f ?_ | refine a_not ?_ | refine a_nilf ?_ | (refine a_bin ?_ ?_ <;> intro _ <;> try (exfalso; omega)) | refine a_ld hl ?_ | (refine a_st hl ?_; clear hl; intro _ hl) | refine a_ix (fun _ => ?_) | fail)
  refine o_nil (hK _ _ ?_)
  clear hK K
  have h810 := hx9.trans hx10
  replace huv := huv.ext hx10
  replace hd := hd.ext hx10
  replace hrd := hrd.ext hx10
  replace hc := hc.ext h810
  replace ht := ht.ext h810
  replace hxv := hxv.ext h810
  replace hyv := hyv.ext h810
  replace hr12 := hr12.ext h810
  replace hr15 := hr15.ext h810
  replace hx := hx.trans h810
  clear hx9 hx10 h810
  -- Next
  refine wk_seq fun K hK => ?_
  refine wk_reg ?_
  refine a_all hrd ?_
  refine a_mov ?_
  refine a_fn (factNext_calls hd.1 hc.1 hF hC hFn) ?_
  rintro v w11 ⟨hout, hx11⟩
  obtain ⟨pv, rfl, hpv⟩ := nextOut_is hout
  obtain ⟨pa, pm, pc, rfl⟩ := sl_is hpv
  repeat' (first | refine a_mov ?_ | refine a_asg ?_ | refine a_binN ?_ | refine a_notd ?_ | refine a_notb ?_ | refine a_nilc ?_ | refine a_fa ?_ | refine a_ext ?_ | refine a_lenv ?_ | refine a_lens ?_ | refine a_pick_t ?_ | refine a_pick_f ?_ | refine a_not ?_ | refine a_nilf ?_ | (refine a_bin ?_ ?_ <;> intro _ <;> try (exfalso; omega)) | refine a_ld hl ?_ | (refine a_st hl ?_; clear hl; intro _ hl) | refine a_ix (fun _ => ?_) | fail)
  refine o_nil (hK _ _ ?_)
  clear hK K hout
  replace hd := hd.ext hx11
  replace hc := hc.ext hx11
  replace hrd := hrd.ext hx11
  refine wk_seq fun K hK => ?_
  refine wk_reg ?_
  refine a_all hrd ?_
  refine a_mov ?_
  refine a_fn (next6_calls hd.1 hc.1 hF hC hFn) ?_
  rintro v w12 ⟨hout, hx12⟩
  obtain ⟨qv, rfl, hqv⟩ := nextOut_is hout
  obtain ⟨qa, qm, qc, rfl⟩ := sl_is hqv
  repeat' (first | refine a_mov ?_ | refine a_asg ?_ | refine a_binN ?_ | refine a_notd ?_ | refine a_notb ?_ | refine a_nilc ?_ | refine a_fa ?_ | refine a_ext ?_ | refine a_lenv ?_ | refine a_lens ?_ | refine a_pick_t ?_ | refine a_pick_f ?_ | refine a_not ?_ | refine a_nilf ?_ | (refine a_bin ?_ ?_ <;> intro _ <;> try (exfalso; omega)) | refine a_ld hl ?_ | (refine a_st hl ?_; clear hl; intro _ hl) | refine a_ix (fun _ => ?_) | fail)
  refine o_nil (hK _ _ ?_)
  clear hK K hout
  have h1012 := hx11.trans hx12
  replace hpv := hpv.ext hx12
  replace hd := hd.ext hx12
  replace hc := hc.ext hx12
  replace hrd := hrd.ext hx12
  replace ht := ht.ext h1012
  replace hxv := hxv.ext h1012
  replace hyv := hyv.ext h1012
  replace huv := huv.ext h1012
  replace hvv := hvv.ext h1012
  replace hr12 := hr12.ext h1012
  replace hr15 := hr15.ext h1012
  replace hx := hx.trans h1012
  clear hx11 hx12 h1012
  -- the rest
  have c17 : ∀ w_, Ext w12 w_ → Calls Tryd.prog 17 #[.agg #[.slice da F.length dc]] w_ (fun e w' => ∃ x, e = .returned x ∧ x = .bool (validD F) ∧ Ext w_ w') := fun w_ h => valid_calls (hd.1.ext h) hF hFn
  have c18 : ∀ w_, Ext w12 w_ → Calls Tryd.prog 18 #[.agg #[.slice da F.length dc]] w_ (fun e w' => ∃ x, e = .returned x ∧ x = .bool (validD F) ∧ Ext w_ w') := fun w_ h => valid6_calls (hd.1.ext h) hF hFn
  have c19 : ∀ w_, Ext w12 w_ → Calls Tryd.prog 19 #[.agg #[.slice da F.length dc], .slice ca c.length cc] w_ (fun e w' => ∃ x, e = .returned x ∧ x = .bool (fitsB F c) ∧ Ext w_ w') := fun w_ h => fits_calls (hd.1.ext h) (hc.1.ext h) hF hC hFn
  have c20 : ∀ w_, Ext w12 w_ → Calls Tryd.prog 20 #[.agg #[.slice da F.length dc], .slice ca c.length cc] w_ (fun e w' => ∃ x, e = .returned x ∧ x = .bool (fitsB F c) ∧ Ext w_ w') := fun w_ h => fits6_calls (hd.1.ext h) (hc.1.ext h) hF hC hFn
  have c21 : ∀ w_, Ext w12 w_ → Calls Tryd.prog 21 #[.agg #[.slice da F.length dc], str name] w_ (fun e w' => ∃ x, e = .returned x ∧ x = .int .i64 (idxI F name) ∧ Ext w_ w') := fun w_ h => factIndex_calls (hd.1.ext h) hF name
  have c22 : ∀ w_, Ext w12 w_ → Calls Tryd.prog 22 #[.agg #[.slice da F.length dc], str name] w_ (fun e w' => ∃ x, e = .returned x ∧ x = .int .i64 (idxI F name) ∧ Ext w_ w') := fun w_ h => refIndex_calls (hd.1.ext h) hF name
  have c23 : ∀ w_, Ext w12 w_ → Calls Tryd.prog 23 #[.agg #[.slice da F.length dc]] w_ (fun e w' => ∃ x, e = .returned x ∧ x = str (textD F) ∧ Ext w_ w') := fun w_ h => factText_calls (hd.1.ext h) hF hFn (ht.ext h)
  have c24 : ∀ w_, Ext w12 w_ → Calls Tryd.prog 24 #[.agg #[.slice da F.length dc]] w_ (fun e w' => ∃ x, e = .returned x ∧ x = str (textD F) ∧ Ext w_ w') := fun w_ h => text6_calls (hd.1.ext h) hF hFn
  have c25 : ∀ w_, Ext w12 w_ → Calls Tryd.prog 25 #[.agg #[.slice da F.length dc], .slice ca c.length cc] w_ (fun e w' => ∃ x, e = .returned x ∧ x = str (textC F c) ∧ Ext w_ w') := fun w_ h => caseText_calls (hd.1.ext h) (hc.1.ext h) hF hC hFn (ht.ext h)
  have c26 : ∀ w_, Ext w12 w_ → Calls Tryd.prog 26 #[.agg #[.slice da F.length dc], .slice ca c.length cc] w_ (fun e w' => ∃ x, e = .returned x ∧ x = str (textC F c) ∧ Ext w_ w') := fun w_ h => caseText6_calls (hd.1.ext h) (hc.1.ext h) hF hC hFn
  refine wk_seq fun K hK => ?_
  refine wk_quiet (List.range 40) ?_
  repeat' (first | refine q_mov ?_ | refine q_asg ?_ | refine q_fa ?_ | refine q_ext ?_ | refine q_binN ?_ | refine q_notd ?_ | refine q_notb ?_ | refine q_pick_t ?_ | refine q_pick_f ?_ | refine q_nilc ?_ | refine q_skip ?_ | refine q_lens ?_ | refine q_lenv ?_ | refine q_nil ?_ | refine q_ix (fun _ => ?_) | (refine q_bin ?_ ?_ <;> intro _ <;> try (exfalso; omega)) | refine q_all (fun w_ hw_ => hrd.ext hw_) ?_ | refine q_fn c17 ?_ | refine q_fn c18 ?_ | refine q_fn c19 ?_ | refine q_fn c20 ?_ | refine q_fn c21 ?_ | refine q_fn c22 ?_ | refine q_fn c23 ?_ | refine q_fn c24 ?_ | refine q_fn c25 ?_ | refine q_fn c26 ?_ | refine q_pur (v := .bool true) rfl rfl rfl (fun _ => (r_eqB (a := validD F) (b := validD F) rfl rfl rfl).trans (by rw [beq_self_eq_true])) ?_ | refine q_pur (v := .bool true) rfl rfl rfl (fun _ => (r_eqB (a := fitsB F c) (b := fitsB F c) rfl rfl rfl).trans (by rw [beq_self_eq_true])) ?_ | refine q_pur (v := .bool true) rfl rfl rfl (fun _ => (r_eqs (a := textD F) (b := textD F) rfl rfl).trans (by rw [decide_eq_true rfl])) ?_ | refine q_pur (v := .bool true) rfl rfl rfl (fun _ => (r_eqs (a := textC F c) (b := textC F c) rfl rfl).trans (by rw [decide_eq_true rfl])) ?_ | fail)
  intro w13 hx13
  refine hK _ _ ?_
  clear hK K c17 c18 c19 c20 c21 c22 c23 c24 c25 c26
  replace hd := hd.ext hx13
  replace hrd := hrd.ext hx13
  replace hxv := hxv.ext hx13
  replace hyv := hyv.ext hx13
  replace huv := huv.ext hx13
  replace hvv := hvv.ext hx13
  replace hpv := hpv.ext hx13
  replace hqv := hqv.ext hx13
  replace hr12 := hr12.ext hx13
  replace hr15 := hr15.ext hx13
  replace hx := hx.trans hx13
  have c27 : ∀ w_, Ext w13 w_ → Calls Tryd.prog 27 #[.agg #[.slice xa xm xc], .agg #[.slice ya ym yc]] w_ (fun e w' => ∃ x, e = .returned x ∧ x = .bool true ∧ Ext w_ w') := fun w_ h => by
    have := same_calls (hxv.ext h) (hyv.ext h) (by omega) (by omega)
    rw [decide_eq_true rfl] at this
    exact this
  have c28 : ∀ w_, Ext w13 w_ → Calls Tryd.prog 28 #[.slice ua um uc, .slice va vm vc] w_ (fun e w' => ∃ x, e = .returned x ∧ x = .bool true ∧ Ext w_ w') := fun w_ h => by
    have := equal_calls (huv.ext h) (hvv.ext h) hcl hcl
    rw [decide_eq_true rfl] at this
    exact this
  have c28b : ∀ w_, Ext w13 w_ → Calls Tryd.prog 28 #[.slice pa pm pc, .slice qa qm qc] w_ (fun e w' => ∃ x, e = .returned x ∧ x = .bool true ∧ Ext w_ w') := fun w_ h => by
    have := equal_calls (hpv.ext h) (hqv.ext h) hnl hnl
    rw [decide_eq_true rfl] at this
    exact this
  have c29 : ∀ w_, Ext w13 w_ → Calls Tryd.prog 29 #[.agg #[.slice da F.length dc]] w_ (fun e w' => ∃ x, e = .returned x ∧ Sl w' x 1 (intsL (leastC F)) ∧ Ext w_ w') := fun w_ h => least_calls (hd.1.ext h) hF hFn
  have c30 : ∀ w_, Ext w13 w_ → Calls Tryd.prog 30 #[.agg #[.slice da F.length dc]] w_ (fun e w' => ∃ x, e = .returned x ∧ Sl w' x 1 (intsL (leastC F)) ∧ Ext w_ w') := fun w_ h => least6_calls (hd.1.ext h) hF hFn
  refine wk_seq fun K hK => ?_
  refine wk_grow [([0, 1, 2, 3, 4, 5, 6, 7, 8, 9, 10, 11, 12, 13, 14, 15, 16, 17, 18, 19, 20, 21, 22, 23, 24, 25, 26, 27, 28, 29, 30, 31, 32, 33, 34, 35, 36, 37, 38, 39, 40, 41, 42, 43, 44, 45, 47], [46, 48]), ([49, 50, 51], [])] ?_
  refine g_two (fun v w' => Sl w' v 1 (intsL (leastC F))) (fun v w' => Sl w' v 1 (intsL (leastC F))) (fun v w w' h e => h.ext e) (fun v w w' h e => h.ext e) ?_
  repeat' (first | refine x_mov ?_ | refine x_asg ?_ | refine x_fa ?_ | refine x_ext ?_ | refine x_binN ?_ | refine x_notd ?_ | refine x_notb ?_ | refine x_pick_t ?_ | refine x_pick_f ?_ | refine x_nilc ?_ | refine x_skip ?_ | refine x_lens ?_ | refine x_lenv ?_ | refine x_ix (fun _ => ?_) | (refine x_bin ?_ ?_ <;> intro _ <;> try (exfalso; omega)) | refine x_all (fun w_ hw_ => hrd.ext hw_) ?_ | refine x_all (fun w_ hw_ => hr12.ext hw_) ?_ | refine x_all (fun w_ hw_ => hr15.ext hw_) ?_ | refine x_fn c27 ?_ | refine x_fn c28 ?_ | refine x_fn c28b ?_ | (refine x_eqB ?_; rw [beq_self_eq_true]) | fail)
  refine x_nil ⟨fun v1 v2 => p_fn (fun w' hw' _ => c29 w' hw'), fun v1 v2 => p_fn (fun w' hw' _ => c30 w' hw'), fun v1 v2 w14 hw14 ht1 ht2 => ?_⟩
  refine g_end ?_
  refine x_fn (v := .bool true) (fun w' hw' => ?_) ?_
  · have := equal_calls (ht1.ext hw') (ht2.ext hw') (by omega) (by omega)
    rw [decide_eq_true (rfl : leastC F = leastC F)] at this
    exact this
  repeat' (first | refine x_mov ?_ | refine x_asg ?_ | refine x_fa ?_ | refine x_ext ?_ | refine x_binN ?_ | refine x_notd ?_ | refine x_notb ?_ | refine x_pick_t ?_ | refine x_pick_f ?_ | refine x_nilc ?_ | refine x_skip ?_ | refine x_lens ?_ | refine x_lenv ?_ | refine x_ix (fun _ => ?_) | (refine x_bin ?_ ?_ <;> intro _ <;> try (exfalso; omega)) | fail)
  refine x_nil fun w15 hw15 => hK _ _ ?_
  refine wk_ret (retQ_tmp1 Tryd.results3 (by decide) rfl (by conv => lhs; whnf) ?_)
  exact ⟨rfl, (hx.trans hw14).trans hw15⟩
end Go.Proofs
