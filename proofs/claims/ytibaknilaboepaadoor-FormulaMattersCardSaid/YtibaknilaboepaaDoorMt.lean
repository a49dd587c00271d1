/-
  The statement FormulaMatters, walked.
-/
import Derived.Test.YtibaknilaboepaaDoorOp
import Derived.Test.YtibaknilaboepaaDoorMp
import Derived.Test.YtibaknilaboepaaDoorCv
set_option linter.unusedVariables false
set_option linter.unusedSimpArgs false
set_option linter.unnecessarySimpa false
set_option maxRecDepth 10000
namespace Go.Proofs
open Go Go.Pd Go.Lexs Go.Fin Go.Fo
attribute [local irreducible] OpsL W RetQ OpsQ OpsC

theorem strsL_one (T : List (List UInt8)) : (strsL T).all Value.oneCell' = true := by
  unfold strsL
  rw [List.all_flatMap, List.all_eq_true]
  exact fun s _ => strL_one s
theorem intsL_one (c : List Int) : (intsL c).all Value.oneCell' = true := by
  unfold intsL
  rw [List.all_flatMap, List.all_eq_true]
  exact fun z _ => rfl
theorem intsL_map (c : List Int) : intsL c = c.map fun z => Value.int .i64 z := by
  unfold intsL
  induction c with
  | nil => rfl
  | cons z c ih => rw [List.flatMap_cons, ih]; rfl
theorem intsL_set (c : List Int) (i : Nat) (z : Int) : intsL (c.set i z) = (intsL c).set i (.int .i64 z) := by
  rw [intsL_map, intsL_map, List.map_set]
theorem strsL_app (a b : List (List UInt8)) : strsL (a ++ b) = strsL a ++ strsL b := by unfold strsL; rw [List.flatMap_append]

set_option maxHeartbeats 8000000 in
theorem Matters_calls {w : World} {f : Fm} {fv dv av bv sv tv : Value} {F : List Fact} {a b : List Int} {S T : List (List UInt8)} (hf : FmIn w f fv) (hD : DomIn w F dv) (hA : CaseIn w a av) (hB : CaseIn w b bv) (hSin : StrsIn w S sv) (hTin : StrsIn w T tv) :
    Calls Tryd.prog 7 #[.agg (fmL f fv).toArray, .agg #[dv], av, bv, sv, tv] w (fun e w' => ∃ x, e = .returned x ∧ x = .bool true ∧ Ext w w') := by
  obtain ⟨hd, nF', tF'⟩ := hD
  obtain ⟨ha, nA'⟩ := hA
  obtain ⟨hb, nB'⟩ := hB
  obtain ⟨hs, nS', tS'⟩ := hSin
  obtain ⟨ht, nT', tT'⟩ := hTin
  obtain ⟨fa, fc, rfl, -⟩ := hf.k.shape
  obtain ⟨da, dc, rfl, -⟩ := hd.shape (factsL_len F) (by omega)
  obtain ⟨aa, ac, rfl, -⟩ := ha.shape (intsL_len a) (by omega)
  obtain ⟨ba, bc, rfl, -⟩ := hb.shape (intsL_len b) (by omega)
  obtain ⟨sa, sc, rfl, -⟩ := hs.shape (strsL_len S) (by omega)
  obtain ⟨ta, tc, rfl, -⟩ := ht.shape (strsL_len T) (by omega)
  have nF : F.length ≤ 9223372036854775806 := by omega
  have nA : a.length ≤ 9223372036854775806 := by omega
  have nB : b.length ≤ 9223372036854775806 := by omega
  have nS : S.length ≤ 9223372036854775806 := by omega
  have nT : T.length ≤ 9223372036854775806 := by omega
  have tF : ∀ f ∈ F, f.name.length ≤ 9223372036854775806 := fun f h => by have := tF' f h; omega
  have tS : ∀ s ∈ S, s.length ≤ 9223372036854775806 := fun s h => by have := tS' s h; omega
  have tT : ∀ s ∈ T, s.length ≤ 9223372036854775806 := fun s h => by have := tT' s h; omega
  refine calls_of Tryd.func7 rfl Tryd.ntmps7 rfl ?_
  refine wk_seq fun K hK => ?_
  refine wk_reg ?_
  refine o_box (LH.start w (fun _ => False)) [.int .i64 (f).op, str (f).name, .int .i64 (f).cmp, .int .i64 (f).num, .slice fa f.kids.length fc] rfl rfl rfl ?_
  intro bF w1 hbF hl
  refine o_box hl [.slice da F.length dc] rfl rfl rfl ?_
  clear hl
  intro bD w2 hbD hl
  repeat' (first | refine a_mov ?_ | refine a_asg ?_ | refine a_binN ?_ | refine a_notd ?_ | refine a_notb ?_ | refine a_nilc ?_ | refine a_fa ?_ | refine a_ext ?_ | refine a_lenv ?_ | refine a_lens ?_ | refine a_pick_t ?_ | refine a_pick_f ?_ | refine a_not ?_ | refine a_nilf ?_ | (refine o_nil (hK _ _ ?_); clear hK K) | refine wk_reg ?_ | refine wk_seq fun K hK => ?_ | (refine wk_skip (hK _ _ ?_); clear hK K) | (refine wk_label (hK _ _ ?_); clear hK K) | refine wk_scope ?_ | refine wk_block ?_ | refine wk_cond_t rfl ?_ | refine wk_cond_f rfl ?_ | (refine wk_exit ?_; (repeat (refine blockK_other rfl ?_)); refine blockK_same ?_; try ((repeat ((fail_if_success (refine hK _ _ ?_)); clear hK K)); refine hK _ _ ?_; clear hK K)) | (refine a_bin ?_ ?_ <;> intro _ <;> try (exfalso; omega)) | refine a_ld hl ?_ | (refine a_st hl ?_; clear hl; intro _ hl) | refine a_ix (fun _ => ?_) | fail)
  refine a_fn (head_calls w2) ?_
  rintro _ w4 ⟨rfl, hx⟩
  replace hl := hl.ext hx
  clear hx
  have he := hl.done
  have rf : Row w4 bF 0 [.int .i64 (f).op, str (f).name, .int .i64 (f).cmp, .int .i64 (f).num, .slice fa f.kids.length fc] := hl.rowL (vs := [.int .i64 (f).op, str (f).name, .int .i64 (f).cmp, .int .i64 (f).num, .slice fa f.kids.length fc]) 1 0 5 rfl
  have rd' : Row w4 bD 0 [.slice da F.length dc] := hl.rowL (vs := [.slice da F.length dc]) 0 0 1 rfl
  have hkf := hf.k.ext he
  replace hd := hd.ext he
  replace ha := ha.ext he
  replace hb := hb.ext he
  replace hs := hs.ext he
  replace ht := ht.ext he
  clear hl
  repeat' (first | refine a_mov ?_ | refine a_asg ?_ | refine a_binN ?_ | refine a_notd ?_ | refine a_notb ?_ | refine a_nilc ?_ | refine a_fa ?_ | refine a_ext ?_ | refine a_lenv ?_ | refine a_lens ?_ | refine a_pick_t ?_ | refine a_pick_f ?_ | refine a_not ?_ | refine a_nilf ?_ | (refine o_nil (hK _ _ ?_); clear hK K) | refine wk_reg ?_ | refine wk_seq fun K hK => ?_ | (refine wk_skip (hK _ _ ?_); clear hK K) | (refine wk_label (hK _ _ ?_); clear hK K) | refine wk_scope ?_ | refine wk_block ?_ | refine wk_cond_t rfl ?_ | refine wk_cond_f rfl ?_ | (refine wk_exit ?_; (repeat (refine blockK_other rfl ?_)); refine blockK_same ?_; try ((repeat ((fail_if_success (refine hK _ _ ?_)); clear hK K)); refine hK _ _ ?_; clear hK K)) | (refine a_bin ?_ ?_ <;> intro _ <;> try (exfalso; omega)) | refine a_ld hl ?_ | (refine a_st hl ?_; clear hl; intro _ hl) | refine a_ix (fun _ => ?_) | refine a_all rd' ?_)
  refine a_fn (few_calls hd ha hs nF nA nS tS) ?_
  rintro _ w5 ⟨rfl, hx⟩
  replace he := he.trans hx; replace rf := rf.ext hx; replace rd' := rd'.ext hx; replace hkf := hkf.ext hx; replace hd := hd.ext hx; replace ha := ha.ext hx; replace hb := hb.ext hx; replace hs := hs.ext hx; replace ht := ht.ext hx; clear hx
  cases hfew : fewB F a S
  · repeat' (first | refine a_mov ?_ | refine a_asg ?_ | refine a_binN ?_ | refine a_notd ?_ | refine a_notb ?_ | refine a_nilc ?_ | refine a_fa ?_ | refine a_ext ?_ | refine a_lenv ?_ | refine a_lens ?_ | refine a_pick_t ?_ | refine a_pick_f ?_ | refine a_not ?_ | refine a_nilf ?_ | (refine o_nil (hK _ _ ?_); clear hK K) | refine wk_reg ?_ | refine wk_seq fun K hK => ?_ | (refine wk_skip (hK _ _ ?_); clear hK K) | (refine wk_label (hK _ _ ?_); clear hK K) | refine wk_scope ?_ | refine wk_block ?_ | refine wk_cond_t rfl ?_ | refine wk_cond_f rfl ?_ | (refine wk_exit ?_; (repeat (refine blockK_other rfl ?_)); refine blockK_same ?_; try ((repeat ((fail_if_success (refine hK _ _ ?_)); clear hK K)); refine hK _ _ ?_; clear hK K)) | (refine a_bin ?_ ?_ <;> intro _ <;> try (exfalso; omega)) | refine a_ld hl ?_ | (refine a_st hl ?_; clear hl; intro _ hl) | refine a_ix (fun _ => ?_) | fail)
    refine wk_ret (retQ_tmp1 Tryd.results7 (by decide) rfl (by conv => lhs; whnf) ?_)
    exact ⟨rfl, he⟩
  repeat' (first | refine a_mov ?_ | refine a_asg ?_ | refine a_binN ?_ | refine a_notd ?_ | refine a_notb ?_ | refine a_nilc ?_ | refine a_fa ?_ | refine a_ext ?_ | refine a_lenv ?_ | refine a_lens ?_ | refine a_pick_t ?_ | refine a_pick_f ?_ | refine a_not ?_ | refine a_nilf ?_ | (refine o_nil (hK _ _ ?_); clear hK K) | refine wk_reg ?_ | refine wk_seq fun K hK => ?_ | (refine wk_skip (hK _ _ ?_); clear hK K) | (refine wk_label (hK _ _ ?_); clear hK K) | refine wk_scope ?_ | refine wk_block ?_ | refine wk_cond_t rfl ?_ | refine wk_cond_f rfl ?_ | (refine wk_exit ?_; (repeat (refine blockK_other rfl ?_)); refine blockK_same ?_; try ((repeat ((fail_if_success (refine hK _ _ ?_)); clear hK K)); refine hK _ _ ?_; clear hK K)) | (refine a_bin ?_ ?_ <;> intro _ <;> try (exfalso; omega)) | refine a_ld hl ?_ | (refine a_st hl ?_; clear hl; intro _ hl) | refine a_ix (fun _ => ?_) | refine a_all rd' ?_)
  refine a_fn (few_calls hd hb ht nF nB nT tT) ?_
  rintro _ w6 ⟨rfl, hx⟩
  replace he := he.trans hx; replace rf := rf.ext hx; replace rd' := rd'.ext hx; replace hkf := hkf.ext hx; replace hd := hd.ext hx; replace ha := ha.ext hx; replace hb := hb.ext hx; replace hs := hs.ext hx; replace ht := ht.ext hx; clear hx
  cases hfew2 : fewB F b T
  · repeat' (first | refine a_mov ?_ | refine a_asg ?_ | refine a_binN ?_ | refine a_notd ?_ | refine a_notb ?_ | refine a_nilc ?_ | refine a_fa ?_ | refine a_ext ?_ | refine a_lenv ?_ | refine a_lens ?_ | refine a_pick_t ?_ | refine a_pick_f ?_ | refine a_not ?_ | refine a_nilf ?_ | (refine o_nil (hK _ _ ?_); clear hK K) | refine wk_reg ?_ | refine wk_seq fun K hK => ?_ | (refine wk_skip (hK _ _ ?_); clear hK K) | (refine wk_label (hK _ _ ?_); clear hK K) | refine wk_scope ?_ | refine wk_block ?_ | refine wk_cond_t rfl ?_ | refine wk_cond_f rfl ?_ | (refine wk_exit ?_; (repeat (refine blockK_other rfl ?_)); refine blockK_same ?_; try ((repeat ((fail_if_success (refine hK _ _ ?_)); clear hK K)); refine hK _ _ ?_; clear hK K)) | (refine a_bin ?_ ?_ <;> intro _ <;> try (exfalso; omega)) | refine a_ld hl ?_ | (refine a_st hl ?_; clear hl; intro _ hl) | refine a_ix (fun _ => ?_) | fail)
    refine wk_ret (retQ_tmp1 Tryd.results7 (by decide) rfl (by conv => lhs; whnf) ?_)
    exact ⟨rfl, he⟩
  repeat' (first | refine a_mov ?_ | refine a_asg ?_ | refine a_binN ?_ | refine a_notd ?_ | refine a_notb ?_ | refine a_nilc ?_ | refine a_fa ?_ | refine a_ext ?_ | refine a_lenv ?_ | refine a_lens ?_ | refine a_pick_t ?_ | refine a_pick_f ?_ | refine a_not ?_ | refine a_nilf ?_ | (refine o_nil (hK _ _ ?_); clear hK K) | refine wk_reg ?_ | refine wk_seq fun K hK => ?_ | (refine wk_skip (hK _ _ ?_); clear hK K) | (refine wk_label (hK _ _ ?_); clear hK K) | refine wk_scope ?_ | refine wk_block ?_ | refine wk_cond_t rfl ?_ | refine wk_cond_f rfl ?_ | (refine wk_exit ?_; (repeat (refine blockK_other rfl ?_)); refine blockK_same ?_; try ((repeat ((fail_if_success (refine hK _ _ ?_)); clear hK K)); refine hK _ _ ?_; clear hK K)) | (refine a_bin ?_ ?_ <;> intro _ <;> try (exfalso; omega)) | refine a_ld hl ?_ | (refine a_st hl ?_; clear hl; intro _ hl) | refine a_ix (fun _ => ?_) | refine a_all rf ?_ | refine a_all rd' ?_)
  refine a_fn (good_calls F a nF nA tF f w6 _ _ _ _ hkf (fun b h => h) hf.n hf.ns hd ha) ?_
  rintro _ w7 ⟨rfl, hx⟩
  replace he := he.trans hx; replace rf := rf.ext hx; replace rd' := rd'.ext hx; replace hkf := hkf.ext hx; replace hd := hd.ext hx; replace ha := ha.ext hx; replace hb := hb.ext hx; replace hs := hs.ext hx; replace ht := ht.ext hx; clear hx
  cases hg : goodB F a f
  · repeat' (first | refine a_mov ?_ | refine a_asg ?_ | refine a_binN ?_ | refine a_notd ?_ | refine a_notb ?_ | refine a_nilc ?_ | refine a_fa ?_ | refine a_ext ?_ | refine a_lenv ?_ | refine a_lens ?_ | refine a_pick_t ?_ | refine a_pick_f ?_ | refine a_not ?_ | refine a_nilf ?_ | (refine o_nil (hK _ _ ?_); clear hK K) | refine wk_reg ?_ | refine wk_seq fun K hK => ?_ | (refine wk_skip (hK _ _ ?_); clear hK K) | (refine wk_label (hK _ _ ?_); clear hK K) | refine wk_scope ?_ | refine wk_block ?_ | refine wk_cond_t rfl ?_ | refine wk_cond_f rfl ?_ | (refine wk_exit ?_; (repeat (refine blockK_other rfl ?_)); refine blockK_same ?_; try ((repeat ((fail_if_success (refine hK _ _ ?_)); clear hK K)); refine hK _ _ ?_; clear hK K)) | (refine a_bin ?_ ?_ <;> intro _ <;> try (exfalso; omega)) | refine a_ld hl ?_ | (refine a_st hl ?_; clear hl; intro _ hl) | refine a_ix (fun _ => ?_) | fail)
    refine wk_ret (retQ_tmp1 Tryd.results7 (by decide) rfl (by conv => lhs; whnf) ?_)
    exact ⟨rfl, he⟩
  repeat' (first | refine a_mov ?_ | refine a_asg ?_ | refine a_binN ?_ | refine a_notd ?_ | refine a_notb ?_ | refine a_nilc ?_ | refine a_fa ?_ | refine a_ext ?_ | refine a_lenv ?_ | refine a_lens ?_ | refine a_pick_t ?_ | refine a_pick_f ?_ | refine a_not ?_ | refine a_nilf ?_ | (refine o_nil (hK _ _ ?_); clear hK K) | refine wk_reg ?_ | refine wk_seq fun K hK => ?_ | (refine wk_skip (hK _ _ ?_); clear hK K) | (refine wk_label (hK _ _ ?_); clear hK K) | refine wk_scope ?_ | refine wk_block ?_ | refine wk_cond_t rfl ?_ | refine wk_cond_f rfl ?_ | (refine wk_exit ?_; (repeat (refine blockK_other rfl ?_)); refine blockK_same ?_; try ((repeat ((fail_if_success (refine hK _ _ ?_)); clear hK K)); refine hK _ _ ?_; clear hK K)) | (refine a_bin ?_ ?_ <;> intro _ <;> try (exfalso; omega)) | refine a_ld hl ?_ | (refine a_st hl ?_; clear hl; intro _ hl) | refine a_ix (fun _ => ?_) | refine a_all rd' ?_)
  refine a_fn (fits_calls hd hb nF nB tF) ?_
  rintro _ w8 ⟨rfl, hx⟩
  replace he := he.trans hx; replace rf := rf.ext hx; replace rd' := rd'.ext hx; replace hkf := hkf.ext hx; replace hd := hd.ext hx; replace ha := ha.ext hx; replace hb := hb.ext hx; replace hs := hs.ext hx; replace ht := ht.ext hx; clear hx
  cases hfb : fitsB F b
  · repeat' (first | refine a_mov ?_ | refine a_asg ?_ | refine a_binN ?_ | refine a_notd ?_ | refine a_notb ?_ | refine a_nilc ?_ | refine a_fa ?_ | refine a_ext ?_ | refine a_lenv ?_ | refine a_lens ?_ | refine a_pick_t ?_ | refine a_pick_f ?_ | refine a_not ?_ | refine a_nilf ?_ | (refine o_nil (hK _ _ ?_); clear hK K) | refine wk_reg ?_ | refine wk_seq fun K hK => ?_ | (refine wk_skip (hK _ _ ?_); clear hK K) | (refine wk_label (hK _ _ ?_); clear hK K) | refine wk_scope ?_ | refine wk_block ?_ | refine wk_cond_t rfl ?_ | refine wk_cond_f rfl ?_ | (refine wk_exit ?_; (repeat (refine blockK_other rfl ?_)); refine blockK_same ?_; try ((repeat ((fail_if_success (refine hK _ _ ?_)); clear hK K)); refine hK _ _ ?_; clear hK K)) | (refine a_bin ?_ ?_ <;> intro _ <;> try (exfalso; omega)) | refine a_ld hl ?_ | (refine a_st hl ?_; clear hl; intro _ hl) | refine a_ix (fun _ => ?_) | fail)
    refine wk_ret (retQ_tmp1 Tryd.results7 (by decide) rfl (by conv => lhs; whnf) ?_)
    exact ⟨rfl, he⟩
  obtain ⟨⟨f1, f2⟩, hfa, hck⟩ := goodB_iff.1 hg
  obtain ⟨-, la, -⟩ := fits_parts hfa
  obtain ⟨-, lb, -⟩ := fits_parts hfb
  have shf := short_of (f := f) (by omega)
  repeat' (first | refine a_mov ?_ | refine a_asg ?_ | refine a_binN ?_ | refine a_notd ?_ | refine a_notb ?_ | refine a_nilc ?_ | refine a_fa ?_ | refine a_ext ?_ | refine a_lenv ?_ | refine a_lens ?_ | refine a_pick_t ?_ | refine a_pick_f ?_ | refine a_not ?_ | refine a_nilf ?_ | (refine o_nil (hK _ _ ?_); clear hK K) | refine wk_reg ?_ | refine wk_seq fun K hK => ?_ | (refine wk_skip (hK _ _ ?_); clear hK K) | (refine wk_label (hK _ _ ?_); clear hK K) | refine wk_scope ?_ | refine wk_block ?_ | refine wk_cond_t rfl ?_ | refine wk_cond_f rfl ?_ | (refine wk_exit ?_; (repeat (refine blockK_other rfl ?_)); refine blockK_same ?_; try ((repeat ((fail_if_success (refine hK _ _ ?_)); clear hK K)); refine hK _ _ ?_; clear hK K)) | (refine a_bin ?_ ?_ <;> intro _ <;> try (exfalso; omega)) | refine a_ld hl ?_ | (refine a_st hl ?_; clear hl; intro _ hl) | refine a_ix (fun _ => ?_) | refine a_all rf ?_)
  refine a_fn (terms_calls f w8 _ _ hkf (fun b h => h) shf (by omega)) ?_
  rintro mv w9 ⟨hm, hx⟩
  replace he := he.trans hx; replace rf := rf.ext hx; replace rd' := rd'.ext hx; replace hkf := hkf.ext hx; replace hd := hd.ext hx; replace ha := ha.ext hx; replace hb := hb.ext hx; replace hs := hs.ext hx; replace ht := ht.ext hx; clear hx
  obtain ⟨ma, mc, rfl, hmc⟩ := hm.shape (strsL_len _) (by omega)
  have hml : (termsOf f).length ≤ 1000000 := by
    have h1 := foldT_len (pre f) []
    have h2 := pre_length f
    unfold termsOf
    simp at h1
    omega
  have hless := fun i (hi : i < (termsOf f).length) => less_name hg hi
  have hlaw := fun (h : ∀ t ∈ termsOf f, S.contains t = T.contains t) => matters_law hg hfb h
  generalize hMT : termsOf f = Tm at *
  repeat' (first | refine a_mov ?_ | refine a_asg ?_ | refine a_binN ?_ | refine a_notd ?_ | refine a_notb ?_ | refine a_nilc ?_ | refine a_fa ?_ | refine a_ext ?_ | refine a_lenv ?_ | refine a_lens ?_ | refine a_pick_t ?_ | refine a_pick_f ?_ | refine a_not ?_ | refine a_nilf ?_ | (refine o_nil (hK _ _ ?_); clear hK K) | refine wk_reg ?_ | refine wk_seq fun K hK => ?_ | (refine wk_skip (hK _ _ ?_); clear hK K) | (refine wk_label (hK _ _ ?_); clear hK K) | refine wk_scope ?_ | refine wk_block ?_ | refine wk_cond_t rfl ?_ | refine wk_cond_f rfl ?_ | (refine wk_exit ?_; (repeat (refine blockK_other rfl ?_)); refine blockK_same ?_; try ((repeat ((fail_if_success (refine hK _ _ ?_)); clear hK K)); refine hK _ _ ?_; clear hK K)) | (refine a_bin ?_ ?_ <;> intro _ <;> try (exfalso; omega)) | refine a_ld hl ?_ | (refine a_st hl ?_; clear hl; intro _ hl) | refine a_ix (fun _ => ?_) | fail)
  refine wk_loopH [] rfl (fun i : Nat => [(2, .slice aa a.length ac), (3, .slice ba b.length bc), (4, .slice sa S.length sc), (5, .slice ta T.length tc), (6, .pointer (some ⟨bF, 0, none⟩)), (7, .pointer (some ⟨bD, 0, none⟩)), (13, .bool true), (14, .slice ma Tm.length mc), (15, .int .i64 (i : Int))]) (fun i w' => (i ≤ Tm.length ∧ ∀ j (hj : j < Tm.length), j < i → S.contains Tm[j] = T.contains Tm[j]) ∧ Ext w9 w') (fun i => Tm.length - i) 0 ⟨rfl, rfl, rfl, rfl, rfl, rfl, rfl, rfl, rfl, trivial⟩ ⟨⟨by omega, fun j hj h => by omega⟩, .refl _ _⟩ ?_
  rintro i t w10 ⟨⟨hi, hagr⟩, hx⟩
  replace he := he.trans hx; replace rf := rf.ext hx; replace rd' := rd'.ext hx; replace hkf := hkf.ext hx; replace hd := hd.ext hx; replace ha := ha.ext hx; replace hb := hb.ext hx; replace hs := hs.ext hx; replace ht := ht.ext hx
  replace hm := hm.ext hx
  by_cases hi1 : i < Tm.length
  · obtain ⟨bt, ot, hp, hr⟩ := Sl.text hm rfl hi1
    have hagr2 : S.contains Tm[i] = T.contains Tm[i] → ∀ j (hj : j < Tm.length), j < i + 1 → S.contains Tm[j] = T.contains Tm[j] := fun h j hj hji => by
      by_cases e : j = i
      · subst e; exact h
      · exact hagr j hj (by omega)
    generalize Tm[i] = n at *
    have hcH := (cutH_sl (P := Tryd.prog) (t := 30) (k := 1) (hi := i) rfl rfl hm (strsL_len _) (by decide) hmc (by omega)).1
    have hcL := (cutL_sl (P := Tryd.prog) (t := 30) (k := 1) (lo := i + 1) rfl rfl hm (strsL_len _) (by decide) hmc (by omega)).1
    rw [show strsL Tm = Tm.flatMap strL from rfl, flat_take strL_len] at hcH
    rw [show strsL Tm = Tm.flatMap strL from rfl, flat_drop strL_len] at hcL
    repeat' (first | refine a_mov ?_ | refine a_asg ?_ | refine a_binN ?_ | refine a_notd ?_ | refine a_notb ?_ | refine a_nilc ?_ | refine a_fa ?_ | refine a_ext ?_ | refine a_lenv ?_ | refine a_lens ?_ | refine a_pick_t ?_ | refine a_pick_f ?_ | refine a_not ?_ | refine a_nilf ?_ | (refine o_nil (hK _ _ ?_); clear hK K) | refine wk_reg ?_ | refine wk_seq fun K hK => ?_ | (refine wk_skip (hK _ _ ?_); clear hK K) | (refine wk_label (hK _ _ ?_); clear hK K) | refine wk_scope ?_ | refine wk_block ?_ | refine wk_cond_t rfl ?_ | refine wk_cond_f rfl ?_ | (refine wk_exit ?_; (repeat (refine blockK_other rfl ?_)); refine blockK_same ?_; try ((repeat ((fail_if_success (refine hK _ _ ?_)); clear hK K)); refine hK _ _ ?_; clear hK K)) | (refine a_bin ?_ ?_ <;> intro _ <;> try (exfalso; omega)) | refine a_ld hl ?_ | (refine a_st hl ?_; clear hl; intro _ hl) | refine a_ix (fun _ => ?_) | fail)
    refine wk_draw [1, 2, 3, 5, 6, 7, 8] [] [0, 4, 9, 10] (fun w' => To w10 w' w10.heap) (fun _ => True) rfl (by kernel_rfl) (fun _ _ _ _ h => by first | exact h | (simp only [BlockK, NoGoto, RetQ] at h)) (fun _ h => h) (fun _ _ => trivial) ?_
    repeat' (first | refine q_mov ?_ | refine q_asg ?_ | refine q_fa ?_ | refine q_ext ?_ | refine q_binN ?_ | refine q_notd ?_ | refine q_notb ?_ | refine q_pick_t ?_ | refine q_pick_f ?_ | refine q_nilc ?_ | refine q_skip ?_ | refine q_lens ?_ | refine q_lenv ?_ | refine q_nil ?_ | refine q_ix (fun _ => ?_) | (refine q_bin ?_ ?_ <;> intro _ <;> try (exfalso; omega)) | fail)
    refine q_pur rfl rfl rfl (fun w => r_slcH rfl rfl hmc (Nat.le_of_lt hi1) rfl rfl rfl w) ?_
    repeat' (first | refine q_mov ?_ | refine q_asg ?_ | refine q_fa ?_ | refine q_ext ?_ | refine q_binN ?_ | refine q_notd ?_ | refine q_notb ?_ | refine q_pick_t ?_ | refine q_pick_f ?_ | refine q_nilc ?_ | refine q_skip ?_ | refine q_lens ?_ | refine q_lenv ?_ | refine q_nil ?_ | refine q_ix (fun _ => ?_) | (refine q_bin ?_ ?_ <;> intro _ <;> try (exfalso; omega)) | fail)
    refine q_pur rfl rfl rfl (fun w => r_slcL (lo := i + 1) rfl rfl hmc hi1 rfl rfl (by omega) w) ?_
    refine q_nil ?_
    intro w11 hw11
    have hl0 : LH w10 (fun _ => False) w11 [] := (LH.start w10 _).heap hw11
    refine ops_tail rfl rfl ?_
    refine o_buildSlice0 hl0 rfl rfl rfl ?_
    clear hl0
    intro b0 w12 hb0 hl
    refine o_nil ⟨trivial, ?_⟩
    refine ops_tail rfl rfl ?_
    have hl : LH w10 (fun _ => False) w12 ([] ++ [(b0, .cells #[] 9 (0, 0))]) := hl
    refine o_appendS (bl' := []) (k := 1) (bytes := 16) (q := i) (us := strsL (Tm.take i)) hl (Acc.empty 1 9 b0) (hcH.ext hl.done) (by rw [strsL_len, List.length_take]; omega) (by decide) (strsL_one _) (by omega) (by omega) rfl rfl rfl rfl rfl rfl ?_
    clear hl
    intro v1 w13 acc1 hl hacc
    refine o_nil ⟨trivial, ?_⟩
    refine ops_tail rfl rfl ?_
    refine o_appendS (bl' := []) (k := 1) (bytes := 16) (q := Tm.length - (i + 1)) (us := strsL (Tm.drop (i + 1))) hl hacc (hcL.ext hl.done) (by rw [strsL_len, List.length_drop]) (by decide) (strsL_one _) (by omega) (by omega) rfl rfl rfl rfl rfl rfl ?_
    clear hl hacc
    intro v2 w14 acc2 hl hacc
    have hls : Sl w14 v2 1 (strsL (less Tm i)) := by
      have := hl.acc_sl hacc
      rw [List.nil_append, ← strsL_app] at this
      exact this
    have hy := hl.done
    clear hl hacc
    refine o_nil ⟨trivial, ?_⟩
    refine ops_tail rfl rfl ?_
    refine a_asg ?_
    refine o_nil ⟨trivial, ?_⟩
    refine ops_nil (hK _ _ ?_)
    clear hK K
    have hx := hx.trans hy
    replace he := he.trans hy; replace rf := rf.ext hy; replace rd' := rd'.ext hy; replace hkf := hkf.ext hy; replace hd := hd.ext hy; replace ha := ha.ext hy; replace hb := hb.ext hy; replace hs := hs.ext hy; replace ht := ht.ext hy
    replace hm := hm.ext hy
    replace hr := hr.ext hy
    clear hy
    have hlt : (less Tm i).length ≤ 1000000 := by unfold less; rw [List.length_append, List.length_take, List.length_drop]; omega
    repeat' (first | refine a_mov ?_ | refine a_asg ?_ | refine a_binN ?_ | refine a_notd ?_ | refine a_notb ?_ | refine a_nilc ?_ | refine a_fa ?_ | refine a_ext ?_ | refine a_lenv ?_ | refine a_lens ?_ | refine a_pick_t ?_ | refine a_pick_f ?_ | refine a_not ?_ | refine a_nilf ?_ | (refine o_nil (hK _ _ ?_); clear hK K) | refine wk_reg ?_ | refine wk_seq fun K hK => ?_ | (refine wk_skip (hK _ _ ?_); clear hK K) | (refine wk_label (hK _ _ ?_); clear hK K) | refine wk_scope ?_ | refine wk_block ?_ | refine wk_cond_t rfl ?_ | refine wk_cond_f rfl ?_ | (refine wk_exit ?_; (repeat (refine blockK_other rfl ?_)); refine blockK_same ?_; try ((repeat ((fail_if_success (refine hK _ _ ?_)); clear hK K)); refine hK _ _ ?_; clear hK K)) | (refine a_bin ?_ ?_ <;> intro _ <;> try (exfalso; omega)) | refine a_ld hl ?_ | (refine a_st hl ?_; clear hl; intro _ hl) | refine a_ix (fun _ => ?_) | refine a_all rf ?_ | refine a_all rd' ?_)
    refine a_fn (Check_calls F (less Tm i) nF (by omega) f w14 _ _ _ _ hkf (fun b h => h) shf (by omega) hd hls) ?_
    rintro _ w15 ⟨rfl, hy⟩
    rw [hless i hi1]
    have hx := hx.trans hy
    replace he := he.trans hy; replace rf := rf.ext hy; replace rd' := rd'.ext hy; replace hkf := hkf.ext hy; replace hd := hd.ext hy; replace ha := ha.ext hy; replace hb := hb.ext hy; replace hs := hs.ext hy; replace ht := ht.ext hy
    replace hm := hm.ext hy
    replace hr := hr.ext hy
    clear hy
    repeat' (first | refine a_mov ?_ | refine a_asg ?_ | refine a_binN ?_ | refine a_notd ?_ | refine a_notb ?_ | refine a_nilc ?_ | refine a_fa ?_ | refine a_ext ?_ | refine a_lenv ?_ | refine a_lens ?_ | refine a_pick_t ?_ | refine a_pick_f ?_ | refine a_not ?_ | refine a_nilf ?_ | (refine o_nil (hK _ _ ?_); clear hK K) | refine wk_reg ?_ | refine wk_seq fun K hK => ?_ | (refine wk_skip (hK _ _ ?_); clear hK K) | (refine wk_label (hK _ _ ?_); clear hK K) | refine wk_scope ?_ | refine wk_block ?_ | refine wk_cond_t rfl ?_ | refine wk_cond_f rfl ?_ | (refine wk_exit ?_; (repeat (refine blockK_other rfl ?_)); refine blockK_same ?_; try ((repeat ((fail_if_success (refine hK _ _ ?_)); clear hK K)); refine hK _ _ ?_; clear hK K)) | (refine a_bin ?_ ?_ <;> intro _ <;> try (exfalso; omega)) | refine a_ld hl ?_ | (refine a_st hl ?_; clear hl; intro _ hl) | refine a_ix (fun _ => ?_) | fail)
    have hin := fun (X : List (List UInt8)) (xv : Value) (h : Sl w15 xv 1 (strsL X)) (hl : X.length ≤ 9223372036854775806) w' (hw' : Ext w15 w') => Calls.mono (in_calls (h.ext hw') hl n) (fun e w'' (h2 : ∃ x, e = .returned x ∧ x = .bool (X.contains n) ∧ w'' = w') => (show ∃ x, e = .returned x ∧ x = .bool (X.contains n) ∧ Ext w' w'' from by
      obtain ⟨x, h3, h4, rfl⟩ := h2
      exact ⟨x, h3, h4, .refl _ _⟩))
    refine wk_grow [([0, 1, 2, 3, 4, 5, 6, 7, 8, 9, 10, 11, 12], [])] ?_
    refine g_end ?_
    repeat' (first | refine x_mov ?_ | refine x_asg ?_ | refine x_fa ?_ | refine x_ext ?_ | refine x_binN ?_ | refine x_notd ?_ | refine x_notb ?_ | refine x_pick_t ?_ | refine x_pick_f ?_ | refine x_nilc ?_ | refine x_skip ?_ | refine x_lens ?_ | refine x_lenv ?_ | refine x_ix (fun _ => ?_) | (refine x_bin ?_ ?_ <;> intro _ <;> try (exfalso; omega)) | refine x_idx (c := 1) i hp ?_ | refine x_row (fun w_ hw_ => hr.ext hw_) ?_ | refine x_fn (hin S _ hs nS) ?_ | refine x_fn (hin T _ ht nT) ?_)
    refine x_neB ?_
    refine x_nil fun w16 hw16 => hK _ _ ?_
    clear hK K hin
    cases hq : (S.contains n == T.contains n)
    · repeat' (first | refine a_mov ?_ | refine a_asg ?_ | refine a_binN ?_ | refine a_notd ?_ | refine a_notb ?_ | refine a_nilc ?_ | refine a_fa ?_ | refine a_ext ?_ | refine a_lenv ?_ | refine a_lens ?_ | refine a_pick_t ?_ | refine a_pick_f ?_ | refine a_not ?_ | refine a_nilf ?_ | (refine o_nil (hK _ _ ?_); clear hK K) | refine wk_reg ?_ | refine wk_seq fun K hK => ?_ | (refine wk_skip (hK _ _ ?_); clear hK K) | (refine wk_label (hK _ _ ?_); clear hK K) | refine wk_scope ?_ | refine wk_block ?_ | refine wk_cond_t rfl ?_ | refine wk_cond_f rfl ?_ | (refine wk_exit ?_; (repeat (refine blockK_other rfl ?_)); refine blockK_same ?_; try ((repeat ((fail_if_success (refine hK _ _ ?_)); clear hK K)); refine hK _ _ ?_; clear hK K)) | (refine a_bin ?_ ?_ <;> intro _ <;> try (exfalso; omega)) | refine a_ld hl ?_ | (refine a_st hl ?_; clear hl; intro _ hl) | refine a_ix (fun _ => ?_) | fail)
      refine wk_ret (retQ_tmp1 Tryd.results7 (by decide) rfl (by conv => lhs; whnf) ?_)
      exact ⟨rfl, he.trans hw16⟩
    · repeat' (first | refine a_mov ?_ | refine a_asg ?_ | refine a_binN ?_ | refine a_notd ?_ | refine a_notb ?_ | refine a_nilc ?_ | refine a_fa ?_ | refine a_ext ?_ | refine a_lenv ?_ | refine a_lens ?_ | refine a_pick_t ?_ | refine a_pick_f ?_ | refine a_not ?_ | refine a_nilf ?_ | (refine o_nil (hK _ _ ?_); clear hK K) | refine wk_reg ?_ | refine wk_seq fun K hK => ?_ | (refine wk_skip (hK _ _ ?_); clear hK K) | (refine wk_label (hK _ _ ?_); clear hK K) | refine wk_scope ?_ | refine wk_block ?_ | refine wk_cond_t rfl ?_ | refine wk_cond_f rfl ?_ | (refine wk_exit ?_; (repeat (refine blockK_other rfl ?_)); refine blockK_same ?_; try ((repeat ((fail_if_success (refine hK _ _ ?_)); clear hK K)); refine hK _ _ ?_; clear hK K)) | (refine a_bin ?_ ?_ <;> intro _ <;> try (exfalso; omega)) | refine a_ld hl ?_ | (refine a_st hl ?_; clear hl; intro _ hl) | refine a_ix (fun _ => ?_) | fail)
      exact o_nil ⟨i + 1, ⟨rfl, rfl, rfl, rfl, rfl, rfl, rfl, rfl, rfl, trivial⟩, rfl, ⟨⟨hi1, hagr2 (by simpa using hq)⟩, hx.trans hw16⟩, by omega⟩
  clear hx
  have hlaw := hlaw fun t ht => by
    obtain ⟨j, hj, rfl⟩ := List.mem_iff_getElem.1 ht
    exact hagr j hj (by omega)
  clear hagr hless hm
  have hmz := mixed_zero F f a b
  have hb60 : b.length ≤ 60 := by unfold fewB at hfew2; exact (of_decide_eq_true hfew2).2.1
  repeat' (first | refine a_mov ?_ | refine a_asg ?_ | refine a_binN ?_ | refine a_notd ?_ | refine a_notb ?_ | refine a_nilc ?_ | refine a_fa ?_ | refine a_ext ?_ | refine a_lenv ?_ | refine a_lens ?_ | refine a_pick_t ?_ | refine a_pick_f ?_ | refine a_not ?_ | refine a_nilf ?_ | (refine o_nil (hK _ _ ?_); clear hK K) | refine wk_reg ?_ | refine wk_seq fun K hK => ?_ | (refine wk_skip (hK _ _ ?_); clear hK K) | (refine wk_label (hK _ _ ?_); clear hK K) | refine wk_scope ?_ | refine wk_block ?_ | refine wk_cond_t rfl ?_ | refine wk_cond_f rfl ?_ | (refine wk_exit ?_; (repeat (refine blockK_other rfl ?_)); refine blockK_same ?_; try ((repeat ((fail_if_success (refine hK _ _ ?_)); clear hK K)); refine hK _ _ ?_; clear hK K)) | (refine a_bin ?_ ?_ <;> intro _ <;> try (exfalso; omega)) | refine a_ld hl ?_ | (refine a_st hl ?_; clear hl; intro _ hl) | refine a_ix (fun _ => ?_) | fail)
  refine o_buildSlice0 (LH.start w10 (fun _ => False)) rfl rfl rfl ?_
  intro b0 w12 hb0 hl
  have hl : LH w10 (fun _ => False) w12 ([] ++ [(b0, .cells #[] 3 (0, 0))]) := hl
  repeat' (first | refine a_mov ?_ | refine a_asg ?_ | refine a_binN ?_ | refine a_notd ?_ | refine a_notb ?_ | refine a_nilc ?_ | refine a_fa ?_ | refine a_ext ?_ | refine a_lenv ?_ | refine a_lens ?_ | refine a_pick_t ?_ | refine a_pick_f ?_ | refine a_not ?_ | refine a_nilf ?_ | (refine o_nil (hK _ _ ?_); clear hK K) | refine wk_reg ?_ | refine wk_seq fun K hK => ?_ | (refine wk_skip (hK _ _ ?_); clear hK K) | (refine wk_label (hK _ _ ?_); clear hK K) | refine wk_scope ?_ | refine wk_block ?_ | refine wk_cond_t rfl ?_ | refine wk_cond_f rfl ?_ | (refine wk_exit ?_; (repeat (refine blockK_other rfl ?_)); refine blockK_same ?_; try ((repeat ((fail_if_success (refine hK _ _ ?_)); clear hK K)); refine hK _ _ ?_; clear hK K)) | (refine a_bin ?_ ?_ <;> intro _ <;> try (exfalso; omega)) | refine a_ld hl ?_ | (refine a_st hl ?_; clear hl; intro _ hl) | refine a_ix (fun _ => ?_) | fail)
  refine o_appendS (bl' := []) (k := 1) (bytes := 8) (q := b.length) (us := intsL b) hl (Acc.empty 1 3 b0) (hb.ext hl.done) (intsL_len b) (by decide) (intsL_one _) (by omega) (by omega) rfl rfl rfl rfl rfl rfl ?_
  clear hl
  intro v1 w13 acc1 hl hacc
  have hacc : Acc v1 1 3 b.length (intsL (mixed F f a b 0)) acc1 := by rw [hmz]; rw [List.nil_append, Nat.zero_add] at hacc; exact hacc
  obtain ⟨pa, pc, rfl⟩ := hacc.shape
  repeat' (first | refine a_mov ?_ | refine a_asg ?_ | refine a_binN ?_ | refine a_notd ?_ | refine a_notb ?_ | refine a_nilc ?_ | refine a_fa ?_ | refine a_ext ?_ | refine a_lenv ?_ | refine a_lens ?_ | refine a_pick_t ?_ | refine a_pick_f ?_ | refine a_not ?_ | refine a_nilf ?_ | (refine o_nil (hK _ _ ?_); clear hK K) | refine wk_reg ?_ | refine wk_seq fun K hK => ?_ | (refine wk_skip (hK _ _ ?_); clear hK K) | (refine wk_label (hK _ _ ?_); clear hK K) | refine wk_scope ?_ | refine wk_block ?_ | refine wk_cond_t rfl ?_ | refine wk_cond_f rfl ?_ | (refine wk_exit ?_; (repeat (refine blockK_other rfl ?_)); refine blockK_same ?_; try ((repeat ((fail_if_success (refine hK _ _ ?_)); clear hK K)); refine hK _ _ ?_; clear hK K)) | (refine a_bin ?_ ?_ <;> intro _ <;> try (exfalso; omega)) | refine a_ld hl ?_ | (refine a_st hl ?_; clear hl; intro _ hl) | refine a_ix (fun _ => ?_) | fail)
  refine wk_loopH [] rfl (fun q : Nat × List (Nat × Obj) => [(2, .slice aa a.length ac), (4, .slice sa S.length sc), (5, .slice ta T.length tc), (6, .pointer (some ⟨bF, 0, none⟩)), (7, .pointer (some ⟨bD, 0, none⟩)), (13, .bool true), (17, .slice pa b.length pc), (18, .int .i64 (q.1 : Int))]) (fun q w' => q.1 ≤ F.length ∧ LH w10 (fun _ => False) w' ([] ++ q.2) ∧ Acc (.slice pa b.length pc) 1 3 b.length (intsL (mixed F f a b q.1)) q.2) (fun q => F.length - q.1) (0, acc1) ⟨rfl, rfl, rfl, rfl, rfl, rfl, rfl, rfl, trivial⟩ ⟨Nat.zero_le _, hl, hacc⟩ ?_
  clear hl hacc
  rintro ⟨i2, acc⟩ t w14 ⟨hi, hl, hacc⟩
  simp only at hi hl hacc
  have hx := hl.done
  replace he := he.trans hx; replace rf := rf.ext hx; replace rd' := rd'.ext hx; replace hkf := hkf.ext hx; replace hd := hd.ext hx; replace ha := ha.ext hx; replace hb := hb.ext hx; replace hs := hs.ext hx; replace ht := ht.ext hx
  by_cases hi1 : i2 < F.length
  · obtain ⟨bf, of, hpf, hrf⟩ := Sl.fact hd rfl hi1
    have hia : i2 < a.length := by omega
    have hib : i2 < b.length := by omega
    obtain ⟨bq, oq, hpa, hra⟩ := Sl.intAt ha rfl hia
    have hst := mixed_step (f := f) hi1 hia hib
    generalize F[i2].name = n at *
    generalize a[i2] = z at *
    have hnm := fun w' (hw' : Ext w14 w') => named_calls n f w' _ _ (hkf.ext hw') shf
    repeat' (first | refine a_mov ?_ | refine a_asg ?_ | refine a_binN ?_ | refine a_notd ?_ | refine a_notb ?_ | refine a_nilc ?_ | refine a_fa ?_ | refine a_ext ?_ | refine a_lenv ?_ | refine a_lens ?_ | refine a_pick_t ?_ | refine a_pick_f ?_ | refine a_not ?_ | refine a_nilf ?_ | (refine o_nil (hK _ _ ?_); clear hK K) | refine wk_reg ?_ | refine wk_seq fun K hK => ?_ | (refine wk_skip (hK _ _ ?_); clear hK K) | (refine wk_label (hK _ _ ?_); clear hK K) | refine wk_scope ?_ | refine wk_block ?_ | refine wk_cond_t rfl ?_ | refine wk_cond_f rfl ?_ | (refine wk_exit ?_; (repeat (refine blockK_other rfl ?_)); refine blockK_same ?_; try ((repeat ((fail_if_success (refine hK _ _ ?_)); clear hK K)); refine hK _ _ ?_; clear hK K)) | (refine a_bin ?_ ?_ <;> intro _ <;> try (exfalso; omega)) | refine a_ld hl ?_ | (refine a_st hl ?_; clear hl; intro _ hl) | refine a_ix (fun _ => ?_) | refine a_row rd' ?_)
    refine wk_grow [([0, 1, 2, 3, 4, 5, 6, 7], [])] ?_
    refine g_end ?_
    repeat' (first | refine x_mov ?_ | refine x_asg ?_ | refine x_fa ?_ | refine x_ext ?_ | refine x_binN ?_ | refine x_notd ?_ | refine x_notb ?_ | refine x_pick_t ?_ | refine x_pick_f ?_ | refine x_nilc ?_ | refine x_skip ?_ | refine x_lens ?_ | refine x_lenv ?_ | refine x_ix (fun _ => ?_) | (refine x_bin ?_ ?_ <;> intro _ <;> try (exfalso; omega)) | refine x_idx (c := 4) i2 hpf ?_ | refine x_row (fun w_ hw_ => hrf.ext hw_) ?_ | refine x_row (fun w_ hw_ => rd'.ext hw_) ?_ | refine x_all (fun w_ hw_ => rf.ext hw_) ?_ | refine x_fn hnm ?_)
    refine x_nil fun w16 hw16 => hK _ _ ?_
    clear hK K hnm
    replace hl := hl.ext hw16
    cases hq : namedB n f
    · rw [hq, if_neg (by decide)] at hst
      rw [← hst] at hacc
      repeat' (first | refine a_mov ?_ | refine a_asg ?_ | refine a_binN ?_ | refine a_notd ?_ | refine a_notb ?_ | refine a_nilc ?_ | refine a_fa ?_ | refine a_ext ?_ | refine a_lenv ?_ | refine a_lens ?_ | refine a_pick_t ?_ | refine a_pick_f ?_ | refine a_not ?_ | refine a_nilf ?_ | (refine o_nil (hK _ _ ?_); clear hK K) | refine wk_reg ?_ | refine wk_seq fun K hK => ?_ | (refine wk_skip (hK _ _ ?_); clear hK K) | (refine wk_label (hK _ _ ?_); clear hK K) | refine wk_scope ?_ | refine wk_block ?_ | refine wk_cond_t rfl ?_ | refine wk_cond_f rfl ?_ | (refine wk_exit ?_; (repeat (refine blockK_other rfl ?_)); refine blockK_same ?_; try ((repeat ((fail_if_success (refine hK _ _ ?_)); clear hK K)); refine hK _ _ ?_; clear hK K)) | (refine a_bin ?_ ?_ <;> intro _ <;> try (exfalso; omega)) | refine a_ld hl ?_ | (refine a_st hl ?_; clear hl; intro _ hl) | refine a_ix (fun _ => ?_) | fail)
      exact o_nil ⟨(i2 + 1, acc), ⟨rfl, rfl, rfl, rfl, rfl, rfl, rfl, rfl, trivial⟩, rfl, ⟨hi1, hl, hacc⟩, by simp only; omega⟩
    · rw [hq, if_pos rfl] at hst
      obtain ⟨hal, ⟨h1, h2, -⟩ | ⟨bk, cap, cur, hv, rfl, hmc, hcap, hcs, hct⟩⟩ := hacc
      · omega
      cases hv
      obtain ⟨vs, rfl⟩ : ∃ vs : List Value, cur = vs.toArray := ⟨cur.toList, by simp⟩
      have hvl : vs.length = pc * 1 := by simpa using hcs
      have hct : vs.take (b.length * 1) = intsL (mixed F f a b i2) := by simpa using hct
      repeat' (first | refine a_mov ?_ | refine a_asg ?_ | refine a_binN ?_ | refine a_notd ?_ | refine a_notb ?_ | refine a_nilc ?_ | refine a_fa ?_ | refine a_ext ?_ | refine a_lenv ?_ | refine a_lens ?_ | refine a_pick_t ?_ | refine a_pick_f ?_ | refine a_not ?_ | refine a_nilf ?_ | (refine o_nil (hK _ _ ?_); clear hK K) | refine wk_reg ?_ | refine wk_seq fun K hK => ?_ | (refine wk_skip (hK _ _ ?_); clear hK K) | (refine wk_label (hK _ _ ?_); clear hK K) | refine wk_scope ?_ | refine wk_block ?_ | refine wk_cond_t rfl ?_ | refine wk_cond_f rfl ?_ | (refine wk_exit ?_; (repeat (refine blockK_other rfl ?_)); refine blockK_same ?_; try ((repeat ((fail_if_success (refine hK _ _ ?_)); clear hK K)); refine hK _ _ ?_; clear hK K)) | (refine a_bin ?_ ?_ <;> intro _ <;> try (exfalso; omega)) | refine a_ld hl ?_ | (refine a_st hl ?_; clear hl; intro _ hl) | refine a_ix (fun _ => ?_) | fail)
      refine a_idx (c := 1) i2 hpa ?_
      refine a_row (hra.ext hw16) ?_
      refine a_idx (c := 1) i2 rfl ?_
      refine o_store hl 0 [.int .i64 z] rfl rfl rfl rfl rfl (by rw [hvl]; show 0 + i2 * 1 + 1 ≤ pc * 1; omega) rfl ?_
      clear hl
      intro w17 hl
      repeat' (first | refine a_mov ?_ | refine a_asg ?_ | refine a_binN ?_ | refine a_notd ?_ | refine a_notb ?_ | refine a_nilc ?_ | refine a_fa ?_ | refine a_ext ?_ | refine a_lenv ?_ | refine a_lens ?_ | refine a_pick_t ?_ | refine a_pick_f ?_ | refine a_not ?_ | refine a_nilf ?_ | (refine o_nil (hK _ _ ?_); clear hK K) | refine wk_reg ?_ | refine wk_seq fun K hK => ?_ | (refine wk_skip (hK _ _ ?_); clear hK K) | (refine wk_label (hK _ _ ?_); clear hK K) | refine wk_scope ?_ | refine wk_block ?_ | refine wk_cond_t rfl ?_ | refine wk_cond_f rfl ?_ | (refine wk_exit ?_; (repeat (refine blockK_other rfl ?_)); refine blockK_same ?_; try ((repeat ((fail_if_success (refine hK _ _ ?_)); clear hK K)); refine hK _ _ ?_; clear hK K)) | (refine a_bin ?_ ?_ <;> intro _ <;> try (exfalso; omega)) | refine a_ld hl ?_ | (refine a_st hl ?_; clear hl; intro _ hl) | refine a_ix (fun _ => ?_) | fail)
      refine o_nil ⟨(i2 + 1, [(bk, .cells (putL vs (0 + i2 * 1) [.int .i64 z]).toArray 3 (0, 0))]), ⟨rfl, rfl, rfl, rfl, rfl, rfl, rfl, rfl, trivial⟩, rfl, ⟨hi1, hl, ?_, .inr ⟨bk, pc, _, rfl, rfl, hmc, hcap, ?_, ?_⟩⟩, by simp only; omega⟩
      · rw [intsL_len, mixed_len]
      · simpa [putL] using hcs
      · simp only [putL, Nat.zero_add, Nat.mul_one]
        rw [hst, intsL_set, ← hct, Nat.mul_one, List.take_set]
  have hie : i2 = F.length := by omega
  subst hie
  have hv := hl.acc_sl hacc
  clear hl hacc hx
  have hlm := mixed_len F f a b F.length
  have h1 := fun w' (hw' : Ext w14 w') => holds_calls F a S nF nA nS tF f w' _ _ _ _ _ (hkf.ext hw') (fun b h => h) shf (by omega) (hd.ext hw') (ha.ext hw') (hs.ext hw')
  have h2 := fun w' (hw' : Ext w14 w') => holds_calls F (mixed F f a b F.length) T nF (by omega) nT tF f w' _ _ _ _ _ (hkf.ext hw') (fun b h => h) shf (by omega) (hd.ext hw') (hv.ext hw') (ht.ext hw')
  rw [← hlaw] at h2
  repeat' (first | refine a_mov ?_ | refine a_asg ?_ | refine a_binN ?_ | refine a_notd ?_ | refine a_notb ?_ | refine a_nilc ?_ | refine a_fa ?_ | refine a_ext ?_ | refine a_lenv ?_ | refine a_lens ?_ | refine a_pick_t ?_ | refine a_pick_f ?_ | refine a_not ?_ | refine a_nilf ?_ | (refine o_nil (hK _ _ ?_); clear hK K) | refine wk_reg ?_ | refine wk_seq fun K hK => ?_ | (refine wk_skip (hK _ _ ?_); clear hK K) | (refine wk_label (hK _ _ ?_); clear hK K) | refine wk_scope ?_ | refine wk_block ?_ | refine wk_cond_t rfl ?_ | refine wk_cond_f rfl ?_ | (refine wk_exit ?_; (repeat (refine blockK_other rfl ?_)); refine blockK_same ?_; try ((repeat ((fail_if_success (refine hK _ _ ?_)); clear hK K)); refine hK _ _ ?_; clear hK K)) | (refine a_bin ?_ ?_ <;> intro _ <;> try (exfalso; omega)) | refine a_ld hl ?_ | (refine a_st hl ?_; clear hl; intro _ hl) | refine a_ix (fun _ => ?_) | refine a_row rd' ?_)
  refine wk_grow [([0, 1, 2, 3, 4, 5, 6, 7, 8, 9, 10, 11, 12, 13, 14], [])] ?_
  refine g_end ?_
  repeat' (first | refine x_mov ?_ | refine x_asg ?_ | refine x_fa ?_ | refine x_ext ?_ | refine x_binN ?_ | refine x_notd ?_ | refine x_notb ?_ | refine x_pick_t ?_ | refine x_pick_f ?_ | refine x_nilc ?_ | refine x_skip ?_ | refine x_lens ?_ | refine x_lenv ?_ | refine x_ix (fun _ => ?_) | (refine x_bin ?_ ?_ <;> intro _ <;> try (exfalso; omega)) | refine x_row (fun w_ hw_ => rd'.ext hw_) ?_ | refine x_all (fun w_ hw_ => rf.ext hw_) ?_ | refine x_all (fun w_ hw_ => rd'.ext hw_) ?_ | refine x_fn h1 ?_ | refine x_fn h2 ?_)
  refine x_eqB ?_
  rw [beq_self_eq_true]
  repeat' (first | refine x_mov ?_ | refine x_asg ?_ | refine x_fa ?_ | refine x_ext ?_ | refine x_binN ?_ | refine x_notd ?_ | refine x_notb ?_ | refine x_pick_t ?_ | refine x_pick_f ?_ | refine x_nilc ?_ | refine x_skip ?_ | refine x_lens ?_ | refine x_lenv ?_ | refine x_ix (fun _ => ?_) | (refine x_bin ?_ ?_ <;> intro _ <;> try (exfalso; omega)) | fail)
  refine x_nil fun w15 hw15 => hK _ _ ?_
  clear hK K
  repeat' (first | refine a_mov ?_ | refine a_asg ?_ | refine a_binN ?_ | refine a_notd ?_ | refine a_notb ?_ | refine a_nilc ?_ | refine a_fa ?_ | refine a_ext ?_ | refine a_lenv ?_ | refine a_lens ?_ | refine a_pick_t ?_ | refine a_pick_f ?_ | refine a_not ?_ | refine a_nilf ?_ | (refine o_nil (hK _ _ ?_); clear hK K) | refine wk_reg ?_ | refine wk_seq fun K hK => ?_ | (refine wk_skip (hK _ _ ?_); clear hK K) | (refine wk_label (hK _ _ ?_); clear hK K) | refine wk_scope ?_ | refine wk_block ?_ | refine wk_cond_t rfl ?_ | refine wk_cond_f rfl ?_ | (refine wk_exit ?_; (repeat (refine blockK_other rfl ?_)); refine blockK_same ?_; try ((repeat ((fail_if_success (refine hK _ _ ?_)); clear hK K)); refine hK _ _ ?_; clear hK K)) | (refine a_bin ?_ ?_ <;> intro _ <;> try (exfalso; omega)) | refine a_ld hl ?_ | (refine a_st hl ?_; clear hl; intro _ hl) | refine a_ix (fun _ => ?_) | fail)
  refine wk_ret (retQ_tmp1 Tryd.results7 (by decide) rfl (by conv => lhs; whnf) ?_)
  exact ⟨rfl, he.trans hw15⟩
end Go.Proofs
