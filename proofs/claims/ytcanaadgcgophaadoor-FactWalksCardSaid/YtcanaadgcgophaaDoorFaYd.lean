/-
  The statement about walks over cases, walked.
-/
import Derived.Test.YtcanaadgcgophaaDoorFaX
import Derived.Test.YtcanaadgcgophaaDoorLast2
set_option linter.unusedVariables false
set_option linter.unusedSimpArgs false
set_option linter.unnecessarySimpa false
set_option maxRecDepth 10000
namespace Go.Fac
open Go.Fo
/-- Are the first values the greatest ones? -/
def hiB (F : List Fact) (a : List Int) (k : Nat) : Bool := decide (a.take k = (F.map (·.hi)).take k)
theorem hiB_succ {F : List Fact} {a : List Int} {k : Nat} (h1 : k < F.length) (h2 : k < a.length) : hiB F a (k + 1) = (hiB F a k && decide (a[k] = F[k].hi)) := by
  unfold hiB
  rw [List.take_succ_eq_append_getElem h2, List.take_succ_eq_append_getElem (by simpa using h1)]
  rw [← Bool.decide_and]
  apply decide_eq_decide.2
  constructor
  · intro h
    obtain ⟨h1, h2⟩ := List.append_inj' h rfl
    exact ⟨h1, by simpa using h2⟩
  · rintro ⟨h1, h2⟩
    rw [h1]
    simp [h2]
theorem hiB_all {F : List Fact} {a : List Int} (h : a.length = F.length) : hiB F a F.length = decide (a = F.map (·.hi)) := by
  unfold hiB
  rw [List.take_of_length_le (by omega), List.take_of_length_le (by simp)]
theorem least_fitsB {F : List Fact} (h : validD F = true) : fitsB F (F.map (·.lo)) = true := by
  unfold fitsB
  rw [h, least_fits F (valid_lohi h)]
  rfl
end Go.Fac
namespace Go.Proofs
open Go Go.Pd Go.Fac Go.Fo
attribute [local irreducible] OpsL W RetQ OpsQ OpsC
set_option maxHeartbeats 8000000 in
theorem Walks_calls {F : List Fact} {a b : List Int} {dv av bv : Value} {w : World} (ht : Tabs w) (hd : DomIn w F dv) (ha : CaseIn w a av) (hb : CaseIn w b bv) :
    Calls Tryd.prog 7 #[.agg #[dv], av, bv] w (fun e w' => ∃ v, e = .returned v ∧ v = .bool true ∧ Ext w w') := by
  obtain ⟨da, dc, rfl⟩ := hd.shape
  obtain ⟨aa, ac, rfl⟩ := ha.shape
  obtain ⟨ba, bc, rfl⟩ := hb.shape
  refine calls_of Tryd.func7 rfl Tryd.ntmps7 rfl ?_
  refine wk_seq fun K hK => ?_
  refine wk_reg ?_
  refine o_box (LH.start w (fun _ => False)) [.slice da F.length dc] rfl rfl rfl ?_
  intro b2 w2 hb2 hl
  have hrd : Row w2 b2 0 [.slice da F.length dc] := hl.rowL (vs := [.slice da F.length dc]) 0 0 1 rfl
  have hx2 := hl.done
  clear hl
  refine a_asg ?_
  refine o_nil (hK _ _ ?_)
  clear hK K
  refine wk_seq fun K hK => ?_
  refine wk_reg ?_
  refine a_fn (head_calls (ht.ext hx2)) ?_
  rintro _ w3 ⟨rfl, hx3⟩
  refine a_asg ?_
  refine o_nil (hK _ _ ?_)
  clear hK K
  have hx := hx2.trans hx3
  replace hd := hd.ext hx
  replace ha := ha.ext hx
  replace hb := hb.ext hx
  replace hrd := hrd.ext hx3
  clear hx2 hx3 ht
  have hF := hd.n
  have hFn := hd.m
  have hA := ha.n
  have hB := hb.n
  refine wk_seq fun K hK => ?_
  refine wk_seq fun K2 hK2 => ?_
  refine wk_reg ?_
  refine a_all hrd ?_
  refine a_mov ?_
  refine a_fn (few_calls hd.1 ha.1 hF hA hFn) ?_
  rintro _ w4 ⟨rfl, hx4⟩
  cases hfa : (fewD F 70 && decide (a.length ≤ 70))
  · repeat' (first | refine a_mov ?_ | refine a_asg ?_ | refine a_binN ?_ | refine a_notd ?_ | refine a_notb ?_ | refine a_nilc ?_ | refine a_fa ?_ | refine a_ext ?_ | refine a_lenv ?_ | refine a_lens ?_ | refine a_pick_t ?_ | refine a_pick_f ?_ | refine a_not ?_ | refine a_nilf ?_ | (refine a_bin ?_ ?_ <;> intro _ <;> try (exfalso; omega)) | refine a_ld hl ?_ | (refine a_st hl ?_; clear hl; intro _ hl) | refine a_ix (fun _ => ?_) | fail)
    refine o_nil (hK2 _ _ ?_)
    clear hK2 K2
    refine wk_cond_t rfl ?_
    refine wk_seq fun K2 hK2 => ?_
    refine wk_reg ?_
    repeat' (first | refine a_mov ?_ | refine a_asg ?_ | refine a_binN ?_ | refine a_notd ?_ | refine a_notb ?_ | refine a_nilc ?_ | refine a_fa ?_ | refine a_ext ?_ | refine a_lenv ?_ | refine a_lens ?_ | refine a_pick_t ?_ | refine a_pick_f ?_ | refine a_not ?_ | refine a_nilf ?_ | (refine a_bin ?_ ?_ <;> intro _ <;> try (exfalso; omega)) | refine a_ld hl ?_ | (refine a_st hl ?_; clear hl; intro _ hl) | refine a_ix (fun _ => ?_) | fail)
    refine o_nil (hK2 _ _ ?_)
    refine wk_ret (retQ_tmp1 Tryd.results7 (by decide) rfl (by conv => lhs; whnf) ?_)
    exact ⟨rfl, hx.trans hx4⟩
  by_cases hlong : b.length ≤ 70
  rotate_left
  · repeat' (first | refine a_mov ?_ | refine a_asg ?_ | refine a_binN ?_ | refine a_notd ?_ | refine a_notb ?_ | refine a_nilc ?_ | refine a_fa ?_ | refine a_ext ?_ | refine a_lenv ?_ | refine a_lens ?_ | refine a_pick_t ?_ | refine a_pick_f ?_ | refine a_not ?_ | refine a_nilf ?_ | (refine a_bin ?_ ?_ <;> intro _ <;> try (exfalso; omega)) | refine a_ld hl ?_ | (refine a_st hl ?_; clear hl; intro _ hl) | refine a_ix (fun _ => ?_) | fail)
    refine o_nil (hK2 _ _ ?_)
    clear hK2 K2
    refine wk_cond_t rfl ?_
    refine wk_seq fun K2 hK2 => ?_
    refine wk_reg ?_
    repeat' (first | refine a_mov ?_ | refine a_asg ?_ | refine a_binN ?_ | refine a_notd ?_ | refine a_notb ?_ | refine a_nilc ?_ | refine a_fa ?_ | refine a_ext ?_ | refine a_lenv ?_ | refine a_lens ?_ | refine a_pick_t ?_ | refine a_pick_f ?_ | refine a_not ?_ | refine a_nilf ?_ | (refine a_bin ?_ ?_ <;> intro _ <;> try (exfalso; omega)) | refine a_ld hl ?_ | (refine a_st hl ?_; clear hl; intro _ hl) | refine a_ix (fun _ => ?_) | fail)
    refine o_nil (hK2 _ _ ?_)
    refine wk_ret (retQ_tmp1 Tryd.results7 (by decide) rfl (by conv => lhs; whnf) ?_)
    exact ⟨rfl, hx.trans hx4⟩
  repeat' (first | refine a_mov ?_ | refine a_asg ?_ | refine a_binN ?_ | refine a_notd ?_ | refine a_notb ?_ | refine a_nilc ?_ | refine a_fa ?_ | refine a_ext ?_ | refine a_lenv ?_ | refine a_lens ?_ | refine a_pick_t ?_ | refine a_pick_f ?_ | refine a_not ?_ | refine a_nilf ?_ | (refine a_bin ?_ ?_ <;> intro _ <;> try (exfalso; omega)) | refine a_ld hl ?_ | (refine a_st hl ?_; clear hl; intro _ hl) | refine a_ix (fun _ => ?_) | refine a_all (hrd.ext hx4) ?_ | fail)
  refine a_fn (fits_calls (hd.1.ext hx4) (ha.1.ext hx4) hF hA hFn) ?_
  rintro _ w5 ⟨rfl, hx5⟩
  replace hx4 := hx4.trans hx5
  clear hx5
  cases hfb : fitsB F a
  · repeat' (first | refine a_mov ?_ | refine a_asg ?_ | refine a_binN ?_ | refine a_notd ?_ | refine a_notb ?_ | refine a_nilc ?_ | refine a_fa ?_ | refine a_ext ?_ | refine a_lenv ?_ | refine a_lens ?_ | refine a_pick_t ?_ | refine a_pick_f ?_ | refine a_not ?_ | refine a_nilf ?_ | (refine a_bin ?_ ?_ <;> intro _ <;> try (exfalso; omega)) | refine a_ld hl ?_ | (refine a_st hl ?_; clear hl; intro _ hl) | refine a_ix (fun _ => ?_) | fail)
    refine o_nil (hK2 _ _ ?_)
    clear hK2 K2
    refine wk_cond_t rfl ?_
    refine wk_seq fun K2 hK2 => ?_
    refine wk_reg ?_
    repeat' (first | refine a_mov ?_ | refine a_asg ?_ | refine a_binN ?_ | refine a_notd ?_ | refine a_notb ?_ | refine a_nilc ?_ | refine a_fa ?_ | refine a_ext ?_ | refine a_lenv ?_ | refine a_lens ?_ | refine a_pick_t ?_ | refine a_pick_f ?_ | refine a_not ?_ | refine a_nilf ?_ | (refine a_bin ?_ ?_ <;> intro _ <;> try (exfalso; omega)) | refine a_ld hl ?_ | (refine a_st hl ?_; clear hl; intro _ hl) | refine a_ix (fun _ => ?_) | fail)
    refine o_nil (hK2 _ _ ?_)
    refine wk_ret (retQ_tmp1 Tryd.results7 (by decide) rfl (by conv => lhs; whnf) ?_)
    exact ⟨rfl, hx.trans hx4⟩
  repeat' (first | refine a_mov ?_ | refine a_asg ?_ | refine a_binN ?_ | refine a_notd ?_ | refine a_notb ?_ | refine a_nilc ?_ | refine a_fa ?_ | refine a_ext ?_ | refine a_lenv ?_ | refine a_lens ?_ | refine a_pick_t ?_ | refine a_pick_f ?_ | refine a_not ?_ | refine a_nilf ?_ | (refine a_bin ?_ ?_ <;> intro _ <;> try (exfalso; omega)) | refine a_ld hl ?_ | (refine a_st hl ?_; clear hl; intro _ hl) | refine a_ix (fun _ => ?_) | refine a_all (hrd.ext hx4) ?_ | fail)
  refine a_fn (fits_calls (hd.1.ext hx4) (hb.1.ext hx4) hF hB hFn) ?_
  rintro _ w6 ⟨rfl, hx6⟩
  replace hx4 := hx4.trans hx6
  clear hx6
  cases hfb2 : fitsB F b
  · repeat' (first | refine a_mov ?_ | refine a_asg ?_ | refine a_binN ?_ | refine a_notd ?_ | refine a_notb ?_ | refine a_nilc ?_ | refine a_fa ?_ | refine a_ext ?_ | refine a_lenv ?_ | refine a_lens ?_ | refine a_pick_t ?_ | refine a_pick_f ?_ | refine a_not ?_ | refine a_nilf ?_ | (refine a_bin ?_ ?_ <;> intro _ <;> try (exfalso; omega)) | refine a_ld hl ?_ | (refine a_st hl ?_; clear hl; intro _ hl) | refine a_ix (fun _ => ?_) | fail)
    refine o_nil (hK2 _ _ ?_)
    clear hK2 K2
    refine wk_cond_t rfl ?_
    refine wk_seq fun K2 hK2 => ?_
    refine wk_reg ?_
    repeat' (first | refine a_mov ?_ | refine a_asg ?_ | refine a_binN ?_ | refine a_notd ?_ | refine a_notb ?_ | refine a_nilc ?_ | refine a_fa ?_ | refine a_ext ?_ | refine a_lenv ?_ | refine a_lens ?_ | refine a_pick_t ?_ | refine a_pick_f ?_ | refine a_not ?_ | refine a_nilf ?_ | (refine a_bin ?_ ?_ <;> intro _ <;> try (exfalso; omega)) | refine a_ld hl ?_ | (refine a_st hl ?_; clear hl; intro _ hl) | refine a_ix (fun _ => ?_) | fail)
    refine o_nil (hK2 _ _ ?_)
    refine wk_ret (retQ_tmp1 Tryd.results7 (by decide) rfl (by conv => lhs; whnf) ?_)
    exact ⟨rfl, hx.trans hx4⟩
  repeat' (first | refine a_mov ?_ | refine a_asg ?_ | refine a_binN ?_ | refine a_notd ?_ | refine a_notb ?_ | refine a_nilc ?_ | refine a_fa ?_ | refine a_ext ?_ | refine a_lenv ?_ | refine a_lens ?_ | refine a_pick_t ?_ | refine a_pick_f ?_ | refine a_not ?_ | refine a_nilf ?_ | (refine a_bin ?_ ?_ <;> intro _ <;> try (exfalso; omega)) | refine a_ld hl ?_ | (refine a_st hl ?_; clear hl; intro _ hl) | refine a_ix (fun _ => ?_) | fail)
  refine o_nil (hK2 _ _ ?_)
  clear hK2 K2
  refine wk_cond_f rfl ?_
  refine wk_skip (hK _ _ ?_)
  clear hK K
  replace hd := hd.ext hx4
  replace ha := ha.ext hx4
  replace hb := hb.ext hx4
  replace hrd := hrd.ext hx4
  replace hx := hx.trans hx4
  clear hx4 hfa hlong
  obtain ⟨hvd, hfc⟩ := fitsB_parts hfb
  obtain ⟨-, hfcb⟩ := fitsB_parts hfb2
  have hg := (valid_iff F).1 hvd
  have h60 := hg.2.2
  have hcl := ((Fo.fitsC_iff F a).1 hfc).1
  have hlm : leastC F = F.map (·.lo) := by unfold leastC; rw [if_pos hvd]
  have hML : (F.map (·.lo)).length ≤ 9223372036854775806 := by rw [List.length_map]; exact hF
  refine wk_seq fun K hK => ?_
  refine wk_reg ?_
  refine a_all hrd ?_
  refine a_fn (least_calls hd.1 hF hFn) ?_
  rintro lv w7 ⟨hlv, hx7⟩
  rw [hlm] at hlv
  obtain ⟨la, lm, lc, rfl⟩ := sl_is hlv
  refine a_asg ?_
  refine o_nil (hK _ _ ?_)
  clear hK K
  replace hd := hd.ext hx7
  replace ha := ha.ext hx7
  replace hb := hb.ext hx7
  replace hrd := hrd.ext hx7
  replace hx := hx.trans hx7
  clear hx7
  refine wk_seq fun K hK => ?_
  refine wk_seq fun K2 hK2 => ?_
  refine wk_reg ?_
  refine a_all hrd ?_
  refine a_mov ?_
  refine a_fn (fits_calls hd.1 hlv hF hML hFn) ?_
  rintro _ w8 ⟨rfl, hx8⟩
  rw [least_fitsB hvd]
  repeat' (first | refine a_mov ?_ | refine a_asg ?_ | refine a_binN ?_ | refine a_notd ?_ | refine a_notb ?_ | refine a_nilc ?_ | refine a_fa ?_ | refine a_ext ?_ | refine a_lenv ?_ | refine a_lens ?_ | refine a_pick_t ?_ | refine a_pick_f ?_ | refine a_not ?_ | refine a_nilf ?_ | (refine a_bin ?_ ?_ <;> intro _ <;> try (exfalso; omega)) | refine a_ld hl ?_ | (refine a_st hl ?_; clear hl; intro _ hl) | refine a_ix (fun _ => ?_) | fail)
  refine a_fn (less_calls (ha.1.ext hx8) (hlv.ext hx8) hA hML) ?_
  rintro _ w9 ⟨rfl, hx9⟩
  rw [least_le F a hfc]
  repeat' (first | refine a_mov ?_ | refine a_asg ?_ | refine a_binN ?_ | refine a_notd ?_ | refine a_notb ?_ | refine a_nilc ?_ | refine a_fa ?_ | refine a_ext ?_ | refine a_lenv ?_ | refine a_lens ?_ | refine a_pick_t ?_ | refine a_pick_f ?_ | refine a_not ?_ | refine a_nilf ?_ | (refine a_bin ?_ ?_ <;> intro _ <;> try (exfalso; omega)) | refine a_ld hl ?_ | (refine a_st hl ?_; clear hl; intro _ hl) | refine a_ix (fun _ => ?_) | fail)
  refine o_nil (hK2 _ _ ?_)
  clear hK2 K2
  refine wk_cond_f rfl ?_
  refine wk_skip (hK _ _ ?_)
  clear hK K
  have hx89 := hx8.trans hx9
  replace hd := hd.ext hx89
  replace ha := ha.ext hx89
  replace hb := hb.ext hx89
  replace hrd := hrd.ext hx89
  replace hx := hx.trans hx89
  clear hx89 hx8 hx9 hlv
  refine wk_seq fun K hK => ?_
  refine wk_reg ?_
  refine a_asg ?_
  refine o_nil (hK _ _ ?_)
  clear hK K
  refine wk_seq fun K hK => ?_
  refine wk_seq fun K2 hK2 => ?_
  refine wk_reg ?_
  refine a_asg ?_
  refine o_nil (hK2 _ _ ?_)
  clear hK2 K2
  refine wk_block ?_
  refine wk_loopH [] rfl (fun k : Nat => [(1, .slice aa a.length ac), (2, .slice ba b.length bc), (3, .pointer (some ⟨b2, 0, none⟩)), (7, .bool true), (9, .bool (hiB F a k)), (10, .int .i64 (k : Int))]) (fun k w' => k ≤ F.length ∧ Ext w9 w') (fun k => F.length - k) 0 ⟨rfl, rfl, rfl, rfl, by rw [show hiB F a 0 = true from decide_eq_true rfl]; rfl, rfl, trivial⟩ ⟨Nat.zero_le _, .refl _ _⟩ ?_
  rintro k t w10 ⟨hk, hx10⟩
  refine wk_seq fun K1 hK1 => ?_
  refine wk_seq fun K2 hK2 => ?_
  refine wk_reg ?_
  by_cases hk1 : k < F.length
  · have hka : k < a.length := by omega
    obtain ⟨p1, o1, e1, r1⟩ := Sl.fact (hd.1.ext hx10) rfl hk1
    obtain ⟨p2, o2, e2, r2⟩ := Sl.intAt (ha.1.ext hx10) rfl hka
    have hr10 := hrd.ext hx10
    have hsu := hiB_succ hk1 hka
    repeat' (first | refine a_mov ?_ | refine a_asg ?_ | refine a_binN ?_ | refine a_notd ?_ | refine a_notb ?_ | refine a_nilc ?_ | refine a_fa ?_ | refine a_ext ?_ | refine a_lenv ?_ | refine a_lens ?_ | refine a_pick_t ?_ | refine a_pick_f ?_ | refine a_not ?_ | refine a_nilf ?_ | (refine a_bin ?_ ?_ <;> intro _ <;> try (exfalso; omega)) | refine a_ld hl ?_ | (refine a_st hl ?_; clear hl; intro _ hl) | refine a_ix (fun _ => ?_) | fail)
    refine o_nil (hK2 _ _ ?_)
    clear hK2 K2
    refine wk_cond_t rfl ?_
    refine wk_skip (hK1 _ _ ?_)
    clear hK1 K1
    clear hK
    refine wk_seq fun K hK => ?_
    refine wk_block ?_
    cases hq : hiB F a k
    · refine wk_lastQ (List.range 14) (List.dropLast_concat_getLast (by simp)).symm (by kernel_rfl) (by kernel_rfl) ?_
      repeat' (first | refine q_mov ?_ | refine q_asg ?_ | refine q_fa ?_ | refine q_ext ?_ | refine q_binN ?_ | refine q_notd ?_ | refine q_notb ?_ | refine q_pick_t ?_ | refine q_pick_f ?_ | refine q_nilc ?_ | refine q_skip ?_ | refine q_lens ?_ | refine q_lenv ?_ | refine q_nil ?_ | refine q_ix (fun _ => ?_) | (refine q_bin ?_ ?_ <;> intro _ <;> try (exfalso; omega)) | fail)
      intro w11 hx11
      refine a_asg ?_
      refine o_nil (hK _ _ ?_)
      clear hK K
      refine wk_reg ?_
      repeat' (first | refine a_mov ?_ | refine a_asg ?_ | refine a_binN ?_ | refine a_notd ?_ | refine a_notb ?_ | refine a_nilc ?_ | refine a_fa ?_ | refine a_ext ?_ | refine a_lenv ?_ | refine a_lens ?_ | refine a_pick_t ?_ | refine a_pick_f ?_ | refine a_not ?_ | refine a_nilf ?_ | (refine a_bin ?_ ?_ <;> intro _ <;> try (exfalso; omega)) | refine a_ld hl ?_ | (refine a_st hl ?_; clear hl; intro _ hl) | refine a_ix (fun _ => ?_) | fail)
      exact o_nil ⟨k + 1, ⟨rfl, rfl, rfl, rfl, by rw [hsu, hq]; rfl, rfl, trivial⟩, rfl, ⟨hk1, hx10.trans hx11⟩, by omega⟩
    · by_cases he : a[k] = F[k].hi
      · refine wk_lastQ (List.range 14) (List.dropLast_concat_getLast (by simp)).symm (by kernel_rfl) (by kernel_rfl) ?_
        repeat' (first | refine q_mov ?_ | refine q_asg ?_ | refine q_fa ?_ | refine q_ext ?_ | refine q_binN ?_ | refine q_notd ?_ | refine q_notb ?_ | refine q_pick_t ?_ | refine q_pick_f ?_ | refine q_nilc ?_ | refine q_skip ?_ | refine q_lens ?_ | refine q_lenv ?_ | refine q_nil ?_ | refine q_ix (fun _ => ?_) | (refine q_bin ?_ ?_ <;> intro _ <;> try (exfalso; omega)) | refine q_idx (c := 1) k e2 ?_ | refine q_idx (c := 4) k e1 ?_ | refine q_row (fun w_ hw_ => hr10.ext hw_) ?_ | refine q_row (fun w_ hw_ => r2.ext hw_) ?_ | refine q_row (fun w_ hw_ => r1.ext hw_) ?_ | fail)
        intro w11 hx11
        refine a_asg ?_
        refine o_nil (hK _ _ ?_)
        clear hK K
        refine wk_reg ?_
        repeat' (first | refine a_mov ?_ | refine a_asg ?_ | refine a_binN ?_ | refine a_notd ?_ | refine a_notb ?_ | refine a_nilc ?_ | refine a_fa ?_ | refine a_ext ?_ | refine a_lenv ?_ | refine a_lens ?_ | refine a_pick_t ?_ | refine a_pick_f ?_ | refine a_not ?_ | refine a_nilf ?_ | (refine a_bin ?_ ?_ <;> intro _ <;> try (exfalso; omega)) | refine a_ld hl ?_ | (refine a_st hl ?_; clear hl; intro _ hl) | refine a_ix (fun _ => ?_) | fail)
        exact o_nil ⟨k + 1, ⟨rfl, rfl, rfl, rfl, by rw [hsu, hq, decide_eq_true he]; rfl, rfl, trivial⟩, rfl, ⟨hk1, hx10.trans hx11⟩, by omega⟩
      · refine wk_lastQ (List.range 14) (List.dropLast_concat_getLast (by simp)).symm (by kernel_rfl) (by kernel_rfl) ?_
        repeat' (first | refine q_mov ?_ | refine q_asg ?_ | refine q_fa ?_ | refine q_ext ?_ | refine q_binN ?_ | refine q_notd ?_ | refine q_notb ?_ | refine q_pick_t ?_ | refine q_pick_f ?_ | refine q_nilc ?_ | refine q_skip ?_ | refine q_lens ?_ | refine q_lenv ?_ | refine q_nil ?_ | refine q_ix (fun _ => ?_) | (refine q_bin ?_ ?_ <;> intro _ <;> try (exfalso; omega)) | refine q_idx (c := 1) k e2 ?_ | refine q_idx (c := 4) k e1 ?_ | refine q_row (fun w_ hw_ => hr10.ext hw_) ?_ | refine q_row (fun w_ hw_ => r2.ext hw_) ?_ | refine q_row (fun w_ hw_ => r1.ext hw_) ?_ | fail)
        intro w11 hx11
        refine a_asg ?_
        refine o_nil (hK _ _ ?_)
        clear hK K
        refine wk_reg ?_
        repeat' (first | refine a_mov ?_ | refine a_asg ?_ | refine a_binN ?_ | refine a_notd ?_ | refine a_notb ?_ | refine a_nilc ?_ | refine a_fa ?_ | refine a_ext ?_ | refine a_lenv ?_ | refine a_lens ?_ | refine a_pick_t ?_ | refine a_pick_f ?_ | refine a_not ?_ | refine a_nilf ?_ | (refine a_bin ?_ ?_ <;> intro _ <;> try (exfalso; omega)) | refine a_ld hl ?_ | (refine a_st hl ?_; clear hl; intro _ hl) | refine a_ix (fun _ => ?_) | fail)
        exact o_nil ⟨k + 1, ⟨rfl, rfl, rfl, rfl, by rw [hsu, hq, decide_eq_false he]; rfl, rfl, trivial⟩, rfl, ⟨hk1, hx10.trans hx11⟩, by omega⟩
  · obtain rfl : k = F.length := by omega
    rw [hiB_all hcl]
    repeat' (first | refine a_mov ?_ | refine a_asg ?_ | refine a_binN ?_ | refine a_notd ?_ | refine a_notb ?_ | refine a_nilc ?_ | refine a_fa ?_ | refine a_ext ?_ | refine a_lenv ?_ | refine a_lens ?_ | refine a_pick_t ?_ | refine a_pick_f ?_ | refine a_not ?_ | refine a_nilf ?_ | (refine a_bin ?_ ?_ <;> intro _ <;> try (exfalso; omega)) | refine a_ld hl ?_ | (refine a_st hl ?_; clear hl; intro _ hl) | refine a_ix (fun _ => ?_) | fail)
    refine o_nil (hK2 _ _ ?_)
    clear hK2 K2
    refine wk_cond_f rfl ?_
    refine wk_exit ?_
    refine blockK_same ?_
    refine hK _ _ ?_
    clear hK1 K1
    clear hK K
    replace hd := hd.ext hx10
    replace ha := ha.ext hx10
    replace hb := hb.ext hx10
    replace hrd := hrd.ext hx10
    replace hx := hx.trans hx10
    clear hx10
    have hnn := next_none F a hfc
    have hnc : nextC F a = nextL F a := by unfold nextC; rw [if_pos hfb]
    refine wk_seq fun K hK => ?_
    refine wk_reg ?_
    refine a_all hrd ?_
    refine a_mov ?_
    refine a_fn (next_calls hd.1 ha.1 hF hA hFn) ?_
    rintro v w11 ⟨hout, hx11⟩
    rw [hnc] at hout
    replace hd := hd.ext hx11
    replace ha := ha.ext hx11
    replace hb := hb.ext hx11
    replace hrd := hrd.ext hx11
    replace hx := hx.trans hx11
    clear hx11
    cases hnx : nextL F a with
    | none =>
      rw [hnx] at hout
      obtain rfl := hout
      rw [decide_eq_true (hnn.1 hnx)]
      repeat' (first | refine a_mov ?_ | refine a_asg ?_ | refine a_binN ?_ | refine a_notd ?_ | refine a_notb ?_ | refine a_nilc ?_ | refine a_fa ?_ | refine a_ext ?_ | refine a_lenv ?_ | refine a_lens ?_ | refine a_pick_t ?_ | refine a_pick_f ?_ | refine a_not ?_ | refine a_nilf ?_ | (refine a_bin ?_ ?_ <;> intro _ <;> try (exfalso; omega)) | refine a_ld hl ?_ | (refine a_st hl ?_; clear hl; intro _ hl) | refine a_ix (fun _ => ?_) | fail)
      refine o_nil (hK _ _ ?_)
      clear hK K
      refine wk_seq fun K hK => ?_
      refine wk_seq fun K2 hK2 => ?_
      refine wk_reg ?_
      refine a_mov ?_
      refine a_mov ?_
      refine o_eqB rfl rfl rfl rfl ?_
      repeat' (first | refine a_mov ?_ | refine a_asg ?_ | refine a_binN ?_ | refine a_notd ?_ | refine a_notb ?_ | refine a_nilc ?_ | refine a_fa ?_ | refine a_ext ?_ | refine a_lenv ?_ | refine a_lens ?_ | refine a_pick_t ?_ | refine a_pick_f ?_ | refine a_not ?_ | refine a_nilf ?_ | (refine a_bin ?_ ?_ <;> intro _ <;> try (exfalso; omega)) | refine a_ld hl ?_ | (refine a_st hl ?_; clear hl; intro _ hl) | refine a_ix (fun _ => ?_) | fail)
      refine o_nil (hK2 _ _ ?_)
      clear hK2 K2
      refine wk_cond_f rfl ?_
      refine wk_skip (hK _ _ ?_)
      clear hK K
      refine wk_seq fun K hK => ?_
      refine wk_reg ?_
      repeat' (first | refine a_mov ?_ | refine a_asg ?_ | refine a_binN ?_ | refine a_notd ?_ | refine a_notb ?_ | refine a_nilc ?_ | refine a_fa ?_ | refine a_ext ?_ | refine a_lenv ?_ | refine a_lens ?_ | refine a_pick_t ?_ | refine a_pick_f ?_ | refine a_not ?_ | refine a_nilf ?_ | (refine a_bin ?_ ?_ <;> intro _ <;> try (exfalso; omega)) | refine a_ld hl ?_ | (refine a_st hl ?_; clear hl; intro _ hl) | refine a_ix (fun _ => ?_) | fail)
      refine a_fn (less_calls ha.1 hb.1 hA hB) ?_
      rintro _ w12 ⟨rfl, hx12⟩
      have hlf : lessL a b = false := by
        cases h : lessL a b
        · rfl
        · obtain ⟨d, h1, -⟩ := next_least F a b hfc hfcb h
          rw [hnx] at h1
          cases h1
      rw [hlf]
      repeat' (first | refine a_mov ?_ | refine a_asg ?_ | refine a_binN ?_ | refine a_notd ?_ | refine a_notb ?_ | refine a_nilc ?_ | refine a_fa ?_ | refine a_ext ?_ | refine a_lenv ?_ | refine a_lens ?_ | refine a_pick_t ?_ | refine a_pick_f ?_ | refine a_not ?_ | refine a_nilf ?_ | (refine a_bin ?_ ?_ <;> intro _ <;> try (exfalso; omega)) | refine a_ld hl ?_ | (refine a_st hl ?_; clear hl; intro _ hl) | refine a_ix (fun _ => ?_) | fail)
      refine o_nil (hK _ _ ?_)
      refine wk_ret (retQ_tmp1 Tryd.results7 (by decide) rfl (by conv => lhs; whnf) ?_)
      exact ⟨rfl, hx.trans hx12⟩
    | some d =>
      rw [hnx] at hout
      obtain ⟨nv, rfl, hnv⟩ := hout
      obtain ⟨na, nm, nc, rfl⟩ := sl_is hnv
      have hnn2 : ¬ a = F.map (·.hi) := fun h => by rw [hnn.2 h] at hnx; cases hnx
      rw [decide_eq_false hnn2]
      obtain ⟨hnf, hnl⟩ := next_fits F a d (valid_lohi hvd) hfc hnx
      have hnfB : fitsB F d = true := by unfold fitsB; rw [hvd, hnf]; rfl
      have hdl := ((Fo.fitsC_iff F d).1 hnf).1
      have hD : d.length ≤ 9223372036854775806 := by omega
      repeat' (first | refine a_mov ?_ | refine a_asg ?_ | refine a_binN ?_ | refine a_notd ?_ | refine a_notb ?_ | refine a_nilc ?_ | refine a_fa ?_ | refine a_ext ?_ | refine a_lenv ?_ | refine a_lens ?_ | refine a_pick_t ?_ | refine a_pick_f ?_ | refine a_not ?_ | refine a_nilf ?_ | (refine a_bin ?_ ?_ <;> intro _ <;> try (exfalso; omega)) | refine a_ld hl ?_ | (refine a_st hl ?_; clear hl; intro _ hl) | refine a_ix (fun _ => ?_) | fail)
      refine o_nil (hK _ _ ?_)
      clear hK K
      refine wk_seq fun K hK => ?_
      refine wk_seq fun K2 hK2 => ?_
      refine wk_reg ?_
      refine a_mov ?_
      refine a_mov ?_
      refine o_eqB rfl rfl rfl rfl ?_
      repeat' (first | refine a_mov ?_ | refine a_asg ?_ | refine a_binN ?_ | refine a_notd ?_ | refine a_notb ?_ | refine a_nilc ?_ | refine a_fa ?_ | refine a_ext ?_ | refine a_lenv ?_ | refine a_lens ?_ | refine a_pick_t ?_ | refine a_pick_f ?_ | refine a_not ?_ | refine a_nilf ?_ | (refine a_bin ?_ ?_ <;> intro _ <;> try (exfalso; omega)) | refine a_ld hl ?_ | (refine a_st hl ?_; clear hl; intro _ hl) | refine a_ix (fun _ => ?_) | refine a_all hrd ?_ | fail)
      refine a_fn (fits_calls hd.1 hnv hF hD hFn) ?_
      rintro _ w12 ⟨rfl, hx12⟩
      rw [hnfB]
      repeat' (first | refine a_mov ?_ | refine a_asg ?_ | refine a_binN ?_ | refine a_notd ?_ | refine a_notb ?_ | refine a_nilc ?_ | refine a_fa ?_ | refine a_ext ?_ | refine a_lenv ?_ | refine a_lens ?_ | refine a_pick_t ?_ | refine a_pick_f ?_ | refine a_not ?_ | refine a_nilf ?_ | (refine a_bin ?_ ?_ <;> intro _ <;> try (exfalso; omega)) | refine a_ld hl ?_ | (refine a_st hl ?_; clear hl; intro _ hl) | refine a_ix (fun _ => ?_) | fail)
      refine a_fn (less_calls (ha.1.ext hx12) (hnv.ext hx12) hA hD) ?_
      rintro _ w13 ⟨rfl, hx13⟩
      rw [hnl]
      repeat' (first | refine a_mov ?_ | refine a_asg ?_ | refine a_binN ?_ | refine a_notd ?_ | refine a_notb ?_ | refine a_nilc ?_ | refine a_fa ?_ | refine a_ext ?_ | refine a_lenv ?_ | refine a_lens ?_ | refine a_pick_t ?_ | refine a_pick_f ?_ | refine a_not ?_ | refine a_nilf ?_ | (refine a_bin ?_ ?_ <;> intro _ <;> try (exfalso; omega)) | refine a_ld hl ?_ | (refine a_st hl ?_; clear hl; intro _ hl) | refine a_ix (fun _ => ?_) | fail)
      refine o_nil (hK2 _ _ ?_)
      clear hK2 K2
      refine wk_cond_f rfl ?_
      refine wk_skip (hK _ _ ?_)
      clear hK K
      have hxx := hx12.trans hx13
      refine wk_seq fun K hK => ?_
      refine wk_reg ?_
      repeat' (first | refine a_mov ?_ | refine a_asg ?_ | refine a_binN ?_ | refine a_notd ?_ | refine a_notb ?_ | refine a_nilc ?_ | refine a_fa ?_ | refine a_ext ?_ | refine a_lenv ?_ | refine a_lens ?_ | refine a_pick_t ?_ | refine a_pick_f ?_ | refine a_not ?_ | refine a_nilf ?_ | (refine a_bin ?_ ?_ <;> intro _ <;> try (exfalso; omega)) | refine a_ld hl ?_ | (refine a_st hl ?_; clear hl; intro _ hl) | refine a_ix (fun _ => ?_) | fail)
      refine a_fn (less_calls (ha.1.ext hxx) (hb.1.ext hxx) hA hB) ?_
      rintro _ w14 ⟨rfl, hx14⟩
      have hxy := hxx.trans hx14
      cases hlf : lessL a b
      · repeat' (first | refine a_mov ?_ | refine a_asg ?_ | refine a_binN ?_ | refine a_notd ?_ | refine a_notb ?_ | refine a_nilc ?_ | refine a_fa ?_ | refine a_ext ?_ | refine a_lenv ?_ | refine a_lens ?_ | refine a_pick_t ?_ | refine a_pick_f ?_ | refine a_not ?_ | refine a_nilf ?_ | (refine a_bin ?_ ?_ <;> intro _ <;> try (exfalso; omega)) | refine a_ld hl ?_ | (refine a_st hl ?_; clear hl; intro _ hl) | refine a_ix (fun _ => ?_) | fail)
        refine o_nil (hK _ _ ?_)
        refine wk_ret (retQ_tmp1 Tryd.results7 (by decide) rfl (by conv => lhs; whnf) ?_)
        exact ⟨rfl, hx.trans hxy⟩
      · obtain ⟨d2, h1, h2⟩ := next_least F a b hfc hfcb hlf
        rw [hnx] at h1
        cases h1
        repeat' (first | refine a_mov ?_ | refine a_asg ?_ | refine a_binN ?_ | refine a_notd ?_ | refine a_notb ?_ | refine a_nilc ?_ | refine a_fa ?_ | refine a_ext ?_ | refine a_lenv ?_ | refine a_lens ?_ | refine a_pick_t ?_ | refine a_pick_f ?_ | refine a_not ?_ | refine a_nilf ?_ | (refine a_bin ?_ ?_ <;> intro _ <;> try (exfalso; omega)) | refine a_ld hl ?_ | (refine a_st hl ?_; clear hl; intro _ hl) | refine a_ix (fun _ => ?_) | fail)
        refine a_fn (less_calls (hb.1.ext hxy) (hnv.ext hxy) hB hD) ?_
        rintro _ w15 ⟨rfl, hx15⟩
        rw [h2]
        repeat' (first | refine a_mov ?_ | refine a_asg ?_ | refine a_binN ?_ | refine a_notd ?_ | refine a_notb ?_ | refine a_nilc ?_ | refine a_fa ?_ | refine a_ext ?_ | refine a_lenv ?_ | refine a_lens ?_ | refine a_pick_t ?_ | refine a_pick_f ?_ | refine a_not ?_ | refine a_nilf ?_ | (refine a_bin ?_ ?_ <;> intro _ <;> try (exfalso; omega)) | refine a_ld hl ?_ | (refine a_st hl ?_; clear hl; intro _ hl) | refine a_ix (fun _ => ?_) | fail)
        refine o_nil (hK _ _ ?_)
        refine wk_ret (retQ_tmp1 Tryd.results7 (by decide) rfl (by conv => lhs; whnf) ?_)
        exact ⟨rfl, (hx.trans hxy).trans hx15⟩
end Go.Proofs
