/-
  The statement FormulaParts, walked.
-/
import Derived.Test.YtibaknilaboepaaDoorOp
set_option linter.unusedVariables false
set_option linter.unusedSimpArgs false
set_option linter.unnecessarySimpa false
set_option maxRecDepth 10000
namespace Go.Fo
open Go.Lexs Go.Fin
theorem root_bad {F : List Fact} {known : List UInt8 → Bool} {f : Fm} (h : formed f = false) (h1 : cnt f ≤ 200) (h2 : dep f ≤ 20) : checkE F known f = 1 := by
  have hn : nodeE F known f = 1 := by unfold nodeE; rw [h, if_pos rfl]
  unfold checkE
  rw [if_neg (by omega), pre_eq]
  simp only [firstE, hn]
  rfl
theorem dep_kid {ks : List Fm} {k : Fm} (h : k ∈ ks) : dep k ≤ depL ks := by
  induction ks with
  | nil => cases h
  | cons x ks ih =>
    simp only [depL]
    rcases List.mem_cons.1 h with rfl | h
    · omega
    · have := ih h; omega
theorem kid_right {F : List Fact} {known : List UInt8 → Bool} {f k : Fm} (h : checkE F known f = 0) (hk : k ∈ f.kids) : checkE F known k = 0 := by
  obtain ⟨h1, h2, h3⟩ := checkE_zero.1 h
  have e1 := cnt_eq f
  have e2 := dep_eq f
  have e3 := cntL_mem hk
  have e4 := dep_kid hk
  refine checkE_zero.2 ⟨by omega, by omega, firstE_mem.2 fun x hx => firstE_mem.1 h3 x ?_⟩
  rw [pre_eq]
  obtain ⟨i, hi, rfl⟩ := List.mem_iff_getElem.1 hk
  rw [preL_split' hi]
  simp [hx]
def odd (op : Int) : Fm := .node op [] 7 0 []
theorem odd_bad (op : Int) : formed (odd op) = false := by
  unfold formed odd
  simp only [Fm.op, Fm.name, Fm.cmp, Fm.num, Fm.kids]
  by_cases h : op = 3
  · subst h; simp
  · simp [h]
theorem beside_bad {F : List Fact} {known : List UInt8 → Bool} {f : Fm} (op : Int) (h : checkE F known f = 0) (h1 : cnt f ≤ 60) (h2 : dep f ≤ 16) : checkE F known (bth 7 [f, odd op]) = 1 := by
  have h3 := (checkE_zero.1 h).2.2
  have hf : formed (bth 7 [f, odd op]) = true := by unfold formed bth; simp [Fm.op, Fm.name, Fm.cmp, Fm.num, Fm.kids]
  have hn : nodeE F known (bth 7 [f, odd op]) = 0 := by
    unfold nodeE
    rw [hf, if_neg (by decide), if_neg (by simp [bth, Fm.op]), if_neg (by simp [bth, Fm.op])]
  have ho : nodeE F known (odd op) = 1 := by unfold nodeE; rw [odd_bad, if_pos rfl]
  unfold checkE
  rw [if_neg]
  · rw [pre_eq]
    show firstE F known (bth 7 [f, odd op] :: (pre f ++ (pre (odd op) ++ []))) = 1
    simp only [firstE, hn]
    rw [if_neg (by simp), firstE_app, if_neg (by simp [h3])]
    rw [List.append_nil, pre_eq]
    simp only [firstE, ho]
    rfl
  · have e1 : cnt (bth 7 [f, odd op]) = 1 + (cnt f + (1 + 0)) := rfl
    have e2 : dep (bth 7 [f, odd op]) = max (dep f) (max (0 + 1) 0) + 1 := rfl
    omega
theorem formed_of {F : List Fact} {known : List UInt8 → Bool} {f : Fm} (h : checkE F known f = 0) : formed f = true := by
  have h3 := firstE_mem.1 (checkE_zero.1 h).2.2 f (by rw [pre_eq]; exact List.mem_cons_self)
  unfold nodeE at h3
  cases hf : formed f
  · rw [hf, if_pos rfl] at h3; cases h3
  · rfl
theorem more_kids : ∀ {f : Fm}, formed f = true → f.op = 3 ∨ f.op = 4 → f.kids = [] ∧ formed (.node f.op f.name f.cmp f.num [.node 1 [] 0 0 []]) = false
  | .node o s c n ks, hf, h => by
    unfold formed at hf ⊢
    simp only [Fm.op, Fm.name, Fm.cmp, Fm.num, Fm.kids] at hf h ⊢
    rcases h with rfl | rfl
    · simp at hf ⊢
      exact hf.1
    · simp at hf ⊢
      exact hf.2.1
theorem more_name : ∀ {f : Fm}, ¬ (f.op = 3 ∨ f.op = 4) → formed (.node f.op [97] f.cmp f.num f.kids) = false
  | .node o s c n ks, h => by
    unfold formed
    simp only [Fm.op, Fm.name, Fm.cmp, Fm.num, Fm.kids] at h ⊢
    exact if_pos (.inr ⟨fun e => h (.inl e), fun e => h (.inr e), by simp⟩)
theorem more_num : ∀ {f : Fm}, ¬ (f.op = 3 ∨ f.op = 4) → formed (.node f.op f.name f.cmp 1 f.kids) = false
  | .node o s c n ks, h => by
    unfold formed
    simp only [Fm.op, Fm.name, Fm.cmp, Fm.num, Fm.kids] at h ⊢
    exact if_pos (.inl ⟨fun e => h (.inl e), .inr (by decide)⟩)
end Go.Fo

namespace Go.Proofs
open Go Go.Pd Go.Lexs Go.Fin Go.Fo
attribute [local irreducible] OpsL W RetQ OpsQ OpsC

set_option maxHeartbeats 8000000 in
theorem Parts_calls {w : World} {f : Fm} {fv dv cv : Value} {F : List Fact} {c : List Int} (hf : FmIn w f fv) (hD : DomIn w F dv) (hC : CaseIn w c cv) (op : Int) :
    Calls Tryd.prog 9 #[.agg (fmL f fv).toArray, .agg #[dv], cv, .int .i64 op] w (fun e w' => ∃ x, e = .returned x ∧ x = .bool true ∧ Ext w w') := by
  obtain ⟨hd, nF', tF'⟩ := hD
  obtain ⟨hc, nC'⟩ := hC
  obtain ⟨fa, fc, rfl, -⟩ := hf.k.shape
  obtain ⟨da, dc, rfl, -⟩ := hd.shape (factsL_len F) (by omega)
  obtain ⟨ca, cc, rfl, -⟩ := hc.shape (intsL_len c) (by omega)
  have nF : F.length ≤ 9223372036854775806 := by omega
  have nC : c.length ≤ 9223372036854775806 := by omega
  have tF : ∀ f ∈ F, f.name.length ≤ 9223372036854775806 := fun f h => by have := tF' f h; omega
  refine calls_of Tryd.func9 rfl Tryd.ntmps9 rfl ?_
  refine wk_seq fun K hK => ?_
  refine wk_reg ?_
  refine o_box (LH.start w (fun _ => False)) [.int .i64 (f).op, str (f).name, .int .i64 (f).cmp, .int .i64 (f).num, .slice fa f.kids.length fc] rfl rfl rfl ?_
  intro b4 w1 hb4 hl
  refine o_box hl [.slice da F.length dc] rfl rfl rfl ?_
  clear hl
  intro b5 w2 hb5 hl
  repeat' (first | refine a_mov ?_ | refine a_asg ?_ | refine a_binN ?_ | refine a_notd ?_ | refine a_notb ?_ | refine a_nilc ?_ | refine a_fa ?_ | refine a_ext ?_ | refine a_lenv ?_ | refine a_lens ?_ | refine a_pick_t ?_ | refine a_pick_f ?_ | refine a_not ?_ | refine a_nilf ?_ | (refine o_nil (hK _ _ ?_); clear hK K) | refine wk_reg ?_ | refine wk_seq fun K hK => ?_ | (refine wk_skip (hK _ _ ?_); clear hK K) | (refine wk_label (hK _ _ ?_); clear hK K) | refine wk_scope ?_ | refine wk_block ?_ | refine wk_cond_t rfl ?_ | refine wk_cond_f rfl ?_ | (refine wk_exit ?_; (repeat (refine blockK_other rfl ?_)); refine blockK_same ?_; try ((repeat ((fail_if_success (refine hK _ _ ?_)); clear hK K)); refine hK _ _ ?_; clear hK K)) | (refine a_bin ?_ ?_ <;> intro _ <;> try (exfalso; omega)) | refine a_ld hl ?_ | (refine a_st hl ?_; clear hl; intro _ hl) | refine a_ix (fun _ => ?_) | fail)
  refine a_fn (head_calls w2) ?_
  rintro _ w3 ⟨rfl, hx⟩
  replace hl := hl.ext hx
  clear hx
  have he := hl.done
  have rf : Row w3 b4 0 [.int .i64 (f).op, str (f).name, .int .i64 (f).cmp, .int .i64 (f).num, .slice fa f.kids.length fc] := hl.rowL (vs := [.int .i64 (f).op, str (f).name, .int .i64 (f).cmp, .int .i64 (f).num, .slice fa f.kids.length fc]) 1 0 5 rfl
  have rd' : Row w3 b5 0 [.slice da F.length dc] := hl.rowL (vs := [.slice da F.length dc]) 0 0 1 rfl
  have hkf := hf.k.ext he
  replace hd := hd.ext he
  replace hc := hc.ext he
  clear hl
  repeat' (first | refine a_mov ?_ | refine a_asg ?_ | refine a_binN ?_ | refine a_notd ?_ | refine a_notb ?_ | refine a_nilc ?_ | refine a_fa ?_ | refine a_ext ?_ | refine a_lenv ?_ | refine a_lens ?_ | refine a_pick_t ?_ | refine a_pick_f ?_ | refine a_not ?_ | refine a_nilf ?_ | (refine o_nil (hK _ _ ?_); clear hK K) | refine wk_reg ?_ | refine wk_seq fun K hK => ?_ | (refine wk_skip (hK _ _ ?_); clear hK K) | (refine wk_label (hK _ _ ?_); clear hK K) | refine wk_scope ?_ | refine wk_block ?_ | refine wk_cond_t rfl ?_ | refine wk_cond_f rfl ?_ | (refine wk_exit ?_; (repeat (refine blockK_other rfl ?_)); refine blockK_same ?_; try ((repeat ((fail_if_success (refine hK _ _ ?_)); clear hK K)); refine hK _ _ ?_; clear hK K)) | (refine a_bin ?_ ?_ <;> intro _ <;> try (exfalso; omega)) | refine a_ld hl ?_ | (refine a_st hl ?_; clear hl; intro _ hl) | refine a_ix (fun _ => ?_) | refine a_all rd' ?_)
  refine a_fn (few_calls (T := []) hd hc (Sl.nil _ _) nF nC (by simp) (fun s h => nomatch h)) ?_
  rintro _ w4 ⟨rfl, hx⟩
  replace he := he.trans hx
  replace rf := rf.ext hx
  replace rd' := rd'.ext hx
  replace hkf := hkf.ext hx
  replace hd := hd.ext hx
  replace hc := hc.ext hx
  clear hx
  cases hfew : fewB F c []
  · repeat' (first | refine a_mov ?_ | refine a_asg ?_ | refine a_binN ?_ | refine a_notd ?_ | refine a_notb ?_ | refine a_nilc ?_ | refine a_fa ?_ | refine a_ext ?_ | refine a_lenv ?_ | refine a_lens ?_ | refine a_pick_t ?_ | refine a_pick_f ?_ | refine a_not ?_ | refine a_nilf ?_ | (refine o_nil (hK _ _ ?_); clear hK K) | refine wk_reg ?_ | refine wk_seq fun K hK => ?_ | (refine wk_skip (hK _ _ ?_); clear hK K) | (refine wk_label (hK _ _ ?_); clear hK K) | refine wk_scope ?_ | refine wk_block ?_ | refine wk_cond_t rfl ?_ | refine wk_cond_f rfl ?_ | (refine wk_exit ?_; (repeat (refine blockK_other rfl ?_)); refine blockK_same ?_; try ((repeat ((fail_if_success (refine hK _ _ ?_)); clear hK K)); refine hK _ _ ?_; clear hK K)) | (refine a_bin ?_ ?_ <;> intro _ <;> try (exfalso; omega)) | refine a_ld hl ?_ | (refine a_st hl ?_; clear hl; intro _ hl) | refine a_ix (fun _ => ?_) | fail)
    refine wk_ret (retQ_tmp1 Tryd.results9 (by decide) rfl (by conv => lhs; whnf) ?_)
    exact ⟨rfl, he⟩
  repeat' (first | refine a_mov ?_ | refine a_asg ?_ | refine a_binN ?_ | refine a_notd ?_ | refine a_notb ?_ | refine a_nilc ?_ | refine a_fa ?_ | refine a_ext ?_ | refine a_lenv ?_ | refine a_lens ?_ | refine a_pick_t ?_ | refine a_pick_f ?_ | refine a_not ?_ | refine a_nilf ?_ | (refine o_nil (hK _ _ ?_); clear hK K) | refine wk_reg ?_ | refine wk_seq fun K hK => ?_ | (refine wk_skip (hK _ _ ?_); clear hK K) | (refine wk_label (hK _ _ ?_); clear hK K) | refine wk_scope ?_ | refine wk_block ?_ | refine wk_cond_t rfl ?_ | refine wk_cond_f rfl ?_ | (refine wk_exit ?_; (repeat (refine blockK_other rfl ?_)); refine blockK_same ?_; try ((repeat ((fail_if_success (refine hK _ _ ?_)); clear hK K)); refine hK _ _ ?_; clear hK K)) | (refine a_bin ?_ ?_ <;> intro _ <;> try (exfalso; omega)) | refine a_ld hl ?_ | (refine a_st hl ?_; clear hl; intro _ hl) | refine a_ix (fun _ => ?_) | refine a_all rf ?_ | refine a_all rd' ?_)
  refine a_fn (good_calls F c nF nC tF f w4 _ _ _ _ hkf (fun b h => h) hf.n hf.ns hd hc) ?_
  rintro _ w5 ⟨rfl, hx⟩
  replace he := he.trans hx
  replace rf := rf.ext hx
  replace rd' := rd'.ext hx
  replace hkf := hkf.ext hx
  replace hd := hd.ext hx
  replace hc := hc.ext hx
  clear hx
  cases hgood : goodB F c f
  · repeat' (first | refine a_mov ?_ | refine a_asg ?_ | refine a_binN ?_ | refine a_notd ?_ | refine a_notb ?_ | refine a_nilc ?_ | refine a_fa ?_ | refine a_ext ?_ | refine a_lenv ?_ | refine a_lens ?_ | refine a_pick_t ?_ | refine a_pick_f ?_ | refine a_not ?_ | refine a_nilf ?_ | (refine o_nil (hK _ _ ?_); clear hK K) | refine wk_reg ?_ | refine wk_seq fun K hK => ?_ | (refine wk_skip (hK _ _ ?_); clear hK K) | (refine wk_label (hK _ _ ?_); clear hK K) | refine wk_scope ?_ | refine wk_block ?_ | refine wk_cond_t rfl ?_ | refine wk_cond_f rfl ?_ | (refine wk_exit ?_; (repeat (refine blockK_other rfl ?_)); refine blockK_same ?_; try ((repeat ((fail_if_success (refine hK _ _ ?_)); clear hK K)); refine hK _ _ ?_; clear hK K)) | (refine a_bin ?_ ?_ <;> intro _ <;> try (exfalso; omega)) | refine a_ld hl ?_ | (refine a_st hl ?_; clear hl; intro _ hl) | refine a_ix (fun _ => ?_) | fail)
    refine wk_ret (retQ_tmp1 Tryd.results9 (by decide) rfl (by conv => lhs; whnf) ?_)
    exact ⟨rfl, he⟩
  obtain ⟨⟨hs1, hs2⟩, hfit, hck⟩ := goodB_iff.1 hgood
  have shf := short_of (f := f) (by omega)
  repeat' (first | refine a_mov ?_ | refine a_asg ?_ | refine a_binN ?_ | refine a_notd ?_ | refine a_notb ?_ | refine a_nilc ?_ | refine a_fa ?_ | refine a_ext ?_ | refine a_lenv ?_ | refine a_lens ?_ | refine a_pick_t ?_ | refine a_pick_f ?_ | refine a_not ?_ | refine a_nilf ?_ | (refine o_nil (hK _ _ ?_); clear hK K) | refine wk_reg ?_ | refine wk_seq fun K hK => ?_ | (refine wk_skip (hK _ _ ?_); clear hK K) | (refine wk_label (hK _ _ ?_); clear hK K) | refine wk_scope ?_ | refine wk_block ?_ | refine wk_cond_t rfl ?_ | refine wk_cond_f rfl ?_ | (refine wk_exit ?_; (repeat (refine blockK_other rfl ?_)); refine blockK_same ?_; try ((repeat ((fail_if_success (refine hK _ _ ?_)); clear hK K)); refine hK _ _ ?_; clear hK K)) | (refine a_bin ?_ ?_ <;> intro _ <;> try (exfalso; omega)) | refine a_ld hl ?_ | (refine a_st hl ?_; clear hl; intro _ hl) | refine a_ix (fun _ => ?_) | refine a_all rf ?_)
  refine a_fn (terms_calls f w5 _ _ hkf (fun b h => h) shf (by omega)) ?_
  rintro tv w6 ⟨ht, hx⟩
  obtain ⟨ta, tc, rfl, -⟩ := ht.shape (strsL_len _) (by omega)
  have htl : (termsOf f).length ≤ 1000000 := by
    have h1 := foldT_len (pre f) []
    have h2 := pre_length f
    unfold termsOf
    simp at h1
    omega
  generalize hT : termsOf f = T at *
  replace he := he.trans hx
  replace rf := rf.ext hx
  replace rd' := rd'.ext hx
  replace hkf := hkf.ext hx
  replace hd := hd.ext hx
  replace hc := hc.ext hx
  clear hx
  repeat' (first | refine a_mov ?_ | refine a_asg ?_ | refine a_binN ?_ | refine a_notd ?_ | refine a_notb ?_ | refine a_nilc ?_ | refine a_fa ?_ | refine a_ext ?_ | refine a_lenv ?_ | refine a_lens ?_ | refine a_pick_t ?_ | refine a_pick_f ?_ | refine a_not ?_ | refine a_nilf ?_ | (refine o_nil (hK _ _ ?_); clear hK K) | refine wk_reg ?_ | refine wk_seq fun K hK => ?_ | (refine wk_skip (hK _ _ ?_); clear hK K) | (refine wk_label (hK _ _ ?_); clear hK K) | refine wk_scope ?_ | refine wk_block ?_ | refine wk_cond_t rfl ?_ | refine wk_cond_f rfl ?_ | (refine wk_exit ?_; (repeat (refine blockK_other rfl ?_)); refine blockK_same ?_; try ((repeat ((fail_if_success (refine hK _ _ ?_)); clear hK K)); refine hK _ _ ?_; clear hK K)) | (refine a_bin ?_ ?_ <;> intro _ <;> try (exfalso; omega)) | refine a_ld hl ?_ | (refine a_st hl ?_; clear hl; intro _ hl) | refine a_ix (fun _ => ?_) | fail)
  refine wk_loopH [] rfl (fun i : Nat => [(2, .slice ca c.length cc), (3, .int .i64 op), (4, .pointer (some ⟨b4, 0, none⟩)), (5, .pointer (some ⟨b5, 0, none⟩)), (9, .bool true), (10, .slice ta T.length tc), (11, .int .i64 (i : Int))]) (fun i w' => i ≤ f.kids.length ∧ Ext w6 w') (fun i => f.kids.length - i) 0 ⟨rfl, rfl, rfl, rfl, rfl, rfl, rfl, trivial⟩ ⟨by omega, .refl _ _⟩ ?_
  rintro i t w7 ⟨hi, hx⟩
  have hlen := hf.n
  replace he := he.trans hx
  replace rf := rf.ext hx
  replace rd' := rd'.ext hx
  replace hkf := hkf.ext hx
  replace hd := hd.ext hx
  replace hc := hc.ext hx
  replace ht := ht.ext hx
  by_cases hi1 : i < f.kids.length
  · obtain ⟨bk, ok, kv, hp, hr, hkk⟩ := KR.at hkf hi1
    have hck2 := kid_right hck (List.getElem_mem hi1)
    have hsk := shf.kid hi1
    have hcc := cnt_kid hi1
    have hcf := cnt_eq f
    generalize f.kids[i] = k at *
    have hcall := fun w' (hw' : Ext w7 w') => Check_calls F T nF (by omega) k w' _ _ _ _ (hkk.ext hw') (fun b h => Nat.lt_of_lt_of_le h hw'.size) hsk (by omega) (hd.ext hw') (ht.ext hw')
    simp only [hck2] at hcall
    repeat' (first | refine a_mov ?_ | refine a_asg ?_ | refine a_binN ?_ | refine a_notd ?_ | refine a_notb ?_ | refine a_nilc ?_ | refine a_fa ?_ | refine a_ext ?_ | refine a_lenv ?_ | refine a_lens ?_ | refine a_pick_t ?_ | refine a_pick_f ?_ | refine a_not ?_ | refine a_nilf ?_ | (refine o_nil (hK _ _ ?_); clear hK K) | refine wk_reg ?_ | refine wk_seq fun K hK => ?_ | (refine wk_skip (hK _ _ ?_); clear hK K) | (refine wk_label (hK _ _ ?_); clear hK K) | refine wk_scope ?_ | refine wk_block ?_ | refine wk_cond_t rfl ?_ | refine wk_cond_f rfl ?_ | (refine wk_exit ?_; (repeat (refine blockK_other rfl ?_)); refine blockK_same ?_; try ((repeat ((fail_if_success (refine hK _ _ ?_)); clear hK K)); refine hK _ _ ?_; clear hK K)) | (refine a_bin ?_ ?_ <;> intro _ <;> try (exfalso; omega)) | refine a_ld hl ?_ | (refine a_st hl ?_; clear hl; intro _ hl) | refine a_ix (fun _ => ?_) | refine a_row rf ?_)
    refine wk_grow [([0, 1, 2, 3, 4, 5, 6, 7, 8], [])] ?_
    refine g_end ?_
    repeat' (first | refine x_fn hcall ?_ | refine x_mov ?_ | refine x_asg ?_ | refine x_fa ?_ | refine x_ext ?_ | refine x_binN ?_ | refine x_notd ?_ | refine x_notb ?_ | refine x_pick_t ?_ | refine x_pick_f ?_ | refine x_nilc ?_ | refine x_skip ?_ | refine x_lens ?_ | refine x_lenv ?_ | refine x_ix (fun _ => ?_) | (refine x_bin ?_ ?_ <;> intro _ <;> try (exfalso; omega)) | refine x_row (fun w_ hw_ => rf.ext hw_) ?_ | refine x_idx (c := 5) i hp ?_ | refine x_all (fun w_ hw_ => hr.ext hw_) ?_ | refine x_all (fun w_ hw_ => rd'.ext hw_) ?_)
    refine x_nil fun w8 hw8 => hK _ _ ?_
    clear hK K
    repeat' (first | refine a_mov ?_ | refine a_asg ?_ | refine a_binN ?_ | refine a_notd ?_ | refine a_notb ?_ | refine a_nilc ?_ | refine a_fa ?_ | refine a_ext ?_ | refine a_lenv ?_ | refine a_lens ?_ | refine a_pick_t ?_ | refine a_pick_f ?_ | refine a_not ?_ | refine a_nilf ?_ | (refine o_nil (hK _ _ ?_); clear hK K) | refine wk_reg ?_ | refine wk_seq fun K hK => ?_ | (refine wk_skip (hK _ _ ?_); clear hK K) | (refine wk_label (hK _ _ ?_); clear hK K) | refine wk_scope ?_ | refine wk_block ?_ | refine wk_cond_t rfl ?_ | refine wk_cond_f rfl ?_ | (refine wk_exit ?_; (repeat (refine blockK_other rfl ?_)); refine blockK_same ?_; try ((repeat ((fail_if_success (refine hK _ _ ?_)); clear hK K)); refine hK _ _ ?_; clear hK K)) | (refine a_bin ?_ ?_ <;> intro _ <;> try (exfalso; omega)) | refine a_ld hl ?_ | (refine a_st hl ?_; clear hl; intro _ hl) | refine a_ix (fun _ => ?_) | fail)
    exact o_nil ⟨i + 1, ⟨rfl, rfl, rfl, rfl, rfl, rfl, rfl, trivial⟩, rfl, ⟨hi1, hx.trans hw8⟩, by omega⟩
  clear hx
  repeat' (first | refine a_mov ?_ | refine a_asg ?_ | refine a_binN ?_ | refine a_notd ?_ | refine a_notb ?_ | refine a_nilc ?_ | refine a_fa ?_ | refine a_ext ?_ | refine a_lenv ?_ | refine a_lens ?_ | refine a_pick_t ?_ | refine a_pick_f ?_ | refine a_not ?_ | refine a_nilf ?_ | (refine o_nil (hK _ _ ?_); clear hK K) | refine wk_reg ?_ | refine wk_seq fun K hK => ?_ | (refine wk_skip (hK _ _ ?_); clear hK K) | (refine wk_label (hK _ _ ?_); clear hK K) | refine wk_scope ?_ | refine wk_block ?_ | refine wk_cond_t rfl ?_ | refine wk_cond_f rfl ?_ | (refine wk_exit ?_; (repeat (refine blockK_other rfl ?_)); refine blockK_same ?_; try ((repeat ((fail_if_success (refine hK _ _ ?_)); clear hK K)); refine hK _ _ ?_; clear hK K)) | (refine a_bin ?_ ?_ <;> intro _ <;> try (exfalso; omega)) | refine a_ld hl ?_ | (refine a_st hl ?_; clear hl; intro _ hl) | refine a_ix (fun _ => ?_) | refine a_row rf ?_ | refine a_all rf ?_)
  refine o_build (fmL (odd op) (.slice none 0 0)) rfl (by simp only [fmL, odd, Fm.op, Fm.name, Fm.cmp, Fm.num, str_eq]; kernel_rfl) ?_
  refine o_buildSlice (LH.start w7 (fun _ => False)) ([.int .i64 (f).op, str (f).name, .int .i64 (f).cmp, .int .i64 (f).num, .slice fa f.kids.length fc] ++ fmL (odd op) (.slice none 0 0)) rfl rfl (by simp only [fmL, odd, Fm.op, Fm.name, Fm.cmp, Fm.num, str_eq]; kernel_rfl) ?_
  intro b6 w8 hb6 hl
  have kb : KA w8 [f, odd op] (.slice (some ⟨b6, 0, none⟩) 2 2) := .two (hl.rowL (vs := [.int .i64 (f).op, str (f).name, .int .i64 (f).cmp, .int .i64 (f).num, .slice fa f.kids.length fc] ++ fmL (odd op) (.slice none 0 0)) 0 0 10 rfl) (Nat.le_refl _) (hkf.ext hl.done) (.nil _)
  have hx := hl.done
  clear hl
  refine a_fn (both_calls 7 [f, odd op] _ ⟨_, _, rfl⟩ w8) ?_
  rintro _ w9 ⟨rfl, hy⟩
  refine o_alloc (LH.start w9 (fun _ => False)) [.int .i64 0, .string ⟨#[]⟩, .int .i64 0, .int .i64 0, .slice none 0 0] rfl rfl ?_
  intro b12 w10 hb12 hl
  refine o_putN (us := fmL (bth 7 [f, odd op]) (.slice (some ⟨b6, 0, none⟩) 2 2)) hl rfl rfl rfl (by simp only [fmL, str_eq]; rfl) rfl (.all rfl rfl) ?_
  clear hl
  intro w11 hl
  have rb : Row w11 b12 0 (fmL (bth 7 [f, odd op]) (.slice (some ⟨b6, 0, none⟩) 2 2)) := hl.rowL (vs := fmL (bth 7 [f, odd op]) (.slice (some ⟨b6, 0, none⟩) 2 2)) 0 0 5 rfl
  replace kb := (kb.ext hy).ext hl.done
  replace hx := (hx.trans hy).trans hl.done
  clear hl hy
  replace he := he.trans hx
  replace rf := rf.ext hx
  replace rd' := rd'.ext hx
  replace hkf := hkf.ext hx
  replace hd := hd.ext hx
  replace hc := hc.ext hx
  replace ht := ht.ext hx
  clear hx
  have hb1 := fun (known : List UInt8 → Bool) (h : checkE F known f = 0) => beside_bad op h hs1 hs2
  have hbc : cnt (bth 7 [f, odd op]) ≤ 100 := by have e1 : cnt (bth 7 [f, odd op]) = 1 + (cnt f + (1 + 0)) := rfl; omega
  have shb := short_of (f := bth 7 [f, odd op]) (by omega)
  repeat' (first | refine a_mov ?_ | refine a_asg ?_ | refine a_binN ?_ | refine a_notd ?_ | refine a_notb ?_ | refine a_nilc ?_ | refine a_fa ?_ | refine a_ext ?_ | refine a_lenv ?_ | refine a_lens ?_ | refine a_pick_t ?_ | refine a_pick_f ?_ | refine a_not ?_ | refine a_nilf ?_ | (refine o_nil (hK _ _ ?_); clear hK K) | refine wk_reg ?_ | refine wk_seq fun K hK => ?_ | (refine wk_skip (hK _ _ ?_); clear hK K) | (refine wk_label (hK _ _ ?_); clear hK K) | refine wk_scope ?_ | refine wk_block ?_ | refine wk_cond_t rfl ?_ | refine wk_cond_f rfl ?_ | (refine wk_exit ?_; (repeat (refine blockK_other rfl ?_)); refine blockK_same ?_; try ((repeat ((fail_if_success (refine hK _ _ ?_)); clear hK K)); refine hK _ _ ?_; clear hK K)) | (refine a_bin ?_ ?_ <;> intro _ <;> try (exfalso; omega)) | refine a_ld hl ?_ | (refine a_st hl ?_; clear hl; intro _ hl) | refine a_ix (fun _ => ?_) | refine a_all rb ?_ | refine a_all rd' ?_)
  refine a_fn (Check_calls F T nF (by omega) (bth 7 [f, odd op]) w11 _ _ _ _ kb (fun b h => h) shb (by omega) hd ht) ?_
  rintro _ w12 ⟨rfl, hx⟩
  rw [hb1 _ hck]
  replace rb := rb.ext hx
  replace kb := kb.ext hx
  replace he := he.trans hx
  replace rf := rf.ext hx
  replace rd' := rd'.ext hx
  replace hkf := hkf.ext hx
  replace hd := hd.ext hx
  replace hc := hc.ext hx
  replace ht := ht.ext hx
  clear hx
  repeat' (first | refine a_mov ?_ | refine a_asg ?_ | refine a_binN ?_ | refine a_notd ?_ | refine a_notb ?_ | refine a_nilc ?_ | refine a_fa ?_ | refine a_ext ?_ | refine a_lenv ?_ | refine a_lens ?_ | refine a_pick_t ?_ | refine a_pick_f ?_ | refine a_not ?_ | refine a_nilf ?_ | (refine o_nil (hK _ _ ?_); clear hK K) | refine wk_reg ?_ | refine wk_seq fun K hK => ?_ | (refine wk_skip (hK _ _ ?_); clear hK K) | (refine wk_label (hK _ _ ?_); clear hK K) | refine wk_scope ?_ | refine wk_block ?_ | refine wk_cond_t rfl ?_ | refine wk_cond_f rfl ?_ | (refine wk_exit ?_; (repeat (refine blockK_other rfl ?_)); refine blockK_same ?_; try ((repeat ((fail_if_success (refine hK _ _ ?_)); clear hK K)); refine hK _ _ ?_; clear hK K)) | (refine a_bin ?_ ?_ <;> intro _ <;> try (exfalso; omega)) | refine a_ld hl ?_ | (refine a_st hl ?_; clear hl; intro _ hl) | refine a_ix (fun _ => ?_) | refine a_all rb ?_ | refine a_all rd' ?_)
  have hhb : holdsB F c T (bth 7 [f, odd op]) = false := by
    have h1 := hb1 (fun _ => true) (checkE_zero.2 ⟨by omega, by omega, good_right hgood⟩)
    unfold holdsB
    rw [h1]
    rfl
  have hcall := holds_calls F c T nF nC (by omega) tF (bth 7 [f, odd op]) w12 _ _ _ _ _ kb (fun b h => h) shb (by omega) hd hc ht
  rw [hhb] at hcall
  refine a_fn hcall ?_
  rintro _ w13 ⟨rfl, hx⟩
  clear hcall rb kb
  replace he := he.trans hx
  replace rf := rf.ext hx
  replace rd' := rd'.ext hx
  replace hkf := hkf.ext hx
  replace hd := hd.ext hx
  replace hc := hc.ext hx
  replace ht := ht.ext hx
  clear hx
  by_cases hop : f.op = 3 ∨ f.op = 4
  · repeat' (first | refine a_mov ?_ | refine a_asg ?_ | refine a_binN ?_ | refine a_notd ?_ | refine a_notb ?_ | refine a_nilc ?_ | refine a_fa ?_ | refine a_ext ?_ | refine a_lenv ?_ | refine a_lens ?_ | refine a_pick_t ?_ | refine a_pick_f ?_ | refine a_not ?_ | refine a_nilf ?_ | (refine o_nil (hK _ _ ?_); clear hK K) | refine wk_reg ?_ | refine wk_seq fun K hK => ?_ | (refine wk_skip (hK _ _ ?_); clear hK K) | (refine wk_label (hK _ _ ?_); clear hK K) | refine wk_scope ?_ | refine wk_block ?_ | refine wk_cond_t rfl ?_ | refine wk_cond_f rfl ?_ | (refine wk_exit ?_; (repeat (refine blockK_other rfl ?_)); refine blockK_same ?_; try ((repeat ((fail_if_success (refine hK _ _ ?_)); clear hK K)); refine hK _ _ ?_; clear hK K)) | (refine a_bin ?_ ?_ <;> intro _ <;> try (exfalso; omega)) | refine a_ld hl ?_ | (refine a_st hl ?_; clear hl; intro _ hl) | refine a_ix (fun _ => ?_) | refine a_row rf ?_ | refine a_all rf ?_)
    all_goals obtain ⟨hk0, hbad⟩ := more_kids (formed_of hck) hop
    all_goals refine o_alloc (LH.start w13 (fun _ => False)) [.int .i64 0, .string ⟨#[]⟩, .int .i64 0, .int .i64 0, .slice none 0 0] rfl rfl ?_
    all_goals intro b13 w14 hb13 hl
    all_goals refine o_putN (us := [.int .i64 (f).op, str (f).name, .int .i64 (f).cmp, .int .i64 (f).num, .slice fa f.kids.length fc]) hl rfl rfl rfl (by simp only [str_eq]; rfl) rfl (.all rfl rfl) ?_
    all_goals clear hl
    all_goals intro w15 hl
    all_goals repeat' (first | refine a_mov ?_ | refine a_asg ?_ | refine a_binN ?_ | refine a_notd ?_ | refine a_notb ?_ | refine a_nilc ?_ | refine a_fa ?_ | refine a_ext ?_ | refine a_lenv ?_ | refine a_lens ?_ | refine a_pick_t ?_ | refine a_pick_f ?_ | refine a_not ?_ | refine a_nilf ?_ | (refine o_nil (hK _ _ ?_); clear hK K) | refine wk_reg ?_ | refine wk_seq fun K hK => ?_ | (refine wk_skip (hK _ _ ?_); clear hK K) | (refine wk_label (hK _ _ ?_); clear hK K) | refine wk_scope ?_ | refine wk_block ?_ | refine wk_cond_t rfl ?_ | refine wk_cond_f rfl ?_ | (refine wk_exit ?_; (repeat (refine blockK_other rfl ?_)); refine blockK_same ?_; try ((repeat ((fail_if_success (refine hK _ _ ?_)); clear hK K)); refine hK _ _ ?_; clear hK K)) | (refine a_bin ?_ ?_ <;> intro _ <;> try (exfalso; omega)) | refine a_ld hl ?_ | (refine a_st hl ?_; clear hl; intro _ hl) | refine a_ix (fun _ => ?_) | fail)
    all_goals refine o_build (fmL (.node 1 [] 0 0 []) (.slice none 0 0)) rfl (by simp only [fmL, Fm.op, Fm.name, Fm.cmp, Fm.num, str_eq]; kernel_rfl) ?_
    all_goals refine o_buildSlice hl (fmL (.node 1 [] 0 0 []) (.slice none 0 0)) rfl rfl (by simp only [fmL, Fm.op, Fm.name, Fm.cmp, Fm.num, str_eq]; kernel_rfl) ?_
    all_goals clear hl
    all_goals intro b14 w16 hb14 hl
    all_goals repeat' (first | refine a_mov ?_ | refine a_asg ?_ | refine a_binN ?_ | refine a_notd ?_ | refine a_notb ?_ | refine a_nilc ?_ | refine a_fa ?_ | refine a_ext ?_ | refine a_lenv ?_ | refine a_lens ?_ | refine a_pick_t ?_ | refine a_pick_f ?_ | refine a_not ?_ | refine a_nilf ?_ | (refine o_nil (hK _ _ ?_); clear hK K) | refine wk_reg ?_ | refine wk_seq fun K hK => ?_ | (refine wk_skip (hK _ _ ?_); clear hK K) | (refine wk_label (hK _ _ ?_); clear hK K) | refine wk_scope ?_ | refine wk_block ?_ | refine wk_cond_t rfl ?_ | refine wk_cond_f rfl ?_ | (refine wk_exit ?_; (repeat (refine blockK_other rfl ?_)); refine blockK_same ?_; try ((repeat ((fail_if_success (refine hK _ _ ?_)); clear hK K)); refine hK _ _ ?_; clear hK K)) | (refine a_bin ?_ ?_ <;> intro _ <;> try (exfalso; omega)) | refine a_ld hl ?_ | (refine a_st hl ?_; clear hl; intro _ hl) | refine a_ix (fun _ => ?_) | fail)
    all_goals have hx := hl.done
    all_goals have rg := hl.rowL (vs := fmL (.node f.op f.name f.cmp f.num [.node 1 [] 0 0 []]) (.slice (some ⟨b14, 0, none⟩) 1 1)) 1 0 5 rfl
    all_goals have kg := KA.one (f := .node 1 [] 0 0 []) (kv := .slice none 0 0) (c := 1) (hl.rowL (vs := fmL (.node 1 [] 0 0 []) (.slice none 0 0)) 0 0 5 rfl) (Nat.le_refl _) (.nil _)
    all_goals have hcg : checkE F (fun s => T.contains s) (.node f.op f.name f.cmp f.num [.node 1 [] 0 0 []]) = 1 := root_bad hbad (by show 1 + (1 + 0 + 0) ≤ 200; omega) (by show max (0 + 1) 0 + 1 ≤ 20; omega)
    all_goals repeat' (first | refine a_mov ?_ | refine a_asg ?_ | refine a_binN ?_ | refine a_notd ?_ | refine a_notb ?_ | refine a_nilc ?_ | refine a_fa ?_ | refine a_ext ?_ | refine a_lenv ?_ | refine a_lens ?_ | refine a_pick_t ?_ | refine a_pick_f ?_ | refine a_not ?_ | refine a_nilf ?_ | (refine o_nil (hK _ _ ?_); clear hK K) | refine wk_reg ?_ | refine wk_seq fun K hK => ?_ | (refine wk_skip (hK _ _ ?_); clear hK K) | (refine wk_label (hK _ _ ?_); clear hK K) | refine wk_scope ?_ | refine wk_block ?_ | refine wk_cond_t rfl ?_ | refine wk_cond_f rfl ?_ | (refine wk_exit ?_; (repeat (refine blockK_other rfl ?_)); refine blockK_same ?_; try ((repeat ((fail_if_success (refine hK _ _ ?_)); clear hK K)); refine hK _ _ ?_; clear hK K)) | (refine a_bin ?_ ?_ <;> intro _ <;> try (exfalso; omega)) | refine a_ld hl ?_ | (refine a_st hl ?_; clear hl; intro _ hl) | refine a_ix (fun _ => ?_) | refine a_all rg ?_ | refine a_all (rd'.ext hx) ?_)
    all_goals refine a_fn (Check_calls F T nF (by omega) (.node f.op f.name f.cmp f.num [.node 1 [] 0 0 []]) _ _ _ _ _ kg (fun b h => h) (short_of (by show 1 + (1 + 0 + 0) ≤ 1000000; omega)) (by show 1 + (1 + 0 + 0) ≤ 1000000; omega) (hd.ext hx) (ht.ext hx)) ?_
    all_goals rintro _ w18 ⟨rfl, hy⟩
    all_goals rw [hcg]
    all_goals repeat' (first | refine a_mov ?_ | refine a_asg ?_ | refine a_binN ?_ | refine a_notd ?_ | refine a_notb ?_ | refine a_nilc ?_ | refine a_fa ?_ | refine a_ext ?_ | refine a_lenv ?_ | refine a_lens ?_ | refine a_pick_t ?_ | refine a_pick_f ?_ | refine a_not ?_ | refine a_nilf ?_ | (refine o_nil (hK _ _ ?_); clear hK K) | refine wk_reg ?_ | refine wk_seq fun K hK => ?_ | (refine wk_skip (hK _ _ ?_); clear hK K) | (refine wk_label (hK _ _ ?_); clear hK K) | refine wk_scope ?_ | refine wk_block ?_ | refine wk_cond_t rfl ?_ | refine wk_cond_f rfl ?_ | (refine wk_exit ?_; (repeat (refine blockK_other rfl ?_)); refine blockK_same ?_; try ((repeat ((fail_if_success (refine hK _ _ ?_)); clear hK K)); refine hK _ _ ?_; clear hK K)) | (refine a_bin ?_ ?_ <;> intro _ <;> try (exfalso; omega)) | refine a_ld hl ?_ | (refine a_st hl ?_; clear hl; intro _ hl) | refine a_ix (fun _ => ?_) | fail)
    all_goals (refine wk_ret (retQ_tmp1 Tryd.results9 (by decide) rfl (by conv => lhs; whnf) ?_); exact ⟨rfl, (he.trans hx).trans hy⟩)
  · have hbad1 := more_name hop
    have hbad2 := more_num hop
    repeat' (first | refine a_mov ?_ | refine a_asg ?_ | refine a_binN ?_ | refine a_notd ?_ | refine a_notb ?_ | refine a_nilc ?_ | refine a_fa ?_ | refine a_ext ?_ | refine a_lenv ?_ | refine a_lens ?_ | refine a_pick_t ?_ | refine a_pick_f ?_ | refine a_not ?_ | refine a_nilf ?_ | (refine o_nil (hK _ _ ?_); clear hK K) | refine wk_reg ?_ | refine wk_seq fun K hK => ?_ | (refine wk_skip (hK _ _ ?_); clear hK K) | (refine wk_label (hK _ _ ?_); clear hK K) | refine wk_scope ?_ | refine wk_block ?_ | refine wk_cond_t rfl ?_ | refine wk_cond_f rfl ?_ | (refine wk_exit ?_; (repeat (refine blockK_other rfl ?_)); refine blockK_same ?_; try ((repeat ((fail_if_success (refine hK _ _ ?_)); clear hK K)); refine hK _ _ ?_; clear hK K)) | (refine a_bin ?_ ?_ <;> intro _ <;> try (exfalso; omega)) | refine a_ld hl ?_ | (refine a_st hl ?_; clear hl; intro _ hl) | refine a_ix (fun _ => ?_) | refine a_row rf ?_ | refine a_all rf ?_)
    refine o_alloc (LH.start w13 (fun _ => False)) [.int .i64 0, .string ⟨#[]⟩, .int .i64 0, .int .i64 0, .slice none 0 0] rfl rfl ?_
    intro b14 w14 hb14 hl
    refine o_putN (us := [.int .i64 (f).op, str (f).name, .int .i64 (f).cmp, .int .i64 (f).num, .slice fa f.kids.length fc]) hl rfl rfl rfl (by simp only [str_eq]; rfl) rfl (.all rfl rfl) ?_
    clear hl
    intro w15 hl
    repeat' (first | refine a_mov ?_ | refine a_asg ?_ | refine a_binN ?_ | refine a_notd ?_ | refine a_notb ?_ | refine a_nilc ?_ | refine a_fa ?_ | refine a_ext ?_ | refine a_lenv ?_ | refine a_lens ?_ | refine a_pick_t ?_ | refine a_pick_f ?_ | refine a_not ?_ | refine a_nilf ?_ | (refine o_nil (hK _ _ ?_); clear hK K) | refine wk_reg ?_ | refine wk_seq fun K hK => ?_ | (refine wk_skip (hK _ _ ?_); clear hK K) | (refine wk_label (hK _ _ ?_); clear hK K) | refine wk_scope ?_ | refine wk_block ?_ | refine wk_cond_t rfl ?_ | refine wk_cond_f rfl ?_ | (refine wk_exit ?_; (repeat (refine blockK_other rfl ?_)); refine blockK_same ?_; try ((repeat ((fail_if_success (refine hK _ _ ?_)); clear hK K)); refine hK _ _ ?_; clear hK K)) | (refine a_bin ?_ ?_ <;> intro _ <;> try (exfalso; omega)) | refine a_ld hl ?_ | (refine a_st hl ?_; clear hl; intro _ hl) | refine a_ix (fun _ => ?_) | fail)
    refine a_all (rf.ext hl.done) ?_
    refine o_alloc hl [.int .i64 0, .string ⟨#[]⟩, .int .i64 0, .int .i64 0, .slice none 0 0] rfl rfl ?_
    clear hl
    intro b15 w17 hb15 hl
    refine o_putN (us := [.int .i64 (f).op, str (f).name, .int .i64 (f).cmp, .int .i64 (f).num, .slice fa f.kids.length fc]) hl rfl rfl rfl (by simp only [str_eq]; rfl) rfl (.all rfl rfl) ?_
    clear hl
    intro w18 hl
    repeat' (first | refine a_mov ?_ | refine a_asg ?_ | refine a_binN ?_ | refine a_notd ?_ | refine a_notb ?_ | refine a_nilc ?_ | refine a_fa ?_ | refine a_ext ?_ | refine a_lenv ?_ | refine a_lens ?_ | refine a_pick_t ?_ | refine a_pick_f ?_ | refine a_not ?_ | refine a_nilf ?_ | (refine o_nil (hK _ _ ?_); clear hK K) | refine wk_reg ?_ | refine wk_seq fun K hK => ?_ | (refine wk_skip (hK _ _ ?_); clear hK K) | (refine wk_label (hK _ _ ?_); clear hK K) | refine wk_scope ?_ | refine wk_block ?_ | refine wk_cond_t rfl ?_ | refine wk_cond_f rfl ?_ | (refine wk_exit ?_; (repeat (refine blockK_other rfl ?_)); refine blockK_same ?_; try ((repeat ((fail_if_success (refine hK _ _ ?_)); clear hK K)); refine hK _ _ ?_; clear hK K)) | (refine a_bin ?_ ?_ <;> intro _ <;> try (exfalso; omega)) | refine a_ld hl ?_ | (refine a_st hl ?_; clear hl; intro _ hl) | refine a_ix (fun _ => ?_) | fail)
    rename_i w19
    have hx := hl.done
    have r14 : Row w19 b14 0 (fmL (.node f.op [97] f.cmp f.num f.kids) (.slice fa f.kids.length fc)) := by
      have h1 := hl.rowL (vs := [.int .i64 f.op, .string ⟨#[97]⟩, .int .i64 f.cmp, .int .i64 f.num, .slice fa f.kids.length fc]) 1 0 5 rfl
      simp only [fmL, Fm.op, Fm.name, Fm.cmp, Fm.num, str_eq]
      exact h1
    have r15 : Row w19 b15 0 (fmL (.node f.op f.name f.cmp 1 f.kids) (.slice fa f.kids.length fc)) := hl.rowL (vs := fmL (.node f.op f.name f.cmp 1 f.kids) (.slice fa f.kids.length fc)) 0 0 5 rfl
    clear hl
    have hcf := cnt_eq f
    have hdf := dep_eq f
    have e1 : cnt (.node f.op [97] f.cmp f.num f.kids) = 1 + cntL f.kids := rfl
    have e2 : dep (.node f.op [97] f.cmp f.num f.kids) = depL f.kids + 1 := rfl
    have e3 : cnt (.node f.op f.name f.cmp 1 f.kids) = 1 + cntL f.kids := rfl
    have e4 : dep (.node f.op f.name f.cmp 1 f.kids) = depL f.kids + 1 := rfl
    have hc1 : checkE F (fun s => T.contains s) (.node f.op [97] f.cmp f.num f.kids) = 1 := root_bad hbad1 (by omega) (by omega)
    have hc2 : checkE F (fun s => T.contains s) (.node f.op f.name f.cmp 1 f.kids) = 1 := root_bad hbad2 (by omega) (by omega)
    repeat' (first | refine a_mov ?_ | refine a_asg ?_ | refine a_binN ?_ | refine a_notd ?_ | refine a_notb ?_ | refine a_nilc ?_ | refine a_fa ?_ | refine a_ext ?_ | refine a_lenv ?_ | refine a_lens ?_ | refine a_pick_t ?_ | refine a_pick_f ?_ | refine a_not ?_ | refine a_nilf ?_ | (refine o_nil (hK _ _ ?_); clear hK K) | refine wk_reg ?_ | refine wk_seq fun K hK => ?_ | (refine wk_skip (hK _ _ ?_); clear hK K) | (refine wk_label (hK _ _ ?_); clear hK K) | refine wk_scope ?_ | refine wk_block ?_ | refine wk_cond_t rfl ?_ | refine wk_cond_f rfl ?_ | (refine wk_exit ?_; (repeat (refine blockK_other rfl ?_)); refine blockK_same ?_; try ((repeat ((fail_if_success (refine hK _ _ ?_)); clear hK K)); refine hK _ _ ?_; clear hK K)) | (refine a_bin ?_ ?_ <;> intro _ <;> try (exfalso; omega)) | refine a_ld hl ?_ | (refine a_st hl ?_; clear hl; intro _ hl) | refine a_ix (fun _ => ?_) | refine a_all r14 ?_ | refine a_all (rd'.ext hx) ?_)
    refine a_fn (Check_calls F T nF (by omega) (.node f.op [97] f.cmp f.num f.kids) _ _ _ _ _ (hkf.ext hx) (fun b h => h) shf (by omega) (hd.ext hx) (ht.ext hx)) ?_
    rintro _ w20 ⟨rfl, hy⟩
    rw [hc1]
    replace hx := hx.trans hy
    repeat' (first | refine a_mov ?_ | refine a_asg ?_ | refine a_binN ?_ | refine a_notd ?_ | refine a_notb ?_ | refine a_nilc ?_ | refine a_fa ?_ | refine a_ext ?_ | refine a_lenv ?_ | refine a_lens ?_ | refine a_pick_t ?_ | refine a_pick_f ?_ | refine a_not ?_ | refine a_nilf ?_ | (refine o_nil (hK _ _ ?_); clear hK K) | refine wk_reg ?_ | refine wk_seq fun K hK => ?_ | (refine wk_skip (hK _ _ ?_); clear hK K) | (refine wk_label (hK _ _ ?_); clear hK K) | refine wk_scope ?_ | refine wk_block ?_ | refine wk_cond_t rfl ?_ | refine wk_cond_f rfl ?_ | (refine wk_exit ?_; (repeat (refine blockK_other rfl ?_)); refine blockK_same ?_; try ((repeat ((fail_if_success (refine hK _ _ ?_)); clear hK K)); refine hK _ _ ?_; clear hK K)) | (refine a_bin ?_ ?_ <;> intro _ <;> try (exfalso; omega)) | refine a_ld hl ?_ | (refine a_st hl ?_; clear hl; intro _ hl) | refine a_ix (fun _ => ?_) | refine a_all (r15.ext hy) ?_ | refine a_all (rd'.ext hx) ?_)
    refine a_fn (Check_calls F T nF (by omega) (.node f.op f.name f.cmp 1 f.kids) _ _ _ _ _ (hkf.ext hx) (fun b h => h) shf (by omega) (hd.ext hx) (ht.ext hx)) ?_
    rintro _ w21 ⟨rfl, hy2⟩
    rw [hc2]
    repeat' (first | refine a_mov ?_ | refine a_asg ?_ | refine a_binN ?_ | refine a_notd ?_ | refine a_notb ?_ | refine a_nilc ?_ | refine a_fa ?_ | refine a_ext ?_ | refine a_lenv ?_ | refine a_lens ?_ | refine a_pick_t ?_ | refine a_pick_f ?_ | refine a_not ?_ | refine a_nilf ?_ | (refine o_nil (hK _ _ ?_); clear hK K) | refine wk_reg ?_ | refine wk_seq fun K hK => ?_ | (refine wk_skip (hK _ _ ?_); clear hK K) | (refine wk_label (hK _ _ ?_); clear hK K) | refine wk_scope ?_ | refine wk_block ?_ | refine wk_cond_t rfl ?_ | refine wk_cond_f rfl ?_ | (refine wk_exit ?_; (repeat (refine blockK_other rfl ?_)); refine blockK_same ?_; try ((repeat ((fail_if_success (refine hK _ _ ?_)); clear hK K)); refine hK _ _ ?_; clear hK K)) | (refine a_bin ?_ ?_ <;> intro _ <;> try (exfalso; omega)) | refine a_ld hl ?_ | (refine a_st hl ?_; clear hl; intro _ hl) | refine a_ix (fun _ => ?_) | fail)
    refine wk_ret (retQ_tmp1 Tryd.results9 (by decide) rfl (by conv => lhs; whnf) ?_)
    exact ⟨rfl, (he.trans hx).trans hy2⟩
end Go.Proofs
