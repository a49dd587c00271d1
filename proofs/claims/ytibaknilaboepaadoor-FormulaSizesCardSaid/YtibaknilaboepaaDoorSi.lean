/-
  The statement FormulaSizes, walked.
-/
import Derived.Test.YtibaknilaboepaaDoorOp
set_option linter.unusedVariables false
set_option linter.unusedSimpArgs false
set_option linter.unnecessarySimpa false
set_option maxRecDepth 10000
namespace Go.Fo
theorem plain_kids {f : Fm} (h : plainB f = true) : bareE f = true ∧ ∀ k ∈ f.kids, plainB k = true := by
  rw [plainB_eq, Bool.and_eq_true] at h
  refine ⟨h.1, fun k hk => ?_⟩
  have h2 := h.2
  unfold plainL at h2
  rw [List.all_eq_true] at h2
  unfold plainB
  rw [List.all_eq_true]
  intro x hx
  obtain ⟨i, hi, rfl⟩ := List.mem_iff_getElem.1 hk
  exact h2 x (by rw [preL_split' hi]; simp [hx])
theorem expand_size (s : List UInt8) (y : Fm) : ∀ f : Fm, plainB f = true → (cnt (expand s y f) : Int) = cnt f + tms s f * ((cnt y : Int) - 1) := by
  refine Fm.ind ?_
  intro f ih hp
  obtain ⟨hb, hk⟩ := plain_kids hp
  rw [expand_eq, tms_eq]
  by_cases h : f.op = 4 ∧ f.name = s
  · have hb' : f.kids.length = 0 ∧ f.cmp = 0 ∧ f.num = 0 := by
      unfold bareE at hb
      exact of_decide_eq_true hb h.1
    have hks := List.eq_nil_of_length_eq_zero hb'.1
    rw [if_pos h, if_pos h, cnt_eq f, hks]
    simp [cntL, tmsL]
    omega
  · rw [if_neg h, if_neg h, cnt_eq f]
    have key : ∀ ks : List Fm, (∀ k ∈ ks, plainB k = true → (cnt (expand s y k) : Int) = cnt k + tms s k * ((cnt y : Int) - 1)) → (∀ k ∈ ks, plainB k = true) → (cntL (ks.map (expand s y)) : Int) = cntL ks + tmsL s ks * ((cnt y : Int) - 1) := by
      intro ks
      induction ks with
      | nil => intro _ _; simp [cntL, tmsL]
      | cons k ks ihk =>
        intro h1 h2
        have e1 := h1 k List.mem_cons_self (h2 k List.mem_cons_self)
        have e2 := ihk (fun q hq => h1 q (List.mem_cons_of_mem _ hq)) (fun q hq => h2 q (List.mem_cons_of_mem _ hq))
        simp only [List.map_cons, cntL, tmsL]
        push_cast
        rw [e1, e2, Int.add_mul]
        omega
    have e := key f.kids ih hk
    have e0 : cnt (.node f.op f.name f.cmp f.num (f.kids.map (expand s y))) = 1 + cntL (f.kids.map (expand s y)) := rfl
    rw [e0]
    push_cast
    rw [e, Int.zero_add]
    omega
theorem expand_self (s : List UInt8) : ∀ f : Fm, plainB f = true → expand s (.node 4 s 0 0 []) f = f := by
  refine Fm.ind ?_
  intro f ih hp
  obtain ⟨hb, hk⟩ := plain_kids hp
  rw [expand_eq]
  by_cases h : f.op = 4 ∧ f.name = s
  · have hb' : f.kids.length = 0 ∧ f.cmp = 0 ∧ f.num = 0 := by
      unfold bareE at hb
      exact of_decide_eq_true hb h.1
    rw [if_pos h]
    conv => rhs; rw [Fm.eta f]
    rw [h.1, h.2, hb'.2.1, hb'.2.2, List.eq_nil_of_length_eq_zero hb'.1]
  · rw [if_neg h]
    have : f.kids.map (expand s (.node 4 s 0 0 [])) = f.kids := by
      conv => rhs; rw [← List.map_id f.kids]
      exact List.map_congr_left fun k hk' => ih k hk' (hk k hk')
    rw [this]
    exact (Fm.eta f).symm
end Go.Fo

namespace Go.Proofs
open Go Go.Pd Go.Lexs Go.Fin Go.Fo
attribute [local irreducible] OpsL W RetQ OpsQ OpsC

set_option maxHeartbeats 8000000 in
theorem Sizes_calls {w : World} {f y : Fm} {fv yv : Value} (hf : FmIn w f fv) (hy : FmIn w y yv) (s : List UInt8) (hs : s.length ≤ 140737488351232) :
    Calls Tryd.prog 8 #[.agg (fmL f fv).toArray, .agg (fmL y yv).toArray, str s] w (fun e w' => ∃ x, e = .returned x ∧ x = .bool true ∧ Ext w w') := by
  obtain ⟨fa, fc, rfl, -⟩ := hf.k.shape
  obtain ⟨ya, yc, rfl, -⟩ := hy.k.shape
  refine calls_of Tryd.func8 rfl Tryd.ntmps8 rfl ?_
  refine wk_seq fun K hK => ?_
  refine wk_reg ?_
  refine o_box (LH.start w (fun _ => False)) [.int .i64 (f).op, str (f).name, .int .i64 (f).cmp, .int .i64 (f).num, .slice fa f.kids.length fc] rfl rfl rfl ?_
  intro b3 w1 hb3 hl
  refine o_box hl [.int .i64 (y).op, str (y).name, .int .i64 (y).cmp, .int .i64 (y).num, .slice ya y.kids.length yc] rfl rfl rfl ?_
  clear hl
  intro b4 w2 hb4 hl
  repeat' (first | refine a_mov ?_ | refine a_asg ?_ | refine a_binN ?_ | refine a_notd ?_ | refine a_notb ?_ | refine a_nilc ?_ | refine a_fa ?_ | refine a_ext ?_ | refine a_lenv ?_ | refine a_lens ?_ | refine a_pick_t ?_ | refine a_pick_f ?_ | refine a_not ?_ | refine a_nilf ?_ | (refine o_nil (hK _ _ ?_); clear hK K) | refine wk_reg ?_ | refine wk_seq fun K hK => ?_ | (refine wk_skip (hK _ _ ?_); clear hK K) | (refine wk_label (hK _ _ ?_); clear hK K) | refine wk_scope ?_ | refine wk_block ?_ | refine wk_cond_t rfl ?_ | refine wk_cond_f rfl ?_ | (refine wk_exit ?_; (repeat (refine blockK_other rfl ?_)); refine blockK_same ?_; try ((repeat ((fail_if_success (refine hK _ _ ?_)); clear hK K)); refine hK _ _ ?_; clear hK K)) | (refine a_bin ?_ ?_ <;> intro _ <;> try (exfalso; omega)) | refine a_ld hl ?_ | (refine a_st hl ?_; clear hl; intro _ hl) | refine a_ix (fun _ => ?_) | fail)
  refine a_fn (head_calls w2) ?_
  rintro _ w3 ⟨rfl, hx⟩
  replace hl := hl.ext hx
  clear hx
  have he := hl.done
  have rf : Row w3 b3 0 [.int .i64 (f).op, str (f).name, .int .i64 (f).cmp, .int .i64 (f).num, .slice fa f.kids.length fc] := hl.rowL (vs := [.int .i64 (f).op, str (f).name, .int .i64 (f).cmp, .int .i64 (f).num, .slice fa f.kids.length fc]) 1 0 5 rfl
  have ry : Row w3 b4 0 [.int .i64 (y).op, str (y).name, .int .i64 (y).cmp, .int .i64 (y).num, .slice ya y.kids.length yc] := hl.rowL (vs := [.int .i64 (y).op, str (y).name, .int .i64 (y).cmp, .int .i64 (y).num, .slice ya y.kids.length yc]) 0 0 5 rfl
  have hkf := hf.k.ext he
  have hky := hy.k.ext he
  clear hl
  repeat' (first | refine a_mov ?_ | refine a_asg ?_ | refine a_binN ?_ | refine a_notd ?_ | refine a_notb ?_ | refine a_nilc ?_ | refine a_fa ?_ | refine a_ext ?_ | refine a_lenv ?_ | refine a_lens ?_ | refine a_pick_t ?_ | refine a_pick_f ?_ | refine a_not ?_ | refine a_nilf ?_ | (refine o_nil (hK _ _ ?_); clear hK K) | refine wk_reg ?_ | refine wk_seq fun K hK => ?_ | (refine wk_skip (hK _ _ ?_); clear hK K) | (refine wk_label (hK _ _ ?_); clear hK K) | refine wk_scope ?_ | refine wk_block ?_ | refine wk_cond_t rfl ?_ | refine wk_cond_f rfl ?_ | (refine wk_exit ?_; (repeat (refine blockK_other rfl ?_)); refine blockK_same ?_; try ((repeat ((fail_if_success (refine hK _ _ ?_)); clear hK K)); refine hK _ _ ?_; clear hK K)) | (refine a_bin ?_ ?_ <;> intro _ <;> try (exfalso; omega)) | refine a_ld hl ?_ | (refine a_st hl ?_; clear hl; intro _ hl) | refine a_ix (fun _ => ?_) | refine a_all rf ?_)
  refine a_fn (refSmall_calls f w3 _ _ 200 hkf (by omega) hf.n hf.ns) ?_
  rintro _ w4 ⟨rfl, hx⟩
  replace he := he.trans hx
  replace rf := rf.ext hx
  replace ry := ry.ext hx
  replace hkf := hkf.ext hx
  replace hky := hky.ext hx
  clear hx
  by_cases hs1 : cnt f ≤ 200
  rotate_left
  · rw [decide_eq_false hs1]
    repeat' (first | refine a_mov ?_ | refine a_asg ?_ | refine a_binN ?_ | refine a_notd ?_ | refine a_notb ?_ | refine a_nilc ?_ | refine a_fa ?_ | refine a_ext ?_ | refine a_lenv ?_ | refine a_lens ?_ | refine a_pick_t ?_ | refine a_pick_f ?_ | refine a_not ?_ | refine a_nilf ?_ | (refine o_nil (hK _ _ ?_); clear hK K) | refine wk_reg ?_ | refine wk_seq fun K hK => ?_ | (refine wk_skip (hK _ _ ?_); clear hK K) | (refine wk_label (hK _ _ ?_); clear hK K) | refine wk_scope ?_ | refine wk_block ?_ | refine wk_cond_t rfl ?_ | refine wk_cond_f rfl ?_ | (refine wk_exit ?_; (repeat (refine blockK_other rfl ?_)); refine blockK_same ?_; try ((repeat ((fail_if_success (refine hK _ _ ?_)); clear hK K)); refine hK _ _ ?_; clear hK K)) | (refine a_bin ?_ ?_ <;> intro _ <;> try (exfalso; omega)) | refine a_ld hl ?_ | (refine a_st hl ?_; clear hl; intro _ hl) | refine a_ix (fun _ => ?_) | fail)
    refine wk_ret (retQ_tmp1 Tryd.results8 (by decide) rfl (by conv => lhs; whnf) ?_)
    exact ⟨rfl, he⟩
  rw [decide_eq_true hs1]
  repeat' (first | refine a_mov ?_ | refine a_asg ?_ | refine a_binN ?_ | refine a_notd ?_ | refine a_notb ?_ | refine a_nilc ?_ | refine a_fa ?_ | refine a_ext ?_ | refine a_lenv ?_ | refine a_lens ?_ | refine a_pick_t ?_ | refine a_pick_f ?_ | refine a_not ?_ | refine a_nilf ?_ | (refine o_nil (hK _ _ ?_); clear hK K) | refine wk_reg ?_ | refine wk_seq fun K hK => ?_ | (refine wk_skip (hK _ _ ?_); clear hK K) | (refine wk_label (hK _ _ ?_); clear hK K) | refine wk_scope ?_ | refine wk_block ?_ | refine wk_cond_t rfl ?_ | refine wk_cond_f rfl ?_ | (refine wk_exit ?_; (repeat (refine blockK_other rfl ?_)); refine blockK_same ?_; try ((repeat ((fail_if_success (refine hK _ _ ?_)); clear hK K)); refine hK _ _ ?_; clear hK K)) | (refine a_bin ?_ ?_ <;> intro _ <;> try (exfalso; omega)) | refine a_ld hl ?_ | (refine a_st hl ?_; clear hl; intro _ hl) | refine a_ix (fun _ => ?_) | refine a_all ry ?_)
  refine a_fn (refSmall_calls y w4 _ _ 200 hky (by omega) hy.n hy.ns) ?_
  rintro _ w5 ⟨rfl, hx⟩
  replace he := he.trans hx
  replace rf := rf.ext hx
  replace ry := ry.ext hx
  replace hkf := hkf.ext hx
  replace hky := hky.ext hx
  clear hx
  by_cases hs2 : cnt y ≤ 200
  rotate_left
  · rw [decide_eq_false hs2]
    repeat' (first | refine a_mov ?_ | refine a_asg ?_ | refine a_binN ?_ | refine a_notd ?_ | refine a_notb ?_ | refine a_nilc ?_ | refine a_fa ?_ | refine a_ext ?_ | refine a_lenv ?_ | refine a_lens ?_ | refine a_pick_t ?_ | refine a_pick_f ?_ | refine a_not ?_ | refine a_nilf ?_ | (refine o_nil (hK _ _ ?_); clear hK K) | refine wk_reg ?_ | refine wk_seq fun K hK => ?_ | (refine wk_skip (hK _ _ ?_); clear hK K) | (refine wk_label (hK _ _ ?_); clear hK K) | refine wk_scope ?_ | refine wk_block ?_ | refine wk_cond_t rfl ?_ | refine wk_cond_f rfl ?_ | (refine wk_exit ?_; (repeat (refine blockK_other rfl ?_)); refine blockK_same ?_; try ((repeat ((fail_if_success (refine hK _ _ ?_)); clear hK K)); refine hK _ _ ?_; clear hK K)) | (refine a_bin ?_ ?_ <;> intro _ <;> try (exfalso; omega)) | refine a_ld hl ?_ | (refine a_st hl ?_; clear hl; intro _ hl) | refine a_ix (fun _ => ?_) | fail)
    refine wk_ret (retQ_tmp1 Tryd.results8 (by decide) rfl (by conv => lhs; whnf) ?_)
    exact ⟨rfl, he⟩
  rw [decide_eq_true hs2]
  by_cases hs60 : s.length ≤ 60
  rotate_left
  · repeat' (first | refine a_mov ?_ | refine a_asg ?_ | refine a_binN ?_ | refine a_notd ?_ | refine a_notb ?_ | refine a_nilc ?_ | refine a_fa ?_ | refine a_ext ?_ | refine a_lenv ?_ | refine a_lens ?_ | refine a_pick_t ?_ | refine a_pick_f ?_ | refine a_not ?_ | refine a_nilf ?_ | (refine o_nil (hK _ _ ?_); clear hK K) | refine wk_reg ?_ | refine wk_seq fun K hK => ?_ | (refine wk_skip (hK _ _ ?_); clear hK K) | (refine wk_label (hK _ _ ?_); clear hK K) | refine wk_scope ?_ | refine wk_block ?_ | refine wk_cond_t rfl ?_ | refine wk_cond_f rfl ?_ | (refine wk_exit ?_; (repeat (refine blockK_other rfl ?_)); refine blockK_same ?_; try ((repeat ((fail_if_success (refine hK _ _ ?_)); clear hK K)); refine hK _ _ ?_; clear hK K)) | (refine a_bin ?_ ?_ <;> intro _ <;> try (exfalso; omega)) | refine a_ld hl ?_ | (refine a_st hl ?_; clear hl; intro _ hl) | refine a_ix (fun _ => ?_) | fail)
    refine wk_ret (retQ_tmp1 Tryd.results8 (by decide) rfl (by conv => lhs; whnf) ?_)
    exact ⟨rfl, he⟩
  have shf := short_of (f := f) (by omega)
  have shy := short_of (f := y) (by omega)
  have hlen := hf.n
  have hcf := cnt_eq f
  have hdf := dep_eq f
  have hdc := dep_le_cnt f
  repeat' (first | refine a_mov ?_ | refine a_asg ?_ | refine a_binN ?_ | refine a_notd ?_ | refine a_notb ?_ | refine a_nilc ?_ | refine a_fa ?_ | refine a_ext ?_ | refine a_lenv ?_ | refine a_lens ?_ | refine a_pick_t ?_ | refine a_pick_f ?_ | refine a_not ?_ | refine a_nilf ?_ | (refine o_nil (hK _ _ ?_); clear hK K) | refine wk_reg ?_ | refine wk_seq fun K hK => ?_ | (refine wk_skip (hK _ _ ?_); clear hK K) | (refine wk_label (hK _ _ ?_); clear hK K) | refine wk_scope ?_ | refine wk_block ?_ | refine wk_cond_t rfl ?_ | refine wk_cond_f rfl ?_ | (refine wk_exit ?_; (repeat (refine blockK_other rfl ?_)); refine blockK_same ?_; try ((repeat ((fail_if_success (refine hK _ _ ?_)); clear hK K)); refine hK _ _ ?_; clear hK K)) | (refine a_bin ?_ ?_ <;> intro _ <;> try (exfalso; omega)) | refine a_ld hl ?_ | (refine a_st hl ?_; clear hl; intro _ hl) | refine a_ix (fun _ => ?_) | refine a_all rf ?_)
  refine a_fn (size_calls f w5 _ _ hkf (by omega)) ?_
  rintro _ w6 ⟨rfl, hx⟩
  replace he := he.trans hx
  replace rf := rf.ext hx
  replace ry := ry.ext hx
  replace hkf := hkf.ext hx
  replace hky := hky.ext hx
  clear hx
  repeat' (first | refine a_mov ?_ | refine a_asg ?_ | refine a_binN ?_ | refine a_notd ?_ | refine a_notb ?_ | refine a_nilc ?_ | refine a_fa ?_ | refine a_ext ?_ | refine a_lenv ?_ | refine a_lens ?_ | refine a_pick_t ?_ | refine a_pick_f ?_ | refine a_not ?_ | refine a_nilf ?_ | (refine o_nil (hK _ _ ?_); clear hK K) | refine wk_reg ?_ | refine wk_seq fun K hK => ?_ | (refine wk_skip (hK _ _ ?_); clear hK K) | (refine wk_label (hK _ _ ?_); clear hK K) | refine wk_scope ?_ | refine wk_block ?_ | refine wk_cond_t rfl ?_ | refine wk_cond_f rfl ?_ | (refine wk_exit ?_; (repeat (refine blockK_other rfl ?_)); refine blockK_same ?_; try ((repeat ((fail_if_success (refine hK _ _ ?_)); clear hK K)); refine hK _ _ ?_; clear hK K)) | (refine a_bin ?_ ?_ <;> intro _ <;> try (exfalso; omega)) | refine a_ld hl ?_ | (refine a_st hl ?_; clear hl; intro _ hl) | refine a_ix (fun _ => ?_) | fail)
  refine wk_loopH [] rfl (fun i : Nat => [(2, str s), (3, .pointer (some ⟨b3, 0, none⟩)), (4, .pointer (some ⟨b4, 0, none⟩)), (7, .bool true), (8, .int .i64 (cnt f : Int)), (9, .int .i64 (dep f : Int)), (10, .int .i64 ((1 + cntL (f.kids.take i) : Nat) : Int)), (11, .int .i64 (depL (f.kids.take i) : Nat)), (12, .int .i64 (i : Int))]) (fun i w' => i ≤ f.kids.length ∧ Ext w6 w') (fun i => f.kids.length - i) 0 ⟨rfl, rfl, rfl, rfl, rfl, rfl, rfl, rfl, rfl, trivial⟩ ⟨by omega, .refl _ _⟩ ?_
  rintro i t w7 ⟨hi, hx⟩
  by_cases hi1 : i < f.kids.length
  · obtain ⟨bk, ok, kv, hp, hr, hkk⟩ := KR.at (hkf.ext hx) hi1
    have rf' := rf.ext hx
    have hck := cnt_kid hi1
    have hdk := depL_snoc (f.kids.take i) f.kids[i]
    have hcs := cntL_snoc (f.kids.take i) f.kids[i]
    rw [← List.take_succ_eq_append_getElem hi1] at hdk hcs
    have hdc' := dep_le_cnt f.kids[i]
    generalize f.kids[i] = k at *
    repeat' (first | refine a_mov ?_ | refine a_asg ?_ | refine a_binN ?_ | refine a_notd ?_ | refine a_notb ?_ | refine a_nilc ?_ | refine a_fa ?_ | refine a_ext ?_ | refine a_lenv ?_ | refine a_lens ?_ | refine a_pick_t ?_ | refine a_pick_f ?_ | refine a_not ?_ | refine a_nilf ?_ | (refine o_nil (hK _ _ ?_); clear hK K) | refine wk_reg ?_ | refine wk_seq fun K hK => ?_ | (refine wk_skip (hK _ _ ?_); clear hK K) | (refine wk_label (hK _ _ ?_); clear hK K) | refine wk_scope ?_ | refine wk_block ?_ | refine wk_cond_t rfl ?_ | refine wk_cond_f rfl ?_ | (refine wk_exit ?_; (repeat (refine blockK_other rfl ?_)); refine blockK_same ?_; try ((repeat ((fail_if_success (refine hK _ _ ?_)); clear hK K)); refine hK _ _ ?_; clear hK K)) | (refine a_bin ?_ ?_ <;> intro _ <;> try (exfalso; omega)) | refine a_ld hl ?_ | (refine a_st hl ?_; clear hl; intro _ hl) | refine a_ix (fun _ => ?_) | refine a_row rf' ?_ | refine a_idx (c := 5) i hp ?_ | refine a_all hr ?_)
    refine a_fn (size_calls k w7 _ kv hkk (by omega)) ?_
    rintro _ w8 ⟨rfl, hx8⟩
    repeat' (first | refine a_mov ?_ | refine a_asg ?_ | refine a_binN ?_ | refine a_notd ?_ | refine a_notb ?_ | refine a_nilc ?_ | refine a_fa ?_ | refine a_ext ?_ | refine a_lenv ?_ | refine a_lens ?_ | refine a_pick_t ?_ | refine a_pick_f ?_ | refine a_not ?_ | refine a_nilf ?_ | (refine o_nil (hK _ _ ?_); clear hK K) | refine wk_reg ?_ | refine wk_seq fun K hK => ?_ | (refine wk_skip (hK _ _ ?_); clear hK K) | (refine wk_label (hK _ _ ?_); clear hK K) | refine wk_scope ?_ | refine wk_block ?_ | refine wk_cond_t rfl ?_ | refine wk_cond_f rfl ?_ | (refine wk_exit ?_; (repeat (refine blockK_other rfl ?_)); refine blockK_same ?_; try ((repeat ((fail_if_success (refine hK _ _ ?_)); clear hK K)); refine hK _ _ ?_; clear hK K)) | (refine a_bin ?_ ?_ <;> intro _ <;> try (exfalso; omega)) | refine a_ld hl ?_ | (refine a_st hl ?_; clear hl; intro _ hl) | refine a_ix (fun _ => ?_) | refine o_max rfl rfl rfl ?_)
    refine o_nil ⟨i + 1, ⟨rfl, rfl, rfl, rfl, rfl, rfl, ?_, ?_, rfl, trivial⟩, rfl, ⟨hi1, hx.trans hx8⟩, by omega⟩
    · show Value.int .i64 _ = Value.int .i64 _
      congr 1; omega
    · show Value.int .i64 (max _ _) = Value.int .i64 _
      congr 1; omega
  obtain rfl : i = f.kids.length := by omega
  rw [List.take_of_length_le (Nat.le_refl _)]
  replace he := he.trans hx
  replace rf := rf.ext hx
  replace ry := ry.ext hx
  replace hkf := hkf.ext hx
  replace hky := hky.ext hx
  clear hx
  repeat' (first | refine a_mov ?_ | refine a_asg ?_ | refine a_binN ?_ | refine a_notd ?_ | refine a_notb ?_ | refine a_nilc ?_ | refine a_fa ?_ | refine a_ext ?_ | refine a_lenv ?_ | refine a_lens ?_ | refine a_pick_t ?_ | refine a_pick_f ?_ | refine a_not ?_ | refine a_nilf ?_ | (refine o_nil (hK _ _ ?_); clear hK K) | refine wk_reg ?_ | refine wk_seq fun K hK => ?_ | (refine wk_skip (hK _ _ ?_); clear hK K) | (refine wk_label (hK _ _ ?_); clear hK K) | refine wk_scope ?_ | refine wk_block ?_ | refine wk_cond_t rfl ?_ | refine wk_cond_f rfl ?_ | (refine wk_exit ?_; (repeat (refine blockK_other rfl ?_)); refine blockK_same ?_; try ((repeat ((fail_if_success (refine hK _ _ ?_)); clear hK K)); refine hK _ _ ?_; clear hK K)) | (refine a_bin ?_ ?_ <;> intro _ <;> try (exfalso; omega)) | refine a_ld hl ?_ | (refine a_st hl ?_; clear hl; intro _ hl) | refine a_ix (fun _ => ?_) | refine a_row rf ?_ | refine a_all ry ?_)
  refine a_fn (size_calls y w7 _ _ hky (by omega)) ?_
  rintro _ w8 ⟨rfl, hx⟩
  replace he := he.trans hx
  replace rf := rf.ext hx
  replace ry := ry.ext hx
  replace hkf := hkf.ext hx
  replace hky := hky.ext hx
  clear hx
  repeat' (first | refine a_mov ?_ | refine a_asg ?_ | refine a_binN ?_ | refine a_notd ?_ | refine a_notb ?_ | refine a_nilc ?_ | refine a_fa ?_ | refine a_ext ?_ | refine a_lenv ?_ | refine a_lens ?_ | refine a_pick_t ?_ | refine a_pick_f ?_ | refine a_not ?_ | refine a_nilf ?_ | (refine o_nil (hK _ _ ?_); clear hK K) | refine wk_reg ?_ | refine wk_seq fun K hK => ?_ | (refine wk_skip (hK _ _ ?_); clear hK K) | (refine wk_label (hK _ _ ?_); clear hK K) | refine wk_scope ?_ | refine wk_block ?_ | refine wk_cond_t rfl ?_ | refine wk_cond_f rfl ?_ | (refine wk_exit ?_; (repeat (refine blockK_other rfl ?_)); refine blockK_same ?_; try ((repeat ((fail_if_success (refine hK _ _ ?_)); clear hK K)); refine hK _ _ ?_; clear hK K)) | (refine a_bin ?_ ?_ <;> intro _ <;> try (exfalso; omega)) | refine a_ld hl ?_ | (refine a_st hl ?_; clear hl; intro _ hl) | refine a_ix (fun _ => ?_) | refine a_all rf ?_ | refine a_all ry ?_)
  have hexc : cnt (expand s y f) ≤ 40000 := Nat.le_trans (expand_cnt s y f) (Nat.mul_le_mul hs1 hs2)
  refine a_fn (expand_calls s y f w8 (fun b => b < w8.heap.size) _ _ hkf hky (fun b h => h) (by omega)) ?_
  rintro _ w9 ⟨⟨kv, rfl, hke0⟩, hx⟩
  have hke : KA w9 (expand s y f).kids kv := hke0.mono fun b hb => hb.2
  have hone := fmL_one hke
  replace he := he.trans hx
  replace rf := rf.ext hx
  replace hkf := hkf.ext hx
  clear hx hke0 ry hky
  refine o_alloc (LH.start w9 (fun _ => False)) [.int .i64 0, .string ⟨#[]⟩, .int .i64 0, .int .i64 0, .slice none 0 0] rfl rfl ?_
  intro b17 w10 hb17 hl
  refine o_putN (us := fmL (expand s y f) kv) hl rfl rfl rfl hone rfl (.all rfl rfl) ?_
  clear hl
  intro w11 hl
  have r17 : Row w11 b17 0 (fmL (expand s y f) kv) := hl.rowL (vs := fmL (expand s y f) kv) 0 0 5 rfl
  replace he := he.trans hl.done
  replace rf := rf.ext hl.done
  replace hkf := hkf.ext hl.done
  replace hke := hke.ext hl.done
  clear hl
  repeat' (first | refine a_mov ?_ | refine a_asg ?_ | refine a_binN ?_ | refine a_notd ?_ | refine a_notb ?_ | refine a_nilc ?_ | refine a_fa ?_ | refine a_ext ?_ | refine a_lenv ?_ | refine a_lens ?_ | refine a_pick_t ?_ | refine a_pick_f ?_ | refine a_not ?_ | refine a_nilf ?_ | (refine o_nil (hK _ _ ?_); clear hK K) | refine wk_reg ?_ | refine wk_seq fun K hK => ?_ | (refine wk_skip (hK _ _ ?_); clear hK K) | (refine wk_label (hK _ _ ?_); clear hK K) | refine wk_scope ?_ | refine wk_block ?_ | refine wk_cond_t rfl ?_ | refine wk_cond_f rfl ?_ | (refine wk_exit ?_; (repeat (refine blockK_other rfl ?_)); refine blockK_same ?_; try ((repeat ((fail_if_success (refine hK _ _ ?_)); clear hK K)); refine hK _ _ ?_; clear hK K)) | (refine a_bin ?_ ?_ <;> intro _ <;> try (exfalso; omega)) | refine a_ld hl ?_ | (refine a_st hl ?_; clear hl; intro _ hl) | refine a_ix (fun _ => ?_) | refine a_all r17 ?_)
  refine a_fn (size_calls (expand s y f) w11 _ _ hke (by omega)) ?_
  rintro _ w12 ⟨rfl, hx⟩
  replace he := he.trans hx
  replace rf := rf.ext hx
  replace hkf := hkf.ext hx
  clear hx r17 hke
  repeat' (first | refine a_mov ?_ | refine a_asg ?_ | refine a_binN ?_ | refine a_notd ?_ | refine a_notb ?_ | refine a_nilc ?_ | refine a_fa ?_ | refine a_ext ?_ | refine a_lenv ?_ | refine a_lens ?_ | refine a_pick_t ?_ | refine a_pick_f ?_ | refine a_not ?_ | refine a_nilf ?_ | (refine o_nil (hK _ _ ?_); clear hK K) | refine wk_reg ?_ | refine wk_seq fun K hK => ?_ | (refine wk_skip (hK _ _ ?_); clear hK K) | (refine wk_label (hK _ _ ?_); clear hK K) | refine wk_scope ?_ | refine wk_block ?_ | refine wk_cond_t rfl ?_ | refine wk_cond_f rfl ?_ | (refine wk_exit ?_; (repeat (refine blockK_other rfl ?_)); refine blockK_same ?_; try ((repeat ((fail_if_success (refine hK _ _ ?_)); clear hK K)); refine hK _ _ ?_; clear hK K)) | (refine a_bin ?_ ?_ <;> intro _ <;> try (exfalso; omega)) | refine a_ld hl ?_ | (refine a_st hl ?_; clear hl; intro _ hl) | refine a_ix (fun _ => ?_) | fail)
  refine o_build (fmL (.node 4 s 0 0 []) (.slice none 0 0)) rfl (by simp only [fmL, Fm.op, Fm.name, Fm.cmp, Fm.num, str_eq]; kernel_rfl) ?_
  refine o_alloc (LH.start w12 (fun _ => False)) [.int .i64 0, .string ⟨#[]⟩, .int .i64 0, .int .i64 0, .slice none 0 0] rfl rfl ?_
  intro b20 w13 hb20 hl
  refine o_putN (us := fmL (.node 4 s 0 0 []) (.slice none 0 0)) hl rfl rfl rfl (by simp only [fmL, str_eq]; rfl) rfl (.all rfl rfl) ?_
  clear hl
  intro w14 hl
  have r20 : Row w14 b20 0 (fmL (.node 4 s 0 0 []) (.slice none 0 0)) := hl.rowL (vs := fmL (.node 4 s 0 0 []) (.slice none 0 0)) 0 0 5 rfl
  replace he := he.trans hl.done
  replace rf := rf.ext hl.done
  replace hkf := hkf.ext hl.done
  clear hl
  repeat' (first | refine a_mov ?_ | refine a_asg ?_ | refine a_binN ?_ | refine a_notd ?_ | refine a_notb ?_ | refine a_nilc ?_ | refine a_fa ?_ | refine a_ext ?_ | refine a_lenv ?_ | refine a_lens ?_ | refine a_pick_t ?_ | refine a_pick_f ?_ | refine a_not ?_ | refine a_nilf ?_ | (refine o_nil (hK _ _ ?_); clear hK K) | refine wk_reg ?_ | refine wk_seq fun K hK => ?_ | (refine wk_skip (hK _ _ ?_); clear hK K) | (refine wk_label (hK _ _ ?_); clear hK K) | refine wk_scope ?_ | refine wk_block ?_ | refine wk_cond_t rfl ?_ | refine wk_cond_f rfl ?_ | (refine wk_exit ?_; (repeat (refine blockK_other rfl ?_)); refine blockK_same ?_; try ((repeat ((fail_if_success (refine hK _ _ ?_)); clear hK K)); refine hK _ _ ?_; clear hK K)) | (refine a_bin ?_ ?_ <;> intro _ <;> try (exfalso; omega)) | refine a_ld hl ?_ | (refine a_st hl ?_; clear hl; intro _ hl) | refine a_ix (fun _ => ?_) | refine a_row rf ?_ | refine a_all rf ?_)
  all_goals refine a_fn (same_fm_calls f f w14 _ _ _ _ hkf hkf shf.1 shf.1 shf.2 shf.2) ?_
  all_goals rintro _ w15 ⟨rfl, hx⟩
  all_goals rw [decide_eq_true (rfl : f = f)]
  all_goals replace he := he.trans hx
  all_goals replace rf := rf.ext hx
  all_goals replace r20 := r20.ext hx
  all_goals replace hkf := hkf.ext hx
  all_goals clear hx
  all_goals repeat' (first | refine a_mov ?_ | refine a_asg ?_ | refine a_binN ?_ | refine a_notd ?_ | refine a_notb ?_ | refine a_nilc ?_ | refine a_fa ?_ | refine a_ext ?_ | refine a_lenv ?_ | refine a_lens ?_ | refine a_pick_t ?_ | refine a_pick_f ?_ | refine a_not ?_ | refine a_nilf ?_ | (refine o_nil (hK _ _ ?_); clear hK K) | refine wk_reg ?_ | refine wk_seq fun K hK => ?_ | (refine wk_skip (hK _ _ ?_); clear hK K) | (refine wk_label (hK _ _ ?_); clear hK K) | refine wk_scope ?_ | refine wk_block ?_ | refine wk_cond_t rfl ?_ | refine wk_cond_f rfl ?_ | (refine wk_exit ?_; (repeat (refine blockK_other rfl ?_)); refine blockK_same ?_; try ((repeat ((fail_if_success (refine hK _ _ ?_)); clear hK K)); refine hK _ _ ?_; clear hK K)) | (refine a_bin ?_ ?_ <;> intro _ <;> try (exfalso; omega)) | refine a_ld hl ?_ | (refine a_st hl ?_; clear hl; intro _ hl) | refine a_ix (fun _ => ?_) | refine a_all rf ?_)
  all_goals try (refine wk_ret (retQ_tmp1 Tryd.results8 (by decide) rfl (by conv => lhs; whnf) ?_); exact ⟨rfl, he⟩)
  all_goals refine a_fn (plain_calls f w15 _ _ hkf shf) ?_
  all_goals rintro _ w16 ⟨rfl, hx⟩
  all_goals replace he := he.trans hx
  all_goals replace rf := rf.ext hx
  all_goals replace r20 := r20.ext hx
  all_goals replace hkf := hkf.ext hx
  all_goals clear hx
  all_goals cases hpl : plainB f
  all_goals repeat' (first | refine a_mov ?_ | refine a_asg ?_ | refine a_binN ?_ | refine a_notd ?_ | refine a_notb ?_ | refine a_nilc ?_ | refine a_fa ?_ | refine a_ext ?_ | refine a_lenv ?_ | refine a_lens ?_ | refine a_pick_t ?_ | refine a_pick_f ?_ | refine a_not ?_ | refine a_nilf ?_ | (refine o_nil (hK _ _ ?_); clear hK K) | refine wk_reg ?_ | refine wk_seq fun K hK => ?_ | (refine wk_skip (hK _ _ ?_); clear hK K) | (refine wk_label (hK _ _ ?_); clear hK K) | refine wk_scope ?_ | refine wk_block ?_ | refine wk_cond_t rfl ?_ | refine wk_cond_f rfl ?_ | (refine wk_exit ?_; (repeat (refine blockK_other rfl ?_)); refine blockK_same ?_; try ((repeat ((fail_if_success (refine hK _ _ ?_)); clear hK K)); refine hK _ _ ?_; clear hK K)) | (refine a_bin ?_ ?_ <;> intro _ <;> try (exfalso; omega)) | refine a_ld hl ?_ | (refine a_st hl ?_; clear hl; intro _ hl) | refine a_ix (fun _ => ?_) | fail)
  all_goals try (refine wk_ret (retQ_tmp1 Tryd.results8 (by decide) rfl (by conv => lhs; whnf) ?_); exact ⟨rfl, he⟩)
  all_goals have hes := expand_size s y f hpl
  all_goals have hself := expand_self s f hpl
  all_goals have htm := tms_le s f
  all_goals have hcy := cnt_pos y
  all_goals have hmul : (0 : Int) ≤ (tms s f : Int) * ((cnt y : Int) - 1) ∧ (tms s f : Int) * ((cnt y : Int) - 1) ≤ 40000 := ⟨Int.mul_nonneg (by omega) (by omega), Int.le_trans (Int.mul_le_mul (show (tms s f : Int) ≤ 200 by omega) (show (cnt y : Int) - 1 ≤ 200 by omega) (by omega) (by omega)) (by decide)⟩
  all_goals refine wk_grow [([0, 1, 2, 3, 4, 5, 6, 7, 8, 9, 10, 11, 12, 13, 14, 15, 16, 18], [17]), ([19, 20, 21], [])] ?_
  all_goals refine g_one (fun v w' => ∃ kv, v = .agg (fmL f kv).toArray ∧ KA w' f.kids kv) (fun v w w' ⟨kv, h1, h2⟩ e => ⟨kv, h1, h2.ext e⟩) ?_
  all_goals repeat' (first | refine x_mov ?_ | refine x_asg ?_ | refine x_fa ?_ | refine x_ext ?_ | refine x_binN ?_ | refine x_notd ?_ | refine x_notb ?_ | refine x_pick_t ?_ | refine x_pick_f ?_ | refine x_nilc ?_ | refine x_skip ?_ | refine x_lens ?_ | refine x_lenv ?_ | refine x_ix (fun _ => ?_) | (refine x_bin ?_ ?_ <;> intro _ <;> try (exfalso; omega)) | refine x_all (fun w_ hw_ => rf.ext hw_) ?_ | refine x_all (fun w_ hw_ => r20.ext hw_) ?_ | refine x_fn (fun w' hw' => refTimes_calls s f w' _ _ (hkf.ext hw') (by omega)) ?_)
  all_goals refine x_nil ⟨fun v => p_fn (args := #[.agg (fmL f (.slice fa f.kids.length fc)).toArray, str s, .agg (fmL (.node 4 s 0 0 []) (.slice none 0 0)).toArray]) (fun w' hw' _ => ?_), ?_⟩
  all_goals first
    | (refine Calls.mono (expand_calls s (.node 4 s 0 0 []) f w' (fun b => b < w'.heap.size) _ _ (hkf.ext hw') (KA.nil _) (fun b h => h) (by omega)) ?_
       rintro e w'' ⟨x, h1, ⟨kv', h2, h3⟩, h4⟩
       rw [hself] at h2 h3
       exact ⟨x, h1, ⟨kv', h2, h3.mono fun b hb => hb.2⟩, h4⟩)
    | skip
  all_goals rintro _ w17 hw17 ⟨kv2, rfl, hk2⟩
  all_goals refine g_end ?_
  all_goals refine x_fn (v := .bool true) (fun w' hw' => ?_) ?_
  all_goals first
    | (have h1 := same_fm_calls f f w' _ _ _ _ (hk2.ext hw') (hkf.ext (hw17.trans hw')) shf.1 shf.1 shf.2 shf.2
       rw [decide_eq_true (rfl : f = f)] at h1
       exact h1)
    | skip
  all_goals repeat' (first | refine x_mov ?_ | refine x_asg ?_ | refine x_fa ?_ | refine x_ext ?_ | refine x_binN ?_ | refine x_notd ?_ | refine x_notb ?_ | refine x_pick_t ?_ | refine x_pick_f ?_ | refine x_nilc ?_ | refine x_skip ?_ | refine x_lens ?_ | refine x_lenv ?_ | refine x_ix (fun _ => ?_) | (refine x_bin ?_ ?_ <;> intro _ <;> try (exfalso; omega)) | fail)
  all_goals refine x_nil fun w18 hw18 => hK _ _ ?_
  all_goals clear hK K
  all_goals repeat' (first | refine a_mov ?_ | refine a_asg ?_ | refine a_binN ?_ | refine a_notd ?_ | refine a_notb ?_ | refine a_nilc ?_ | refine a_fa ?_ | refine a_ext ?_ | refine a_lenv ?_ | refine a_lens ?_ | refine a_pick_t ?_ | refine a_pick_f ?_ | refine a_not ?_ | refine a_nilf ?_ | (refine o_nil (hK _ _ ?_); clear hK K) | refine wk_reg ?_ | refine wk_seq fun K hK => ?_ | (refine wk_skip (hK _ _ ?_); clear hK K) | (refine wk_label (hK _ _ ?_); clear hK K) | refine wk_scope ?_ | refine wk_block ?_ | refine wk_cond_t rfl ?_ | refine wk_cond_f rfl ?_ | (refine wk_exit ?_; (repeat (refine blockK_other rfl ?_)); refine blockK_same ?_; try ((repeat ((fail_if_success (refine hK _ _ ?_)); clear hK K)); refine hK _ _ ?_; clear hK K)) | (refine a_bin ?_ ?_ <;> intro _ <;> try (exfalso; omega)) | refine a_ld hl ?_ | (refine a_st hl ?_; clear hl; intro _ hl) | refine a_ix (fun _ => ?_) | fail)
  all_goals (refine wk_ret (retQ_tmp1 Tryd.results8 (by decide) rfl (by conv => lhs; whnf) ?_); exact ⟨rfl, (he.trans hw17).trans hw18⟩)
end Go.Proofs
