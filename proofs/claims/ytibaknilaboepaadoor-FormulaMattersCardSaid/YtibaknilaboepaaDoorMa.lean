/-
  The statement FormulaMatchesReference, walked.
-/
import Derived.Test.YtibaknilaboepaaDoorFG
set_option linter.unusedVariables false
set_option linter.unusedSimpArgs false
set_option linter.unnecessarySimpa false
set_option maxRecDepth 10000
namespace Go.Proofs
open Go Go.Pd Go.Lexs Go.Fin Go.Fo
attribute [local irreducible] OpsL W RetQ OpsQ OpsC

/-- A formula that came in. -/
structure FmIn (w : World) (f : Fm) (kv : Value) : Prop where
  k : KA w f.kids kv
  n : f.kids.length ≤ 140737488351232
  ns : ∀ k ∈ preL f.kids, k.kids.length ≤ 140737488351232
  t : ∀ k ∈ pre f, k.name.length ≤ 140737488351232
theorem FmIn.texty {w : World} {f : Fm} {kv : Value} (h : FmIn w f kv) : Texty (pre f) := fun x hx => by have := h.t x hx; omega
theorem FmIn.ext {w w' : World} {f : Fm} {kv : Value} (h : FmIn w f kv) (e : Ext w w') : FmIn w' f kv := ⟨h.k.ext e, h.n, h.ns, h.t⟩

/-- A domain, a case and terms that came in. -/
structure DcIn (w : World) (F : List Fact) (c : List Int) (T : List (List UInt8)) (dv cv tv : Value) : Prop where
  sd : Sl w dv 4 (factsL F)
  sc : Sl w cv 1 (intsL c)
  st : Sl w tv 1 (strsL T)
  nF : F.length ≤ 140737488351232
  nC : c.length ≤ 140737488351232
  nT : T.length ≤ 140737488351232
  tF : ∀ f ∈ F, f.name.length ≤ 140737488351232
  tT : ∀ s ∈ T, s.length ≤ 140737488351232
theorem DcIn.ext {w w' : World} {F : List Fact} {c : List Int} {T : List (List UInt8)} {dv cv tv : Value} (h : DcIn w F c T dv cv tv) (e : Ext w w') : DcIn w' F c T dv cv tv := ⟨h.sd.ext e, h.sc.ext e, h.st.ext e, h.nF, h.nC, h.nT, h.tF, h.tT⟩

theorem texty_expand (s : List UInt8) (y : Fm) : ∀ f : Fm, Texty (pre f) → Texty (pre y) → Texty (pre (expand s y f)) := by
  refine Fm.ind ?_
  intro f ih hf hy
  rw [expand_eq]
  split
  · exact hy
  · intro x hx
    rw [pre_eq] at hx hf
    rcases List.mem_cons.1 hx with rfl | hx
    · exact hf f List.mem_cons_self
    · have : ∀ ks : List Fm, (∀ k ∈ ks, Texty (pre (expand s y k))) → ∀ x ∈ preL (ks.map (expand s y)), x.name.length ≤ 9223372036854775806 := by
        intro ks
        induction ks with
        | nil => intro _ x hx; simp [preL] at hx
        | cons k ks ihk =>
          intro hk x hx
          simp only [List.map_cons, preL, List.mem_append] at hx
          rcases hx with hx | hx
          · exact hk k List.mem_cons_self x hx
          · exact ihk (fun q hq => hk q (List.mem_cons_of_mem _ hq)) x hx
      refine this f.kids (fun k hk => ih k hk (fun x hx => hf x ?_) hy) x hx
      refine List.mem_cons_of_mem _ ?_
      obtain ⟨i, hi, rfl⟩ := List.mem_iff_getElem.1 hk
      rw [preL_split' hi]
      simp [hx]

set_option maxHeartbeats 8000000 in
theorem Matches_calls {w : World} {f g : Fm} {fv gv dv cv tv : Value} {F : List Fact} {c : List Int} {T : List (List UInt8)} (hf : FmIn w f fv) (hg : FmIn w g gv) (hD : DcIn w F c T dv cv tv) (s : List UInt8) (hs : s.length ≤ 140737488351232) :
    Calls Tryd.prog 3 #[.agg (fmL f fv).toArray, .agg (fmL g gv).toArray, .agg #[dv], cv, tv, str s] w (fun e w' => ∃ x, e = .returned x ∧ x = .bool true ∧ Ext w w') := by
  obtain ⟨fa, fc, rfl, -⟩ := hf.k.shape
  obtain ⟨ga, gc, rfl, -⟩ := hg.k.shape
  obtain ⟨da, dc, rfl, -⟩ := hD.sd.shape (factsL_len F) (by omega)
  obtain ⟨ca, cc, rfl, -⟩ := hD.sc.shape (intsL_len c) (by omega)
  obtain ⟨ta, tc, rfl, -⟩ := hD.st.shape (strsL_len T) (by omega)
  have nF : F.length ≤ 9223372036854775806 := by have := hD.nF; omega
  have nC : c.length ≤ 9223372036854775806 := by have := hD.nC; omega
  have nT : T.length ≤ 9223372036854775806 := by have := hD.nT; omega
  have tF : ∀ f ∈ F, f.name.length ≤ 9223372036854775806 := fun f h => by have := hD.tF f h; omega
  have tT : ∀ s ∈ T, s.length ≤ 9223372036854775806 := fun s h => by have := hD.tT s h; omega
  refine calls_of Tryd.func3 rfl Tryd.ntmps3 rfl ?_
  refine wk_seq fun K hK => ?_
  refine wk_reg ?_
  refine o_box (LH.start w (fun _ => False)) [.int .i64 (f).op, str (f).name, .int .i64 (f).cmp, .int .i64 (f).num, .slice fa f.kids.length fc] rfl rfl rfl ?_
  intro b6 w1 hb6 hl
  refine o_box hl [.int .i64 (g).op, str (g).name, .int .i64 (g).cmp, .int .i64 (g).num, .slice ga g.kids.length gc] rfl rfl rfl ?_
  clear hl
  intro b7 w2 hb7 hl
  refine o_box hl [.slice da F.length dc] rfl rfl rfl ?_
  clear hl
  intro b8 w3 hb8 hl
  repeat' (first | refine a_mov ?_ | refine a_asg ?_ | refine a_binN ?_ | refine a_notd ?_ | refine a_notb ?_ | refine a_nilc ?_ | refine a_fa ?_ | refine a_ext ?_ | refine a_lenv ?_ | refine a_lens ?_ | refine a_pick_t ?_ | refine a_pick_f ?_ | refine a_not ?_ | refine a_nilf ?_ | (refine o_nil (hK _ _ ?_); clear hK K) | refine wk_reg ?_ | refine wk_seq fun K hK => ?_ | (refine wk_skip (hK _ _ ?_); clear hK K) | (refine wk_label (hK _ _ ?_); clear hK K) | refine wk_scope ?_ | refine wk_block ?_ | refine wk_cond_t rfl ?_ | refine wk_cond_f rfl ?_ | (refine wk_exit ?_; (repeat (refine blockK_other rfl ?_)); refine blockK_same ?_; try ((repeat ((fail_if_success (refine hK _ _ ?_)); clear hK K)); refine hK _ _ ?_; clear hK K)) | (refine a_bin ?_ ?_ <;> intro _ <;> try (exfalso; omega)) | refine a_ld hl ?_ | (refine a_st hl ?_; clear hl; intro _ hl) | refine a_ix (fun _ => ?_) | fail)
  refine a_fn (head_calls w3) ?_
  rintro _ w4 ⟨rfl, hx⟩
  replace hl := hl.ext hx
  clear hx
  have he := hl.done
  repeat' (first | refine a_mov ?_ | refine a_asg ?_ | refine a_binN ?_ | refine a_notd ?_ | refine a_notb ?_ | refine a_nilc ?_ | refine a_fa ?_ | refine a_ext ?_ | refine a_lenv ?_ | refine a_lens ?_ | refine a_pick_t ?_ | refine a_pick_f ?_ | refine a_not ?_ | refine a_nilf ?_ | (refine o_nil (hK _ _ ?_); clear hK K) | refine wk_reg ?_ | refine wk_seq fun K hK => ?_ | (refine wk_skip (hK _ _ ?_); clear hK K) | (refine wk_label (hK _ _ ?_); clear hK K) | refine wk_scope ?_ | refine wk_block ?_ | refine wk_cond_t rfl ?_ | refine wk_cond_f rfl ?_ | (refine wk_exit ?_; (repeat (refine blockK_other rfl ?_)); refine blockK_same ?_; try ((repeat ((fail_if_success (refine hK _ _ ?_)); clear hK K)); refine hK _ _ ?_; clear hK K)) | (refine a_bin ?_ ?_ <;> intro _ <;> try (exfalso; omega)) | refine a_ld hl ?_ | (refine a_st hl ?_; clear hl; intro _ hl) | refine a_ix (fun _ => ?_) | refine a_all (hl.rowL (vs := [.int .i64 (f).op, str (f).name, .int .i64 (f).cmp, .int .i64 (f).num, .slice fa f.kids.length fc]) 2 0 5 rfl) ?_)
  refine a_fn (refSmall_calls f w4 _ _ 300 (hf.k.ext he) (by omega) hf.n hf.ns) ?_
  rintro _ w5 ⟨rfl, hx⟩
  replace hl := hl.ext hx
  clear he hx
  have he := hl.done
  by_cases hs1 : cnt f ≤ 300
  rotate_left
  · rw [decide_eq_false hs1]
    repeat' (first | refine a_mov ?_ | refine a_asg ?_ | refine a_binN ?_ | refine a_notd ?_ | refine a_notb ?_ | refine a_nilc ?_ | refine a_fa ?_ | refine a_ext ?_ | refine a_lenv ?_ | refine a_lens ?_ | refine a_pick_t ?_ | refine a_pick_f ?_ | refine a_not ?_ | refine a_nilf ?_ | (refine o_nil (hK _ _ ?_); clear hK K) | refine wk_reg ?_ | refine wk_seq fun K hK => ?_ | (refine wk_skip (hK _ _ ?_); clear hK K) | (refine wk_label (hK _ _ ?_); clear hK K) | refine wk_scope ?_ | refine wk_block ?_ | refine wk_cond_t rfl ?_ | refine wk_cond_f rfl ?_ | (refine wk_exit ?_; (repeat (refine blockK_other rfl ?_)); refine blockK_same ?_; try ((repeat ((fail_if_success (refine hK _ _ ?_)); clear hK K)); refine hK _ _ ?_; clear hK K)) | (refine a_bin ?_ ?_ <;> intro _ <;> try (exfalso; omega)) | refine a_ld hl ?_ | (refine a_st hl ?_; clear hl; intro _ hl) | refine a_ix (fun _ => ?_) | fail)
    refine wk_ret (retQ_tmp1 Tryd.results3 (by decide) rfl (by conv => lhs; whnf) ?_)
    exact ⟨rfl, he⟩
  rw [decide_eq_true hs1]
  repeat' (first | refine a_mov ?_ | refine a_asg ?_ | refine a_binN ?_ | refine a_notd ?_ | refine a_notb ?_ | refine a_nilc ?_ | refine a_fa ?_ | refine a_ext ?_ | refine a_lenv ?_ | refine a_lens ?_ | refine a_pick_t ?_ | refine a_pick_f ?_ | refine a_not ?_ | refine a_nilf ?_ | (refine o_nil (hK _ _ ?_); clear hK K) | refine wk_reg ?_ | refine wk_seq fun K hK => ?_ | (refine wk_skip (hK _ _ ?_); clear hK K) | (refine wk_label (hK _ _ ?_); clear hK K) | refine wk_scope ?_ | refine wk_block ?_ | refine wk_cond_t rfl ?_ | refine wk_cond_f rfl ?_ | (refine wk_exit ?_; (repeat (refine blockK_other rfl ?_)); refine blockK_same ?_; try ((repeat ((fail_if_success (refine hK _ _ ?_)); clear hK K)); refine hK _ _ ?_; clear hK K)) | (refine a_bin ?_ ?_ <;> intro _ <;> try (exfalso; omega)) | refine a_ld hl ?_ | (refine a_st hl ?_; clear hl; intro _ hl) | refine a_ix (fun _ => ?_) | refine a_all (hl.rowL (vs := [.int .i64 (g).op, str (g).name, .int .i64 (g).cmp, .int .i64 (g).num, .slice ga g.kids.length gc]) 1 0 5 rfl) ?_)
  refine a_fn (refSmall_calls g w5 _ _ 300 (hg.k.ext he) (by omega) hg.n hg.ns) ?_
  rintro _ w6 ⟨rfl, hx⟩
  replace hl := hl.ext hx
  clear he hx
  have he := hl.done
  by_cases hs2 : cnt g ≤ 300
  rotate_left
  · rw [decide_eq_false hs2]
    repeat' (first | refine a_mov ?_ | refine a_asg ?_ | refine a_binN ?_ | refine a_notd ?_ | refine a_notb ?_ | refine a_nilc ?_ | refine a_fa ?_ | refine a_ext ?_ | refine a_lenv ?_ | refine a_lens ?_ | refine a_pick_t ?_ | refine a_pick_f ?_ | refine a_not ?_ | refine a_nilf ?_ | (refine o_nil (hK _ _ ?_); clear hK K) | refine wk_reg ?_ | refine wk_seq fun K hK => ?_ | (refine wk_skip (hK _ _ ?_); clear hK K) | (refine wk_label (hK _ _ ?_); clear hK K) | refine wk_scope ?_ | refine wk_block ?_ | refine wk_cond_t rfl ?_ | refine wk_cond_f rfl ?_ | (refine wk_exit ?_; (repeat (refine blockK_other rfl ?_)); refine blockK_same ?_; try ((repeat ((fail_if_success (refine hK _ _ ?_)); clear hK K)); refine hK _ _ ?_; clear hK K)) | (refine a_bin ?_ ?_ <;> intro _ <;> try (exfalso; omega)) | refine a_ld hl ?_ | (refine a_st hl ?_; clear hl; intro _ hl) | refine a_ix (fun _ => ?_) | fail)
    refine wk_ret (retQ_tmp1 Tryd.results3 (by decide) rfl (by conv => lhs; whnf) ?_)
    exact ⟨rfl, he⟩
  rw [decide_eq_true hs2]
  repeat' (first | refine a_mov ?_ | refine a_asg ?_ | refine a_binN ?_ | refine a_notd ?_ | refine a_notb ?_ | refine a_nilc ?_ | refine a_fa ?_ | refine a_ext ?_ | refine a_lenv ?_ | refine a_lens ?_ | refine a_pick_t ?_ | refine a_pick_f ?_ | refine a_not ?_ | refine a_nilf ?_ | (refine o_nil (hK _ _ ?_); clear hK K) | refine wk_reg ?_ | refine wk_seq fun K hK => ?_ | (refine wk_skip (hK _ _ ?_); clear hK K) | (refine wk_label (hK _ _ ?_); clear hK K) | refine wk_scope ?_ | refine wk_block ?_ | refine wk_cond_t rfl ?_ | refine wk_cond_f rfl ?_ | (refine wk_exit ?_; (repeat (refine blockK_other rfl ?_)); refine blockK_same ?_; try ((repeat ((fail_if_success (refine hK _ _ ?_)); clear hK K)); refine hK _ _ ?_; clear hK K)) | (refine a_bin ?_ ?_ <;> intro _ <;> try (exfalso; omega)) | refine a_ld hl ?_ | (refine a_st hl ?_; clear hl; intro _ hl) | refine a_ix (fun _ => ?_) | refine a_all (hl.rowL (vs := [.slice da F.length dc]) 0 0 1 rfl) ?_)
  refine a_fn (few_calls (hD.sd.ext he) (hD.sc.ext he) (hD.st.ext he) nF nC nT tT) ?_
  rintro _ w7 ⟨rfl, hx⟩
  replace hl := hl.ext hx
  clear he hx
  have he := hl.done
  cases hfew : fewB F c T
  · repeat' (first | refine a_mov ?_ | refine a_asg ?_ | refine a_binN ?_ | refine a_notd ?_ | refine a_notb ?_ | refine a_nilc ?_ | refine a_fa ?_ | refine a_ext ?_ | refine a_lenv ?_ | refine a_lens ?_ | refine a_pick_t ?_ | refine a_pick_f ?_ | refine a_not ?_ | refine a_nilf ?_ | (refine o_nil (hK _ _ ?_); clear hK K) | refine wk_reg ?_ | refine wk_seq fun K hK => ?_ | (refine wk_skip (hK _ _ ?_); clear hK K) | (refine wk_label (hK _ _ ?_); clear hK K) | refine wk_scope ?_ | refine wk_block ?_ | refine wk_cond_t rfl ?_ | refine wk_cond_f rfl ?_ | (refine wk_exit ?_; (repeat (refine blockK_other rfl ?_)); refine blockK_same ?_; try ((repeat ((fail_if_success (refine hK _ _ ?_)); clear hK K)); refine hK _ _ ?_; clear hK K)) | (refine a_bin ?_ ?_ <;> intro _ <;> try (exfalso; omega)) | refine a_ld hl ?_ | (refine a_st hl ?_; clear hl; intro _ hl) | refine a_ix (fun _ => ?_) | fail)
    refine wk_ret (retQ_tmp1 Tryd.results3 (by decide) rfl (by conv => lhs; whnf) ?_)
    exact ⟨rfl, he⟩
  by_cases hs60 : s.length ≤ 60
  rotate_left
  · repeat' (first | refine a_mov ?_ | refine a_asg ?_ | refine a_binN ?_ | refine a_notd ?_ | refine a_notb ?_ | refine a_nilc ?_ | refine a_fa ?_ | refine a_ext ?_ | refine a_lenv ?_ | refine a_lens ?_ | refine a_pick_t ?_ | refine a_pick_f ?_ | refine a_not ?_ | refine a_nilf ?_ | (refine o_nil (hK _ _ ?_); clear hK K) | refine wk_reg ?_ | refine wk_seq fun K hK => ?_ | (refine wk_skip (hK _ _ ?_); clear hK K) | (refine wk_label (hK _ _ ?_); clear hK K) | refine wk_scope ?_ | refine wk_block ?_ | refine wk_cond_t rfl ?_ | refine wk_cond_f rfl ?_ | (refine wk_exit ?_; (repeat (refine blockK_other rfl ?_)); refine blockK_same ?_; try ((repeat ((fail_if_success (refine hK _ _ ?_)); clear hK K)); refine hK _ _ ?_; clear hK K)) | (refine a_bin ?_ ?_ <;> intro _ <;> try (exfalso; omega)) | refine a_ld hl ?_ | (refine a_st hl ?_; clear hl; intro _ hl) | refine a_ix (fun _ => ?_) | fail)
    refine wk_ret (retQ_tmp1 Tryd.results3 (by decide) rfl (by conv => lhs; whnf) ?_)
    exact ⟨rfl, he⟩
  have shf := short_of (f := f) (by omega)
  have shg := short_of (f := g) (by omega)
  repeat' (first | refine a_mov ?_ | refine a_asg ?_ | refine a_binN ?_ | refine a_notd ?_ | refine a_notb ?_ | refine a_nilc ?_ | refine a_fa ?_ | refine a_ext ?_ | refine a_lenv ?_ | refine a_lens ?_ | refine a_pick_t ?_ | refine a_pick_f ?_ | refine a_not ?_ | refine a_nilf ?_ | (refine o_nil (hK _ _ ?_); clear hK K) | refine wk_reg ?_ | refine wk_seq fun K hK => ?_ | (refine wk_skip (hK _ _ ?_); clear hK K) | (refine wk_label (hK _ _ ?_); clear hK K) | refine wk_scope ?_ | refine wk_block ?_ | refine wk_cond_t rfl ?_ | refine wk_cond_f rfl ?_ | (refine wk_exit ?_; (repeat (refine blockK_other rfl ?_)); refine blockK_same ?_; try ((repeat ((fail_if_success (refine hK _ _ ?_)); clear hK K)); refine hK _ _ ?_; clear hK K)) | (refine a_bin ?_ ?_ <;> intro _ <;> try (exfalso; omega)) | refine a_ld hl ?_ | (refine a_st hl ?_; clear hl; intro _ hl) | refine a_ix (fun _ => ?_) | refine a_all (hl.rowL (vs := [.int .i64 (f).op, str (f).name, .int .i64 (f).cmp, .int .i64 (f).num, .slice fa f.kids.length fc]) 2 0 5 rfl) ?_)
  refine a_fn (size_calls f w7 _ _ (hf.k.ext he) (by omega)) ?_
  rintro _ w8 ⟨rfl, hx⟩
  replace hl := hl.ext hx
  clear he hx
  have he := hl.done
  repeat' (first | refine a_mov ?_ | refine a_asg ?_ | refine a_binN ?_ | refine a_notd ?_ | refine a_notb ?_ | refine a_nilc ?_ | refine a_fa ?_ | refine a_ext ?_ | refine a_lenv ?_ | refine a_lens ?_ | refine a_pick_t ?_ | refine a_pick_f ?_ | refine a_not ?_ | refine a_nilf ?_ | (refine o_nil (hK _ _ ?_); clear hK K) | refine wk_reg ?_ | refine wk_seq fun K hK => ?_ | (refine wk_skip (hK _ _ ?_); clear hK K) | (refine wk_label (hK _ _ ?_); clear hK K) | refine wk_scope ?_ | refine wk_block ?_ | refine wk_cond_t rfl ?_ | refine wk_cond_f rfl ?_ | (refine wk_exit ?_; (repeat (refine blockK_other rfl ?_)); refine blockK_same ?_; try ((repeat ((fail_if_success (refine hK _ _ ?_)); clear hK K)); refine hK _ _ ?_; clear hK K)) | (refine a_bin ?_ ?_ <;> intro _ <;> try (exfalso; omega)) | refine a_ld hl ?_ | (refine a_st hl ?_; clear hl; intro _ hl) | refine a_ix (fun _ => ?_) | refine a_all (hl.rowL (vs := [.int .i64 (f).op, str (f).name, .int .i64 (f).cmp, .int .i64 (f).num, .slice fa f.kids.length fc]) 2 0 5 rfl) ?_)
  refine a_fn (refSize_calls f w8 _ _ (hf.k.ext he) (by omega)) ?_
  rintro _ w9 ⟨rfl, hx⟩
  replace hl := hl.ext hx
  clear he hx
  have he := hl.done
  repeat' (first | refine a_mov ?_ | refine a_asg ?_ | refine a_binN ?_ | refine a_notd ?_ | refine a_notb ?_ | refine a_nilc ?_ | refine a_fa ?_ | refine a_ext ?_ | refine a_lenv ?_ | refine a_lens ?_ | refine a_pick_t ?_ | refine a_pick_f ?_ | refine a_not ?_ | refine a_nilf ?_ | (refine o_nil (hK _ _ ?_); clear hK K) | refine wk_reg ?_ | refine wk_seq fun K hK => ?_ | (refine wk_skip (hK _ _ ?_); clear hK K) | (refine wk_label (hK _ _ ?_); clear hK K) | refine wk_scope ?_ | refine wk_block ?_ | refine wk_cond_t rfl ?_ | refine wk_cond_f rfl ?_ | (refine wk_exit ?_; (repeat (refine blockK_other rfl ?_)); refine blockK_same ?_; try ((repeat ((fail_if_success (refine hK _ _ ?_)); clear hK K)); refine hK _ _ ?_; clear hK K)) | (refine a_bin ?_ ?_ <;> intro _ <;> try (exfalso; omega)) | refine a_ld hl ?_ | (refine a_st hl ?_; clear hl; intro _ hl) | refine a_ix (fun _ => ?_) | fail)
  have hkf := hf.k.ext he
  have hkg := hg.k.ext he
  have hdd := hD.sd.ext he
  have hcc := hD.sc.ext he
  have htt := hD.st.ext he
  have rf : Row w9 b6 0 [.int .i64 (f).op, str (f).name, .int .i64 (f).cmp, .int .i64 (f).num, .slice fa f.kids.length fc] := hl.rowL (vs := [.int .i64 (f).op, str (f).name, .int .i64 (f).cmp, .int .i64 (f).num, .slice fa f.kids.length fc]) 2 0 5 rfl
  have rg : Row w9 b7 0 [.int .i64 (g).op, str (g).name, .int .i64 (g).cmp, .int .i64 (g).num, .slice ga g.kids.length gc] := hl.rowL (vs := [.int .i64 (g).op, str (g).name, .int .i64 (g).cmp, .int .i64 (g).num, .slice ga g.kids.length gc]) 1 0 5 rfl
  have rd' : Row w9 b8 0 [.slice da F.length dc] := hl.rowL (vs := [.slice da F.length dc]) 0 0 1 rfl
  have hGt : ∀ {w' : World} {b : Nat}, b < w'.heap.size → b < w'.heap.size := fun h => h
  have htl : (termsOf f).length ≤ 1000000 := by
    have h1 := foldT_len (pre f) []
    have h2 := pre_length f
    unfold termsOf
    simp at h1
    omega
  refine wk_grow [([0, 1, 2, 3, 4, 5, 6, 7, 8, 9, 10, 11, 12, 13, 14, 15, 16, 17, 18, 19, 20, 22], [21, 23]), ([24, 25, 26, 27, 28, 29, 30, 31, 32, 33, 34, 35], [])] ?_
  refine g_two (fun v w' => Sl w' v 1 (strsL (termsOf f))) (fun v w' => Sl w' v 1 (strsL (termsOf f))) (fun v w w' h e => h.ext e) (fun v w w' h e => h.ext e) ?_
  repeat' (first | refine x_mov ?_ | refine x_asg ?_ | refine x_fa ?_ | refine x_ext ?_ | refine x_binN ?_ | refine x_notd ?_ | refine x_notb ?_ | refine x_pick_t ?_ | refine x_pick_f ?_ | refine x_nilc ?_ | refine x_skip ?_ | refine x_lens ?_ | refine x_lenv ?_ | refine x_ix (fun _ => ?_) | (refine x_bin ?_ ?_ <;> intro _ <;> try (exfalso; omega)) | refine x_all (fun w_ hw_ => rf.ext hw_) ?_ | refine x_all (fun w_ hw_ => rd'.ext hw_) ?_ | refine x_fn (fun w' hw' => Check_calls F T nF nT f w' _ _ _ _ (hkf.ext hw') (fun b h => h) shf (by omega) (hdd.ext hw') (htt.ext hw')) ?_ | refine x_fn (fun w' hw' => refCheck_calls F T nF nT f w' _ _ _ _ (hkf.ext hw') shf hf.texty (hdd.ext hw') (htt.ext hw') (by omega)) ?_)
  refine x_nil ⟨fun v1 v2 => p_fn (fun w' hw' _ => terms_calls f w' _ _ (hkf.ext hw') (fun b h => h) shf (by omega)), fun v1 v2 => p_fn (fun w' hw' _ => refTerms_calls f w' _ _ (hkf.ext hw') (by omega)), fun v1 v2 w10 hw10 ht1 ht2 => ?_⟩
  refine g_end ?_
  refine x_fn (v := .bool true) (fun w' hw' => ?_) ?_
  · have := refNames_calls (ht1.ext hw') (ht2.ext hw') (by omega) (by omega)
    rw [decide_eq_true (rfl : termsOf f = termsOf f)] at this
    exact this
  repeat' (first | refine x_mov ?_ | refine x_asg ?_ | refine x_fa ?_ | refine x_ext ?_ | refine x_binN ?_ | refine x_notd ?_ | refine x_notb ?_ | refine x_pick_t ?_ | refine x_pick_f ?_ | refine x_nilc ?_ | refine x_skip ?_ | refine x_lens ?_ | refine x_lenv ?_ | refine x_ix (fun _ => ?_) | (refine x_bin ?_ ?_ <;> intro _ <;> try (exfalso; omega)) | refine x_all (fun w_ hw_ => rf.ext (hw10.trans hw_)) ?_ | refine x_all (fun w_ hw_ => rg.ext (hw10.trans hw_)) ?_)
  refine x_fn (fun w' hw' => same_fm_calls f g w' _ _ _ _ (hkf.ext (hw10.trans hw')) (hkg.ext (hw10.trans hw')) shf.1 shg.1 shf.2 shg.2) ?_
  repeat' (first | refine x_mov ?_ | refine x_asg ?_ | refine x_fa ?_ | refine x_ext ?_ | refine x_binN ?_ | refine x_notd ?_ | refine x_notb ?_ | refine x_pick_t ?_ | refine x_pick_f ?_ | refine x_nilc ?_ | refine x_skip ?_ | refine x_lens ?_ | refine x_lenv ?_ | refine x_ix (fun _ => ?_) | (refine x_bin ?_ ?_ <;> intro _ <;> try (exfalso; omega)) | refine x_all (fun w_ hw_ => rf.ext (hw10.trans hw_)) ?_ | refine x_all (fun w_ hw_ => rg.ext (hw10.trans hw_)) ?_)
  refine x_fn (fun w' hw' => refSame_calls f g w' _ _ _ _ (hkf.ext (hw10.trans hw')) (hkg.ext (hw10.trans hw')) shf.1 shg.1 shf.2 shg.2) ?_
  refine x_eqB ?_
  rw [beq_self_eq_true]
  repeat' (first | refine x_mov ?_ | refine x_asg ?_ | refine x_fa ?_ | refine x_ext ?_ | refine x_binN ?_ | refine x_notd ?_ | refine x_notb ?_ | refine x_pick_t ?_ | refine x_pick_f ?_ | refine x_nilc ?_ | refine x_skip ?_ | refine x_lens ?_ | refine x_lenv ?_ | refine x_ix (fun _ => ?_) | (refine x_bin ?_ ?_ <;> intro _ <;> try (exfalso; omega)) | fail)
  refine x_nil fun w11 hw11 => hK _ _ ?_
  clear hK K
  replace hw11 := hw10.trans hw11
  clear hw10 ht1 ht2
  replace he := he.trans hw11
  replace hkf := hkf.ext hw11
  replace hkg := hkg.ext hw11
  replace hdd := hdd.ext hw11
  replace hcc := hcc.ext hw11
  replace htt := htt.ext hw11
  replace rf := rf.ext hw11
  replace rg := rg.ext hw11
  replace rd' := rd'.ext hw11
  clear hw11 hl
  have hexc : cnt (expand s g f) ≤ 90000 := Nat.le_trans (expand_cnt s g f) (Nat.mul_le_mul hs1 hs2)
  have she := short_of (f := expand s g f) (by omega)
  repeat' (first | refine a_mov ?_ | refine a_asg ?_ | refine a_binN ?_ | refine a_notd ?_ | refine a_notb ?_ | refine a_nilc ?_ | refine a_fa ?_ | refine a_ext ?_ | refine a_lenv ?_ | refine a_lens ?_ | refine a_pick_t ?_ | refine a_pick_f ?_ | refine a_not ?_ | refine a_nilf ?_ | (refine o_nil (hK _ _ ?_); clear hK K) | refine wk_reg ?_ | refine wk_seq fun K hK => ?_ | (refine wk_skip (hK _ _ ?_); clear hK K) | (refine wk_label (hK _ _ ?_); clear hK K) | refine wk_scope ?_ | refine wk_block ?_ | refine wk_cond_t rfl ?_ | refine wk_cond_f rfl ?_ | (refine wk_exit ?_; (repeat (refine blockK_other rfl ?_)); refine blockK_same ?_; try ((repeat ((fail_if_success (refine hK _ _ ?_)); clear hK K)); refine hK _ _ ?_; clear hK K)) | (refine a_bin ?_ ?_ <;> intro _ <;> try (exfalso; omega)) | refine a_ld hl ?_ | (refine a_st hl ?_; clear hl; intro _ hl) | refine a_ix (fun _ => ?_) | fail)
  refine wk_grow [([0, 1, 2, 3, 4, 5, 7, 8, 9], [6, 10]), ([11, 12, 13], [])] ?_
  refine g_two (fun v w' => ∃ kv, v = .agg (fmL (expand s g f) kv).toArray ∧ KA w' (expand s g f).kids kv) (fun v w' => ∃ kv, v = .agg (fmL (expand s g f) kv).toArray ∧ KA w' (expand s g f).kids kv) (fun v w w' ⟨kv, h1, h2⟩ e => ⟨kv, h1, h2.ext e⟩) (fun v w w' ⟨kv, h1, h2⟩ e => ⟨kv, h1, h2.ext e⟩) ?_
  repeat' (first | refine x_mov ?_ | refine x_asg ?_ | refine x_fa ?_ | refine x_ext ?_ | refine x_binN ?_ | refine x_notd ?_ | refine x_notb ?_ | refine x_pick_t ?_ | refine x_pick_f ?_ | refine x_nilc ?_ | refine x_skip ?_ | refine x_lens ?_ | refine x_lenv ?_ | refine x_ix (fun _ => ?_) | (refine x_bin ?_ ?_ <;> intro _ <;> try (exfalso; omega)) | refine x_all (fun w_ hw_ => rf.ext hw_) ?_ | refine x_all (fun w_ hw_ => rg.ext hw_) ?_)
  refine x_nil ⟨fun v1 v2 => p_fn (args := #[.agg (fmL f (.slice fa f.kids.length fc)).toArray, str s, .agg (fmL g (.slice ga g.kids.length gc)).toArray]) (fun w' hw' _ => ?_), fun v1 v2 => p_fn (args := #[.agg (fmL f (.slice fa f.kids.length fc)).toArray, str s, .agg (fmL g (.slice ga g.kids.length gc)).toArray]) (fun w' hw' _ => ?_), ?_⟩
  · refine Calls.mono (expand_calls s g f w' (fun b => b < w'.heap.size) _ _ (hkf.ext hw') (hkg.ext hw') (fun b h => h) (by omega)) ?_
    rintro e w'' ⟨x, h1, ⟨kv', h2, h3⟩, h4⟩
    exact ⟨x, h1, ⟨kv', h2, h3.mono fun b hb => hb.2⟩, h4⟩
  · refine Calls.mono (refExpand_calls s g f w' (fun b => b < w'.heap.size) _ _ (hkf.ext hw') (hkg.ext hw') (fun b h => h) (by omega)) ?_
    rintro e w'' ⟨x, h1, ⟨kv', h2, h3⟩, h4⟩
    exact ⟨x, h1, ⟨kv', h2, h3.mono fun b hb => hb.2⟩, h4⟩
  rintro _ _ w10 hw10 ⟨kv1, rfl, k1⟩ ⟨kv2, rfl, k2⟩
  refine g_end ?_
  refine x_fn (v := .bool true) (fun w' hw' => ?_) ?_
  · have := refSame_calls (expand s g f) (expand s g f) w' _ _ _ _ (k1.ext hw') (k2.ext hw') she.1 she.1 she.2 she.2
    rw [decide_eq_true (rfl : expand s g f = expand s g f)] at this
    exact this
  refine x_eqB ?_
  repeat' (first | refine x_mov ?_ | refine x_asg ?_ | refine x_fa ?_ | refine x_ext ?_ | refine x_binN ?_ | refine x_notd ?_ | refine x_notb ?_ | refine x_pick_t ?_ | refine x_pick_f ?_ | refine x_nilc ?_ | refine x_skip ?_ | refine x_lens ?_ | refine x_lenv ?_ | refine x_ix (fun _ => ?_) | (refine x_bin ?_ ?_ <;> intro _ <;> try (exfalso; omega)) | fail)
  refine x_nil fun w11 hw11 => hK _ _ ?_
  clear hK K
  replace hw11 := hw10.trans hw11
  clear hw10 k1 k2
  replace he := he.trans hw11
  replace hkf := hkf.ext hw11
  replace hkg := hkg.ext hw11
  replace hdd := hdd.ext hw11
  replace hcc := hcc.ext hw11
  replace htt := htt.ext hw11
  replace rf := rf.ext hw11
  replace rg := rg.ext hw11
  replace rd' := rd'.ext hw11
  clear hw11
  repeat' (first | refine a_mov ?_ | refine a_asg ?_ | refine a_binN ?_ | refine a_notd ?_ | refine a_notb ?_ | refine a_nilc ?_ | refine a_fa ?_ | refine a_ext ?_ | refine a_lenv ?_ | refine a_lens ?_ | refine a_pick_t ?_ | refine a_pick_f ?_ | refine a_not ?_ | refine a_nilf ?_ | (refine o_nil (hK _ _ ?_); clear hK K) | refine wk_reg ?_ | refine wk_seq fun K hK => ?_ | (refine wk_skip (hK _ _ ?_); clear hK K) | (refine wk_label (hK _ _ ?_); clear hK K) | refine wk_scope ?_ | refine wk_block ?_ | refine wk_cond_t rfl ?_ | refine wk_cond_f rfl ?_ | (refine wk_exit ?_; (repeat (refine blockK_other rfl ?_)); refine blockK_same ?_; try ((repeat ((fail_if_success (refine hK _ _ ?_)); clear hK K)); refine hK _ _ ?_; clear hK K)) | (refine a_bin ?_ ?_ <;> intro _ <;> try (exfalso; omega)) | refine a_ld hl ?_ | (refine a_st hl ?_; clear hl; intro _ hl) | refine a_ix (fun _ => ?_) | refine a_all rd' ?_)
  refine a_fn (valid_calls hdd nF tF) ?_
  rintro _ w12 ⟨rfl, hx⟩
  replace he := he.trans hx
  cases hvd : validD F
  · repeat' (first | refine a_mov ?_ | refine a_asg ?_ | refine a_binN ?_ | refine a_notd ?_ | refine a_notb ?_ | refine a_nilc ?_ | refine a_fa ?_ | refine a_ext ?_ | refine a_lenv ?_ | refine a_lens ?_ | refine a_pick_t ?_ | refine a_pick_f ?_ | refine a_not ?_ | refine a_nilf ?_ | (refine o_nil (hK _ _ ?_); clear hK K) | refine wk_reg ?_ | refine wk_seq fun K hK => ?_ | (refine wk_skip (hK _ _ ?_); clear hK K) | (refine wk_label (hK _ _ ?_); clear hK K) | refine wk_scope ?_ | refine wk_block ?_ | refine wk_cond_t rfl ?_ | refine wk_cond_f rfl ?_ | (refine wk_exit ?_; (repeat (refine blockK_other rfl ?_)); refine blockK_same ?_; try ((repeat ((fail_if_success (refine hK _ _ ?_)); clear hK K)); refine hK _ _ ?_; clear hK K)) | (refine a_bin ?_ ?_ <;> intro _ <;> try (exfalso; omega)) | refine a_ld hl ?_ | (refine a_st hl ?_; clear hl; intro _ hl) | refine a_ix (fun _ => ?_) | fail)
    refine wk_ret (retQ_tmp1 Tryd.results3 (by decide) rfl (by conv => lhs; whnf) ?_)
    exact ⟨rfl, he⟩
  replace hkf := hkf.ext hx
  replace hdd := hdd.ext hx
  replace hcc := hcc.ext hx
  replace htt := htt.ext hx
  replace rf := rf.ext hx
  replace rd' := rd'.ext hx
  clear hx
  repeat' (first | refine a_mov ?_ | refine a_asg ?_ | refine a_binN ?_ | refine a_notd ?_ | refine a_notb ?_ | refine a_nilc ?_ | refine a_fa ?_ | refine a_ext ?_ | refine a_lenv ?_ | refine a_lens ?_ | refine a_pick_t ?_ | refine a_pick_f ?_ | refine a_not ?_ | refine a_nilf ?_ | (refine o_nil (hK _ _ ?_); clear hK K) | refine wk_reg ?_ | refine wk_seq fun K hK => ?_ | (refine wk_skip (hK _ _ ?_); clear hK K) | (refine wk_label (hK _ _ ?_); clear hK K) | refine wk_scope ?_ | refine wk_block ?_ | refine wk_cond_t rfl ?_ | refine wk_cond_f rfl ?_ | (refine wk_exit ?_; (repeat (refine blockK_other rfl ?_)); refine blockK_same ?_; try ((repeat ((fail_if_success (refine hK _ _ ?_)); clear hK K)); refine hK _ _ ?_; clear hK K)) | (refine a_bin ?_ ?_ <;> intro _ <;> try (exfalso; omega)) | refine a_ld hl ?_ | (refine a_st hl ?_; clear hl; intro _ hl) | refine a_ix (fun _ => ?_) | fail)
  have hhb : (decide (checkE F (fun _ => true) f = 0) && (fitsC F c && eval F c T f)) = holdsB F c T f := by
    unfold holdsB fitsB
    rw [hvd, Bool.true_and, Bool.and_assoc]
  refine wk_grow [([0, 1, 2, 3, 4, 5, 6, 7, 8, 9, 10, 11, 12, 13, 14], [])] ?_
  refine g_end ?_
  repeat' (first | refine x_mov ?_ | refine x_asg ?_ | refine x_fa ?_ | refine x_ext ?_ | refine x_binN ?_ | refine x_notd ?_ | refine x_notb ?_ | refine x_pick_t ?_ | refine x_pick_f ?_ | refine x_nilc ?_ | refine x_skip ?_ | refine x_lens ?_ | refine x_lenv ?_ | refine x_ix (fun _ => ?_) | (refine x_bin ?_ ?_ <;> intro _ <;> try (exfalso; omega)) | refine x_all (fun w_ hw_ => rf.ext hw_) ?_ | refine x_all (fun w_ hw_ => rd'.ext hw_) ?_)
  refine x_fn (fun w' hw' => holds_calls F c T nF nC nT tF f w' _ _ _ _ _ (hkf.ext hw') (fun b h => h) shf (by omega) (hdd.ext hw') (hcc.ext hw') (htt.ext hw')) ?_
  repeat' (first | refine x_mov ?_ | refine x_asg ?_ | refine x_fa ?_ | refine x_ext ?_ | refine x_binN ?_ | refine x_notd ?_ | refine x_notb ?_ | refine x_pick_t ?_ | refine x_pick_f ?_ | refine x_nilc ?_ | refine x_skip ?_ | refine x_lens ?_ | refine x_lenv ?_ | refine x_ix (fun _ => ?_) | (refine x_bin ?_ ?_ <;> intro _ <;> try (exfalso; omega)) | refine x_all (fun w_ hw_ => rf.ext hw_) ?_ | refine x_all (fun w_ hw_ => rd'.ext hw_) ?_)
  refine x_fn (fun w' hw' => refHolds_calls F c T nF nC nT f w' _ _ _ _ _ (hkf.ext hw') shf hf.texty (by omega) (hdd.ext hw') (hcc.ext hw') (htt.ext hw')) ?_
  rw [hhb]
  refine x_eqB ?_
  rw [beq_self_eq_true]
  repeat' (first | refine x_mov ?_ | refine x_asg ?_ | refine x_fa ?_ | refine x_ext ?_ | refine x_binN ?_ | refine x_notd ?_ | refine x_notb ?_ | refine x_pick_t ?_ | refine x_pick_f ?_ | refine x_nilc ?_ | refine x_skip ?_ | refine x_lens ?_ | refine x_lenv ?_ | refine x_ix (fun _ => ?_) | (refine x_bin ?_ ?_ <;> intro _ <;> try (exfalso; omega)) | fail)
  refine x_nil fun w13 hw13 => hK _ _ ?_
  clear hK K
  repeat' (first | refine a_mov ?_ | refine a_asg ?_ | refine a_binN ?_ | refine a_notd ?_ | refine a_notb ?_ | refine a_nilc ?_ | refine a_fa ?_ | refine a_ext ?_ | refine a_lenv ?_ | refine a_lens ?_ | refine a_pick_t ?_ | refine a_pick_f ?_ | refine a_not ?_ | refine a_nilf ?_ | (refine o_nil (hK _ _ ?_); clear hK K) | refine wk_reg ?_ | refine wk_seq fun K hK => ?_ | (refine wk_skip (hK _ _ ?_); clear hK K) | (refine wk_label (hK _ _ ?_); clear hK K) | refine wk_scope ?_ | refine wk_block ?_ | refine wk_cond_t rfl ?_ | refine wk_cond_f rfl ?_ | (refine wk_exit ?_; (repeat (refine blockK_other rfl ?_)); refine blockK_same ?_; try ((repeat ((fail_if_success (refine hK _ _ ?_)); clear hK K)); refine hK _ _ ?_; clear hK K)) | (refine a_bin ?_ ?_ <;> intro _ <;> try (exfalso; omega)) | refine a_ld hl ?_ | (refine a_st hl ?_; clear hl; intro _ hl) | refine a_ix (fun _ => ?_) | fail)
  refine wk_ret (retQ_tmp1 Tryd.results3 (by decide) rfl (by conv => lhs; whnf) ?_)
  exact ⟨rfl, he.trans hw13⟩
end Go.Proofs
