/-
  The statement FormulaExpands, walked.
-/
import Derived.Test.YtibaknilaboepaaDoorOp
set_option linter.unusedVariables false
set_option linter.unusedSimpArgs false
set_option linter.unnecessarySimpa false
set_option maxRecDepth 10000
namespace Go.Fo
open Go.Lexs Go.Fin
theorem all_same {p q : Fm → Bool} : ∀ {ks : List Fm}, (∀ k ∈ ks, p k = q k) → ks.all p = ks.all q
  | [], _ => rfl
  | k :: ks, h => by rw [List.all_cons, List.all_cons, h k List.mem_cons_self, all_same fun x hx => h x (List.mem_cons_of_mem _ hx)]
theorem any_same {p q : Fm → Bool} : ∀ {ks : List Fm}, (∀ k ∈ ks, p k = q k) → ks.any p = ks.any q
  | [], _ => rfl
  | k :: ks, h => by rw [List.any_cons, List.any_cons, h k List.mem_cons_self, any_same fun x hx => h x (List.mem_cons_of_mem _ hx)]
theorem eval_expand {F : List Fact} {c : List Int} {T T' : List (List UInt8)} {s : List UInt8} {y : Fm} (hs : T'.contains s = eval F c T y) (hn : ∀ n, n ≠ s → T'.contains n = T.contains n) : ∀ f : Fm, eval F c T (expand s y f) = eval F c T' f := by
  refine Fm.ind ?_
  intro f ih
  rw [expand_eq]
  by_cases h : f.op = 4 ∧ f.name = s
  · rw [if_pos h, eval_eq F c T' f, if_neg (by omega), if_pos h.1, h.2, hs]
  · rw [if_neg h]
    have hall : (f.kids.map (expand s y)).all (eval F c T) = f.kids.all (eval F c T') := by
      rw [List.all_map]
      refine all_same fun k hk => ?_
      exact ih k hk
    have hany : (f.kids.map (expand s y)).any (eval F c T) = f.kids.any (eval F c T') := by
      rw [List.any_map]
      refine any_same fun k hk => ?_
      exact ih k hk
    have hfst : evalFirst F c T (f.kids.map (expand s y)) = evalFirst F c T' f.kids := by
      cases hks : f.kids with
      | nil => rfl
      | cons k ks =>
        show eval F c T (expand s y k) = eval F c T' k
        exact ih k (by rw [hks]; exact List.mem_cons_self)
    rw [eval_eq F c T, eval_eq F c T' f]
    show (if f.op = 3 then cmpB (valAt F c f.name) f.cmp f.num else if f.op = 4 then T.contains f.name else if f.op = 5 then !(evalFirst F c T (f.kids.map (expand s y))) else if f.op = 6 then (f.kids.map (expand s y)).all (eval F c T) else if f.op = 7 then (f.kids.map (expand s y)).any (eval F c T) else decide (f.op = 1)) = _
    rw [hall, hany, hfst]
    by_cases h4 : f.op = 4
    · have hne : f.name ≠ s := fun e => h ⟨h4, e⟩
      rw [hn _ hne]
    · simp only [h4, if_false]
def termsWith (T : List (List UInt8)) (s : List UInt8) (b : Bool) : List (List UInt8) := T.filter (fun n => decide (n ≠ s)) ++ (if b then [s] else [])
theorem termsWith_self (T : List (List UInt8)) (s : List UInt8) (b : Bool) : (termsWith T s b).contains s = b := by
  cases b
  · rw [← Bool.not_eq_true, List.contains_iff_mem]
    simp [termsWith]
  · rw [List.contains_iff_mem]
    simp [termsWith]
theorem termsWith_other (T : List (List UInt8)) (s : List UInt8) (b : Bool) (n : List UInt8) (h : n ≠ s) : (termsWith T s b).contains n = T.contains n := by
  rw [Bool.eq_iff_iff, List.contains_iff_mem, List.contains_iff_mem]
  cases b <;> simp [termsWith, h]
theorem expands_law {F : List Fact} {c : List Int} {T : List (List UInt8)} {s : List UInt8} {f y : Fm} (hf : goodB F c f = true) (hy : goodB F c y = true) (hg : checkE F (fun n => (termsOf (expand s y f)).contains n) (expand s y f) = 0) :
    holdsB F c T (expand s y f) = holdsB F c (termsWith T s (holdsB F c T y)) f := by
  obtain ⟨⟨f1, f2⟩, hfit, -⟩ := goodB_iff.1 hf
  obtain ⟨⟨y1, y2⟩, -, -⟩ := goodB_iff.1 hy
  obtain ⟨g1, g2, g3⟩ := checkE_zero.1 hg
  rw [holdsB_eval g1 g2 (right_of g3) hfit, holdsB_eval (by omega) (by omega) (good_right hf) hfit]
  refine eval_expand ?_ (fun n hn => termsWith_other T s _ n hn) f
  rw [termsWith_self, holdsB_eval (by omega) (by omega) (good_right hy) hfit]
end Go.Fo

namespace Go.Proofs
open Go Go.Pd Go.Lexs Go.Fin Go.Fo
attribute [local irreducible] OpsL W RetQ OpsQ OpsC

set_option maxHeartbeats 8000000 in
theorem Expands_calls {w : World} {f y : Fm} {fv yv dv cv tv : Value} {F : List Fact} {c : List Int} {T : List (List UInt8)} (hf : FmIn w f fv) (hy : FmIn w y yv) (hD : DomIn w F dv) (hC : CaseIn w c cv) (hTin : StrsIn w T tv) (s : List UInt8) (hs : s.length ≤ 140737488351232) :
    Calls Tryd.prog 6 #[.agg (fmL f fv).toArray, .agg (fmL y yv).toArray, .agg #[dv], cv, tv, str s] w (fun e w' => ∃ x, e = .returned x ∧ x = .bool true ∧ Ext w w') := by
  obtain ⟨hd, nF', tF'⟩ := hD
  obtain ⟨hc, nC'⟩ := hC
  obtain ⟨ht, nT', tT'⟩ := hTin
  obtain ⟨fa, fc, rfl, -⟩ := hf.k.shape
  obtain ⟨ya, yc, rfl, -⟩ := hy.k.shape
  obtain ⟨da, dc, rfl, -⟩ := hd.shape (factsL_len F) (by omega)
  obtain ⟨ca, cc, rfl, -⟩ := hc.shape (intsL_len c) (by omega)
  obtain ⟨ta, tc, rfl, -⟩ := ht.shape (strsL_len T) (by omega)
  have nF : F.length ≤ 9223372036854775806 := by omega
  have nC : c.length ≤ 9223372036854775806 := by omega
  have nT : T.length ≤ 9223372036854775806 := by omega
  have tF : ∀ f ∈ F, f.name.length ≤ 9223372036854775806 := fun f h => by have := tF' f h; omega
  have tT : ∀ s ∈ T, s.length ≤ 9223372036854775806 := fun s h => by have := tT' s h; omega
  refine calls_of Tryd.func6 rfl Tryd.ntmps6 rfl ?_
  refine wk_seq fun K hK => ?_
  refine wk_reg ?_
  refine o_box (LH.start w (fun _ => False)) [.int .i64 (f).op, str (f).name, .int .i64 (f).cmp, .int .i64 (f).num, .slice fa f.kids.length fc] rfl rfl rfl ?_
  intro b6 w1 hb6 hl
  refine o_box hl [.int .i64 (y).op, str (y).name, .int .i64 (y).cmp, .int .i64 (y).num, .slice ya y.kids.length yc] rfl rfl rfl ?_
  clear hl
  intro b7 w2 hb7 hl
  refine o_box hl [.slice da F.length dc] rfl rfl rfl ?_
  clear hl
  intro b8 w3 hb8 hl
  repeat' (first | refine a_mov ?_ | refine a_asg ?_ | refine a_binN ?_ | refine a_notd ?_ | refine a_notb ?_ | refine a_nilc ?_ | refine a_fa ?_ | refine a_ext ?_ | refine a_lenv ?_ | refine a_lens ?_ | refine a_pick_t ?_ | refine a_pick_f ?_ | refine a_not ?_ | refine a_nilf ?_ | (refine o_nil (hK _ _ ?_); clear hK K) | refine wk_reg ?_ | refine wk_seq fun K hK => ?_ | (refine wk_skip (hK _ _ ?_); clear hK K) | (refine wk_label (hK _ _ ?_); clear hK K) | refine wk_scope ?_ | refine wk_block ?_ | refine wk_cond_t rfl ?_ | refine wk_cond_f rfl ?_ | (refine wk_exit ?_; (repeat (refine blockK_other rfl ?_)); refine blockK_same ?_; try ((repeat ((fail_if_success (refine hK _ _ ?_)); clear hK K)); refine hK _ _ ?_; clear hK K)) | (refine a_bin ?_ ?_ <;> intro _ <;> try (exfalso; omega)) | refine a_ld hl ?_ | (refine a_st hl ?_; clear hl; intro _ hl) | refine a_ix (fun _ => ?_) | fail)
  refine a_fn (head_calls w3) ?_
  rintro _ w4 ⟨rfl, hx⟩
  replace hl := hl.ext hx
  clear hx
  have he := hl.done
  have rf : Row w4 b6 0 [.int .i64 (f).op, str (f).name, .int .i64 (f).cmp, .int .i64 (f).num, .slice fa f.kids.length fc] := hl.rowL (vs := [.int .i64 (f).op, str (f).name, .int .i64 (f).cmp, .int .i64 (f).num, .slice fa f.kids.length fc]) 2 0 5 rfl
  have ry : Row w4 b7 0 [.int .i64 (y).op, str (y).name, .int .i64 (y).cmp, .int .i64 (y).num, .slice ya y.kids.length yc] := hl.rowL (vs := [.int .i64 (y).op, str (y).name, .int .i64 (y).cmp, .int .i64 (y).num, .slice ya y.kids.length yc]) 1 0 5 rfl
  have rd' : Row w4 b8 0 [.slice da F.length dc] := hl.rowL (vs := [.slice da F.length dc]) 0 0 1 rfl
  have hkf := hf.k.ext he
  have hky := hy.k.ext he
  replace hd := hd.ext he
  replace hc := hc.ext he
  replace ht := ht.ext he
  clear hl
  repeat' (first | refine a_mov ?_ | refine a_asg ?_ | refine a_binN ?_ | refine a_notd ?_ | refine a_notb ?_ | refine a_nilc ?_ | refine a_fa ?_ | refine a_ext ?_ | refine a_lenv ?_ | refine a_lens ?_ | refine a_pick_t ?_ | refine a_pick_f ?_ | refine a_not ?_ | refine a_nilf ?_ | (refine o_nil (hK _ _ ?_); clear hK K) | refine wk_reg ?_ | refine wk_seq fun K hK => ?_ | (refine wk_skip (hK _ _ ?_); clear hK K) | (refine wk_label (hK _ _ ?_); clear hK K) | refine wk_scope ?_ | refine wk_block ?_ | refine wk_cond_t rfl ?_ | refine wk_cond_f rfl ?_ | (refine wk_exit ?_; (repeat (refine blockK_other rfl ?_)); refine blockK_same ?_; try ((repeat ((fail_if_success (refine hK _ _ ?_)); clear hK K)); refine hK _ _ ?_; clear hK K)) | (refine a_bin ?_ ?_ <;> intro _ <;> try (exfalso; omega)) | refine a_ld hl ?_ | (refine a_st hl ?_; clear hl; intro _ hl) | refine a_ix (fun _ => ?_) | refine a_all rd' ?_)
  refine a_fn (few_calls hd hc ht nF nC nT tT) ?_
  rintro _ w5 ⟨rfl, hx⟩
  replace he := he.trans hx; replace rf := rf.ext hx; replace ry := ry.ext hx; replace rd' := rd'.ext hx; replace hkf := hkf.ext hx; replace hky := hky.ext hx; replace hd := hd.ext hx; replace hc := hc.ext hx; replace ht := ht.ext hx; clear hx
  cases hfew : fewB F c T
  · repeat' (first | refine a_mov ?_ | refine a_asg ?_ | refine a_binN ?_ | refine a_notd ?_ | refine a_notb ?_ | refine a_nilc ?_ | refine a_fa ?_ | refine a_ext ?_ | refine a_lenv ?_ | refine a_lens ?_ | refine a_pick_t ?_ | refine a_pick_f ?_ | refine a_not ?_ | refine a_nilf ?_ | (refine o_nil (hK _ _ ?_); clear hK K) | refine wk_reg ?_ | refine wk_seq fun K hK => ?_ | (refine wk_skip (hK _ _ ?_); clear hK K) | (refine wk_label (hK _ _ ?_); clear hK K) | refine wk_scope ?_ | refine wk_block ?_ | refine wk_cond_t rfl ?_ | refine wk_cond_f rfl ?_ | (refine wk_exit ?_; (repeat (refine blockK_other rfl ?_)); refine blockK_same ?_; try ((repeat ((fail_if_success (refine hK _ _ ?_)); clear hK K)); refine hK _ _ ?_; clear hK K)) | (refine a_bin ?_ ?_ <;> intro _ <;> try (exfalso; omega)) | refine a_ld hl ?_ | (refine a_st hl ?_; clear hl; intro _ hl) | refine a_ix (fun _ => ?_) | fail)
    refine wk_ret (retQ_tmp1 Tryd.results6 (by decide) rfl (by conv => lhs; whnf) ?_)
    exact ⟨rfl, he⟩
  have hT40 : T.length ≤ 40 := by unfold fewB at hfew; exact (of_decide_eq_true hfew).2.2.1
  by_cases hs60 : s.length ≤ 60
  rotate_left
  · repeat' (first | refine a_mov ?_ | refine a_asg ?_ | refine a_binN ?_ | refine a_notd ?_ | refine a_notb ?_ | refine a_nilc ?_ | refine a_fa ?_ | refine a_ext ?_ | refine a_lenv ?_ | refine a_lens ?_ | refine a_pick_t ?_ | refine a_pick_f ?_ | refine a_not ?_ | refine a_nilf ?_ | (refine o_nil (hK _ _ ?_); clear hK K) | refine wk_reg ?_ | refine wk_seq fun K hK => ?_ | (refine wk_skip (hK _ _ ?_); clear hK K) | (refine wk_label (hK _ _ ?_); clear hK K) | refine wk_scope ?_ | refine wk_block ?_ | refine wk_cond_t rfl ?_ | refine wk_cond_f rfl ?_ | (refine wk_exit ?_; (repeat (refine blockK_other rfl ?_)); refine blockK_same ?_; try ((repeat ((fail_if_success (refine hK _ _ ?_)); clear hK K)); refine hK _ _ ?_; clear hK K)) | (refine a_bin ?_ ?_ <;> intro _ <;> try (exfalso; omega)) | refine a_ld hl ?_ | (refine a_st hl ?_; clear hl; intro _ hl) | refine a_ix (fun _ => ?_) | fail)
    refine wk_ret (retQ_tmp1 Tryd.results6 (by decide) rfl (by conv => lhs; whnf) ?_)
    exact ⟨rfl, he⟩
  repeat' (first | refine a_mov ?_ | refine a_asg ?_ | refine a_binN ?_ | refine a_notd ?_ | refine a_notb ?_ | refine a_nilc ?_ | refine a_fa ?_ | refine a_ext ?_ | refine a_lenv ?_ | refine a_lens ?_ | refine a_pick_t ?_ | refine a_pick_f ?_ | refine a_not ?_ | refine a_nilf ?_ | (refine o_nil (hK _ _ ?_); clear hK K) | refine wk_reg ?_ | refine wk_seq fun K hK => ?_ | (refine wk_skip (hK _ _ ?_); clear hK K) | (refine wk_label (hK _ _ ?_); clear hK K) | refine wk_scope ?_ | refine wk_block ?_ | refine wk_cond_t rfl ?_ | refine wk_cond_f rfl ?_ | (refine wk_exit ?_; (repeat (refine blockK_other rfl ?_)); refine blockK_same ?_; try ((repeat ((fail_if_success (refine hK _ _ ?_)); clear hK K)); refine hK _ _ ?_; clear hK K)) | (refine a_bin ?_ ?_ <;> intro _ <;> try (exfalso; omega)) | refine a_ld hl ?_ | (refine a_st hl ?_; clear hl; intro _ hl) | refine a_ix (fun _ => ?_) | refine a_all rf ?_ | refine a_all rd' ?_)
  refine a_fn (good_calls F c nF nC tF f w5 _ _ _ _ hkf (fun b h => h) hf.n hf.ns hd hc) ?_
  rintro _ w6 ⟨rfl, hx⟩
  replace he := he.trans hx; replace rf := rf.ext hx; replace ry := ry.ext hx; replace rd' := rd'.ext hx; replace hkf := hkf.ext hx; replace hky := hky.ext hx; replace hd := hd.ext hx; replace hc := hc.ext hx; replace ht := ht.ext hx; clear hx
  cases hgf : goodB F c f
  · repeat' (first | refine a_mov ?_ | refine a_asg ?_ | refine a_binN ?_ | refine a_notd ?_ | refine a_notb ?_ | refine a_nilc ?_ | refine a_fa ?_ | refine a_ext ?_ | refine a_lenv ?_ | refine a_lens ?_ | refine a_pick_t ?_ | refine a_pick_f ?_ | refine a_not ?_ | refine a_nilf ?_ | (refine o_nil (hK _ _ ?_); clear hK K) | refine wk_reg ?_ | refine wk_seq fun K hK => ?_ | (refine wk_skip (hK _ _ ?_); clear hK K) | (refine wk_label (hK _ _ ?_); clear hK K) | refine wk_scope ?_ | refine wk_block ?_ | refine wk_cond_t rfl ?_ | refine wk_cond_f rfl ?_ | (refine wk_exit ?_; (repeat (refine blockK_other rfl ?_)); refine blockK_same ?_; try ((repeat ((fail_if_success (refine hK _ _ ?_)); clear hK K)); refine hK _ _ ?_; clear hK K)) | (refine a_bin ?_ ?_ <;> intro _ <;> try (exfalso; omega)) | refine a_ld hl ?_ | (refine a_st hl ?_; clear hl; intro _ hl) | refine a_ix (fun _ => ?_) | fail)
    refine wk_ret (retQ_tmp1 Tryd.results6 (by decide) rfl (by conv => lhs; whnf) ?_)
    exact ⟨rfl, he⟩
  repeat' (first | refine a_mov ?_ | refine a_asg ?_ | refine a_binN ?_ | refine a_notd ?_ | refine a_notb ?_ | refine a_nilc ?_ | refine a_fa ?_ | refine a_ext ?_ | refine a_lenv ?_ | refine a_lens ?_ | refine a_pick_t ?_ | refine a_pick_f ?_ | refine a_not ?_ | refine a_nilf ?_ | (refine o_nil (hK _ _ ?_); clear hK K) | refine wk_reg ?_ | refine wk_seq fun K hK => ?_ | (refine wk_skip (hK _ _ ?_); clear hK K) | (refine wk_label (hK _ _ ?_); clear hK K) | refine wk_scope ?_ | refine wk_block ?_ | refine wk_cond_t rfl ?_ | refine wk_cond_f rfl ?_ | (refine wk_exit ?_; (repeat (refine blockK_other rfl ?_)); refine blockK_same ?_; try ((repeat ((fail_if_success (refine hK _ _ ?_)); clear hK K)); refine hK _ _ ?_; clear hK K)) | (refine a_bin ?_ ?_ <;> intro _ <;> try (exfalso; omega)) | refine a_ld hl ?_ | (refine a_st hl ?_; clear hl; intro _ hl) | refine a_ix (fun _ => ?_) | refine a_all ry ?_ | refine a_all rd' ?_)
  refine a_fn (good_calls F c nF nC tF y w6 _ _ _ _ hky (fun b h => h) hy.n hy.ns hd hc) ?_
  rintro _ w7 ⟨rfl, hx⟩
  replace he := he.trans hx; replace rf := rf.ext hx; replace ry := ry.ext hx; replace rd' := rd'.ext hx; replace hkf := hkf.ext hx; replace hky := hky.ext hx; replace hd := hd.ext hx; replace hc := hc.ext hx; replace ht := ht.ext hx; clear hx
  cases hgy : goodB F c y
  · repeat' (first | refine a_mov ?_ | refine a_asg ?_ | refine a_binN ?_ | refine a_notd ?_ | refine a_notb ?_ | refine a_nilc ?_ | refine a_fa ?_ | refine a_ext ?_ | refine a_lenv ?_ | refine a_lens ?_ | refine a_pick_t ?_ | refine a_pick_f ?_ | refine a_not ?_ | refine a_nilf ?_ | (refine o_nil (hK _ _ ?_); clear hK K) | refine wk_reg ?_ | refine wk_seq fun K hK => ?_ | (refine wk_skip (hK _ _ ?_); clear hK K) | (refine wk_label (hK _ _ ?_); clear hK K) | refine wk_scope ?_ | refine wk_block ?_ | refine wk_cond_t rfl ?_ | refine wk_cond_f rfl ?_ | (refine wk_exit ?_; (repeat (refine blockK_other rfl ?_)); refine blockK_same ?_; try ((repeat ((fail_if_success (refine hK _ _ ?_)); clear hK K)); refine hK _ _ ?_; clear hK K)) | (refine a_bin ?_ ?_ <;> intro _ <;> try (exfalso; omega)) | refine a_ld hl ?_ | (refine a_st hl ?_; clear hl; intro _ hl) | refine a_ix (fun _ => ?_) | fail)
    refine wk_ret (retQ_tmp1 Tryd.results6 (by decide) rfl (by conv => lhs; whnf) ?_)
    exact ⟨rfl, he⟩
  obtain ⟨⟨f1, f2⟩, hfit, -⟩ := goodB_iff.1 hgf
  obtain ⟨⟨y1, y2⟩, -, -⟩ := goodB_iff.1 hgy
  have shf := short_of (f := f) (by omega)
  have shy := short_of (f := y) (by omega)
  have hexc : cnt (expand s y f) ≤ 3600 := Nat.le_trans (expand_cnt s y f) (Nat.mul_le_mul f1 y1)
  have she := short_of (f := expand s y f) (by omega)
  repeat' (first | refine a_mov ?_ | refine a_asg ?_ | refine a_binN ?_ | refine a_notd ?_ | refine a_notb ?_ | refine a_nilc ?_ | refine a_fa ?_ | refine a_ext ?_ | refine a_lenv ?_ | refine a_lens ?_ | refine a_pick_t ?_ | refine a_pick_f ?_ | refine a_not ?_ | refine a_nilf ?_ | (refine o_nil (hK _ _ ?_); clear hK K) | refine wk_reg ?_ | refine wk_seq fun K hK => ?_ | (refine wk_skip (hK _ _ ?_); clear hK K) | (refine wk_label (hK _ _ ?_); clear hK K) | refine wk_scope ?_ | refine wk_block ?_ | refine wk_cond_t rfl ?_ | refine wk_cond_f rfl ?_ | (refine wk_exit ?_; (repeat (refine blockK_other rfl ?_)); refine blockK_same ?_; try ((repeat ((fail_if_success (refine hK _ _ ?_)); clear hK K)); refine hK _ _ ?_; clear hK K)) | (refine a_bin ?_ ?_ <;> intro _ <;> try (exfalso; omega)) | refine a_ld hl ?_ | (refine a_st hl ?_; clear hl; intro _ hl) | refine a_ix (fun _ => ?_) | refine a_all rf ?_ | refine a_all ry ?_)
  refine a_fn (expand_calls s y f w7 (fun b => b < w7.heap.size) _ _ hkf hky (fun b h => h) (by omega)) ?_
  rintro _ w8 ⟨⟨kv, rfl, hke0⟩, hx⟩
  have hke : KA w8 (expand s y f).kids kv := hke0.mono fun b hb => hb.2
  have hone := fmL_one hke
  replace he := he.trans hx; replace rf := rf.ext hx; replace ry := ry.ext hx; replace rd' := rd'.ext hx; replace hkf := hkf.ext hx; replace hky := hky.ext hx; replace hd := hd.ext hx; replace hc := hc.ext hx; replace ht := ht.ext hx; clear hx
  clear hke0
  refine o_alloc (LH.start w8 (fun _ => False)) [.int .i64 0, .string ⟨#[]⟩, .int .i64 0, .int .i64 0, .slice none 0 0] rfl rfl ?_
  intro b14 w9 hb14 hl
  refine o_putN (us := fmL (expand s y f) kv) hl rfl rfl rfl hone rfl (.all rfl rfl) ?_
  clear hl
  intro w10 hl
  have rg : Row w10 b14 0 (fmL (expand s y f) kv) := hl.rowL (vs := fmL (expand s y f) kv) 0 0 5 rfl
  have hx := hl.done
  clear hl
  replace hke := hke.ext hx
  replace he := he.trans hx; replace rf := rf.ext hx; replace ry := ry.ext hx; replace rd' := rd'.ext hx; replace hkf := hkf.ext hx; replace hky := hky.ext hx; replace hd := hd.ext hx; replace hc := hc.ext hx; replace ht := ht.ext hx; clear hx
  generalize hgg : expand s y f = g at *
  have htl : (termsOf g).length ≤ 1000000 := by
    have h1 := foldT_len (pre g) []
    have h2 := pre_length g
    unfold termsOf
    simp at h1
    omega
  repeat' (first | refine a_mov ?_ | refine a_asg ?_ | refine a_binN ?_ | refine a_notd ?_ | refine a_notb ?_ | refine a_nilc ?_ | refine a_fa ?_ | refine a_ext ?_ | refine a_lenv ?_ | refine a_lens ?_ | refine a_pick_t ?_ | refine a_pick_f ?_ | refine a_not ?_ | refine a_nilf ?_ | (refine o_nil (hK _ _ ?_); clear hK K) | refine wk_reg ?_ | refine wk_seq fun K hK => ?_ | (refine wk_skip (hK _ _ ?_); clear hK K) | (refine wk_label (hK _ _ ?_); clear hK K) | refine wk_scope ?_ | refine wk_block ?_ | refine wk_cond_t rfl ?_ | refine wk_cond_f rfl ?_ | (refine wk_exit ?_; (repeat (refine blockK_other rfl ?_)); refine blockK_same ?_; try ((repeat ((fail_if_success (refine hK _ _ ?_)); clear hK K)); refine hK _ _ ?_; clear hK K)) | (refine a_bin ?_ ?_ <;> intro _ <;> try (exfalso; omega)) | refine a_ld hl ?_ | (refine a_st hl ?_; clear hl; intro _ hl) | refine a_ix (fun _ => ?_) | fail)
  refine wk_grow [([0, 1, 2], [3]), ([4, 5], [])] ?_
  refine g_one (fun v w' => Sl w' v 1 (strsL (termsOf g))) (fun v w w' h e => h.ext e) ?_
  refine x_all (fun w_ hw_ => rg.ext hw_) ?_
  refine x_all (fun w_ hw_ => rd'.ext hw_) ?_
  refine x_all (fun w_ hw_ => rg.ext hw_) ?_
  refine x_nil ⟨fun v => p_fn (fun w' hw' _ => terms_calls g w' _ _ (hke.ext hw') (fun b h => h) she (by omega)), fun v w11 hw11 hR => ?_⟩
  refine g_end ?_
  refine x_fn (fun w' hw' => Check_calls F (termsOf g) nF (by omega) g w' _ _ _ v (hke.ext (hw11.trans hw')) (fun b h => h) she (by omega) (hd.ext (hw11.trans hw')) (hR.ext hw')) ?_
  refine x_bin ?_ ?_ <;> intro hq
  · refine x_nil fun w12 hw12 => hK _ _ ?_
    clear hK K
    repeat' (first | refine a_mov ?_ | refine a_asg ?_ | refine a_binN ?_ | refine a_notd ?_ | refine a_notb ?_ | refine a_nilc ?_ | refine a_fa ?_ | refine a_ext ?_ | refine a_lenv ?_ | refine a_lens ?_ | refine a_pick_t ?_ | refine a_pick_f ?_ | refine a_not ?_ | refine a_nilf ?_ | (refine o_nil (hK _ _ ?_); clear hK K) | refine wk_reg ?_ | refine wk_seq fun K hK => ?_ | (refine wk_skip (hK _ _ ?_); clear hK K) | (refine wk_label (hK _ _ ?_); clear hK K) | refine wk_scope ?_ | refine wk_block ?_ | refine wk_cond_t rfl ?_ | refine wk_cond_f rfl ?_ | (refine wk_exit ?_; (repeat (refine blockK_other rfl ?_)); refine blockK_same ?_; try ((repeat ((fail_if_success (refine hK _ _ ?_)); clear hK K)); refine hK _ _ ?_; clear hK K)) | (refine a_bin ?_ ?_ <;> intro _ <;> try (exfalso; omega)) | refine a_ld hl ?_ | (refine a_st hl ?_; clear hl; intro _ hl) | refine a_ix (fun _ => ?_) | fail)
    refine wk_ret (retQ_tmp1 Tryd.results6 (by decide) rfl (by conv => lhs; whnf) ?_)
    exact ⟨rfl, (he.trans hw11).trans hw12⟩
  refine x_nil fun w12 hw12 => hK _ _ ?_
  clear hK K hR
  have hck : checkE F (fun n => (termsOf g).contains n) g = 0 := by omega
  have hx := hw11.trans hw12
  replace rg := rg.ext hx
  replace hke := hke.ext hx
  replace he := he.trans hx; replace rf := rf.ext hx; replace ry := ry.ext hx; replace rd' := rd'.ext hx; replace hkf := hkf.ext hx; replace hky := hky.ext hx; replace hd := hd.ext hx; replace hc := hc.ext hx; replace ht := ht.ext hx; clear hx
  clear hw11 hw12 hq
  have hlaw := expands_law (T := T) (s := s) hgf hgy (by rw [hgg]; exact hck)
  rw [hgg] at hlaw
  have fin : ∀ (w' : World) (lv : Value) (b : Bool), Ext w12 w' → b = holdsB F c T y → Sl w' lv 1 (strsL (termsWith T s b)) → ∀ w2, Ext w' w2 → Calls Tryd.prog 25 #[.agg (fmL f (.slice fa f.kids.length fc)).toArray, .agg #[.slice da F.length dc], .slice ca c.length cc, lv] w2 (fun e w3 => ∃ x, e = .returned x ∧ x = .bool (holdsB F c T g) ∧ Ext w2 w3) := by
    intro w' lv b h1 h2 h3 w2 h4
    have hlen : (termsWith T s b).length ≤ 41 := by
      have := List.length_filter_le (fun n => decide (n ≠ s)) T
      unfold termsWith; cases b <;> simp at * <;> omega
    rw [hlaw, ← h2]
    exact holds_calls F c (termsWith T s b) nF nC (by omega) tF f w2 _ _ _ _ lv (hkf.ext (h1.trans h4)) (fun b h => h) shf (by omega) (hd.ext (h1.trans h4)) (hc.ext (h1.trans h4)) (h3.ext h4)
  have base := And.intro rg (And.intro rf (And.intro rd' (And.intro hke (And.intro hd (And.intro hc (And.intro ht he))))))
  repeat' (first | refine a_mov ?_ | refine a_asg ?_ | refine a_binN ?_ | refine a_notd ?_ | refine a_notb ?_ | refine a_nilc ?_ | refine a_fa ?_ | refine a_ext ?_ | refine a_lenv ?_ | refine a_lens ?_ | refine a_pick_t ?_ | refine a_pick_f ?_ | refine a_not ?_ | refine a_nilf ?_ | (refine o_nil (hK _ _ ?_); clear hK K) | refine wk_reg ?_ | refine wk_seq fun K hK => ?_ | (refine wk_skip (hK _ _ ?_); clear hK K) | (refine wk_label (hK _ _ ?_); clear hK K) | refine wk_scope ?_ | refine wk_block ?_ | refine wk_cond_t rfl ?_ | refine wk_cond_f rfl ?_ | (refine wk_exit ?_; (repeat (refine blockK_other rfl ?_)); refine blockK_same ?_; try ((repeat ((fail_if_success (refine hK _ _ ?_)); clear hK K)); refine hK _ _ ?_; clear hK K)) | (refine a_bin ?_ ?_ <;> intro _ <;> try (exfalso; omega)) | refine a_ld hl ?_ | (refine a_st hl ?_; clear hl; intro _ hl) | refine a_ix (fun _ => ?_) | fail)
  have hacc0 : LH w12 (fun _ => False) w12 ([] ++ []) := LH.start _ _
  refine wk_loopH [] rfl (fun q : Nat × Value × List (Nat × Obj) => [(3, .slice ca c.length cc), (4, .slice ta T.length tc), (5, str s), (6, .pointer (some ⟨b6, 0, none⟩)), (7, .pointer (some ⟨b7, 0, none⟩)), (8, .pointer (some ⟨b8, 0, none⟩)), (13, .bool true), (14, .pointer (some ⟨b14, 0, none⟩)), (15, q.2.1), (16, .int .i64 (q.1 : Int))]) (fun q w' => q.1 ≤ T.length ∧ LH w12 (fun _ => False) w' ([] ++ q.2.2) ∧ Acc q.2.1 1 9 ((T.take q.1).filter (fun n => decide (n ≠ s))).length (strsL ((T.take q.1).filter (fun n => decide (n ≠ s)))) q.2.2) (fun q => T.length - q.1) (0, .slice none 0 0, []) ⟨rfl, rfl, rfl, rfl, rfl, rfl, rfl, rfl, rfl, rfl, trivial⟩ ⟨Nat.zero_le _, hacc0, Acc.nil _ _⟩ ?_
  clear hacc0
  rintro ⟨i, v1, acc⟩ t w13 ⟨hi, hl, ha⟩
  simp only at hi hl ha
  obtain ⟨pa, pc, rfl⟩ := ha.shape
  have hfl : ((T.take i).filter (fun n => decide (n ≠ s))).length ≤ i := Nat.le_trans (List.length_filter_le _ _) (by simp; omega)
  by_cases hi1 : i < T.length
  · obtain ⟨bt, ot, hp, hr⟩ := Sl.text (ht.ext hl.done) rfl hi1
    have htk := List.take_succ_eq_append_getElem hi1
    have hfs : (T.take (i + 1)).filter (fun n => decide (n ≠ s)) = (T.take i).filter (fun n => decide (n ≠ s)) ++ (if T[i] = s then [] else [T[i]]) := by
      rw [htk, List.filter_append]
      congr 1
      by_cases h : T[i] = s <;> simp [h]
    generalize T[i] = n at *
    generalize hTi : (T.take i).filter (fun n => decide (n ≠ s)) = Ti at *
    repeat' (first | refine a_mov ?_ | refine a_asg ?_ | refine a_binN ?_ | refine a_notd ?_ | refine a_notb ?_ | refine a_nilc ?_ | refine a_fa ?_ | refine a_ext ?_ | refine a_lenv ?_ | refine a_lens ?_ | refine a_pick_t ?_ | refine a_pick_f ?_ | refine a_not ?_ | refine a_nilf ?_ | (refine o_nil (hK _ _ ?_); clear hK K) | refine wk_reg ?_ | refine wk_seq fun K hK => ?_ | (refine wk_skip (hK _ _ ?_); clear hK K) | (refine wk_label (hK _ _ ?_); clear hK K) | refine wk_scope ?_ | refine wk_block ?_ | refine wk_cond_t rfl ?_ | refine wk_cond_f rfl ?_ | (refine wk_exit ?_; (repeat (refine blockK_other rfl ?_)); refine blockK_same ?_; try ((repeat ((fail_if_success (refine hK _ _ ?_)); clear hK K)); refine hK _ _ ?_; clear hK K)) | (refine a_bin ?_ ?_ <;> intro _ <;> try (exfalso; omega)) | refine a_ld hl ?_ | (refine a_st hl ?_; clear hl; intro _ hl) | refine a_ix (fun _ => ?_) | refine a_idx (c := 1) i hp ?_ | refine a_row hr ?_)
    refine o_nesT (a := n) (b := s) rfl rfl rfl ?_ ?_ <;> intro hns
    · rw [if_neg hns] at hfs
      repeat' (first | refine a_mov ?_ | refine a_asg ?_ | refine a_binN ?_ | refine a_notd ?_ | refine a_notb ?_ | refine a_nilc ?_ | refine a_fa ?_ | refine a_ext ?_ | refine a_lenv ?_ | refine a_lens ?_ | refine a_pick_t ?_ | refine a_pick_f ?_ | refine a_not ?_ | refine a_nilf ?_ | (refine o_nil (hK _ _ ?_); clear hK K) | refine wk_reg ?_ | refine wk_seq fun K hK => ?_ | (refine wk_skip (hK _ _ ?_); clear hK K) | (refine wk_label (hK _ _ ?_); clear hK K) | refine wk_scope ?_ | refine wk_block ?_ | refine wk_cond_t rfl ?_ | refine wk_cond_f rfl ?_ | (refine wk_exit ?_; (repeat (refine blockK_other rfl ?_)); refine blockK_same ?_; try ((repeat ((fail_if_success (refine hK _ _ ?_)); clear hK K)); refine hK _ _ ?_; clear hK K)) | (refine a_bin ?_ ?_ <;> intro _ <;> try (exfalso; omega)) | refine a_ld hl ?_ | (refine a_st hl ?_; clear hl; intro _ hl) | refine a_ix (fun _ => ?_) | refine a_idx (c := 1) i hp ?_ | refine a_row hr ?_)
      refine o_buildSlice hl [str n] rfl rfl (by simp only [str_eq]; kernel_rfl) ?_
      intro b10 w14 hb10 hl2
      refine o_append (bl' := [(b10, .cells #[str n] 9 (0, 0))]) (q := 1) (bytes := 16) (us := [str n]) hl2 ha (hl2.rowL (vs := [str n]) 0 0 1 rfl) rfl (str_one _) (by omega) (by omega) (by omega) rfl rfl rfl rfl rfl ?_
      clear hl hl2
      intro v' w15 acc' hl ha'
      repeat' (first | refine a_mov ?_ | refine a_asg ?_ | refine a_binN ?_ | refine a_notd ?_ | refine a_notb ?_ | refine a_nilc ?_ | refine a_fa ?_ | refine a_ext ?_ | refine a_lenv ?_ | refine a_lens ?_ | refine a_pick_t ?_ | refine a_pick_f ?_ | refine a_not ?_ | refine a_nilf ?_ | (refine o_nil (hK _ _ ?_); clear hK K) | refine wk_reg ?_ | refine wk_seq fun K hK => ?_ | (refine wk_skip (hK _ _ ?_); clear hK K) | (refine wk_label (hK _ _ ?_); clear hK K) | refine wk_scope ?_ | refine wk_block ?_ | refine wk_cond_t rfl ?_ | refine wk_cond_f rfl ?_ | (refine wk_exit ?_; (repeat (refine blockK_other rfl ?_)); refine blockK_same ?_; try ((repeat ((fail_if_success (refine hK _ _ ?_)); clear hK K)); refine hK _ _ ?_; clear hK K)) | (refine a_bin ?_ ?_ <;> intro _ <;> try (exfalso; omega)) | refine a_ld hl ?_ | (refine a_st hl ?_; clear hl; intro _ hl) | refine a_ix (fun _ => ?_) | fail)
      refine o_nil ⟨(i + 1, v', acc'), ⟨rfl, rfl, rfl, rfl, rfl, rfl, rfl, rfl, rfl, rfl, trivial⟩, rfl, ⟨hi1, hl.sub (List.sublist_cons_self _ _), ?_⟩, by simp only; omega⟩
      simp only [hfs]
      rw [strsL_snoc, List.length_append]
      exact ha'
    · rw [if_pos hns, List.append_nil] at hfs
      repeat' (first | refine a_mov ?_ | refine a_asg ?_ | refine a_binN ?_ | refine a_notd ?_ | refine a_notb ?_ | refine a_nilc ?_ | refine a_fa ?_ | refine a_ext ?_ | refine a_lenv ?_ | refine a_lens ?_ | refine a_pick_t ?_ | refine a_pick_f ?_ | refine a_not ?_ | refine a_nilf ?_ | (refine o_nil (hK _ _ ?_); clear hK K) | refine wk_reg ?_ | refine wk_seq fun K hK => ?_ | (refine wk_skip (hK _ _ ?_); clear hK K) | (refine wk_label (hK _ _ ?_); clear hK K) | refine wk_scope ?_ | refine wk_block ?_ | refine wk_cond_t rfl ?_ | refine wk_cond_f rfl ?_ | (refine wk_exit ?_; (repeat (refine blockK_other rfl ?_)); refine blockK_same ?_; try ((repeat ((fail_if_success (refine hK _ _ ?_)); clear hK K)); refine hK _ _ ?_; clear hK K)) | (refine a_bin ?_ ?_ <;> intro _ <;> try (exfalso; omega)) | refine a_ld hl ?_ | (refine a_st hl ?_; clear hl; intro _ hl) | refine a_ix (fun _ => ?_) | fail)
      refine o_nil ⟨(i + 1, .slice pa Ti.length pc, acc), ⟨rfl, rfl, rfl, rfl, rfl, rfl, rfl, rfl, rfl, rfl, trivial⟩, rfl, ⟨hi1, hl, ?_⟩, by simp only; omega⟩
      simp only [hfs]
      exact ha
  have hie : i = T.length := by omega
  generalize hTi : (T.take i).filter (fun n => decide (n ≠ s)) = Ti at *
  rw [hie, List.take_of_length_le (Nat.le_refl _)] at hTi
  have hx := hl.done
  replace rg := rg.ext hx
  replace hke := hke.ext hx
  replace he := he.trans hx; replace rf := rf.ext hx; replace ry := ry.ext hx; replace rd' := rd'.ext hx; replace hkf := hkf.ext hx; replace hky := hky.ext hx; replace hd := hd.ext hx; replace hc := hc.ext hx; replace ht := ht.ext hx; clear hx
  have hTl : Ti.length ≤ 40 := by rw [← hTi]; exact Nat.le_trans (List.length_filter_le _ _) hT40
  have htw : ∀ b, termsWith T s b = Ti ++ (if b then [s] else []) := fun b => by unfold termsWith; rw [hTi]
  repeat' (first | refine a_mov ?_ | refine a_asg ?_ | refine a_binN ?_ | refine a_notd ?_ | refine a_notb ?_ | refine a_nilc ?_ | refine a_fa ?_ | refine a_ext ?_ | refine a_lenv ?_ | refine a_lens ?_ | refine a_pick_t ?_ | refine a_pick_f ?_ | refine a_not ?_ | refine a_nilf ?_ | (refine o_nil (hK _ _ ?_); clear hK K) | refine wk_reg ?_ | refine wk_seq fun K hK => ?_ | (refine wk_skip (hK _ _ ?_); clear hK K) | (refine wk_label (hK _ _ ?_); clear hK K) | refine wk_scope ?_ | refine wk_block ?_ | refine wk_cond_t rfl ?_ | refine wk_cond_f rfl ?_ | (refine wk_exit ?_; (repeat (refine blockK_other rfl ?_)); refine blockK_same ?_; try ((repeat ((fail_if_success (refine hK _ _ ?_)); clear hK K)); refine hK _ _ ?_; clear hK K)) | (refine a_bin ?_ ?_ <;> intro _ <;> try (exfalso; omega)) | refine a_ld hl ?_ | (refine a_st hl ?_; clear hl; intro _ hl) | refine a_ix (fun _ => ?_) | refine a_all ry ?_ | refine a_all rd' ?_)
  refine a_fn (holds_calls F c T nF nC nT tF y w13 _ _ _ _ _ hky (fun b h => h) shy (by omega) hd hc ht) ?_
  rintro _ w14 ⟨rfl, hx⟩
  replace hl := hl.ext hx
  replace rg := rg.ext hx
  replace hke := hke.ext hx
  replace he := he.trans hx; replace rf := rf.ext hx; replace ry := ry.ext hx; replace rd' := rd'.ext hx; replace hkf := hkf.ext hx; replace hky := hky.ext hx; replace hd := hd.ext hx; replace hc := hc.ext hx; replace ht := ht.ext hx; clear hx
  cases hhb : holdsB F c T y
  · have hsl := fin w14 (.slice pa Ti.length pc) false hl.done hhb.symm (by rw [htw]; simpa using hl.acc_sl ha)
    repeat' (first | refine a_mov ?_ | refine a_asg ?_ | refine a_binN ?_ | refine a_notd ?_ | refine a_notb ?_ | refine a_nilc ?_ | refine a_fa ?_ | refine a_ext ?_ | refine a_lenv ?_ | refine a_lens ?_ | refine a_pick_t ?_ | refine a_pick_f ?_ | refine a_not ?_ | refine a_nilf ?_ | (refine o_nil (hK _ _ ?_); clear hK K) | refine wk_reg ?_ | refine wk_seq fun K hK => ?_ | (refine wk_skip (hK _ _ ?_); clear hK K) | (refine wk_label (hK _ _ ?_); clear hK K) | refine wk_scope ?_ | refine wk_block ?_ | refine wk_cond_t rfl ?_ | refine wk_cond_f rfl ?_ | (refine wk_exit ?_; (repeat (refine blockK_other rfl ?_)); refine blockK_same ?_; try ((repeat ((fail_if_success (refine hK _ _ ?_)); clear hK K)); refine hK _ _ ?_; clear hK K)) | (refine a_bin ?_ ?_ <;> intro _ <;> try (exfalso; omega)) | refine a_ld hl ?_ | (refine a_st hl ?_; clear hl; intro _ hl) | refine a_ix (fun _ => ?_) | fail)
    have hg := fun w' (hw' : Ext w14 w') => holds_calls F c T nF nC nT tF g w' _ _ _ _ _ (hke.ext hw') (fun b h => h) she (by omega) (hd.ext hw') (hc.ext hw') (ht.ext hw')
    refine wk_grow [([0, 1, 2, 3, 4, 5, 6, 7, 8, 9, 10, 11, 12, 13, 14], [])] ?_
    refine g_end ?_
    repeat' (first | refine x_mov ?_ | refine x_asg ?_ | refine x_fa ?_ | refine x_ext ?_ | refine x_binN ?_ | refine x_notd ?_ | refine x_notb ?_ | refine x_pick_t ?_ | refine x_pick_f ?_ | refine x_nilc ?_ | refine x_skip ?_ | refine x_lens ?_ | refine x_lenv ?_ | refine x_ix (fun _ => ?_) | (refine x_bin ?_ ?_ <;> intro _ <;> try (exfalso; omega)) | refine x_all (fun w_ hw_ => rg.ext hw_) ?_ | refine x_all (fun w_ hw_ => rf.ext hw_) ?_ | refine x_all (fun w_ hw_ => rd'.ext hw_) ?_)
    refine x_fn hg ?_
    repeat' (first | refine x_mov ?_ | refine x_asg ?_ | refine x_fa ?_ | refine x_ext ?_ | refine x_binN ?_ | refine x_notd ?_ | refine x_notb ?_ | refine x_pick_t ?_ | refine x_pick_f ?_ | refine x_nilc ?_ | refine x_skip ?_ | refine x_lens ?_ | refine x_lenv ?_ | refine x_ix (fun _ => ?_) | (refine x_bin ?_ ?_ <;> intro _ <;> try (exfalso; omega)) | refine x_all (fun w_ hw_ => rg.ext hw_) ?_ | refine x_all (fun w_ hw_ => rf.ext hw_) ?_ | refine x_all (fun w_ hw_ => rd'.ext hw_) ?_)
    refine x_fn hsl ?_
    refine x_eqB ?_
    rw [beq_self_eq_true]
    repeat' (first | refine x_mov ?_ | refine x_asg ?_ | refine x_fa ?_ | refine x_ext ?_ | refine x_binN ?_ | refine x_notd ?_ | refine x_notb ?_ | refine x_pick_t ?_ | refine x_pick_f ?_ | refine x_nilc ?_ | refine x_skip ?_ | refine x_lens ?_ | refine x_lenv ?_ | refine x_ix (fun _ => ?_) | (refine x_bin ?_ ?_ <;> intro _ <;> try (exfalso; omega)) | fail)
    refine x_nil fun w15 hw15 => hK _ _ ?_
    clear hK K
    repeat' (first | refine a_mov ?_ | refine a_asg ?_ | refine a_binN ?_ | refine a_notd ?_ | refine a_notb ?_ | refine a_nilc ?_ | refine a_fa ?_ | refine a_ext ?_ | refine a_lenv ?_ | refine a_lens ?_ | refine a_pick_t ?_ | refine a_pick_f ?_ | refine a_not ?_ | refine a_nilf ?_ | (refine o_nil (hK _ _ ?_); clear hK K) | refine wk_reg ?_ | refine wk_seq fun K hK => ?_ | (refine wk_skip (hK _ _ ?_); clear hK K) | (refine wk_label (hK _ _ ?_); clear hK K) | refine wk_scope ?_ | refine wk_block ?_ | refine wk_cond_t rfl ?_ | refine wk_cond_f rfl ?_ | (refine wk_exit ?_; (repeat (refine blockK_other rfl ?_)); refine blockK_same ?_; try ((repeat ((fail_if_success (refine hK _ _ ?_)); clear hK K)); refine hK _ _ ?_; clear hK K)) | (refine a_bin ?_ ?_ <;> intro _ <;> try (exfalso; omega)) | refine a_ld hl ?_ | (refine a_st hl ?_; clear hl; intro _ hl) | refine a_ix (fun _ => ?_) | fail)
    refine wk_ret (retQ_tmp1 Tryd.results6 (by decide) rfl (by conv => lhs; whnf) ?_)
    exact ⟨rfl, he.trans hw15⟩
  · repeat' (first | refine a_mov ?_ | refine a_asg ?_ | refine a_binN ?_ | refine a_notd ?_ | refine a_notb ?_ | refine a_nilc ?_ | refine a_fa ?_ | refine a_ext ?_ | refine a_lenv ?_ | refine a_lens ?_ | refine a_pick_t ?_ | refine a_pick_f ?_ | refine a_not ?_ | refine a_nilf ?_ | (refine o_nil (hK _ _ ?_); clear hK K) | refine wk_reg ?_ | refine wk_seq fun K hK => ?_ | (refine wk_skip (hK _ _ ?_); clear hK K) | (refine wk_label (hK _ _ ?_); clear hK K) | refine wk_scope ?_ | refine wk_block ?_ | refine wk_cond_t rfl ?_ | refine wk_cond_f rfl ?_ | (refine wk_exit ?_; (repeat (refine blockK_other rfl ?_)); refine blockK_same ?_; try ((repeat ((fail_if_success (refine hK _ _ ?_)); clear hK K)); refine hK _ _ ?_; clear hK K)) | (refine a_bin ?_ ?_ <;> intro _ <;> try (exfalso; omega)) | refine a_ld hl ?_ | (refine a_st hl ?_; clear hl; intro _ hl) | refine a_ix (fun _ => ?_) | fail)
    refine o_buildSlice hl [str s] rfl rfl (by simp only [str_eq]; kernel_rfl) ?_
    intro b10 w15 hb10 hl2
    refine o_append (bl' := [(b10, .cells #[str s] 9 (0, 0))]) (q := 1) (bytes := 16) (us := [str s]) hl2 ha (hl2.rowL (vs := [str s]) 0 0 1 rfl) rfl (str_one _) (by omega) (by omega) (by omega) rfl rfl rfl rfl rfl ?_
    clear hl hl2 rg rf rd' hke hd hc ht he
    intro v' w16 acc' hl ha'
    obtain ⟨rg, rf, rd', hke, hd, hc, ht, he⟩ := base
    have hx := hl.done
    have hsl := fin w16 v' true hx hhb.symm (by rw [htw, if_pos rfl, strsL_snoc]; exact hl.acc_sl ha')
    replace rg := rg.ext hx
    replace rf := rf.ext hx
    replace rd' := rd'.ext hx
    replace hke := hke.ext hx
    replace hd := hd.ext hx
    replace hc := hc.ext hx
    replace ht := ht.ext hx
    replace he := he.trans hx
    repeat' (first | refine a_mov ?_ | refine a_asg ?_ | refine a_binN ?_ | refine a_notd ?_ | refine a_notb ?_ | refine a_nilc ?_ | refine a_fa ?_ | refine a_ext ?_ | refine a_lenv ?_ | refine a_lens ?_ | refine a_pick_t ?_ | refine a_pick_f ?_ | refine a_not ?_ | refine a_nilf ?_ | (refine o_nil (hK _ _ ?_); clear hK K) | refine wk_reg ?_ | refine wk_seq fun K hK => ?_ | (refine wk_skip (hK _ _ ?_); clear hK K) | (refine wk_label (hK _ _ ?_); clear hK K) | refine wk_scope ?_ | refine wk_block ?_ | refine wk_cond_t rfl ?_ | refine wk_cond_f rfl ?_ | (refine wk_exit ?_; (repeat (refine blockK_other rfl ?_)); refine blockK_same ?_; try ((repeat ((fail_if_success (refine hK _ _ ?_)); clear hK K)); refine hK _ _ ?_; clear hK K)) | (refine a_bin ?_ ?_ <;> intro _ <;> try (exfalso; omega)) | refine a_ld hl ?_ | (refine a_st hl ?_; clear hl; intro _ hl) | refine a_ix (fun _ => ?_) | fail)
    have hg := fun w' (hw' : Ext w16 w') => holds_calls F c T nF nC nT tF g w' _ _ _ _ _ (hke.ext hw') (fun b h => h) she (by omega) (hd.ext hw') (hc.ext hw') (ht.ext hw')
    refine wk_grow [([0, 1, 2, 3, 4, 5, 6, 7, 8, 9, 10, 11, 12, 13, 14], [])] ?_
    refine g_end ?_
    repeat' (first | refine x_mov ?_ | refine x_asg ?_ | refine x_fa ?_ | refine x_ext ?_ | refine x_binN ?_ | refine x_notd ?_ | refine x_notb ?_ | refine x_pick_t ?_ | refine x_pick_f ?_ | refine x_nilc ?_ | refine x_skip ?_ | refine x_lens ?_ | refine x_lenv ?_ | refine x_ix (fun _ => ?_) | (refine x_bin ?_ ?_ <;> intro _ <;> try (exfalso; omega)) | refine x_all (fun w_ hw_ => rg.ext hw_) ?_ | refine x_all (fun w_ hw_ => rf.ext hw_) ?_ | refine x_all (fun w_ hw_ => rd'.ext hw_) ?_)
    refine x_fn hg ?_
    repeat' (first | refine x_mov ?_ | refine x_asg ?_ | refine x_fa ?_ | refine x_ext ?_ | refine x_binN ?_ | refine x_notd ?_ | refine x_notb ?_ | refine x_pick_t ?_ | refine x_pick_f ?_ | refine x_nilc ?_ | refine x_skip ?_ | refine x_lens ?_ | refine x_lenv ?_ | refine x_ix (fun _ => ?_) | (refine x_bin ?_ ?_ <;> intro _ <;> try (exfalso; omega)) | refine x_all (fun w_ hw_ => rg.ext hw_) ?_ | refine x_all (fun w_ hw_ => rf.ext hw_) ?_ | refine x_all (fun w_ hw_ => rd'.ext hw_) ?_)
    refine x_fn hsl ?_
    refine x_eqB ?_
    rw [beq_self_eq_true]
    repeat' (first | refine x_mov ?_ | refine x_asg ?_ | refine x_fa ?_ | refine x_ext ?_ | refine x_binN ?_ | refine x_notd ?_ | refine x_notb ?_ | refine x_pick_t ?_ | refine x_pick_f ?_ | refine x_nilc ?_ | refine x_skip ?_ | refine x_lens ?_ | refine x_lenv ?_ | refine x_ix (fun _ => ?_) | (refine x_bin ?_ ?_ <;> intro _ <;> try (exfalso; omega)) | fail)
    refine x_nil fun w17 hw17 => hK _ _ ?_
    clear hK K
    repeat' (first | refine a_mov ?_ | refine a_asg ?_ | refine a_binN ?_ | refine a_notd ?_ | refine a_notb ?_ | refine a_nilc ?_ | refine a_fa ?_ | refine a_ext ?_ | refine a_lenv ?_ | refine a_lens ?_ | refine a_pick_t ?_ | refine a_pick_f ?_ | refine a_not ?_ | refine a_nilf ?_ | (refine o_nil (hK _ _ ?_); clear hK K) | refine wk_reg ?_ | refine wk_seq fun K hK => ?_ | (refine wk_skip (hK _ _ ?_); clear hK K) | (refine wk_label (hK _ _ ?_); clear hK K) | refine wk_scope ?_ | refine wk_block ?_ | refine wk_cond_t rfl ?_ | refine wk_cond_f rfl ?_ | (refine wk_exit ?_; (repeat (refine blockK_other rfl ?_)); refine blockK_same ?_; try ((repeat ((fail_if_success (refine hK _ _ ?_)); clear hK K)); refine hK _ _ ?_; clear hK K)) | (refine a_bin ?_ ?_ <;> intro _ <;> try (exfalso; omega)) | refine a_ld hl ?_ | (refine a_st hl ?_; clear hl; intro _ hl) | refine a_ix (fun _ => ?_) | fail)
    refine wk_ret (retQ_tmp1 Tryd.results6 (by decide) rfl (by conv => lhs; whnf) ?_)
    exact ⟨rfl, he.trans hw17⟩
end Go.Proofs
