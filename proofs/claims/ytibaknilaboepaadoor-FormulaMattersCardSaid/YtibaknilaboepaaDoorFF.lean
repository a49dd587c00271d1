/-
  Cases: does a case fit (fact.Fits).
-/
import Derived.Test.YtibaknilaboepaaDoorFB
import Derived.Test.YtibaknilaboepaaDoorFD
import Derived.Test.YtibaknilaboepaaDoorLD
import Derived.Test.YtibaknilaboepaaDoorFC
set_option linter.unusedVariables false
set_option linter.unusedSimpArgs false
set_option linter.unnecessarySimpa false
set_option maxRecDepth 10000
namespace Go.Proofs
open Go Go.Pd Go.Lexs Go.Fin Go.Fo
attribute [local irreducible] OpsL W RetQ OpsQ OpsC

set_option maxHeartbeats 2000000 in
theorem fits_calls {F : List Fact} {c : List Int} {v cv : Value} {w : World} (hd : Sl w v 4 (factsL F)) (hv : Sl w cv 1 (intsL c)) (hF : F.length ≤ 9223372036854775806) (hC : c.length ≤ 9223372036854775806) (hn : ∀ f ∈ F, f.name.length ≤ 9223372036854775806) :
    Calls Tryd.prog 29 #[.agg #[v], cv] w (fun e w' => ∃ x, e = .returned x ∧ x = .bool (fitsB F c) ∧ Ext w w') := by
  obtain ⟨pa, ca, rfl, -⟩ := hd.shape (factsL_len F) (by omega)
  obtain ⟨pc, cc, rfl, -⟩ := hv.shape (intsL_len c) (by omega)
  have hfb : fitsB F c = (validD F && fitsC F c) := rfl
  refine calls_of Tryd.func29 rfl Tryd.ntmps29 rfl ?_
  refine wk_seq fun K hK => ?_
  refine wk_reg ?_
  refine o_box (LH.start w (fun _ => False)) [.slice pa F.length ca] rfl rfl rfl ?_
  intro b w1 hb hl
  repeat' (first | refine a_mov ?_ | refine a_asg ?_ | refine a_binN ?_ | refine a_notd ?_ | refine a_notb ?_ | refine a_nilc ?_ | refine a_fa ?_ | refine a_ext ?_ | refine a_lenv ?_ | refine a_lens ?_ | refine a_pick_t ?_ | refine a_pick_f ?_ | refine a_not ?_ | refine a_nilf ?_ | (refine o_nil (hK _ _ ?_); clear hK K) | refine wk_reg ?_ | refine wk_seq fun K hK => ?_ | (refine wk_skip (hK _ _ ?_); clear hK K) | (refine wk_label (hK _ _ ?_); clear hK K) | refine wk_scope ?_ | refine wk_block ?_ | refine wk_cond_t rfl ?_ | refine wk_cond_f rfl ?_ | (refine wk_exit ?_; (repeat (refine blockK_other rfl ?_)); refine blockK_same ?_; try ((repeat ((fail_if_success (refine hK _ _ ?_)); clear hK K)); refine hK _ _ ?_; clear hK K)) | (refine a_bin ?_ ?_ <;> intro _ <;> try (exfalso; omega)) | refine a_ld hl ?_ | (refine a_st hl ?_; clear hl; intro _ hl) | refine a_ix (fun _ => ?_) | refine a_all (hl.rowL (vs := [.slice pa F.length ca]) 0 0 1 rfl) ?_)
  refine a_fn (valid_calls (hd.ext hl.done) hF hn) ?_
  rintro _ w2 ⟨rfl, he2⟩
  replace hl := hl.ext he2
  have he := hl.done
  have hr0 : Row w2 b 0 [.slice pa F.length ca] := hl.rowL (vs := [.slice pa F.length ca]) 0 0 1 rfl
  have hd1 := hd.ext he
  have hv1 := hv.ext he
  clear hl hd hv he2
  cases hvd : validD F
  · repeat' (first | refine a_mov ?_ | refine a_asg ?_ | refine a_binN ?_ | refine a_notd ?_ | refine a_notb ?_ | refine a_nilc ?_ | refine a_fa ?_ | refine a_ext ?_ | refine a_lenv ?_ | refine a_lens ?_ | refine a_pick_t ?_ | refine a_pick_f ?_ | refine a_not ?_ | refine a_nilf ?_ | (refine o_nil (hK _ _ ?_); clear hK K) | refine wk_reg ?_ | refine wk_seq fun K hK => ?_ | (refine wk_skip (hK _ _ ?_); clear hK K) | (refine wk_label (hK _ _ ?_); clear hK K) | refine wk_scope ?_ | refine wk_block ?_ | refine wk_cond_t rfl ?_ | refine wk_cond_f rfl ?_ | (refine wk_exit ?_; (repeat (refine blockK_other rfl ?_)); refine blockK_same ?_; try ((repeat ((fail_if_success (refine hK _ _ ?_)); clear hK K)); refine hK _ _ ?_; clear hK K)) | (refine a_bin ?_ ?_ <;> intro _ <;> try (exfalso; omega)) | refine a_ld hl ?_ | (refine a_st hl ?_; clear hl; intro _ hl) | refine a_ix (fun _ => ?_) | fail)
    refine wk_ret (retQ_tmp1 Tryd.results29 (by decide) rfl (by conv => lhs; whnf) ?_)
    exact ⟨by rw [hfb, hvd]; rfl, he⟩
  repeat' (first | refine a_mov ?_ | refine a_asg ?_ | refine a_binN ?_ | refine a_notd ?_ | refine a_notb ?_ | refine a_nilc ?_ | refine a_fa ?_ | refine a_ext ?_ | refine a_lenv ?_ | refine a_lens ?_ | refine a_pick_t ?_ | refine a_pick_f ?_ | refine a_not ?_ | refine a_nilf ?_ | (refine o_nil (hK _ _ ?_); clear hK K) | refine wk_reg ?_ | refine wk_seq fun K hK => ?_ | (refine wk_skip (hK _ _ ?_); clear hK K) | (refine wk_label (hK _ _ ?_); clear hK K) | refine wk_scope ?_ | refine wk_block ?_ | refine wk_cond_t rfl ?_ | refine wk_cond_f rfl ?_ | (refine wk_exit ?_; (repeat (refine blockK_other rfl ?_)); refine blockK_same ?_; try ((repeat ((fail_if_success (refine hK _ _ ?_)); clear hK K)); refine hK _ _ ?_; clear hK K)) | (refine a_bin ?_ ?_ <;> intro _ <;> try (exfalso; omega)) | refine a_ld hl ?_ | (refine a_st hl ?_; clear hl; intro _ hl) | refine a_ix (fun _ => ?_) | refine a_row hr0 ?_)
  · refine wk_ret (retQ_tmp1 Tryd.results29 (by decide) rfl (by conv => lhs; whnf) ?_)
    exact ⟨by rw [hfb, fitsC_len (by omega), Bool.and_false], he⟩
  have hlen : c.length = F.length := by omega
  have hfb : fitsB F c = fitsC F c := by rw [hfb, hvd]; rfl
  refine wk_loopH [] rfl (fun k : Nat => [(1, .slice pc c.length cc), (19, .slice pa F.length ca), (20, .int .i64 (F.length : Int)), (21, .int .i64 (k : Int))]) (fun k w' => (k ≤ F.length ∧ ∀ i (h : i < F.length) (h' : i < c.length), i < k → F[i].lo ≤ c[i] ∧ c[i] ≤ F[i].hi) ∧ Ext w2 w') (fun k => F.length - k) 0 ⟨rfl, rfl, rfl, rfl, trivial⟩ ⟨⟨by omega, fun j _ _ h => by omega⟩, .refl _ _⟩ ?_
  rintro k t w3 ⟨⟨hk, hno⟩, hw⟩
  replace hr0 := hr0.ext hw
  replace hd1 := hd1.ext hw
  replace hv1 := hv1.ext hw
  replace he := he.trans hw
  by_cases hk1 : k < F.length
  · have hk2 : k < c.length := by omega
    obtain ⟨bf, of, hpf, hrf⟩ := Sl.fact hd1 rfl hk1
    obtain ⟨bc, oc, hpc, hrc⟩ := Sl.intAt hv1 rfl hk2
    have hbad := fitsC_false hk1 hk2
    have hgood : (F[k].lo ≤ c[k] ∧ c[k] ≤ F[k].hi) → ∀ i (h : i < F.length) (h' : i < c.length), i < k + 1 → F[i].lo ≤ c[i] ∧ c[i] ≤ F[i].hi := fun h i hi hi' hik => by
      by_cases e : i = k
      · subst e; exact h
      · exact hno i hi hi' (by omega)
    clear hno
    have hone := factL_one F[k]
    generalize F[k] = f at *
    generalize c[k] = z at *
    repeat' (first | refine a_mov ?_ | refine a_asg ?_ | refine a_binN ?_ | refine a_notd ?_ | refine a_notb ?_ | refine a_nilc ?_ | refine a_fa ?_ | refine a_ext ?_ | refine a_lenv ?_ | refine a_lens ?_ | refine a_pick_t ?_ | refine a_pick_f ?_ | refine a_not ?_ | refine a_nilf ?_ | (refine o_nil (hK _ _ ?_); clear hK K) | refine wk_reg ?_ | refine wk_seq fun K hK => ?_ | (refine wk_skip (hK _ _ ?_); clear hK K) | (refine wk_label (hK _ _ ?_); clear hK K) | refine wk_scope ?_ | refine wk_block ?_ | refine wk_cond_t rfl ?_ | refine wk_cond_f rfl ?_ | (refine wk_exit ?_; (repeat (refine blockK_other rfl ?_)); refine blockK_same ?_; try ((repeat ((fail_if_success (refine hK _ _ ?_)); clear hK K)); refine hK _ _ ?_; clear hK K)) | (refine a_bin ?_ ?_ <;> intro _ <;> try (exfalso; omega)) | refine a_ld hl ?_ | (refine a_st hl ?_; clear hl; intro _ hl) | refine a_ix (fun _ => ?_) | refine a_idx (c := 4) k hpf ?_ | refine a_all hrf ?_)
    refine o_alloc (LH.start w3 (fun _ => False)) [.string ⟨#[]⟩, .int .i64 0, .int .i64 0, .int .i64 0] rfl rfl ?_
    intro bg w4 hbg hl
    repeat' (first | refine a_mov ?_ | refine a_asg ?_ | refine a_binN ?_ | refine a_notd ?_ | refine a_notb ?_ | refine a_nilc ?_ | refine a_fa ?_ | refine a_ext ?_ | refine a_lenv ?_ | refine a_lens ?_ | refine a_pick_t ?_ | refine a_pick_f ?_ | refine a_not ?_ | refine a_nilf ?_ | (refine o_nil (hK _ _ ?_); clear hK K) | refine wk_reg ?_ | refine wk_seq fun K hK => ?_ | (refine wk_skip (hK _ _ ?_); clear hK K) | (refine wk_label (hK _ _ ?_); clear hK K) | refine wk_scope ?_ | refine wk_block ?_ | refine wk_cond_t rfl ?_ | refine wk_cond_f rfl ?_ | (refine wk_exit ?_; (repeat (refine blockK_other rfl ?_)); refine blockK_same ?_; try ((repeat ((fail_if_success (refine hK _ _ ?_)); clear hK K)); refine hK _ _ ?_; clear hK K)) | (refine a_bin ?_ ?_ <;> intro _ <;> try (exfalso; omega)) | refine a_ld hl ?_ | (refine a_st hl ?_; clear hl; intro _ hl) | refine a_ix (fun _ => ?_) | fail)
    refine o_putN (us := [str f.name, .int .i64 f.kind, .int .i64 f.lo, .int .i64 f.hi]) hl rfl rfl rfl hone rfl (.all rfl rfl) ?_
    clear hl
    intro w5 hl
    have hw5 := hl.done
    have hrg : Row w5 bg 0 [str f.name, .int .i64 f.kind, .int .i64 f.lo, .int .i64 f.hi] := hl.rowL (vs := [str f.name, .int .i64 f.kind, .int .i64 f.lo, .int .i64 f.hi]) 0 0 4 rfl
    replace hrc := hrc.ext hw5
    clear hl
    repeat' (first | refine a_mov ?_ | refine a_asg ?_ | refine a_binN ?_ | refine a_notd ?_ | refine a_notb ?_ | refine a_nilc ?_ | refine a_fa ?_ | refine a_ext ?_ | refine a_lenv ?_ | refine a_lens ?_ | refine a_pick_t ?_ | refine a_pick_f ?_ | refine a_not ?_ | refine a_nilf ?_ | (refine o_nil (hK _ _ ?_); clear hK K) | refine wk_reg ?_ | refine wk_seq fun K hK => ?_ | (refine wk_skip (hK _ _ ?_); clear hK K) | (refine wk_label (hK _ _ ?_); clear hK K) | refine wk_scope ?_ | refine wk_block ?_ | refine wk_cond_t rfl ?_ | refine wk_cond_f rfl ?_ | (refine wk_exit ?_; (repeat (refine blockK_other rfl ?_)); refine blockK_same ?_; try ((repeat ((fail_if_success (refine hK _ _ ?_)); clear hK K)); refine hK _ _ ?_; clear hK K)) | (refine a_bin ?_ ?_ <;> intro _ <;> try (exfalso; omega)) | refine a_ld hl ?_ | (refine a_st hl ?_; clear hl; intro _ hl) | refine a_ix (fun _ => ?_) | fail)
    by_cases hlo : z < f.lo
    · have hbad := hbad (by omega)
      refine wk_quiet [0, 1, 2, 3, 4, 5, 6, 7, 8, 9, 10, 11, 12, 13, 14, 15] ?_
      repeat' (first | refine q_mov ?_ | refine q_asg ?_ | refine q_fa ?_ | refine q_ext ?_ | refine q_binN ?_ | refine q_notd ?_ | refine q_notb ?_ | refine q_pick_t ?_ | refine q_pick_f ?_ | refine q_nilc ?_ | refine q_skip ?_ | refine q_lens ?_ | refine q_lenv ?_ | refine q_nil ?_ | refine q_ix (fun _ => ?_) | (refine q_bin ?_ ?_ <;> intro _ <;> try (exfalso; omega)) | refine q_idx (c := 1) k hpc ?_ | refine q_row (fun w_ hw_ => hrc.ext hw_) ?_ | refine q_row (fun w_ hw_ => hrg.ext hw_) ?_ | fail)
      intro wm hwm
      refine hK _ _ ?_
      clear hK K
      repeat' (first | refine a_mov ?_ | refine a_asg ?_ | refine a_binN ?_ | refine a_notd ?_ | refine a_notb ?_ | refine a_nilc ?_ | refine a_fa ?_ | refine a_ext ?_ | refine a_lenv ?_ | refine a_lens ?_ | refine a_pick_t ?_ | refine a_pick_f ?_ | refine a_not ?_ | refine a_nilf ?_ | (refine o_nil (hK _ _ ?_); clear hK K) | refine wk_reg ?_ | refine wk_seq fun K hK => ?_ | (refine wk_skip (hK _ _ ?_); clear hK K) | (refine wk_label (hK _ _ ?_); clear hK K) | refine wk_scope ?_ | refine wk_block ?_ | refine wk_cond_t rfl ?_ | refine wk_cond_f rfl ?_ | (refine wk_exit ?_; (repeat (refine blockK_other rfl ?_)); refine blockK_same ?_; try ((repeat ((fail_if_success (refine hK _ _ ?_)); clear hK K)); refine hK _ _ ?_; clear hK K)) | (refine a_bin ?_ ?_ <;> intro _ <;> try (exfalso; omega)) | refine a_ld hl ?_ | (refine a_st hl ?_; clear hl; intro _ hl) | refine a_ix (fun _ => ?_) | fail)
      refine wk_ret (retQ_tmp1 Tryd.results29 (by decide) rfl (by conv => lhs; whnf) ?_)
      exact ⟨by rw [hfb, hbad], (he.trans hw5).trans hwm⟩
    by_cases hhi : z > f.hi
    · have hbad := hbad (by omega)
      refine wk_quiet [0, 1, 2, 3, 4, 5, 6, 7, 8, 9, 10, 11, 12, 13, 14, 15] ?_
      repeat' (first | refine q_mov ?_ | refine q_asg ?_ | refine q_fa ?_ | refine q_ext ?_ | refine q_binN ?_ | refine q_notd ?_ | refine q_notb ?_ | refine q_pick_t ?_ | refine q_pick_f ?_ | refine q_nilc ?_ | refine q_skip ?_ | refine q_lens ?_ | refine q_lenv ?_ | refine q_nil ?_ | refine q_ix (fun _ => ?_) | (refine q_bin ?_ ?_ <;> intro _ <;> try (exfalso; omega)) | refine q_idx (c := 1) k hpc ?_ | refine q_row (fun w_ hw_ => hrc.ext hw_) ?_ | refine q_row (fun w_ hw_ => hrg.ext hw_) ?_ | fail)
      intro wm hwm
      refine hK _ _ ?_
      clear hK K
      repeat' (first | refine a_mov ?_ | refine a_asg ?_ | refine a_binN ?_ | refine a_notd ?_ | refine a_notb ?_ | refine a_nilc ?_ | refine a_fa ?_ | refine a_ext ?_ | refine a_lenv ?_ | refine a_lens ?_ | refine a_pick_t ?_ | refine a_pick_f ?_ | refine a_not ?_ | refine a_nilf ?_ | (refine o_nil (hK _ _ ?_); clear hK K) | refine wk_reg ?_ | refine wk_seq fun K hK => ?_ | (refine wk_skip (hK _ _ ?_); clear hK K) | (refine wk_label (hK _ _ ?_); clear hK K) | refine wk_scope ?_ | refine wk_block ?_ | refine wk_cond_t rfl ?_ | refine wk_cond_f rfl ?_ | (refine wk_exit ?_; (repeat (refine blockK_other rfl ?_)); refine blockK_same ?_; try ((repeat ((fail_if_success (refine hK _ _ ?_)); clear hK K)); refine hK _ _ ?_; clear hK K)) | (refine a_bin ?_ ?_ <;> intro _ <;> try (exfalso; omega)) | refine a_ld hl ?_ | (refine a_st hl ?_; clear hl; intro _ hl) | refine a_ix (fun _ => ?_) | fail)
      refine wk_ret (retQ_tmp1 Tryd.results29 (by decide) rfl (by conv => lhs; whnf) ?_)
      exact ⟨by rw [hfb, hbad], (he.trans hw5).trans hwm⟩
    · refine wk_quiet [0, 1, 2, 3, 4, 5, 6, 7, 8, 9, 10, 11, 12, 13, 14, 15] ?_
      repeat' (first | refine q_mov ?_ | refine q_asg ?_ | refine q_fa ?_ | refine q_ext ?_ | refine q_binN ?_ | refine q_notd ?_ | refine q_notb ?_ | refine q_pick_t ?_ | refine q_pick_f ?_ | refine q_nilc ?_ | refine q_skip ?_ | refine q_lens ?_ | refine q_lenv ?_ | refine q_nil ?_ | refine q_ix (fun _ => ?_) | (refine q_bin ?_ ?_ <;> intro _ <;> try (exfalso; omega)) | refine q_idx (c := 1) k hpc ?_ | refine q_row (fun w_ hw_ => hrc.ext hw_) ?_ | refine q_row (fun w_ hw_ => hrg.ext hw_) ?_ | fail)
      intro wm hwm
      refine hK _ _ ?_
      clear hK K
      repeat' (first | refine a_mov ?_ | refine a_asg ?_ | refine a_binN ?_ | refine a_notd ?_ | refine a_notb ?_ | refine a_nilc ?_ | refine a_fa ?_ | refine a_ext ?_ | refine a_lenv ?_ | refine a_lens ?_ | refine a_pick_t ?_ | refine a_pick_f ?_ | refine a_not ?_ | refine a_nilf ?_ | (refine o_nil (hK _ _ ?_); clear hK K) | refine wk_reg ?_ | refine wk_seq fun K hK => ?_ | (refine wk_skip (hK _ _ ?_); clear hK K) | (refine wk_label (hK _ _ ?_); clear hK K) | refine wk_scope ?_ | refine wk_block ?_ | refine wk_cond_t rfl ?_ | refine wk_cond_f rfl ?_ | (refine wk_exit ?_; (repeat (refine blockK_other rfl ?_)); refine blockK_same ?_; try ((repeat ((fail_if_success (refine hK _ _ ?_)); clear hK K)); refine hK _ _ ?_; clear hK K)) | (refine a_bin ?_ ?_ <;> intro _ <;> try (exfalso; omega)) | refine a_ld hl ?_ | (refine a_st hl ?_; clear hl; intro _ hl) | refine a_ix (fun _ => ?_) | fail)
      exact o_nil ⟨k + 1, ⟨rfl, rfl, rfl, rfl, trivial⟩, rfl, ⟨⟨hk1, hgood (by omega)⟩, (hw.trans hw5).trans hwm⟩, by omega⟩
  · have hall := (fitsC_iff F c).2 ⟨hlen, fun i h h' => hno i h h' (by omega)⟩
    clear hno
    repeat' (first | refine a_mov ?_ | refine a_asg ?_ | refine a_binN ?_ | refine a_notd ?_ | refine a_notb ?_ | refine a_nilc ?_ | refine a_fa ?_ | refine a_ext ?_ | refine a_lenv ?_ | refine a_lens ?_ | refine a_pick_t ?_ | refine a_pick_f ?_ | refine a_not ?_ | refine a_nilf ?_ | (refine o_nil (hK _ _ ?_); clear hK K) | refine wk_reg ?_ | refine wk_seq fun K hK => ?_ | (refine wk_skip (hK _ _ ?_); clear hK K) | (refine wk_label (hK _ _ ?_); clear hK K) | refine wk_scope ?_ | refine wk_block ?_ | refine wk_cond_t rfl ?_ | refine wk_cond_f rfl ?_ | (refine wk_exit ?_; (repeat (refine blockK_other rfl ?_)); refine blockK_same ?_; try ((repeat ((fail_if_success (refine hK _ _ ?_)); clear hK K)); refine hK _ _ ?_; clear hK K)) | (refine a_bin ?_ ?_ <;> intro _ <;> try (exfalso; omega)) | refine a_ld hl ?_ | (refine a_st hl ?_; clear hl; intro _ hl) | refine a_ix (fun _ => ?_) | fail)
    refine wk_ret (retQ_tmp1 Tryd.results29 (by decide) rfl (by conv => lhs; whnf) ?_)
    exact ⟨by rw [hfb, hall], he⟩
end Go.Proofs

/-
  Formulas: formula.Holds.
-/
set_option linter.unusedVariables false
set_option linter.unusedSimpArgs false
set_option linter.unnecessarySimpa false
set_option maxRecDepth 10000
namespace Go.Fo
open Go.Lexs Go.Fin
theorem Right.op {F : List Fact} {f : Fm} (h : Right F f) : f.op = 1 ∨ (f.op = 2 ∧ f.kids.length = 0) ∨ (f.op = 3 ∧ 1 ≤ f.cmp ∧ f.cmp ≤ 6 ∧ ∃ i, idx F f.name = some i) ∨ f.op = 4 ∨ (f.op = 5 ∧ f.kids.length = 1) ∨ f.op = 6 ∨ f.op = 7 := by
  have hnode := h.node
  unfold nodeE at hnode
  split at hnode
  · cases hnode
  · rename_i hf
    split at hnode
    · cases hnode
    · split at hnode
      · cases hnode
      · rename_i hx
        have hf : formed f = true := by simpa using hf
        unfold formed at hf
        split at hf
        · cases hf
        · split at hf
          · simp only [decide_eq_true_eq] at hf; omega
          · split at hf
            · simp only [Bool.and_eq_true, decide_eq_true_eq] at hf
              refine .inr (.inr (.inl ⟨by assumption, hf.2.2.1, hf.2.2.2, ?_⟩))
              cases hi : idx F f.name with
              | none => exact absurd (.inl ⟨by assumption, hi⟩) hx
              | some i => exact ⟨i, rfl⟩
            · split at hf
              · omega
              · split at hf
                · simp only [decide_eq_true_eq] at hf; omega
                · split at hf
                  · omega
                  · cases hf
theorem all_any_not (p : Fm → Bool) (ks : List Fm) : ks.all p = !(ks.any fun k => !(p k)) := by
  induction ks with
  | nil => rfl
  | cons k ks ih => rw [List.all_cons, List.any_cons, ih, Bool.not_or, Bool.not_not]
end Go.Fo

namespace Go.Proofs
open Go Go.Pd Go.Lexs Go.Fin Go.Fo
attribute [local irreducible] OpsL W RetQ OpsQ OpsC

theorem isNaN_calls (a : Int) (w : World) : Calls Tryd.prog 68 #[.int .i64 a] w (fun e w' => ∃ x, e = .returned x ∧ x = .bool false ∧ w' = w) := by
  refine calls_of Tryd.func68 rfl Tryd.ntmps68 rfl ?_
  repeat' (first | refine a_mov ?_ | refine a_asg ?_ | refine a_binN ?_ | refine a_notd ?_ | refine a_notb ?_ | refine a_nilc ?_ | refine a_fa ?_ | refine a_ext ?_ | refine a_lenv ?_ | refine a_lens ?_ | refine a_pick_t ?_ | refine a_pick_f ?_ | refine a_not ?_ | refine a_nilf ?_ | (refine o_nil (hK _ _ ?_); clear hK K) | refine wk_reg ?_ | refine wk_seq fun K hK => ?_ | (refine wk_skip (hK _ _ ?_); clear hK K) | (refine wk_label (hK _ _ ?_); clear hK K) | refine wk_scope ?_ | refine wk_block ?_ | refine wk_cond_t rfl ?_ | refine wk_cond_f rfl ?_ | (refine wk_exit ?_; (repeat (refine blockK_other rfl ?_)); refine blockK_same ?_; try ((repeat ((fail_if_success (refine hK _ _ ?_)); clear hK K)); refine hK _ _ ?_; clear hK K)) | (refine a_bin ?_ ?_ <;> intro _ <;> try (exfalso; omega)) | refine a_ld hl ?_ | (refine a_st hl ?_; clear hl; intro _ hl) | refine a_ix (fun _ => ?_) | fail)
  refine wk_ret (retQ_tmp1 Tryd.results68 (by decide) rfl (by conv => lhs; whnf) ?_)
  exact ⟨rfl, rfl⟩

theorem cmpInt_calls (a b : Int) (w : World) : Calls Tryd.prog 61 #[.int .i64 a, .int .i64 b] w (fun e w' => ∃ x, e = .returned x ∧ x = .int .i64 (if a < b then -1 else if b < a then 1 else 0) ∧ w' = w) := by
  refine calls_of Tryd.func61 rfl Tryd.ntmps61 rfl ?_
  repeat' (first | refine a_mov ?_ | refine a_asg ?_ | refine a_binN ?_ | refine a_notd ?_ | refine a_notb ?_ | refine a_nilc ?_ | refine a_fa ?_ | refine a_ext ?_ | refine a_lenv ?_ | refine a_lens ?_ | refine a_pick_t ?_ | refine a_pick_f ?_ | refine a_not ?_ | refine a_nilf ?_ | (refine o_nil (hK _ _ ?_); clear hK K) | refine wk_reg ?_ | refine wk_seq fun K hK => ?_ | (refine wk_skip (hK _ _ ?_); clear hK K) | (refine wk_label (hK _ _ ?_); clear hK K) | refine wk_scope ?_ | refine wk_block ?_ | refine wk_cond_t rfl ?_ | refine wk_cond_f rfl ?_ | (refine wk_exit ?_; (repeat (refine blockK_other rfl ?_)); refine blockK_same ?_; try ((repeat ((fail_if_success (refine hK _ _ ?_)); clear hK K)); refine hK _ _ ?_; clear hK K)) | (refine a_bin ?_ ?_ <;> intro _ <;> try (exfalso; omega)) | refine a_ld hl ?_ | (refine a_st hl ?_; clear hl; intro _ hl) | refine a_ix (fun _ => ?_) | fail)
  refine a_fn (isNaN_calls a w) ?_
  rintro _ w ⟨rfl, rfl⟩
  repeat' (first | refine a_mov ?_ | refine a_asg ?_ | refine a_binN ?_ | refine a_notd ?_ | refine a_notb ?_ | refine a_nilc ?_ | refine a_fa ?_ | refine a_ext ?_ | refine a_lenv ?_ | refine a_lens ?_ | refine a_pick_t ?_ | refine a_pick_f ?_ | refine a_not ?_ | refine a_nilf ?_ | (refine o_nil (hK _ _ ?_); clear hK K) | refine wk_reg ?_ | refine wk_seq fun K hK => ?_ | (refine wk_skip (hK _ _ ?_); clear hK K) | (refine wk_label (hK _ _ ?_); clear hK K) | refine wk_scope ?_ | refine wk_block ?_ | refine wk_cond_t rfl ?_ | refine wk_cond_f rfl ?_ | (refine wk_exit ?_; (repeat (refine blockK_other rfl ?_)); refine blockK_same ?_; try ((repeat ((fail_if_success (refine hK _ _ ?_)); clear hK K)); refine hK _ _ ?_; clear hK K)) | (refine a_bin ?_ ?_ <;> intro _ <;> try (exfalso; omega)) | refine a_ld hl ?_ | (refine a_st hl ?_; clear hl; intro _ hl) | refine a_ix (fun _ => ?_) | fail)
  refine a_fn (isNaN_calls b _) ?_
  rintro _ w ⟨rfl, rfl⟩
  repeat' (first | refine a_mov ?_ | refine a_asg ?_ | refine a_binN ?_ | refine a_notd ?_ | refine a_notb ?_ | refine a_nilc ?_ | refine a_fa ?_ | refine a_ext ?_ | refine a_lenv ?_ | refine a_lens ?_ | refine a_pick_t ?_ | refine a_pick_f ?_ | refine a_not ?_ | refine a_nilf ?_ | (refine o_nil (hK _ _ ?_); clear hK K) | refine wk_reg ?_ | refine wk_seq fun K hK => ?_ | (refine wk_skip (hK _ _ ?_); clear hK K) | (refine wk_label (hK _ _ ?_); clear hK K) | refine wk_scope ?_ | refine wk_block ?_ | refine wk_cond_t rfl ?_ | refine wk_cond_f rfl ?_ | (refine wk_exit ?_; (repeat (refine blockK_other rfl ?_)); refine blockK_same ?_; try ((repeat ((fail_if_success (refine hK _ _ ?_)); clear hK K)); refine hK _ _ ?_; clear hK K)) | (refine a_bin ?_ ?_ <;> intro _ <;> try (exfalso; omega)) | refine a_ld hl ?_ | (refine a_st hl ?_; clear hl; intro _ hl) | refine a_ix (fun _ => ?_) | fail)
  all_goals (refine wk_ret (retQ_tmp1 Tryd.results61 (by decide) rfl (by conv => lhs; whnf) ?_))
  all_goals refine ⟨congrArg (Value.int .i64) ?_, rfl⟩
  all_goals (split <;> first | rfl | omega | (split <;> first | rfl | omega))

set_option maxHeartbeats 4000000 in
theorem compareInt_calls (a how b : Int) (w : World) : Calls Tryd.prog 48 #[.int .i64 a, .int .i64 how, .int .i64 b] w (fun e w' => ∃ x, e = .returned x ∧ x = .bool (cmpB a how b) ∧ w' = w) := by
  refine calls_of Tryd.func48 rfl Tryd.ntmps48 rfl ?_
  repeat' (first | refine a_mov ?_ | refine a_asg ?_ | refine a_binN ?_ | refine a_notd ?_ | refine a_notb ?_ | refine a_nilc ?_ | refine a_fa ?_ | refine a_ext ?_ | refine a_lenv ?_ | refine a_lens ?_ | refine a_pick_t ?_ | refine a_pick_f ?_ | refine a_not ?_ | refine a_nilf ?_ | (refine o_nil (hK _ _ ?_); clear hK K) | refine wk_reg ?_ | refine wk_seq fun K hK => ?_ | (refine wk_skip (hK _ _ ?_); clear hK K) | (refine wk_label (hK _ _ ?_); clear hK K) | refine wk_scope ?_ | refine wk_block ?_ | refine wk_cond_t rfl ?_ | refine wk_cond_f rfl ?_ | (refine wk_exit ?_; (repeat (refine blockK_other rfl ?_)); refine blockK_same ?_; try ((repeat ((fail_if_success (refine hK _ _ ?_)); clear hK K)); refine hK _ _ ?_; clear hK K)) | (refine a_bin ?_ ?_ <;> intro _ <;> try (exfalso; omega)) | refine a_ld hl ?_ | (refine a_st hl ?_; clear hl; intro _ hl) | refine a_ix (fun _ => ?_) | fail)
  refine a_fn (cmpInt_calls a b w) ?_
  rintro _ w ⟨rfl, rfl⟩
  obtain ⟨n, hn, h1, h2, h3⟩ : ∃ n : Int, (if a < b then (-1 : Int) else if b < a then 1 else 0) = n ∧ (n < 0 ↔ a < b) ∧ (0 < n ↔ b < a) ∧ (n = 0 ↔ a = b) := ⟨_, rfl, by split <;> (try split) <;> omega, by split <;> (try split) <;> omega, by split <;> (try split) <;> omega⟩
  rw [hn]
  clear hn
  have hcmp : cmpB a how b = ((decide (how = 1) && decide (n = 0)) || (decide (how = 2) && decide (n ≠ 0)) || (decide (how = 3) && decide (n < 0)) || (decide (how = 4) && decide (n ≤ 0)) || (decide (how = 5) && decide (n > 0)) || (decide (how = 6) && decide (n ≥ 0))) := by
    unfold cmpB
    congr 1
    · congr 1
      · congr 1
        · congr 1
          · congr 1
            · congr 1; exact decide_eq_decide.2 h3.symm
            · congr 1; exact decide_eq_decide.2 (by omega)
          · congr 1; exact decide_eq_decide.2 (by omega)
        · congr 1; exact decide_eq_decide.2 (by omega)
      · congr 1; exact decide_eq_decide.2 (by omega)
    · congr 1; exact decide_eq_decide.2 (by omega)
  repeat' (first | refine a_mov ?_ | refine a_asg ?_ | refine a_binN ?_ | refine a_notd ?_ | refine a_notb ?_ | refine a_nilc ?_ | refine a_fa ?_ | refine a_ext ?_ | refine a_lenv ?_ | refine a_lens ?_ | refine a_pick_t ?_ | refine a_pick_f ?_ | refine a_not ?_ | refine a_nilf ?_ | (refine o_nil (hK _ _ ?_); clear hK K) | refine wk_reg ?_ | refine wk_seq fun K hK => ?_ | (refine wk_skip (hK _ _ ?_); clear hK K) | (refine wk_label (hK _ _ ?_); clear hK K) | refine wk_scope ?_ | refine wk_block ?_ | refine wk_cond_t rfl ?_ | refine wk_cond_f rfl ?_ | (refine wk_exit ?_; (repeat (refine blockK_other rfl ?_)); refine blockK_same ?_; try ((repeat ((fail_if_success (refine hK _ _ ?_)); clear hK K)); refine hK _ _ ?_; clear hK K)) | (refine a_bin ?_ ?_ <;> intro _ <;> try (exfalso; omega)) | refine a_ld hl ?_ | (refine a_st hl ?_; clear hl; intro _ hl) | refine a_ix (fun _ => ?_) | fail)
  all_goals (refine wk_ret (retQ_tmp1 Tryd.results48 (by decide) rfl (by conv => lhs; whnf) ?_))
  all_goals refine ⟨congrArg Value.bool ?_, rfl⟩
  all_goals rw [hcmp]
  all_goals clear hcmp h1 h2 h3
  all_goals (simp only [*, decide_true, decide_false, Bool.true_and, Bool.false_and, Bool.or_false, Bool.false_or, Bool.or_true, Bool.true_or, not_true_eq_false, not_false_eq_true, ne_eq])
  all_goals first | rfl | (simp; omega) | (simp_all; done) | (simp_all; omega)

/-- What a function value answers of the formulas of a list. -/
def FvC (fv : Value) (pr : Fm → Bool) (ks : List Fm) (G : Nat → Prop) (w : World) : Prop := ∀ i (hi : i < ks.length) w' kv, Ext w w' → KR w' G ks[i].kids kv → CallV Tryd.prog fv #[.agg (fmL ks[i] kv).toArray] w' (fun v w2 => v = .bool (pr ks[i]) ∧ Ext w' w2)

set_option maxHeartbeats 1000000 in
theorem indexF_calls (pr : Fm → Bool) (ks : List Fm) (hn : ks.length ≤ 9223372036854775806) (w : World) (G : Nat → Prop) (kv fv : Value) (hk : KR w G ks kv) (hf : FvC fv pr ks G w) :
    Calls Tryd.prog 64 #[kv, fv] w (fun e w' => ∃ x, e = .returned x ∧ (∃ z : Int, x = .int .i64 z ∧ (0 ≤ z ↔ ks.any pr = true)) ∧ Ext w w') := by
  obtain ⟨a, c, rfl, -⟩ := hk.shape
  refine calls_of Tryd.func64 rfl Tryd.ntmps64 rfl ?_
  repeat' (first | refine a_mov ?_ | refine a_asg ?_ | refine a_binN ?_ | refine a_notd ?_ | refine a_notb ?_ | refine a_nilc ?_ | refine a_fa ?_ | refine a_ext ?_ | refine a_lenv ?_ | refine a_lens ?_ | refine a_pick_t ?_ | refine a_pick_f ?_ | refine a_not ?_ | refine a_nilf ?_ | (refine o_nil (hK _ _ ?_); clear hK K) | refine wk_reg ?_ | refine wk_seq fun K hK => ?_ | (refine wk_skip (hK _ _ ?_); clear hK K) | (refine wk_label (hK _ _ ?_); clear hK K) | refine wk_scope ?_ | refine wk_block ?_ | refine wk_cond_t rfl ?_ | refine wk_cond_f rfl ?_ | (refine wk_exit ?_; (repeat (refine blockK_other rfl ?_)); refine blockK_same ?_; try ((repeat ((fail_if_success (refine hK _ _ ?_)); clear hK K)); refine hK _ _ ?_; clear hK K)) | (refine a_bin ?_ ?_ <;> intro _ <;> try (exfalso; omega)) | refine a_ld hl ?_ | (refine a_st hl ?_; clear hl; intro _ hl) | refine a_ix (fun _ => ?_) | fail)
  refine wk_loopH [] rfl (fun i : Nat => [(0, .slice a ks.length c), (1, fv), (7, .int .i64 (ks.length : Int)), (8, .int .i64 (i : Int))]) (fun i w' => (i ≤ ks.length ∧ (ks.take i).any pr = false) ∧ Ext w w') (fun i => ks.length - i) 0 ⟨rfl, rfl, rfl, rfl, trivial⟩ ⟨⟨by omega, by simp⟩, .refl _ _⟩ ?_
  rintro i t w1 ⟨⟨hi, hpre⟩, he⟩
  by_cases hi1 : i < ks.length
  · obtain ⟨bk, ok, kv, hp, hr, hkk⟩ := (hk.ext he).at hi1
    obtain ⟨hs1, hs2⟩ := any_split hi1 hpre
    have hcall := hf i hi1 w1 kv he hkk
    generalize ks[i] = k at *
    repeat' (first | refine a_mov ?_ | refine a_asg ?_ | refine a_binN ?_ | refine a_notd ?_ | refine a_notb ?_ | refine a_nilc ?_ | refine a_fa ?_ | refine a_ext ?_ | refine a_lenv ?_ | refine a_lens ?_ | refine a_pick_t ?_ | refine a_pick_f ?_ | refine a_not ?_ | refine a_nilf ?_ | (refine o_nil (hK _ _ ?_); clear hK K) | refine wk_reg ?_ | refine wk_seq fun K hK => ?_ | (refine wk_skip (hK _ _ ?_); clear hK K) | (refine wk_label (hK _ _ ?_); clear hK K) | refine wk_scope ?_ | refine wk_block ?_ | refine wk_cond_t rfl ?_ | refine wk_cond_f rfl ?_ | (refine wk_exit ?_; (repeat (refine blockK_other rfl ?_)); refine blockK_same ?_; try ((repeat ((fail_if_success (refine hK _ _ ?_)); clear hK K)); refine hK _ _ ?_; clear hK K)) | (refine a_bin ?_ ?_ <;> intro _ <;> try (exfalso; omega)) | refine a_ld hl ?_ | (refine a_st hl ?_; clear hl; intro _ hl) | refine a_ix (fun _ => ?_) | refine a_idx (c := 5) i hp ?_ | refine a_all hr ?_)
    refine o_callv (fv := fv) (args := #[.agg (fmL k kv).toArray]) rfl rfl rfl hcall ?_
    rintro _ w2 ⟨rfl, he2⟩
    cases hpk : pr k
    · repeat' (first | refine a_mov ?_ | refine a_asg ?_ | refine a_binN ?_ | refine a_notd ?_ | refine a_notb ?_ | refine a_nilc ?_ | refine a_fa ?_ | refine a_ext ?_ | refine a_lenv ?_ | refine a_lens ?_ | refine a_pick_t ?_ | refine a_pick_f ?_ | refine a_not ?_ | refine a_nilf ?_ | (refine o_nil (hK _ _ ?_); clear hK K) | refine wk_reg ?_ | refine wk_seq fun K hK => ?_ | (refine wk_skip (hK _ _ ?_); clear hK K) | (refine wk_label (hK _ _ ?_); clear hK K) | refine wk_scope ?_ | refine wk_block ?_ | refine wk_cond_t rfl ?_ | refine wk_cond_f rfl ?_ | (refine wk_exit ?_; (repeat (refine blockK_other rfl ?_)); refine blockK_same ?_; try ((repeat ((fail_if_success (refine hK _ _ ?_)); clear hK K)); refine hK _ _ ?_; clear hK K)) | (refine a_bin ?_ ?_ <;> intro _ <;> try (exfalso; omega)) | refine a_ld hl ?_ | (refine a_st hl ?_; clear hl; intro _ hl) | refine a_ix (fun _ => ?_) | fail)
      exact o_nil ⟨i + 1, ⟨rfl, rfl, rfl, rfl, trivial⟩, rfl, ⟨⟨hi1, hs2 hpk⟩, he.trans he2⟩, by omega⟩
    · repeat' (first | refine a_mov ?_ | refine a_asg ?_ | refine a_binN ?_ | refine a_notd ?_ | refine a_notb ?_ | refine a_nilc ?_ | refine a_fa ?_ | refine a_ext ?_ | refine a_lenv ?_ | refine a_lens ?_ | refine a_pick_t ?_ | refine a_pick_f ?_ | refine a_not ?_ | refine a_nilf ?_ | (refine o_nil (hK _ _ ?_); clear hK K) | refine wk_reg ?_ | refine wk_seq fun K hK => ?_ | (refine wk_skip (hK _ _ ?_); clear hK K) | (refine wk_label (hK _ _ ?_); clear hK K) | refine wk_scope ?_ | refine wk_block ?_ | refine wk_cond_t rfl ?_ | refine wk_cond_f rfl ?_ | (refine wk_exit ?_; (repeat (refine blockK_other rfl ?_)); refine blockK_same ?_; try ((repeat ((fail_if_success (refine hK _ _ ?_)); clear hK K)); refine hK _ _ ?_; clear hK K)) | (refine a_bin ?_ ?_ <;> intro _ <;> try (exfalso; omega)) | refine a_ld hl ?_ | (refine a_st hl ?_; clear hl; intro _ hl) | refine a_ix (fun _ => ?_) | fail)
      refine wk_ret (retQ_tmp1 Tryd.results64 (by decide) rfl (by conv => lhs; whnf) ?_)
      exact ⟨⟨_, rfl, by rw [hs1 hpk]; simp⟩, he.trans he2⟩
  · have hke : i = ks.length := by omega
    rw [hke, List.take_of_length_le (Nat.le_refl _)] at hpre
    repeat' (first | refine a_mov ?_ | refine a_asg ?_ | refine a_binN ?_ | refine a_notd ?_ | refine a_notb ?_ | refine a_nilc ?_ | refine a_fa ?_ | refine a_ext ?_ | refine a_lenv ?_ | refine a_lens ?_ | refine a_pick_t ?_ | refine a_pick_f ?_ | refine a_not ?_ | refine a_nilf ?_ | (refine o_nil (hK _ _ ?_); clear hK K) | refine wk_reg ?_ | refine wk_seq fun K hK => ?_ | (refine wk_skip (hK _ _ ?_); clear hK K) | (refine wk_label (hK _ _ ?_); clear hK K) | refine wk_scope ?_ | refine wk_block ?_ | refine wk_cond_t rfl ?_ | refine wk_cond_f rfl ?_ | (refine wk_exit ?_; (repeat (refine blockK_other rfl ?_)); refine blockK_same ?_; try ((repeat ((fail_if_success (refine hK _ _ ?_)); clear hK K)); refine hK _ _ ?_; clear hK K)) | (refine a_bin ?_ ?_ <;> intro _ <;> try (exfalso; omega)) | refine a_ld hl ?_ | (refine a_st hl ?_; clear hl; intro _ hl) | refine a_ix (fun _ => ?_) | fail)
    refine wk_ret (retQ_tmp1 Tryd.results64 (by decide) rfl (by conv => lhs; whnf) ?_)
    exact ⟨⟨_, rfl, by rw [hpre]; simp⟩, he⟩

theorem containsF_calls (pr : Fm → Bool) (ks : List Fm) (hn : ks.length ≤ 9223372036854775806) (w : World) (G : Nat → Prop) (kv fv : Value) (hk : KR w G ks kv) (hf : FvC fv pr ks G w) :
    Calls Tryd.prog 50 #[kv, fv] w (fun e w' => ∃ x, e = .returned x ∧ x = .bool (ks.any pr) ∧ Ext w w') := by
  obtain ⟨a, c, rfl, -⟩ := hk.shape
  refine calls_of Tryd.func50 rfl Tryd.ntmps50 rfl ?_
  repeat' (first | refine a_mov ?_ | refine a_asg ?_ | refine a_binN ?_ | refine a_notd ?_ | refine a_notb ?_ | refine a_nilc ?_ | refine a_fa ?_ | refine a_ext ?_ | refine a_lenv ?_ | refine a_lens ?_ | refine a_pick_t ?_ | refine a_pick_f ?_ | refine a_not ?_ | refine a_nilf ?_ | (refine o_nil (hK _ _ ?_); clear hK K) | refine wk_reg ?_ | refine wk_seq fun K hK => ?_ | (refine wk_skip (hK _ _ ?_); clear hK K) | (refine wk_label (hK _ _ ?_); clear hK K) | refine wk_scope ?_ | refine wk_block ?_ | refine wk_cond_t rfl ?_ | refine wk_cond_f rfl ?_ | (refine wk_exit ?_; (repeat (refine blockK_other rfl ?_)); refine blockK_same ?_; try ((repeat ((fail_if_success (refine hK _ _ ?_)); clear hK K)); refine hK _ _ ?_; clear hK K)) | (refine a_bin ?_ ?_ <;> intro _ <;> try (exfalso; omega)) | refine a_ld hl ?_ | (refine a_st hl ?_; clear hl; intro _ hl) | refine a_ix (fun _ => ?_) | fail)
  refine a_fn (indexF_calls pr ks hn w G _ fv hk hf) ?_
  rintro _ w2 ⟨⟨z, rfl, hz⟩, he⟩
  repeat' (first | refine a_mov ?_ | refine a_asg ?_ | refine a_binN ?_ | refine a_notd ?_ | refine a_notb ?_ | refine a_nilc ?_ | refine a_fa ?_ | refine a_ext ?_ | refine a_lenv ?_ | refine a_lens ?_ | refine a_pick_t ?_ | refine a_pick_f ?_ | refine a_not ?_ | refine a_nilf ?_ | (refine o_nil (hK _ _ ?_); clear hK K) | refine wk_reg ?_ | refine wk_seq fun K hK => ?_ | (refine wk_skip (hK _ _ ?_); clear hK K) | (refine wk_label (hK _ _ ?_); clear hK K) | refine wk_scope ?_ | refine wk_block ?_ | refine wk_cond_t rfl ?_ | refine wk_cond_f rfl ?_ | (refine wk_exit ?_; (repeat (refine blockK_other rfl ?_)); refine blockK_same ?_; try ((repeat ((fail_if_success (refine hK _ _ ?_)); clear hK K)); refine hK _ _ ?_; clear hK K)) | (refine a_bin ?_ ?_ <;> intro _ <;> try (exfalso; omega)) | refine a_ld hl ?_ | (refine a_st hl ?_; clear hl; intro _ hl) | refine a_ix (fun _ => ?_) | fail)
  all_goals (refine wk_ret (retQ_tmp1 Tryd.results50 (by decide) rfl (by conv => lhs; whnf) ?_); refine ⟨congrArg Value.bool ?_, he⟩)
  · rw [hz.1 (by omega)]
  · cases hc : ks.any pr
    · rfl
    · exact absurd (hz.2 hc) (by omega)

def holdsV (b6 b5 b7 b9 : Nat) : Value := .func (.func 47) #[] #[.pointer (some ⟨b6, 0, none⟩), .pointer (some ⟨b5, 0, none⟩), .pointer (some ⟨b7, 0, none⟩), .pointer (some ⟨b9, 0, none⟩)]

structure HoEnv (F : List Fact) (c : List Int) (T : List (List UInt8)) (b6 b5 b7 b9 : Nat) (dv cv tv : Value) (w : World) : Prop where
  r6 : Row w b6 0 [cv]
  r5 : Row w b5 0 [dv]
  r7 : Row w b7 0 [tv]
  r9 : Row w b9 0 [holdsV b6 b5 b7 b9]
  d : Sl w dv 4 (factsL F)
  c : Sl w cv 1 (intsL c)
  t : Sl w tv 1 (strsL T)

theorem HoEnv.ext {F : List Fact} {c : List Int} {T : List (List UInt8)} {b6 b5 b7 b9 : Nat} {dv cv tv : Value} {w w' : World} (h : HoEnv F c T b6 b5 b7 b9 dv cv tv w) (e : Ext w w') : HoEnv F c T b6 b5 b7 b9 dv cv tv w' :=
  ⟨h.r6.ext e, h.r5.ext e, h.r7.ext e, h.r9.ext e, h.d.ext e, h.c.ext e, h.t.ext e⟩

/-- The other way round. -/
theorem not_calls {b6 b5 b7 b9 : Nat} {w : World} (hr : Row w b9 0 [holdsV b6 b5 b7 b9]) (k : Fm) (kv : Value) (pk : Bool) (hkv : ∃ a c, kv = .slice a k.kids.length c) (hc : ∀ w', Ext w w' → Calls Tryd.prog 47 #[.agg (fmL k kv).toArray, .pointer (some ⟨b6, 0, none⟩), .pointer (some ⟨b5, 0, none⟩), .pointer (some ⟨b7, 0, none⟩), .pointer (some ⟨b9, 0, none⟩)] w' (fun e w2 => ∃ x, e = .returned x ∧ x = .bool pk ∧ Ext w' w2)) :
    Calls Tryd.prog 51 #[.agg (fmL k kv).toArray, .pointer (some ⟨b9, 0, none⟩)] w (fun e w' => ∃ x, e = .returned x ∧ x = .bool (!pk) ∧ Ext w w') := by
  obtain ⟨a, c, rfl⟩ := hkv
  refine calls_of Tryd.func51 rfl Tryd.ntmps51 rfl ?_
  refine wk_seq fun K hK => ?_
  refine wk_reg ?_
  refine o_box (LH.start w (fun _ => False)) [.int .i64 (k).op, str (k).name, .int .i64 (k).cmp, .int .i64 (k).num, .slice a k.kids.length c] rfl rfl rfl ?_
  intro b1 w1 hb1 hl
  have he := hl.done
  repeat' (first | refine a_mov ?_ | refine a_asg ?_ | refine a_binN ?_ | refine a_notd ?_ | refine a_notb ?_ | refine a_nilc ?_ | refine a_fa ?_ | refine a_ext ?_ | refine a_lenv ?_ | refine a_lens ?_ | refine a_pick_t ?_ | refine a_pick_f ?_ | refine a_not ?_ | refine a_nilf ?_ | (refine o_nil (hK _ _ ?_); clear hK K) | refine wk_reg ?_ | refine wk_seq fun K hK => ?_ | (refine wk_skip (hK _ _ ?_); clear hK K) | (refine wk_label (hK _ _ ?_); clear hK K) | refine wk_scope ?_ | refine wk_block ?_ | refine wk_cond_t rfl ?_ | refine wk_cond_f rfl ?_ | (refine wk_exit ?_; (repeat (refine blockK_other rfl ?_)); refine blockK_same ?_; try ((repeat ((fail_if_success (refine hK _ _ ?_)); clear hK K)); refine hK _ _ ?_; clear hK K)) | (refine a_bin ?_ ?_ <;> intro _ <;> try (exfalso; omega)) | refine a_ld hl ?_ | (refine a_st hl ?_; clear hl; intro _ hl) | refine a_ix (fun _ => ?_) | refine a_row (hr.ext he) ?_ | refine a_all (hl.rowL (vs := [.int .i64 (k).op, str (k).name, .int .i64 (k).cmp, .int .i64 (k).num, .slice a k.kids.length c]) 0 0 5 rfl) ?_)
  refine a_fc #[.agg (fmL k (.slice a k.kids.length c)).toArray] #[.pointer (some ⟨b6, 0, none⟩), .pointer (some ⟨b5, 0, none⟩), .pointer (some ⟨b7, 0, none⟩), .pointer (some ⟨b9, 0, none⟩)] #[.agg (fmL k (.slice a k.kids.length c)).toArray, .pointer (some ⟨b6, 0, none⟩), .pointer (some ⟨b5, 0, none⟩), .pointer (some ⟨b7, 0, none⟩), .pointer (some ⟨b9, 0, none⟩)] rfl (hc w1 he) ?_
  rintro _ w2 ⟨rfl, he2⟩
  repeat' (first | refine a_mov ?_ | refine a_asg ?_ | refine a_binN ?_ | refine a_notd ?_ | refine a_notb ?_ | refine a_nilc ?_ | refine a_fa ?_ | refine a_ext ?_ | refine a_lenv ?_ | refine a_lens ?_ | refine a_pick_t ?_ | refine a_pick_f ?_ | refine a_not ?_ | refine a_nilf ?_ | (refine o_nil (hK _ _ ?_); clear hK K) | refine wk_reg ?_ | refine wk_seq fun K hK => ?_ | (refine wk_skip (hK _ _ ?_); clear hK K) | (refine wk_label (hK _ _ ?_); clear hK K) | refine wk_scope ?_ | refine wk_block ?_ | refine wk_cond_t rfl ?_ | refine wk_cond_f rfl ?_ | (refine wk_exit ?_; (repeat (refine blockK_other rfl ?_)); refine blockK_same ?_; try ((repeat ((fail_if_success (refine hK _ _ ?_)); clear hK K)); refine hK _ _ ?_; clear hK K)) | (refine a_bin ?_ ?_ <;> intro _ <;> try (exfalso; omega)) | refine a_ld hl ?_ | (refine a_st hl ?_; clear hl; intro _ hl) | refine a_ix (fun _ => ?_) | fail)
  refine wk_ret (retQ_tmp1 Tryd.results51 (by decide) rfl (by conv => lhs; whnf) ?_)
  exact ⟨rfl, he.trans he2⟩

set_option maxHeartbeats 4000000 in
theorem holds2_calls (F : List Fact) (c : List Int) (T : List (List UInt8)) (hF : F.length ≤ 9223372036854775806) (hT : T.length ≤ 9223372036854775806) (hcF : c.length = F.length) (b6 b5 b7 b9 : Nat) (dv cv tv : Value) :
    ∀ (f : Fm) (w : World) (G : Nat → Prop) (kv : Value), Right F f → KR w G f.kids kv → Short f.kids → HoEnv F c T b6 b5 b7 b9 dv cv tv w →
      Calls Tryd.prog 47 #[.agg (fmL f kv).toArray, .pointer (some ⟨b6, 0, none⟩), .pointer (some ⟨b5, 0, none⟩), .pointer (some ⟨b7, 0, none⟩), .pointer (some ⟨b9, 0, none⟩)] w (fun e w' => ∃ x, e = .returned x ∧ x = .bool (eval F c T f) ∧ Ext w w') := by
  refine Fm.ind ?_
  intro f ih w G kv hR hk hs hE
  have hlen := hs.1
  have hop := hR.op
  have hev := eval_eq F c T f
  obtain ⟨a, cp, rfl, -⟩ := hk.shape
  obtain ⟨da, dc, rfl, -⟩ := hE.d.shape (factsL_len F) (by omega)
  obtain ⟨ca, cc, rfl, -⟩ := hE.c.shape (intsL_len c) (by omega)
  obtain ⟨ta, tc, rfl, -⟩ := hE.t.shape (strsL_len T) (by omega)
  refine calls_of Tryd.func47 rfl Tryd.ntmps47 rfl ?_
  refine wk_seq fun K hK => ?_
  refine wk_reg ?_
  refine o_box (LH.start w (fun _ => False)) [.int .i64 (f).op, str (f).name, .int .i64 (f).cmp, .int .i64 (f).num, .slice a f.kids.length cp] rfl rfl rfl ?_
  intro b1 w1 hb1 hl
  have he := hl.done
  have hkids : ∀ i (hi : i < f.kids.length) w' (kv : Value), Ext w w' → KR w' G f.kids[i].kids kv → Calls Tryd.prog 47 #[.agg (fmL f.kids[i] kv).toArray, .pointer (some ⟨b6, 0, none⟩), .pointer (some ⟨b5, 0, none⟩), .pointer (some ⟨b7, 0, none⟩), .pointer (some ⟨b9, 0, none⟩)] w' (fun e w2 => ∃ x, e = .returned x ∧ x = .bool (eval F c T f.kids[i]) ∧ Ext w' w2) :=
    fun i hi w' kv e h => ih _ (List.getElem_mem hi) w' G kv (hR.kid hi) h (hs.kid hi) (hE.ext e)
  clear ih hs
  have hE1 := hE.ext he
  rcases hop with h1 | h1 | ⟨h1, h2, h3, i, hi⟩ | h1 | ⟨h1, h2⟩ | h1 | h1
  · have hv1 : eval F c T f = true := by rw [hev]; simp [h1]
    clear hev
    repeat' (first | refine a_mov ?_ | refine a_asg ?_ | refine a_binN ?_ | refine a_notd ?_ | refine a_notb ?_ | refine a_nilc ?_ | refine a_fa ?_ | refine a_ext ?_ | refine a_lenv ?_ | refine a_lens ?_ | refine a_pick_t ?_ | refine a_pick_f ?_ | refine a_not ?_ | refine a_nilf ?_ | (refine o_nil (hK _ _ ?_); clear hK K) | refine wk_reg ?_ | refine wk_seq fun K hK => ?_ | (refine wk_skip (hK _ _ ?_); clear hK K) | (refine wk_label (hK _ _ ?_); clear hK K) | refine wk_scope ?_ | refine wk_block ?_ | refine wk_cond_t rfl ?_ | refine wk_cond_f rfl ?_ | (refine wk_exit ?_; (repeat (refine blockK_other rfl ?_)); refine blockK_same ?_; try ((repeat ((fail_if_success (refine hK _ _ ?_)); clear hK K)); refine hK _ _ ?_; clear hK K)) | (refine a_bin ?_ ?_ <;> intro _ <;> try (exfalso; omega)) | refine a_ld hl ?_ | (refine a_st hl ?_; clear hl; intro _ hl) | refine a_ix (fun _ => ?_) | fail)
    refine wk_ret (retQ_tmp1 Tryd.results47 (by decide) rfl (by conv => lhs; whnf) ?_)
    exact ⟨by rw [hv1], he⟩
  · have hv1 : eval F c T f = false := by rw [hev]; simp [h1]
    clear hev
    repeat' (first | refine a_mov ?_ | refine a_asg ?_ | refine a_binN ?_ | refine a_notd ?_ | refine a_notb ?_ | refine a_nilc ?_ | refine a_fa ?_ | refine a_ext ?_ | refine a_lenv ?_ | refine a_lens ?_ | refine a_pick_t ?_ | refine a_pick_f ?_ | refine a_not ?_ | refine a_nilf ?_ | (refine o_nil (hK _ _ ?_); clear hK K) | refine wk_reg ?_ | refine wk_seq fun K hK => ?_ | (refine wk_skip (hK _ _ ?_); clear hK K) | (refine wk_label (hK _ _ ?_); clear hK K) | refine wk_scope ?_ | refine wk_block ?_ | refine wk_cond_t rfl ?_ | refine wk_cond_f rfl ?_ | (refine wk_exit ?_; (repeat (refine blockK_other rfl ?_)); refine blockK_same ?_; try ((repeat ((fail_if_success (refine hK _ _ ?_)); clear hK K)); refine hK _ _ ?_; clear hK K)) | (refine a_bin ?_ ?_ <;> intro _ <;> try (exfalso; omega)) | refine a_ld hl ?_ | (refine a_st hl ?_; clear hl; intro _ hl) | refine a_ix (fun _ => ?_) | fail)
    refine wk_ret (retQ_tmp1 Tryd.results47 (by decide) rfl (by conv => lhs; whnf) ?_)
    exact ⟨by rw [hv1], he⟩
  · have hix : idxI F f.name = (i : Int) := by simp only [idxI, hi]
    have hilt := idx_lt hi
    have hv1 : eval F c T f = cmpB c[i] f.cmp f.num := by
      rw [hev, if_pos h1]
      unfold valAt
      rw [hi]
      simp [List.getD, show i < c.length by omega]
    clear hev
    obtain ⟨bc, oc, hpc, hrc⟩ := Sl.intAt hE1.c rfl (show i < c.length by omega)
    have hidx := fun w' (hw' : Ext w1 w') => factIndex_calls (hE1.d.ext hw') hF f.name
    rw [hix] at hidx
    have hcmp : ∀ w', Ext w1 w' → Calls Tryd.prog 48 #[.int .i64 c[i], .int .i64 f.cmp, .int .i64 f.num] w' (fun e w3 => ∃ x, e = .returned x ∧ x = .bool (cmpB c[i] f.cmp f.num) ∧ Ext w' w3) := fun w' hw' => by
      refine Calls.mono (compareInt_calls c[i] f.cmp f.num w') ?_
      rintro e w3 ⟨x, hx, hy, rfl⟩
      exact ⟨x, hx, hy, .refl _ _⟩
    generalize c[i] = z at *
    repeat' (first | refine a_mov ?_ | refine a_asg ?_ | refine a_binN ?_ | refine a_notd ?_ | refine a_notb ?_ | refine a_nilc ?_ | refine a_fa ?_ | refine a_ext ?_ | refine a_lenv ?_ | refine a_lens ?_ | refine a_pick_t ?_ | refine a_pick_f ?_ | refine a_not ?_ | refine a_nilf ?_ | (refine o_nil (hK _ _ ?_); clear hK K) | refine wk_reg ?_ | refine wk_seq fun K hK => ?_ | (refine wk_skip (hK _ _ ?_); clear hK K) | (refine wk_label (hK _ _ ?_); clear hK K) | refine wk_scope ?_ | refine wk_block ?_ | refine wk_cond_t rfl ?_ | refine wk_cond_f rfl ?_ | (refine wk_exit ?_; (repeat (refine blockK_other rfl ?_)); refine blockK_same ?_; try ((repeat ((fail_if_success (refine hK _ _ ?_)); clear hK K)); refine hK _ _ ?_; clear hK K)) | (refine a_bin ?_ ?_ <;> intro _ <;> try (exfalso; omega)) | refine a_ld hl ?_ | (refine a_st hl ?_; clear hl; intro _ hl) | refine a_ix (fun _ => ?_) | fail)
    refine wk_quiet [0, 1, 2, 3, 4, 5, 6, 7, 8, 9, 10, 11, 12] ?_
    repeat' (first | refine q_mov ?_ | refine q_asg ?_ | refine q_fa ?_ | refine q_ext ?_ | refine q_binN ?_ | refine q_notd ?_ | refine q_notb ?_ | refine q_pick_t ?_ | refine q_pick_f ?_ | refine q_nilc ?_ | refine q_skip ?_ | refine q_lens ?_ | refine q_lenv ?_ | refine q_nil ?_ | refine q_ix (fun _ => ?_) | (refine q_bin ?_ ?_ <;> intro _ <;> try (exfalso; omega)) | refine q_ld (fun w_ hw_ => hl.ext hw_) ?_ | refine q_row (fun w_ hw_ => hE1.r6.ext hw_) ?_ | refine q_all (fun w_ hw_ => hE1.r5.ext hw_) ?_ | refine q_idx (c := 1) i hpc ?_ | refine q_row (fun w_ hw_ => hrc.ext hw_) ?_ | refine q_fn (v := .int .i64 (i : Int)) hidx ?_ | refine q_fn (v := .bool (cmpB z f.cmp f.num)) hcmp ?_ | fail)
    intro wm hwm
    refine hK _ _ ?_
    clear hK K
    repeat' (first | refine a_mov ?_ | refine a_asg ?_ | refine a_binN ?_ | refine a_notd ?_ | refine a_notb ?_ | refine a_nilc ?_ | refine a_fa ?_ | refine a_ext ?_ | refine a_lenv ?_ | refine a_lens ?_ | refine a_pick_t ?_ | refine a_pick_f ?_ | refine a_not ?_ | refine a_nilf ?_ | (refine o_nil (hK _ _ ?_); clear hK K) | refine wk_reg ?_ | refine wk_seq fun K hK => ?_ | (refine wk_skip (hK _ _ ?_); clear hK K) | (refine wk_label (hK _ _ ?_); clear hK K) | refine wk_scope ?_ | refine wk_block ?_ | refine wk_cond_t rfl ?_ | refine wk_cond_f rfl ?_ | (refine wk_exit ?_; (repeat (refine blockK_other rfl ?_)); refine blockK_same ?_; try ((repeat ((fail_if_success (refine hK _ _ ?_)); clear hK K)); refine hK _ _ ?_; clear hK K)) | (refine a_bin ?_ ?_ <;> intro _ <;> try (exfalso; omega)) | refine a_ld hl ?_ | (refine a_st hl ?_; clear hl; intro _ hl) | refine a_ix (fun _ => ?_) | fail)
    refine wk_ret (retQ_tmp1 Tryd.results47 (by decide) rfl (by conv => lhs; whnf) ?_)
    exact ⟨by rw [hv1], he.trans hwm⟩
  · have hv1 : eval F c T f = T.contains f.name := by rw [hev]; simp [h1]
    clear hev
    repeat' (first | refine a_mov ?_ | refine a_asg ?_ | refine a_binN ?_ | refine a_notd ?_ | refine a_notb ?_ | refine a_nilc ?_ | refine a_fa ?_ | refine a_ext ?_ | refine a_lenv ?_ | refine a_lens ?_ | refine a_pick_t ?_ | refine a_pick_f ?_ | refine a_not ?_ | refine a_nilf ?_ | (refine o_nil (hK _ _ ?_); clear hK K) | refine wk_reg ?_ | refine wk_seq fun K hK => ?_ | (refine wk_skip (hK _ _ ?_); clear hK K) | (refine wk_label (hK _ _ ?_); clear hK K) | refine wk_scope ?_ | refine wk_block ?_ | refine wk_cond_t rfl ?_ | refine wk_cond_f rfl ?_ | (refine wk_exit ?_; (repeat (refine blockK_other rfl ?_)); refine blockK_same ?_; try ((repeat ((fail_if_success (refine hK _ _ ?_)); clear hK K)); refine hK _ _ ?_; clear hK K)) | (refine a_bin ?_ ?_ <;> intro _ <;> try (exfalso; omega)) | refine a_ld hl ?_ | (refine a_st hl ?_; clear hl; intro _ hl) | refine a_ix (fun _ => ?_) | refine a_row hE1.r7 ?_)
    refine a_fn (contains_calls hE1.t hT f.name) ?_
    rintro _ w5 ⟨rfl, rfl⟩
    repeat' (first | refine a_mov ?_ | refine a_asg ?_ | refine a_binN ?_ | refine a_notd ?_ | refine a_notb ?_ | refine a_nilc ?_ | refine a_fa ?_ | refine a_ext ?_ | refine a_lenv ?_ | refine a_lens ?_ | refine a_pick_t ?_ | refine a_pick_f ?_ | refine a_not ?_ | refine a_nilf ?_ | (refine o_nil (hK _ _ ?_); clear hK K) | refine wk_reg ?_ | refine wk_seq fun K hK => ?_ | (refine wk_skip (hK _ _ ?_); clear hK K) | (refine wk_label (hK _ _ ?_); clear hK K) | refine wk_scope ?_ | refine wk_block ?_ | refine wk_cond_t rfl ?_ | refine wk_cond_f rfl ?_ | (refine wk_exit ?_; (repeat (refine blockK_other rfl ?_)); refine blockK_same ?_; try ((repeat ((fail_if_success (refine hK _ _ ?_)); clear hK K)); refine hK _ _ ?_; clear hK K)) | (refine a_bin ?_ ?_ <;> intro _ <;> try (exfalso; omega)) | refine a_ld hl ?_ | (refine a_st hl ?_; clear hl; intro _ hl) | refine a_ix (fun _ => ?_) | fail)
    refine wk_ret (retQ_tmp1 Tryd.results47 (by decide) rfl (by conv => lhs; whnf) ?_)
    exact ⟨by rw [hv1], he⟩
  · have hv1 : eval F c T f = !(evalFirst F c T f.kids) := by rw [hev]; simp [h1]
    clear hev
    obtain ⟨bk, ok, kv, hp, hr, hkk⟩ := (hk.ext he).at (i := 0) (by omega)
    have ihk := fun w' (e : Ext w1 w') => hkids 0 (by omega) w' kv (he.trans e) (hkk.ext e)
    have hfi := evalFirst_eq F c T f.kids (by omega)
    rw [hfi] at hv1
    clear hkids
    have h20 : 0 < f.kids.length := by omega
    generalize f.kids[0]'h20 = k at *
    generalize eval F c T k = ek at *
    repeat' (first | refine a_mov ?_ | refine a_asg ?_ | refine a_binN ?_ | refine a_notd ?_ | refine a_notb ?_ | refine a_nilc ?_ | refine a_fa ?_ | refine a_ext ?_ | refine a_lenv ?_ | refine a_lens ?_ | refine a_pick_t ?_ | refine a_pick_f ?_ | refine a_not ?_ | refine a_nilf ?_ | (refine o_nil (hK _ _ ?_); clear hK K) | refine wk_reg ?_ | refine wk_seq fun K hK => ?_ | (refine wk_skip (hK _ _ ?_); clear hK K) | (refine wk_label (hK _ _ ?_); clear hK K) | refine wk_scope ?_ | refine wk_block ?_ | refine wk_cond_t rfl ?_ | refine wk_cond_f rfl ?_ | (refine wk_exit ?_; (repeat (refine blockK_other rfl ?_)); refine blockK_same ?_; try ((repeat ((fail_if_success (refine hK _ _ ?_)); clear hK K)); refine hK _ _ ?_; clear hK K)) | (refine a_bin ?_ ?_ <;> intro _ <;> try (exfalso; omega)) | refine a_ld hl ?_ | (refine a_st hl ?_; clear hl; intro _ hl) | refine a_ix (fun _ => ?_) | fail)
    refine wk_quiet [0, 1, 2, 3, 4, 5, 6, 7] ?_
    repeat' (first | refine q_mov ?_ | refine q_asg ?_ | refine q_fa ?_ | refine q_ext ?_ | refine q_binN ?_ | refine q_notd ?_ | refine q_notb ?_ | refine q_pick_t ?_ | refine q_pick_f ?_ | refine q_nilc ?_ | refine q_skip ?_ | refine q_lens ?_ | refine q_lenv ?_ | refine q_nil ?_ | refine q_ix (fun _ => ?_) | (refine q_bin ?_ ?_ <;> intro _ <;> try (exfalso; omega)) | refine q_ld (fun w_ hw_ => hl.ext hw_) ?_ | refine q_row (fun w_ hw_ => hE1.r9.ext hw_) ?_ | refine q_idx (c := 5) 0 hp ?_ | refine q_all (fun w_ hw_ => hr.ext hw_) ?_ | refine q_fc (v := .bool ek) #[.agg (fmL k kv).toArray] #[.pointer (some ⟨b6, 0, none⟩), .pointer (some ⟨b5, 0, none⟩), .pointer (some ⟨b7, 0, none⟩), .pointer (some ⟨b9, 0, none⟩)] #[.agg (fmL k kv).toArray, .pointer (some ⟨b6, 0, none⟩), .pointer (some ⟨b5, 0, none⟩), .pointer (some ⟨b7, 0, none⟩), .pointer (some ⟨b9, 0, none⟩)] rfl ihk ?_ | fail)
    intro wm hwm
    refine hK _ _ ?_
    clear hK K
    repeat' (first | refine a_mov ?_ | refine a_asg ?_ | refine a_binN ?_ | refine a_notd ?_ | refine a_notb ?_ | refine a_nilc ?_ | refine a_fa ?_ | refine a_ext ?_ | refine a_lenv ?_ | refine a_lens ?_ | refine a_pick_t ?_ | refine a_pick_f ?_ | refine a_not ?_ | refine a_nilf ?_ | (refine o_nil (hK _ _ ?_); clear hK K) | refine wk_reg ?_ | refine wk_seq fun K hK => ?_ | (refine wk_skip (hK _ _ ?_); clear hK K) | (refine wk_label (hK _ _ ?_); clear hK K) | refine wk_scope ?_ | refine wk_block ?_ | refine wk_cond_t rfl ?_ | refine wk_cond_f rfl ?_ | (refine wk_exit ?_; (repeat (refine blockK_other rfl ?_)); refine blockK_same ?_; try ((repeat ((fail_if_success (refine hK _ _ ?_)); clear hK K)); refine hK _ _ ?_; clear hK K)) | (refine a_bin ?_ ?_ <;> intro _ <;> try (exfalso; omega)) | refine a_ld hl ?_ | (refine a_st hl ?_; clear hl; intro _ hl) | refine a_ix (fun _ => ?_) | fail)
    refine wk_ret (retQ_tmp1 Tryd.results47 (by decide) rfl (by conv => lhs; whnf) ?_)
    exact ⟨by rw [hv1], he.trans hwm⟩
  · have hv1 : eval F c T f = !(f.kids.any fun k => !(eval F c T k)) := by rw [hev, ← all_any_not]; simp [h1]
    clear hev
    repeat' (first | refine a_mov ?_ | refine a_asg ?_ | refine a_binN ?_ | refine a_notd ?_ | refine a_notb ?_ | refine a_nilc ?_ | refine a_fa ?_ | refine a_ext ?_ | refine a_lenv ?_ | refine a_lens ?_ | refine a_pick_t ?_ | refine a_pick_f ?_ | refine a_not ?_ | refine a_nilf ?_ | (refine o_nil (hK _ _ ?_); clear hK K) | refine wk_reg ?_ | refine wk_seq fun K hK => ?_ | (refine wk_skip (hK _ _ ?_); clear hK K) | (refine wk_label (hK _ _ ?_); clear hK K) | refine wk_scope ?_ | refine wk_block ?_ | refine wk_cond_t rfl ?_ | refine wk_cond_f rfl ?_ | (refine wk_exit ?_; (repeat (refine blockK_other rfl ?_)); refine blockK_same ?_; try ((repeat ((fail_if_success (refine hK _ _ ?_)); clear hK K)); refine hK _ _ ?_; clear hK K)) | (refine a_bin ?_ ?_ <;> intro _ <;> try (exfalso; omega)) | refine a_ld hl ?_ | (refine a_st hl ?_; clear hl; intro _ hl) | refine a_ix (fun _ => ?_) | fail)
    refine o_mf [] [.pointer (some ⟨b9, 0, none⟩)] rfl rfl rfl ?_
    refine a_fn (containsF_calls (fun k => !(eval F c T k)) f.kids hlen w1 G _ (.func (.func 51) #[] #[.pointer (some ⟨b9, 0, none⟩)]) (hk.ext he) ?_) ?_
    · intro i hi w' kv hw' hkk
      refine callV_func (args := #[.agg (fmL f.kids[i] kv).toArray]) (fun _ => rfl) (Calls.mono (not_calls (hE1.r9.ext hw') f.kids[i] kv (eval F c T f.kids[i]) ?_ fun w2 hw2 => hkids i hi w2 kv ((he.trans hw').trans hw2) (hkk.ext hw2)) ?_)
      · obtain ⟨a, c, h, -⟩ := hkk.shape
        exact ⟨a, c, h⟩
      · rintro e w2 ⟨x, h1, h2, h3⟩
        exact ⟨x, h1, h2, h3⟩
    · rintro _ w2 ⟨rfl, he2⟩
      repeat' (first | refine a_mov ?_ | refine a_asg ?_ | refine a_binN ?_ | refine a_notd ?_ | refine a_notb ?_ | refine a_nilc ?_ | refine a_fa ?_ | refine a_ext ?_ | refine a_lenv ?_ | refine a_lens ?_ | refine a_pick_t ?_ | refine a_pick_f ?_ | refine a_not ?_ | refine a_nilf ?_ | (refine o_nil (hK _ _ ?_); clear hK K) | refine wk_reg ?_ | refine wk_seq fun K hK => ?_ | (refine wk_skip (hK _ _ ?_); clear hK K) | (refine wk_label (hK _ _ ?_); clear hK K) | refine wk_scope ?_ | refine wk_block ?_ | refine wk_cond_t rfl ?_ | refine wk_cond_f rfl ?_ | (refine wk_exit ?_; (repeat (refine blockK_other rfl ?_)); refine blockK_same ?_; try ((repeat ((fail_if_success (refine hK _ _ ?_)); clear hK K)); refine hK _ _ ?_; clear hK K)) | (refine a_bin ?_ ?_ <;> intro _ <;> try (exfalso; omega)) | refine a_ld hl ?_ | (refine a_st hl ?_; clear hl; intro _ hl) | refine a_ix (fun _ => ?_) | fail)
      refine wk_ret (retQ_tmp1 Tryd.results47 (by decide) rfl (by conv => lhs; whnf) ?_)
      exact ⟨by rw [hv1], he.trans he2⟩
  · have hv1 : eval F c T f = f.kids.any (eval F c T) := by rw [hev]; simp [h1]
    clear hev
    repeat' (first | refine a_mov ?_ | refine a_asg ?_ | refine a_binN ?_ | refine a_notd ?_ | refine a_notb ?_ | refine a_nilc ?_ | refine a_fa ?_ | refine a_ext ?_ | refine a_lenv ?_ | refine a_lens ?_ | refine a_pick_t ?_ | refine a_pick_f ?_ | refine a_not ?_ | refine a_nilf ?_ | (refine o_nil (hK _ _ ?_); clear hK K) | refine wk_reg ?_ | refine wk_seq fun K hK => ?_ | (refine wk_skip (hK _ _ ?_); clear hK K) | (refine wk_label (hK _ _ ?_); clear hK K) | refine wk_scope ?_ | refine wk_block ?_ | refine wk_cond_t rfl ?_ | refine wk_cond_f rfl ?_ | (refine wk_exit ?_; (repeat (refine blockK_other rfl ?_)); refine blockK_same ?_; try ((repeat ((fail_if_success (refine hK _ _ ?_)); clear hK K)); refine hK _ _ ?_; clear hK K)) | (refine a_bin ?_ ?_ <;> intro _ <;> try (exfalso; omega)) | refine a_ld hl ?_ | (refine a_st hl ?_; clear hl; intro _ hl) | refine a_ix (fun _ => ?_) | refine a_row hE1.r9 ?_)
    refine a_fn (containsF_calls (eval F c T) f.kids hlen w1 G _ (holdsV b6 b5 b7 b9) (hk.ext he) ?_) ?_
    · intro i hi w' kv hw' hkk
      refine callV_func (args := #[.agg (fmL f.kids[i] kv).toArray]) (fun _ => rfl) (Calls.mono (hkids i hi w' kv (he.trans hw') hkk) ?_)
      rintro e w2 ⟨x, h1, h2, h3⟩
      exact ⟨x, h1, h2, h3⟩
    · rintro _ w2 ⟨rfl, he2⟩
      repeat' (first | refine a_mov ?_ | refine a_asg ?_ | refine a_binN ?_ | refine a_notd ?_ | refine a_notb ?_ | refine a_nilc ?_ | refine a_fa ?_ | refine a_ext ?_ | refine a_lenv ?_ | refine a_lens ?_ | refine a_pick_t ?_ | refine a_pick_f ?_ | refine a_not ?_ | refine a_nilf ?_ | (refine o_nil (hK _ _ ?_); clear hK K) | refine wk_reg ?_ | refine wk_seq fun K hK => ?_ | (refine wk_skip (hK _ _ ?_); clear hK K) | (refine wk_label (hK _ _ ?_); clear hK K) | refine wk_scope ?_ | refine wk_block ?_ | refine wk_cond_t rfl ?_ | refine wk_cond_f rfl ?_ | (refine wk_exit ?_; (repeat (refine blockK_other rfl ?_)); refine blockK_same ?_; try ((repeat ((fail_if_success (refine hK _ _ ?_)); clear hK K)); refine hK _ _ ?_; clear hK K)) | (refine a_bin ?_ ?_ <;> intro _ <;> try (exfalso; omega)) | refine a_ld hl ?_ | (refine a_st hl ?_; clear hl; intro _ hl) | refine a_ix (fun _ => ?_) | fail)
      refine wk_ret (retQ_tmp1 Tryd.results47 (by decide) rfl (by conv => lhs; whnf) ?_)
      exact ⟨by rw [hv1], he.trans he2⟩

theorem yes_calls (s : List UInt8) (w : World) : Calls Tryd.prog 46 #[str s] w (fun e w' => ∃ x, e = .returned x ∧ x = .bool true ∧ Ext w w') := by
  refine calls_of Tryd.func46 rfl Tryd.ntmps46 rfl ?_
  repeat' (first | refine a_mov ?_ | refine a_asg ?_ | refine a_binN ?_ | refine a_notd ?_ | refine a_notb ?_ | refine a_nilc ?_ | refine a_fa ?_ | refine a_ext ?_ | refine a_lenv ?_ | refine a_lens ?_ | refine a_pick_t ?_ | refine a_pick_f ?_ | refine a_not ?_ | refine a_nilf ?_ | (refine o_nil (hK _ _ ?_); clear hK K) | refine wk_reg ?_ | refine wk_seq fun K hK => ?_ | (refine wk_skip (hK _ _ ?_); clear hK K) | (refine wk_label (hK _ _ ?_); clear hK K) | refine wk_scope ?_ | refine wk_block ?_ | refine wk_cond_t rfl ?_ | refine wk_cond_f rfl ?_ | (refine wk_exit ?_; (repeat (refine blockK_other rfl ?_)); refine blockK_same ?_; try ((repeat ((fail_if_success (refine hK _ _ ?_)); clear hK K)); refine hK _ _ ?_; clear hK K)) | (refine a_bin ?_ ?_ <;> intro _ <;> try (exfalso; omega)) | refine a_ld hl ?_ | (refine a_st hl ?_; clear hl; intro _ hl) | refine a_ix (fun _ => ?_) | fail)
  refine wk_ret (retQ_tmp1 Tryd.results46 (by decide) rfl (by conv => lhs; whnf) ?_)
  exact ⟨rfl, .refl _ _⟩

set_option maxHeartbeats 4000000 in
theorem holds_calls (F : List Fact) (c : List Int) (T : List (List UInt8)) (hF : F.length ≤ 9223372036854775806) (hC : c.length ≤ 9223372036854775806) (hT : T.length ≤ 9223372036854775806) (hn : ∀ f ∈ F, f.name.length ≤ 9223372036854775806)
    (f : Fm) (w : World) (G : Nat → Prop) (kv dv cv tv : Value) (hk : KR w G f.kids kv) (hG : ∀ b, G b → b < w.heap.size) (hs : Short f.kids) (hcn : cnt f ≤ 1000000) (hd : Sl w dv 4 (factsL F)) (hc : Sl w cv 1 (intsL c)) (hv : Sl w tv 1 (strsL T)) :
    Calls Tryd.prog 25 #[.agg (fmL f kv).toArray, .agg #[dv], cv, tv] w (fun e w' => ∃ x, e = .returned x ∧ x = .bool (holdsB F c T f) ∧ Ext w w') := by
  obtain ⟨a, cp, rfl, -⟩ := hk.shape
  obtain ⟨da, dc, rfl, -⟩ := hd.shape (factsL_len F) (by omega)
  obtain ⟨ca, cc, rfl, -⟩ := hc.shape (intsL_len c) (by omega)
  obtain ⟨ta, tc, rfl, -⟩ := hv.shape (strsL_len T) (by omega)
  have hB : holdsB F c T f = (decide (checkE F (fun _ => true) f = 0) && fitsB F c && eval F c T f) := rfl
  refine calls_of Tryd.func25 rfl Tryd.ntmps25 rfl ?_
  refine wk_seq fun K hK => ?_
  refine wk_reg ?_
  refine o_box (LH.start w (fun _ => False)) [.int .i64 (f).op, str (f).name, .int .i64 (f).cmp, .int .i64 (f).num, .slice a f.kids.length cp] rfl rfl rfl ?_
  intro b4 w1 hb4 hl
  refine o_box hl [.slice da F.length dc] rfl rfl rfl ?_
  clear hl
  intro b5 w2 hb5 hl
  refine o_box hl [.slice ca c.length cc] rfl rfl rfl ?_
  clear hl
  intro b6 w3 hb6 hl
  refine o_box hl [.slice ta T.length tc] rfl rfl rfl ?_
  clear hl
  intro b7 w4 hb7 hl
  have he := hl.done
  repeat' (first | refine a_mov ?_ | refine a_asg ?_ | refine a_binN ?_ | refine a_notd ?_ | refine a_notb ?_ | refine a_nilc ?_ | refine a_fa ?_ | refine a_ext ?_ | refine a_lenv ?_ | refine a_lens ?_ | refine a_pick_t ?_ | refine a_pick_f ?_ | refine a_not ?_ | refine a_nilf ?_ | (refine o_nil (hK _ _ ?_); clear hK K) | refine wk_reg ?_ | refine wk_seq fun K hK => ?_ | (refine wk_skip (hK _ _ ?_); clear hK K) | (refine wk_label (hK _ _ ?_); clear hK K) | refine wk_scope ?_ | refine wk_block ?_ | refine wk_cond_t rfl ?_ | refine wk_cond_f rfl ?_ | (refine wk_exit ?_; (repeat (refine blockK_other rfl ?_)); refine blockK_same ?_; try ((repeat ((fail_if_success (refine hK _ _ ?_)); clear hK K)); refine hK _ _ ?_; clear hK K)) | (refine a_bin ?_ ?_ <;> intro _ <;> try (exfalso; omega)) | refine a_ld hl ?_ | (refine a_st hl ?_; clear hl; intro _ hl) | refine a_ix (fun _ => ?_) | refine a_all (hl.rowL (vs := [.int .i64 (f).op, str (f).name, .int .i64 (f).cmp, .int .i64 (f).num, .slice a f.kids.length cp]) 3 0 5 rfl) ?_ | refine a_all (hl.rowL (vs := [.slice da F.length dc]) 2 0 1 rfl) ?_)
  refine a_fn (check_calls F (fun _ => true) hF f w4 G (.slice a f.kids.length cp) (.slice da F.length dc) (.func (.func 46) #[] #[]) (hk.ext he) (fun b hb => Nat.lt_of_lt_of_le (hG b hb) he.size) hs hcn (hd.ext he) ?_ ⟨rfl, rfl⟩) ?_
  · intro w' hw' s
    refine callV_func (args := #[str s]) (fun _ => rfl) (Calls.mono (yes_calls s w') ?_)
    rintro e w2 ⟨x, h1, h2, h3⟩
    exact ⟨x, h1, h2, h3⟩
  rintro _ w5 ⟨rfl, he5⟩
  replace hl := hl.ext he5
  clear he he5
  have he := hl.done
  by_cases hck : checkE F (fun _ => true) f = 0
  · rw [hck]
    repeat' (first | refine a_mov ?_ | refine a_asg ?_ | refine a_binN ?_ | refine a_notd ?_ | refine a_notb ?_ | refine a_nilc ?_ | refine a_fa ?_ | refine a_ext ?_ | refine a_lenv ?_ | refine a_lens ?_ | refine a_pick_t ?_ | refine a_pick_f ?_ | refine a_not ?_ | refine a_nilf ?_ | (refine o_nil (hK _ _ ?_); clear hK K) | refine wk_reg ?_ | refine wk_seq fun K hK => ?_ | (refine wk_skip (hK _ _ ?_); clear hK K) | (refine wk_label (hK _ _ ?_); clear hK K) | refine wk_scope ?_ | refine wk_block ?_ | refine wk_cond_t rfl ?_ | refine wk_cond_f rfl ?_ | (refine wk_exit ?_; (repeat (refine blockK_other rfl ?_)); refine blockK_same ?_; try ((repeat ((fail_if_success (refine hK _ _ ?_)); clear hK K)); refine hK _ _ ?_; clear hK K)) | (refine a_bin ?_ ?_ <;> intro _ <;> try (exfalso; omega)) | refine a_ld hl ?_ | (refine a_st hl ?_; clear hl; intro _ hl) | refine a_ix (fun _ => ?_) | refine a_all (hl.rowL (vs := [.slice da F.length dc]) 2 0 1 rfl) ?_)
    refine a_fn (fits_calls (hd.ext he) (hc.ext he) hF hC hn) ?_
    rintro _ w6 ⟨rfl, he6⟩
    replace hl := hl.ext he6
    clear he he6
    have he := hl.done
    cases hfb : fitsB F c
    · repeat' (first | refine a_mov ?_ | refine a_asg ?_ | refine a_binN ?_ | refine a_notd ?_ | refine a_notb ?_ | refine a_nilc ?_ | refine a_fa ?_ | refine a_ext ?_ | refine a_lenv ?_ | refine a_lens ?_ | refine a_pick_t ?_ | refine a_pick_f ?_ | refine a_not ?_ | refine a_nilf ?_ | (refine o_nil (hK _ _ ?_); clear hK K) | refine wk_reg ?_ | refine wk_seq fun K hK => ?_ | (refine wk_skip (hK _ _ ?_); clear hK K) | (refine wk_label (hK _ _ ?_); clear hK K) | refine wk_scope ?_ | refine wk_block ?_ | refine wk_cond_t rfl ?_ | refine wk_cond_f rfl ?_ | (refine wk_exit ?_; (repeat (refine blockK_other rfl ?_)); refine blockK_same ?_; try ((repeat ((fail_if_success (refine hK _ _ ?_)); clear hK K)); refine hK _ _ ?_; clear hK K)) | (refine a_bin ?_ ?_ <;> intro _ <;> try (exfalso; omega)) | refine a_ld hl ?_ | (refine a_st hl ?_; clear hl; intro _ hl) | refine a_ix (fun _ => ?_) | fail)
      refine wk_ret (retQ_tmp1 Tryd.results25 (by decide) rfl (by conv => lhs; whnf) ?_)
      exact ⟨by rw [hB, hfb]; simp, he⟩
    · have hcF : c.length = F.length := by
        unfold fitsB at hfb
        exact ((fitsC_iff F c).1 (Bool.and_eq_true_iff.1 hfb).2).1
      repeat' (first | refine a_mov ?_ | refine a_asg ?_ | refine a_binN ?_ | refine a_notd ?_ | refine a_notb ?_ | refine a_nilc ?_ | refine a_fa ?_ | refine a_ext ?_ | refine a_lenv ?_ | refine a_lens ?_ | refine a_pick_t ?_ | refine a_pick_f ?_ | refine a_not ?_ | refine a_nilf ?_ | (refine o_nil (hK _ _ ?_); clear hK K) | refine wk_reg ?_ | refine wk_seq fun K hK => ?_ | (refine wk_skip (hK _ _ ?_); clear hK K) | (refine wk_label (hK _ _ ?_); clear hK K) | refine wk_scope ?_ | refine wk_block ?_ | refine wk_cond_t rfl ?_ | refine wk_cond_f rfl ?_ | (refine wk_exit ?_; (repeat (refine blockK_other rfl ?_)); refine blockK_same ?_; try ((repeat ((fail_if_success (refine hK _ _ ?_)); clear hK K)); refine hK _ _ ?_; clear hK K)) | (refine a_bin ?_ ?_ <;> intro _ <;> try (exfalso; omega)) | refine a_ld hl ?_ | (refine a_st hl ?_; clear hl; intro _ hl) | refine a_ix (fun _ => ?_) | fail)
      refine o_alloc hl [.nilFunc] rfl rfl ?_
      clear hl
      intro b9 w7 hb9 hl
      repeat' (first | refine a_mov ?_ | refine a_asg ?_ | refine a_binN ?_ | refine a_notd ?_ | refine a_notb ?_ | refine a_nilc ?_ | refine a_fa ?_ | refine a_ext ?_ | refine a_lenv ?_ | refine a_lens ?_ | refine a_pick_t ?_ | refine a_pick_f ?_ | refine a_not ?_ | refine a_nilf ?_ | (refine o_nil (hK _ _ ?_); clear hK K) | refine wk_reg ?_ | refine wk_seq fun K hK => ?_ | (refine wk_skip (hK _ _ ?_); clear hK K) | (refine wk_label (hK _ _ ?_); clear hK K) | refine wk_scope ?_ | refine wk_block ?_ | refine wk_cond_t rfl ?_ | refine wk_cond_f rfl ?_ | (refine wk_exit ?_; (repeat (refine blockK_other rfl ?_)); refine blockK_same ?_; try ((repeat ((fail_if_success (refine hK _ _ ?_)); clear hK K)); refine hK _ _ ?_; clear hK K)) | (refine a_bin ?_ ?_ <;> intro _ <;> try (exfalso; omega)) | refine a_ld hl ?_ | (refine a_st hl ?_; clear hl; intro _ hl) | refine a_ix (fun _ => ?_) | fail)
      refine o_mf [] [.pointer (some ⟨b6, 0, none⟩), .pointer (some ⟨b5, 0, none⟩), .pointer (some ⟨b7, 0, none⟩), .pointer (some ⟨b9, 0, none⟩)] rfl rfl rfl ?_
      refine o_put1 hl rfl rfl (by conv => lhs; whnf) ⟨rfl, rfl⟩ rfl (.here rfl rfl) ?_
      clear hl he
      intro w8 hl
      have he := hl.done
      have hE : HoEnv F c T b6 b5 b7 b9 (.slice da F.length dc) (.slice ca c.length cc) (.slice ta T.length tc) w8 :=
        ⟨hl.rowL (vs := [.slice ca c.length cc]) 2 0 1 rfl, hl.rowL (vs := [.slice da F.length dc]) 3 0 1 rfl, hl.rowL (vs := [.slice ta T.length tc]) 1 0 1 rfl, hl.rowL (vs := [holdsV b6 b5 b7 b9]) 0 0 1 rfl, hd.ext he, hc.ext he, hv.ext he⟩
      repeat' (first | refine a_mov ?_ | refine a_asg ?_ | refine a_binN ?_ | refine a_notd ?_ | refine a_notb ?_ | refine a_nilc ?_ | refine a_fa ?_ | refine a_ext ?_ | refine a_lenv ?_ | refine a_lens ?_ | refine a_pick_t ?_ | refine a_pick_f ?_ | refine a_not ?_ | refine a_nilf ?_ | (refine o_nil (hK _ _ ?_); clear hK K) | refine wk_reg ?_ | refine wk_seq fun K hK => ?_ | (refine wk_skip (hK _ _ ?_); clear hK K) | (refine wk_label (hK _ _ ?_); clear hK K) | refine wk_scope ?_ | refine wk_block ?_ | refine wk_cond_t rfl ?_ | refine wk_cond_f rfl ?_ | (refine wk_exit ?_; (repeat (refine blockK_other rfl ?_)); refine blockK_same ?_; try ((repeat ((fail_if_success (refine hK _ _ ?_)); clear hK K)); refine hK _ _ ?_; clear hK K)) | (refine a_bin ?_ ?_ <;> intro _ <;> try (exfalso; omega)) | refine a_ld hl ?_ | (refine a_st hl ?_; clear hl; intro _ hl) | refine a_ix (fun _ => ?_) | refine a_all (hl.rowL (vs := [.int .i64 (f).op, str (f).name, .int .i64 (f).cmp, .int .i64 (f).num, .slice a f.kids.length cp]) 4 0 5 rfl) ?_)
      refine a_fc #[.agg (fmL f (.slice a f.kids.length cp)).toArray] #[.pointer (some ⟨b6, 0, none⟩), .pointer (some ⟨b5, 0, none⟩), .pointer (some ⟨b7, 0, none⟩), .pointer (some ⟨b9, 0, none⟩)] #[.agg (fmL f (.slice a f.kids.length cp)).toArray, .pointer (some ⟨b6, 0, none⟩), .pointer (some ⟨b5, 0, none⟩), .pointer (some ⟨b7, 0, none⟩), .pointer (some ⟨b9, 0, none⟩)] rfl (holds2_calls F c T hF hT hcF b6 b5 b7 b9 _ _ _ f w8 G _ (checkE_right hck) (hk.ext he) hs hE) ?_
      rintro _ w9 ⟨rfl, he9⟩
      repeat' (first | refine a_mov ?_ | refine a_asg ?_ | refine a_binN ?_ | refine a_notd ?_ | refine a_notb ?_ | refine a_nilc ?_ | refine a_fa ?_ | refine a_ext ?_ | refine a_lenv ?_ | refine a_lens ?_ | refine a_pick_t ?_ | refine a_pick_f ?_ | refine a_not ?_ | refine a_nilf ?_ | (refine o_nil (hK _ _ ?_); clear hK K) | refine wk_reg ?_ | refine wk_seq fun K hK => ?_ | (refine wk_skip (hK _ _ ?_); clear hK K) | (refine wk_label (hK _ _ ?_); clear hK K) | refine wk_scope ?_ | refine wk_block ?_ | refine wk_cond_t rfl ?_ | refine wk_cond_f rfl ?_ | (refine wk_exit ?_; (repeat (refine blockK_other rfl ?_)); refine blockK_same ?_; try ((repeat ((fail_if_success (refine hK _ _ ?_)); clear hK K)); refine hK _ _ ?_; clear hK K)) | (refine a_bin ?_ ?_ <;> intro _ <;> try (exfalso; omega)) | refine a_ld hl ?_ | (refine a_st hl ?_; clear hl; intro _ hl) | refine a_ix (fun _ => ?_) | fail)
      refine wk_ret (retQ_tmp1 Tryd.results25 (by decide) rfl (by conv => lhs; whnf) ?_)
      exact ⟨by rw [hB, hfb, decide_eq_true hck]; simp, he.trans he9⟩
  · generalize hce : checkE F (fun _ => true) f = ce at *
    repeat' (first | refine a_mov ?_ | refine a_asg ?_ | refine a_binN ?_ | refine a_notd ?_ | refine a_notb ?_ | refine a_nilc ?_ | refine a_fa ?_ | refine a_ext ?_ | refine a_lenv ?_ | refine a_lens ?_ | refine a_pick_t ?_ | refine a_pick_f ?_ | refine a_not ?_ | refine a_nilf ?_ | (refine o_nil (hK _ _ ?_); clear hK K) | refine wk_reg ?_ | refine wk_seq fun K hK => ?_ | (refine wk_skip (hK _ _ ?_); clear hK K) | (refine wk_label (hK _ _ ?_); clear hK K) | refine wk_scope ?_ | refine wk_block ?_ | refine wk_cond_t rfl ?_ | refine wk_cond_f rfl ?_ | (refine wk_exit ?_; (repeat (refine blockK_other rfl ?_)); refine blockK_same ?_; try ((repeat ((fail_if_success (refine hK _ _ ?_)); clear hK K)); refine hK _ _ ?_; clear hK K)) | (refine a_bin ?_ ?_ <;> intro _ <;> try (exfalso; omega)) | refine a_ld hl ?_ | (refine a_st hl ?_; clear hl; intro _ hl) | refine a_ix (fun _ => ?_) | fail)
    refine wk_ret (retQ_tmp1 Tryd.results25 (by decide) rfl (by conv => lhs; whnf) ?_)
    exact ⟨by rw [hB, decide_eq_false hck]; simp, he⟩
end Go.Proofs

/-
  Formulas: Expand (the program's, the reference's).
-/
set_option linter.unusedVariables false
set_option linter.unusedSimpArgs false
set_option linter.unnecessarySimpa false
set_option maxRecDepth 10000
namespace Go.Fo
theorem cntL_mem {ks : List Fm} {k : Fm} (h : k ∈ ks) : cnt k ≤ cntL ks := by
  induction ks with
  | nil => cases h
  | cons x ks ih =>
    simp only [cntL]
    rcases List.mem_cons.1 h with rfl | h
    · omega
    · have := ih h; omega
theorem kids_le (f : Fm) : f.kids.length < cnt f := by have := len_cntL f.kids; rw [cnt_eq]; omega
mutual
theorem pre_cnt : ∀ (f : Fm), ∀ x ∈ pre f, cnt x ≤ cnt f
  | .node o s c n ks => by
    intro x hx
    simp only [pre, List.mem_cons] at hx
    rcases hx with rfl | hx
    · exact Nat.le_refl _
    · have := preL_cnt ks x hx; simp only [cnt]; omega
theorem preL_cnt : ∀ (ks : List Fm), ∀ x ∈ preL ks, cnt x ≤ cntL ks
  | [] => by intro x hx; simp [preL] at hx
  | k :: ks => by
    intro x hx
    simp only [preL, List.mem_append] at hx
    simp only [cntL]
    rcases hx with hx | hx
    · have := pre_cnt k x hx; omega
    · have := preL_cnt ks x hx; omega
end
mutual
theorem expand_cnt (s : List UInt8) (b : Fm) : ∀ f : Fm, cnt (expand s b f) ≤ cnt f * cnt b
  | .node o n c m ks => by
    have hb := cnt_pos b
    simp only [expand]
    split
    · simp only [cnt]; exact Nat.le_mul_of_pos_left _ (by omega)
    · simp only [cnt]
      have := expandL_cnt s b ks
      rw [Nat.add_mul]; omega
theorem expandL_cnt (s : List UInt8) (b : Fm) : ∀ ks : List Fm, cntL (expandL s b ks) ≤ cntL ks * cnt b
  | [] => by simp [expandL, cntL]
  | k :: ks => by
    have h1 := expand_cnt s b k
    have h2 := expandL_cnt s b ks
    simp only [expandL, cntL, Nat.add_mul]; omega
end
end Go.Fo

namespace Go.Proofs
open Go Go.Pd Go.Lexs Go.Fin Go.Fo
attribute [local irreducible] OpsL W RetQ OpsQ OpsC

theorem short_of {f : Fm} (h : cnt f ≤ 1000000) : Short f.kids := by
  refine ⟨by have := kids_le f; omega, fun k hk => ?_⟩
  have h1 := preL_cnt f.kids k hk
  have h2 := kids_le k
  have h3 := cnt_eq f
  omega

theorem kids_one {w : World} {G : Nat → Prop} : ∀ (ps : List (Fm × Value)), (∀ p ∈ ps, KR w G p.1.kids p.2) → (ps.flatMap kidL).all Value.oneCell' = true
  | [], _ => rfl
  | p :: ps, h => by
    rw [List.flatMap_cons, List.all_append, kids_one ps fun q hq => h q (List.mem_cons_of_mem _ hq)]
    rw [show (kidL p).all Value.oneCell' = true from fmL_one (h p List.mem_cons_self)]
    rfl

theorem KR.pairs {w : World} {G : Nat → Prop} {ks : List Fm} {kv : Value} (h : KR w G ks kv) : ∃ ps : List (Fm × Value), ps.map (·.1) = ks ∧ Sl w kv 5 (ps.flatMap kidL) ∧ ∀ p ∈ ps, KR w G p.1.kids p.2 := by
  cases h with
  | mk ps he hs hg hk => exact ⟨ps, he, hs, hk⟩

/-- What a function that replaces a term answers. -/
def ExC (P : Program) (F : FuncId) (s : List UInt8) (y : Fm) (f : Fm) : Prop := ∀ (w : World) (G : Nat → Prop) (kv yv : Value), KR w G f.kids kv → KR w G y.kids yv → (∀ b, G b → b < w.heap.size) → cnt f ≤ 1000000 →
  Calls P F #[.agg (fmL f kv).toArray, str s, .agg (fmL y yv).toArray] w (fun e w' => ∃ x, e = .returned x ∧ (∃ kv', x = .agg (fmL (expand s y f) kv').toArray ∧ KR w' (fun b => (G b ∨ w.heap.size ≤ b) ∧ b < w'.heap.size) (expand s y f).kids kv') ∧ Ext w w')

theorem kidL_flat (ps : List (Fm × Value)) : (ps.flatMap kidL).length = ps.length * 5 := flat_length kidL_len ps

set_option maxHeartbeats 1000000 in
theorem cloneF_calls {w : World} {v : Value} {m : Nat} {us : List Value} (hv : Sl w v 5 us) (hm : us.length = m * 5) (hb : m ≤ 1000000) (h1 : us.all Value.oneCell' = true) :
    Calls Tryd.prog 44 #[v] w (fun e w' => ∃ x, e = .returned x ∧ ∃ acc, LH w (fun _ => False) w' acc ∧ Acc x 5 24 m us acc) := by
  obtain ⟨a, c, rfl, -⟩ := hv.shape hm (by omega)
  refine calls_of Tryd.func44 rfl Tryd.ntmps44 rfl ?_
  repeat' (first | refine a_mov ?_ | refine a_asg ?_ | refine a_binN ?_ | refine a_notd ?_ | refine a_notb ?_ | refine a_nilc ?_ | refine a_fa ?_ | refine a_ext ?_ | refine a_lenv ?_ | refine a_lens ?_ | refine a_pick_t ?_ | refine a_pick_f ?_ | refine a_not ?_ | refine a_nilf ?_ | (refine o_nil (hK _ _ ?_); clear hK K) | refine wk_reg ?_ | refine wk_seq fun K hK => ?_ | (refine wk_skip (hK _ _ ?_); clear hK K) | (refine wk_label (hK _ _ ?_); clear hK K) | refine wk_scope ?_ | refine wk_block ?_ | refine wk_cond_t rfl ?_ | refine wk_cond_f rfl ?_ | (refine wk_exit ?_; (repeat (refine blockK_other rfl ?_)); refine blockK_same ?_; try ((repeat ((fail_if_success (refine hK _ _ ?_)); clear hK K)); refine hK _ _ ?_; clear hK K)) | (refine a_bin ?_ ?_ <;> intro _ <;> try (exfalso; omega)) | refine a_ld hl ?_ | (refine a_st hl ?_; clear hl; intro _ hl) | refine a_ix (fun _ => ?_) | fail)
  refine o_seq rfl rfl rfl rfl ?_
  cases a with
  | none =>
    repeat' (first | refine a_mov ?_ | refine a_asg ?_ | refine a_binN ?_ | refine a_notd ?_ | refine a_notb ?_ | refine a_nilc ?_ | refine a_fa ?_ | refine a_ext ?_ | refine a_lenv ?_ | refine a_lens ?_ | refine a_pick_t ?_ | refine a_pick_f ?_ | refine a_not ?_ | refine a_nilf ?_ | (refine o_nil (hK _ _ ?_); clear hK K) | refine wk_reg ?_ | refine wk_seq fun K hK => ?_ | (refine wk_skip (hK _ _ ?_); clear hK K) | (refine wk_label (hK _ _ ?_); clear hK K) | refine wk_scope ?_ | refine wk_block ?_ | refine wk_cond_t rfl ?_ | refine wk_cond_f rfl ?_ | (refine wk_exit ?_; (repeat (refine blockK_other rfl ?_)); refine blockK_same ?_; try ((repeat ((fail_if_success (refine hK _ _ ?_)); clear hK K)); refine hK _ _ ?_; clear hK K)) | (refine a_bin ?_ ?_ <;> intro _ <;> try (exfalso; omega)) | refine a_ld hl ?_ | (refine a_st hl ?_; clear hl; intro _ hl) | refine a_ix (fun _ => ?_) | fail)
    refine wk_ret (retQ_tmp1 Tryd.results44 (by decide) rfl (by conv => lhs; whnf) ?_)
    rcases hv with ⟨h, rfl⟩ | ⟨a', m', c', h, -⟩
    · have hm0 : m = 0 := by simp at hm; omega
      subst hm0
      exact ⟨[], LH.start _ _, Acc.nil _ _⟩
    · cases h
  | some a =>
    repeat' (first | refine a_mov ?_ | refine a_asg ?_ | refine a_binN ?_ | refine a_notd ?_ | refine a_notb ?_ | refine a_nilc ?_ | refine a_fa ?_ | refine a_ext ?_ | refine a_lenv ?_ | refine a_lens ?_ | refine a_pick_t ?_ | refine a_pick_f ?_ | refine a_not ?_ | refine a_nilf ?_ | (refine o_nil (hK _ _ ?_); clear hK K) | refine wk_reg ?_ | refine wk_seq fun K hK => ?_ | (refine wk_skip (hK _ _ ?_); clear hK K) | (refine wk_label (hK _ _ ?_); clear hK K) | refine wk_scope ?_ | refine wk_block ?_ | refine wk_cond_t rfl ?_ | refine wk_cond_f rfl ?_ | (refine wk_exit ?_; (repeat (refine blockK_other rfl ?_)); refine blockK_same ?_; try ((repeat ((fail_if_success (refine hK _ _ ?_)); clear hK K)); refine hK _ _ ?_; clear hK K)) | (refine a_bin ?_ ?_ <;> intro _ <;> try (exfalso; omega)) | refine a_ld hl ?_ | (refine a_st hl ?_; clear hl; intro _ hl) | refine a_ix (fun _ => ?_) | fail)
    refine o_buildSlice0 (k := 5) (LH.start w (fun _ => False)) rfl rfl rfl ?_
    intro b w1 hb1 hl
    repeat' (first | refine a_mov ?_ | refine a_asg ?_ | refine a_binN ?_ | refine a_notd ?_ | refine a_notb ?_ | refine a_nilc ?_ | refine a_fa ?_ | refine a_ext ?_ | refine a_lenv ?_ | refine a_lens ?_ | refine a_pick_t ?_ | refine a_pick_f ?_ | refine a_not ?_ | refine a_nilf ?_ | (refine o_nil (hK _ _ ?_); clear hK K) | refine wk_reg ?_ | refine wk_seq fun K hK => ?_ | (refine wk_skip (hK _ _ ?_); clear hK K) | (refine wk_label (hK _ _ ?_); clear hK K) | refine wk_scope ?_ | refine wk_block ?_ | refine wk_cond_t rfl ?_ | refine wk_cond_f rfl ?_ | (refine wk_exit ?_; (repeat (refine blockK_other rfl ?_)); refine blockK_same ?_; try ((repeat ((fail_if_success (refine hK _ _ ?_)); clear hK K)); refine hK _ _ ?_; clear hK K)) | (refine a_bin ?_ ?_ <;> intro _ <;> try (exfalso; omega)) | refine a_ld hl ?_ | (refine a_st hl ?_; clear hl; intro _ hl) | refine a_ix (fun _ => ?_) | fail)
    refine o_appendS (bl' := []) (k := 5) (bytes := 64) (q := m) hl (Acc.empty 5 24 b) (hv.ext hl.done) hm (by omega) h1 (by omega) (by omega) rfl rfl rfl rfl rfl rfl ?_
    intro v' w2 acc' hl2 ha2
    repeat' (first | refine a_mov ?_ | refine a_asg ?_ | refine a_binN ?_ | refine a_notd ?_ | refine a_notb ?_ | refine a_nilc ?_ | refine a_fa ?_ | refine a_ext ?_ | refine a_lenv ?_ | refine a_lens ?_ | refine a_pick_t ?_ | refine a_pick_f ?_ | refine a_not ?_ | refine a_nilf ?_ | (refine o_nil (hK _ _ ?_); clear hK K) | refine wk_reg ?_ | refine wk_seq fun K hK => ?_ | (refine wk_skip (hK _ _ ?_); clear hK K) | (refine wk_label (hK _ _ ?_); clear hK K) | refine wk_scope ?_ | refine wk_block ?_ | refine wk_cond_t rfl ?_ | refine wk_cond_f rfl ?_ | (refine wk_exit ?_; (repeat (refine blockK_other rfl ?_)); refine blockK_same ?_; try ((repeat ((fail_if_success (refine hK _ _ ?_)); clear hK K)); refine hK _ _ ?_; clear hK K)) | (refine a_bin ?_ ?_ <;> intro _ <;> try (exfalso; omega)) | refine a_ld hl ?_ | (refine a_st hl ?_; clear hl; intro _ hl) | refine a_ix (fun _ => ?_) | fail)
    refine wk_ret (retQ_tmp1 Tryd.results44 (by decide) rfl (by conv => lhs; whnf) ?_)
    exact ⟨acc', hl2, by simpa using ha2⟩

theorem KR.of_acc {w0 w : World} {M G' : Nat → Prop} {l acc : List (Nat × Obj)} {v : Value} {m : Nat} {ps : List (Fm × Value)} {ks : List Fm} (hl : LH w0 M w (l ++ acc)) (ha : Acc v 5 24 m (ps.flatMap kidL) acc) (he : ps.map (·.1) = ks) (hg : ∀ b, b ∈ acc.map (·.1) → G' b) (h : ∀ p ∈ ps, KR w G' p.1.kids p.2) : KR w G' ks v := by
  refine .mk ps he (hl.acc_sl ha) (fun _ => ?_) h
  rcases ha with ⟨-, ⟨rfl, -, -⟩ | ⟨b, cap, cur, rfl, rfl, -⟩⟩
  · trivial
  · exact fun hn => hn (hg b (by simp))

set_option maxHeartbeats 8000000 in
theorem expand_calls (s : List UInt8) (y : Fm) : ∀ f : Fm, ExC Tryd.prog 22 s y f := by
  refine Fm.ind ?_
  intro f ih w G kv yv hk hy hG hc
  obtain ⟨a, c, rfl, -⟩ := hk.shape
  obtain ⟨ya, yc, rfl, -⟩ := hy.shape
  have hex := expand_eq s y f
  have hlen := kids_le f
  have hyone := fmL_one hy
  obtain ⟨ps0, hps0, hs0, hkr0⟩ := hk.pairs
  have hpl0 : ps0.length = f.kids.length := by rw [← hps0, List.length_map]
  refine calls_of Tryd.func22 rfl Tryd.ntmps22 rfl ?_
  refine wk_seq fun K hK => ?_
  refine wk_reg ?_
  refine o_box (LH.start w (fun _ => False)) [.int .i64 (f).op, str (f).name, .int .i64 (f).cmp, .int .i64 (f).num, .slice a f.kids.length c] rfl rfl rfl ?_
  intro b3 w1 hb3 hl
  refine o_box hl [.int .i64 (y).op, str (y).name, .int .i64 (y).cmp, .int .i64 (y).num, .slice ya y.kids.length yc] rfl rfl rfl ?_
  clear hl
  intro b5 w2 hb5 hl
  refine o_alloc hl [.int .i64 0, .string ⟨#[]⟩, .int .i64 0, .int .i64 0, .slice none 0 0] rfl rfl ?_
  clear hl
  intro b6 w3 hb6 hl
  have key : ¬ (f.op = 4 ∧ f.name = s) → expand s y f = .node f.op f.name f.cmp f.num (f.kids.map (expand s y)) := fun h => by rw [hex, if_neg h]
  refine o_nil (hK _ _ ?_)
  clear hK K
  refine wk_seq fun K hK => ?_
  refine wk_cut (α := Unit) [] (fun _ => [(1, str s), (3, .pointer (some ⟨b3, 0, none⟩)), (5, .pointer (some ⟨b5, 0, none⟩)), (6, .pointer (some ⟨b6, 0, none⟩))]) (fun _ w' => ¬ (f.op = 4 ∧ f.name = s) ∧ LH w (fun _ => False) w' [(b6, Obj.cells #[.int .i64 0, .string ⟨#[]⟩, .int .i64 0, .int .i64 0, .slice none 0 0] 24 (0, 0)), (b5, Obj.cells ([.int .i64 (y).op, str (y).name, .int .i64 (y).cmp, .int .i64 (y).num, .slice ya y.kids.length yc] : List Value).toArray 24 (0, 0)), (b3, Obj.cells ([.int .i64 (f).op, str (f).name, .int .i64 (f).cmp, .int .i64 (f).num, .slice a f.kids.length c] : List Value).toArray 24 (0, 0))]) ?_ ?_
  · repeat' (first | refine a_mov ?_ | refine a_asg ?_ | refine a_binN ?_ | refine a_notd ?_ | refine a_notb ?_ | refine a_nilc ?_ | refine a_fa ?_ | refine a_ext ?_ | refine a_lenv ?_ | refine a_lens ?_ | refine a_pick_t ?_ | refine a_pick_f ?_ | refine a_not ?_ | refine a_nilf ?_ | (refine o_nil (hK _ _ ?_); clear hK K) | refine wk_reg ?_ | refine wk_seq fun K hK => ?_ | (refine wk_skip (hK _ _ ?_); clear hK K) | (refine wk_label (hK _ _ ?_); clear hK K) | refine wk_scope ?_ | refine wk_block ?_ | refine wk_cond_t rfl ?_ | refine wk_cond_f rfl ?_ | (refine wk_exit ?_; (repeat (refine blockK_other rfl ?_)); refine blockK_same ?_; try ((repeat ((fail_if_success (refine hK _ _ ?_)); clear hK K)); refine hK _ _ ?_; clear hK K)) | (refine a_bin ?_ ?_ <;> intro _ <;> try (exfalso; omega)) | refine a_ld hl ?_ | (refine a_st hl ?_; clear hl; intro _ hl) | refine a_ix (fun _ => ?_) | (refine o_eqsT (a := f.name) (b := s) rfl rfl rfl ?_ ?_ <;> intro hid) | refine a_all (hl.rowL (vs := [.int .i64 (y).op, str (y).name, .int .i64 (y).cmp, .int .i64 (y).num, .slice ya y.kids.length yc]) 1 0 5 rfl) ?_)
    · have hee : expand s y f = y := by rw [hex, if_pos ⟨by assumption, hid⟩]
      refine o_putN (us := [.int .i64 (y).op, str (y).name, .int .i64 (y).cmp, .int .i64 (y).num, .slice ya y.kids.length yc]) hl rfl rfl rfl hyone rfl (.all rfl rfl) ?_
      clear hl
      intro w4 hl
      repeat' (first | refine a_mov ?_ | refine a_asg ?_ | refine a_binN ?_ | refine a_notd ?_ | refine a_notb ?_ | refine a_nilc ?_ | refine a_fa ?_ | refine a_ext ?_ | refine a_lenv ?_ | refine a_lens ?_ | refine a_pick_t ?_ | refine a_pick_f ?_ | refine a_not ?_ | refine a_nilf ?_ | (refine o_nil (hK _ _ ?_); clear hK K) | refine wk_reg ?_ | refine wk_seq fun K hK => ?_ | (refine wk_skip (hK _ _ ?_); clear hK K) | (refine wk_label (hK _ _ ?_); clear hK K) | refine wk_scope ?_ | refine wk_block ?_ | refine wk_cond_t rfl ?_ | refine wk_cond_f rfl ?_ | (refine wk_exit ?_; (repeat (refine blockK_other rfl ?_)); refine blockK_same ?_; try ((repeat ((fail_if_success (refine hK _ _ ?_)); clear hK K)); refine hK _ _ ?_; clear hK K)) | (refine a_bin ?_ ?_ <;> intro _ <;> try (exfalso; omega)) | refine a_ld hl ?_ | (refine a_st hl ?_; clear hl; intro _ hl) | refine a_ix (fun _ => ?_) | fail)
      refine wk_ret (retQ_res [.agg ([.int .i64 (y).op, str (y).name, .int .i64 (y).cmp, .int .i64 (y).num, .slice ya y.kids.length yc] : List Value).toArray] rfl rfl ⟨by decide, ⟨⟨b6, 0, none⟩, rfl, run_loadVarN rfl rfl (hl.rowL (vs := [.int .i64 (y).op, str (y).name, .int .i64 (y).cmp, .int .i64 (y).num, .slice ya y.kids.length yc]) 0 0 5 rfl)⟩, trivial⟩ ⟨⟨.slice ya y.kids.length yc, by rw [hee]; rfl, ?_⟩, hl.done⟩)
      rw [hee]
      exact (hy.ext hl.done).mono fun b hb => ⟨.inl hb, Nat.lt_of_lt_of_le (hG b hb) hl.done.size⟩
    · exact wk_skip ⟨(), ⟨rfl, rfl, rfl, rfl, trivial⟩, rfl, fun h => hid h.2, hl⟩
    · exact wk_skip ⟨(), ⟨rfl, rfl, rfl, rfl, trivial⟩, rfl, fun h => by omega, hl⟩
  clear hl
  rintro - t w4 ⟨hno, hl⟩
  have hee := key hno
  clear hex key
  refine hK _ _ ?_
  clear hK K
  repeat' (first | refine a_mov ?_ | refine a_asg ?_ | refine a_binN ?_ | refine a_notd ?_ | refine a_notb ?_ | refine a_nilc ?_ | refine a_fa ?_ | refine a_ext ?_ | refine a_lenv ?_ | refine a_lens ?_ | refine a_pick_t ?_ | refine a_pick_f ?_ | refine a_not ?_ | refine a_nilf ?_ | (refine o_nil (hK _ _ ?_); clear hK K) | refine wk_reg ?_ | refine wk_seq fun K hK => ?_ | (refine wk_skip (hK _ _ ?_); clear hK K) | (refine wk_label (hK _ _ ?_); clear hK K) | refine wk_scope ?_ | refine wk_block ?_ | refine wk_cond_t rfl ?_ | refine wk_cond_f rfl ?_ | (refine wk_exit ?_; (repeat (refine blockK_other rfl ?_)); refine blockK_same ?_; try ((repeat ((fail_if_success (refine hK _ _ ?_)); clear hK K)); refine hK _ _ ?_; clear hK K)) | (refine a_bin ?_ ?_ <;> intro _ <;> try (exfalso; omega)) | refine a_ld hl ?_ | (refine a_st hl ?_; clear hl; intro _ hl) | refine a_ix (fun _ => ?_) | fail)
  refine a_fn (cloneF_calls (m := f.kids.length) (hs0.ext hl.done) (by rw [kidL_flat, hpl0]) (by omega) (kids_one ps0 hkr0)) ?_
  rintro v w5 ⟨acc, hl5, ha⟩
  replace hl := hl.join hl5
  clear hl5
  obtain ⟨pa, pc, rfl⟩ := ha.shape
  have hl : LH w (fun _ => False) w5 ([(b6, Obj.cells #[.int .i64 0, .string ⟨#[]⟩, .int .i64 0, .int .i64 0, .slice none 0 0] 24 (0, 0)), (b5, Obj.cells ([.int .i64 (y).op, str (y).name, .int .i64 (y).cmp, .int .i64 (y).num, .slice ya y.kids.length yc] : List Value).toArray 24 (0, 0)), (b3, Obj.cells ([.int .i64 (f).op, str (f).name, .int .i64 (f).cmp, .int .i64 (f).num, .slice a f.kids.length c] : List Value).toArray 24 (0, 0))] ++ acc) := hl.perm List.perm_append_comm
  have hl : LH w (fun _ => False) w5 (_ :: _ :: _ :: acc) := hl
  repeat' (first | refine a_mov ?_ | refine a_asg ?_ | refine a_binN ?_ | refine a_notd ?_ | refine a_notb ?_ | refine a_nilc ?_ | refine a_fa ?_ | refine a_ext ?_ | refine a_lenv ?_ | refine a_lens ?_ | refine a_pick_t ?_ | refine a_pick_f ?_ | refine a_not ?_ | refine a_nilf ?_ | (refine o_nil (hK _ _ ?_); clear hK K) | refine wk_reg ?_ | refine wk_seq fun K hK => ?_ | (refine wk_skip (hK _ _ ?_); clear hK K) | (refine wk_label (hK _ _ ?_); clear hK K) | refine wk_scope ?_ | refine wk_block ?_ | refine wk_cond_t rfl ?_ | refine wk_cond_f rfl ?_ | (refine wk_exit ?_; (repeat (refine blockK_other rfl ?_)); refine blockK_same ?_; try ((repeat ((fail_if_success (refine hK _ _ ?_)); clear hK K)); refine hK _ _ ?_; clear hK K)) | (refine a_bin ?_ ?_ <;> intro _ <;> try (exfalso; omega)) | refine a_ld hl ?_ | (refine a_st hl ?_; clear hl; intro _ hl) | refine a_ix (fun _ => ?_) | fail)
  generalize hids : (([(b6, Obj.cells #[.int .i64 0, .string ⟨#[]⟩, .int .i64 0, .int .i64 0, .slice none 0 0] 24 (0, 0)), (b5, Obj.cells ([.int .i64 (y).op, str (y).name, .int .i64 (y).cmp, .int .i64 (y).num, .slice ya y.kids.length yc] : List Value).toArray 24 (0, 0)), (b3, Obj.cells ([.int .i64 (f).op, str (f).name, .int .i64 (f).cmp, .int .i64 (f).num, .slice pa f.kids.length pc] : List Value).toArray 24 (0, 0))] ++ acc).map (·.1)) = ids
  have hidf : ∀ w' kv', LH w (fun _ => False) w' ([(b6, Obj.cells #[.int .i64 0, .string ⟨#[]⟩, .int .i64 0, .int .i64 0, .slice none 0 0] 24 (0, 0)), (b5, Obj.cells ([.int .i64 (y).op, str (y).name, .int .i64 (y).cmp, .int .i64 (y).num, .slice ya y.kids.length yc] : List Value).toArray 24 (0, 0)), (b3, Obj.cells ([.int .i64 (f).op, str (f).name, .int .i64 (f).cmp, .int .i64 (f).num, .slice pa f.kids.length pc] : List Value).toArray 24 (0, 0))] ++ kv') → kv'.map (·.1) = acc.map (·.1) → ∀ b, b ∈ ids ↔ b ∈ ([(b6, Obj.cells #[.int .i64 0, .string ⟨#[]⟩, .int .i64 0, .int .i64 0, .slice none 0 0] 24 (0, 0)), (b5, Obj.cells ([.int .i64 (y).op, str (y).name, .int .i64 (y).cmp, .int .i64 (y).num, .slice ya y.kids.length yc] : List Value).toArray 24 (0, 0)), (b3, Obj.cells ([.int .i64 (f).op, str (f).name, .int .i64 (f).cmp, .int .i64 (f).num, .slice pa f.kids.length pc] : List Value).toArray 24 (0, 0))] ++ kv').map (·.1) := fun w' kv' _ h b => by
    rw [← hids, List.map_append, List.map_append, h]
  have hGids : ∀ b, G b → b ∉ ids := fun b hb hm => by
    rw [← hids] at hm
    rcases hl.id hm with h | h
    · have := hG b hb; omega
    · exact h
  refine wk_loopH [] rfl (fun q : Nat × List (Fm × Value) × List (Nat × Obj) => [(1, str s), (3, .pointer (some ⟨b3, 0, none⟩)), (5, .pointer (some ⟨b5, 0, none⟩)), (6, .pointer (some ⟨b6, 0, none⟩)), (24, .slice pa f.kids.length pc), (25, .int .i64 (f.kids.length : Int)), (26, .int .i64 (q.1 : Int))])
    (fun q w' => (q.1 ≤ f.kids.length ∧ q.2.1.map (·.1) = (f.kids.take q.1).map (expand s y) ++ f.kids.drop q.1) ∧ LH w (fun _ => False) w' ([(b6, Obj.cells #[.int .i64 0, .string ⟨#[]⟩, .int .i64 0, .int .i64 0, .slice none 0 0] 24 (0, 0)), (b5, Obj.cells ([.int .i64 (y).op, str (y).name, .int .i64 (y).cmp, .int .i64 (y).num, .slice ya y.kids.length yc] : List Value).toArray 24 (0, 0)), (b3, Obj.cells ([.int .i64 (f).op, str (f).name, .int .i64 (f).cmp, .int .i64 (f).num, .slice pa f.kids.length pc] : List Value).toArray 24 (0, 0))] ++ q.2.2) ∧ Acc (.slice pa f.kids.length pc) 5 24 f.kids.length (q.2.1.flatMap kidL) q.2.2 ∧ q.2.2.map (·.1) = acc.map (·.1) ∧ ∀ p ∈ q.2.1, KR w' (fun b => (G b ∨ w.heap.size ≤ b) ∧ b < w'.heap.size ∧ b ∉ ids) p.1.kids p.2)
    (fun q => f.kids.length - q.1) (0, ps0, acc) ⟨rfl, rfl, rfl, rfl, rfl, rfl, rfl, trivial⟩ ⟨⟨Nat.zero_le _, by simpa using hps0⟩, hl, ha, rfl, fun p hp => ((hkr0 p hp).ext hl.done).mono fun b hb => ⟨.inl hb, Nat.lt_of_lt_of_le (hG b hb) hl.done.size, hGids b hb⟩⟩ ?_
  clear hl ha hps0 hs0 hkr0
  rintro ⟨i, ps, accL⟩ t w6 ⟨⟨hi, hmap⟩, hl, ha, hacc, hkr⟩
  simp only at hi hmap hl ha hacc hkr
  have hpl : ps.length = f.kids.length := by
    have := congrArg List.length hmap
    simp at this
    omega
  by_cases hi1 : i < f.kids.length
  · have hi2 : i < ps.length := by omega
    have hak := ha
    obtain ⟨hal, ⟨h1, h2, -⟩ | ⟨bk, cap, cur, hv, rfl, hmc, hcap, hcs, hct⟩⟩ := hak
    · omega
    cases hv
    obtain ⟨vs, rfl⟩ : ∃ vs : List Value, cur = vs.toArray := ⟨cur.toList, by simp⟩
    have hvs : vs = ps.flatMap kidL ++ vs.drop (f.kids.length * 5) := by rw [← hct]; simp
    have hvl : vs.length = pc * 5 := by simpa using hcs
    generalize vs.drop (f.kids.length * 5) = junk at hvs
    have hput := fun x => putL_flat kidL_len x junk ps i hi2
    rw [← hvs] at hput
    have hrow : Row w6 bk (0 + i * 5) (fmL ps[i].1 ps[i].2) := by
      have h1 := (LH.acc_sl hl ha).at hal (by omega) (by omega)
      obtain ⟨b', o', he, hr⟩ := h1
      cases he
      exact hr.elem kidL_len (k := i) (t := ps[i]) (by simp [hi2])
    have hkk := hkr ps[i] (List.getElem_mem hi2)
    have hki : ps[i].1 = f.kids[i] := by
      have h1 : (ps.map (·.1))[i]'(by simp; omega) = f.kids[i] := by
        simp only [hmap]
        rw [List.getElem_append_right (by simp; omega)]
        simp [Nat.min_eq_left hi]
      simpa using h1
    have ihk := ih f.kids[i] (List.getElem_mem hi1)
    have hck := cnt_kid hi1
    have hce := cnt_eq f
    rw [hki] at hrow hkk
    have hmap' : ∀ kv', (ps.set i (expand s y f.kids[i], kv')).map (·.1) = (f.kids.take (i + 1)).map (expand s y) ++ f.kids.drop (i + 1) := fun kv' => by
      rw [List.map_set, hmap, List.take_succ_eq_append_getElem hi1, List.map_append]
      rw [List.set_append_right _ _ (by simp; omega)]
      have : i - (List.map (expand s y) (List.take i f.kids)).length = 0 := by simp; omega
      rw [this, List.drop_eq_getElem_cons hi1, List.set_cons_zero]
      simp
    have hid0 := hl.idlt (b := b6) (by simp)
    have hidw := hidf _ _ hl hacc
    have hone := fmL_one hkk
    generalize ps[i].2 = kv at *
    generalize hkn : f.kids[i] = k at *
    have hrb := hl.rb
    have hl1 : LH w6 _ w6 [_, _, _, _] := hrb
    clear hrb
    repeat' (first | refine a_mov ?_ | refine a_asg ?_ | refine a_binN ?_ | refine a_notd ?_ | refine a_notb ?_ | refine a_nilc ?_ | refine a_fa ?_ | refine a_ext ?_ | refine a_lenv ?_ | refine a_lens ?_ | refine a_pick_t ?_ | refine a_pick_f ?_ | refine a_not ?_ | refine a_nilf ?_ | (refine o_nil (hK _ _ ?_); clear hK K) | refine wk_reg ?_ | refine wk_seq fun K hK => ?_ | (refine wk_skip (hK _ _ ?_); clear hK K) | (refine wk_label (hK _ _ ?_); clear hK K) | refine wk_scope ?_ | refine wk_block ?_ | refine wk_cond_t rfl ?_ | refine wk_cond_f rfl ?_ | (refine wk_exit ?_; (repeat (refine blockK_other rfl ?_)); refine blockK_same ?_; try ((repeat ((fail_if_success (refine hK _ _ ?_)); clear hK K)); refine hK _ _ ?_; clear hK K)) | (refine a_bin ?_ ?_ <;> intro _ <;> try (exfalso; omega)) | refine a_ld hl ?_ | (refine a_st hl ?_; clear hl; intro _ hl) | refine a_ix (fun _ => ?_) | refine a_idx (c := 5) i rfl ?_ | refine a_all hrow ?_)
    refine o_alloc hl1 [.int .i64 0, .string ⟨#[]⟩, .int .i64 0, .int .i64 0, .slice none 0 0] rfl rfl ?_
    clear hl1
    intro b8 w7 hb8 hl1
    repeat' (first | refine a_mov ?_ | refine a_asg ?_ | refine a_binN ?_ | refine a_notd ?_ | refine a_notb ?_ | refine a_nilc ?_ | refine a_fa ?_ | refine a_ext ?_ | refine a_lenv ?_ | refine a_lens ?_ | refine a_pick_t ?_ | refine a_pick_f ?_ | refine a_not ?_ | refine a_nilf ?_ | (refine o_nil (hK _ _ ?_); clear hK K) | refine wk_reg ?_ | refine wk_seq fun K hK => ?_ | (refine wk_skip (hK _ _ ?_); clear hK K) | (refine wk_label (hK _ _ ?_); clear hK K) | refine wk_scope ?_ | refine wk_block ?_ | refine wk_cond_t rfl ?_ | refine wk_cond_f rfl ?_ | (refine wk_exit ?_; (repeat (refine blockK_other rfl ?_)); refine blockK_same ?_; try ((repeat ((fail_if_success (refine hK _ _ ?_)); clear hK K)); refine hK _ _ ?_; clear hK K)) | (refine a_bin ?_ ?_ <;> intro _ <;> try (exfalso; omega)) | refine a_ld hl ?_ | (refine a_st hl ?_; clear hl; intro _ hl) | refine a_ix (fun _ => ?_) | fail)
    refine o_putN (us := [.int .i64 (k).op, str (k).name, .int .i64 (k).cmp, .int .i64 (k).num, kv]) hl1 rfl rfl rfl hone rfl (.all rfl rfl) ?_
    clear hl1
    intro w8 hl1
    repeat' (first | refine a_mov ?_ | refine a_asg ?_ | refine a_binN ?_ | refine a_notd ?_ | refine a_notb ?_ | refine a_nilc ?_ | refine a_fa ?_ | refine a_ext ?_ | refine a_lenv ?_ | refine a_lens ?_ | refine a_pick_t ?_ | refine a_pick_f ?_ | refine a_not ?_ | refine a_nilf ?_ | (refine o_nil (hK _ _ ?_); clear hK K) | refine wk_reg ?_ | refine wk_seq fun K hK => ?_ | (refine wk_skip (hK _ _ ?_); clear hK K) | (refine wk_label (hK _ _ ?_); clear hK K) | refine wk_scope ?_ | refine wk_block ?_ | refine wk_cond_t rfl ?_ | refine wk_cond_f rfl ?_ | (refine wk_exit ?_; (repeat (refine blockK_other rfl ?_)); refine blockK_same ?_; try ((repeat ((fail_if_success (refine hK _ _ ?_)); clear hK K)); refine hK _ _ ?_; clear hK K)) | (refine a_bin ?_ ?_ <;> intro _ <;> try (exfalso; omega)) | refine a_ld hl ?_ | (refine a_st hl ?_; clear hl; intro _ hl) | refine a_ix (fun _ => ?_) | fail)
    refine wk_draw [0, 1, 2, 3, 4, 5, 7] [1] [6, 8] (fun w' => To w8 w' w8.heap) (fun w' => w'.heap[b3]? = some (Obj.cells ([.int .i64 (f).op, str (f).name, .int .i64 (f).cmp, .int .i64 (f).num, .slice (some ⟨bk, 0, none⟩) f.kids.length pc] : List Value).toArray 24 (0, 0))) rfl (by kernel_rfl) (fun _ _ _ _ h => by first | exact h | (simp only [BlockK, NoGoto, RetQ] at h)) (fun w' h => h) (fun w' h => by rw [h.1]; exact hl1.get 3 rfl) ?_
    repeat' (first | refine q_mov ?_ | refine q_asg ?_ | refine q_fa ?_ | refine q_ext ?_ | refine q_binN ?_ | refine q_notd ?_ | refine q_notb ?_ | refine q_pick_t ?_ | refine q_pick_f ?_ | refine q_nilc ?_ | refine q_skip ?_ | refine q_lens ?_ | refine q_lenv ?_ | refine q_nil ?_ | refine q_ix (fun _ => ?_) | (refine q_bin ?_ ?_ <;> intro _ <;> try (exfalso; omega)) | refine q_ld (fun w_ hw_ => hl1.heap hw_) ?_ | refine q_late rfl rfl rfl rfl (fun w' hw' => r_load rfl rfl (cell_of_block hw' rfl)) ?_ | refine q_all (fun w_ hw_ => (hl1.heap hw_).rowL (vs := [.int .i64 (k).op, str (k).name, .int .i64 (k).cmp, .int .i64 (k).num, kv]) 0 0 5 rfl) ?_ | refine q_all (fun w_ hw_ => (hl1.heap hw_).rowL (vs := [.int .i64 (y).op, str (y).name, .int .i64 (y).cmp, .int .i64 (y).num, .slice ya y.kids.length yc]) 2 0 5 rfl) ?_ | refine q_idx (c := 5) i rfl ?_ | fail)
    intro w9 hw9
    replace hl1 := hl1.heap hw9
    have hup := hl1.upd
    have hbw : ∀ b, ((G b ∨ w.heap.size ≤ b) ∧ b < w6.heap.size ∧ b ∉ ids) → b ∉ ([(b6, Obj.cells #[.int .i64 0, .string ⟨#[]⟩, .int .i64 0, .int .i64 0, .slice none 0 0] 24 (0, 0)), (b5, Obj.cells ([.int .i64 (y).op, str (y).name, .int .i64 (y).cmp, .int .i64 (y).num, .slice ya y.kids.length yc] : List Value).toArray 24 (0, 0)), (b3, Obj.cells ([.int .i64 (f).op, str (f).name, .int .i64 (f).cmp, .int .i64 (f).num, .slice (some ⟨bk, 0, none⟩) f.kids.length pc] : List Value).toArray 24 (0, 0))] ++ [(bk, Obj.cells vs.toArray 24 (0, 0))]).map (·.1) := fun b hb hm => hb.2.2 ((hidw b).2 hm)
    have hkk9 := hkk.upd hup hbw
    have hy9 := ((hy.ext hl.done).mono (G' := fun b => (G b ∨ w.heap.size ≤ b) ∧ b < w6.heap.size ∧ b ∉ ids) fun b hb => ⟨.inl hb, Nat.lt_of_lt_of_le (hG b hb) hl.done.size, hGids b hb⟩).upd hup hbw
    have hkr9 : ∀ p ∈ ps, KR w9 (fun b => (G b ∨ w.heap.size ≤ b) ∧ b < w6.heap.size ∧ b ∉ ids) p.1.kids p.2 := fun p hp => (hkr p hp).upd hup hbw
    have hsz := hup.size
    refine ops_tail rfl rfl ?_
    refine a_fn (ihk w9 _ kv (.slice ya y.kids.length yc) hkk9 hy9 (fun b hb => Nat.lt_of_lt_of_le hb.2.1 hsz) (by omega)) ?_
    rintro _ w10 ⟨⟨kv', rfl, hkk2⟩, he10⟩
    have hl2 := hl1.ext he10
    refine o_nil ⟨hl2.get 3 rfl, ?_⟩
    refine ops_tail rfl rfl ?_
    have hrb2 := hl2.rb
    have hl3 : LH w10 _ w10 [_, _, _, _, _] := hrb2
    refine o_store hl3 4 (kidL (expand s y k, kv')) rfl rfl rfl rfl rfl (by rw [hvl]; show 0 + i * 5 + 5 ≤ pc * 5; omega) (fmL_one hkk2) ?_
    intro w11 hl4
    refine o_nil ⟨hl4.get 3 rfl, ?_⟩
    refine ops_nil (hK _ _ ?_)
    clear hK K hl3
    rw [Nat.zero_add, hput (expand s y k, kv')] at hl4
    have hl5 := hl.bk ((hl2.bk hl4).sub (List.sublist_cons_self _ _))
    have hl5 : LH w (fun _ => False) w11 ([(b6, Obj.cells #[.int .i64 0, .string ⟨#[]⟩, .int .i64 0, .int .i64 0, .slice none 0 0] 24 (0, 0)), (b5, Obj.cells ([.int .i64 (y).op, str (y).name, .int .i64 (y).cmp, .int .i64 (y).num, .slice ya y.kids.length yc] : List Value).toArray 24 (0, 0)), (b3, Obj.cells ([.int .i64 (f).op, str (f).name, .int .i64 (f).cmp, .int .i64 (f).num, .slice (some ⟨bk, 0, none⟩) f.kids.length pc] : List Value).toArray 24 (0, 0))] ++ [(bk, Obj.cells ((ps.set i (expand s y k, kv')).flatMap kidL ++ junk).toArray 24 (0, 0))]) := hl5
    have hn5 : ∀ b, ((((G b ∨ w.heap.size ≤ b) ∧ b < w6.heap.size ∧ b ∉ ids) ∨ w9.heap.size ≤ b) ∧ b < w10.heap.size) → b ∉ [b8, b6, b5, b3, bk] := fun b hb hm => by
      have h8 := hl1.idlt (b := b8) (by simp)
      rcases hb.1 with h1 | h1
      · rcases List.mem_cons.1 hm with rfl | hm
        · omega
        · exact hbw b h1 hm
      · have h6 := hl1.idlt (b := b) hm
        omega
    have hsz10 := he10.size
    have hsz11 := hl4.upd.size
    have hgn : ∀ b, ((((G b ∨ w.heap.size ≤ b) ∧ b < w6.heap.size ∧ b ∉ ids) ∨ w9.heap.size ≤ b) ∧ b < w10.heap.size) → ((G b ∨ w.heap.size ≤ b) ∧ b < w11.heap.size ∧ b ∉ ids) := fun b hb => by
      have hw6 := hl.done.size
      refine ⟨?_, by omega, fun hm => hn5 b hb (List.mem_cons_of_mem _ ((hidw b).1 hm))⟩
      rcases hb.1 with h1 | h1
      · exact h1.1
      · exact .inr (by omega)
    have hflat : ((ps.set i (expand s y k, kv')).flatMap kidL).length = f.kids.length * 5 := by rw [kidL_flat, List.length_set, hpl]
    repeat' (first | refine a_mov ?_ | refine a_asg ?_ | refine a_binN ?_ | refine a_notd ?_ | refine a_notb ?_ | refine a_nilc ?_ | refine a_fa ?_ | refine a_ext ?_ | refine a_lenv ?_ | refine a_lens ?_ | refine a_pick_t ?_ | refine a_pick_f ?_ | refine a_not ?_ | refine a_nilf ?_ | (refine o_nil (hK _ _ ?_); clear hK K) | refine wk_reg ?_ | refine wk_seq fun K hK => ?_ | (refine wk_skip (hK _ _ ?_); clear hK K) | (refine wk_label (hK _ _ ?_); clear hK K) | refine wk_scope ?_ | refine wk_block ?_ | refine wk_cond_t rfl ?_ | refine wk_cond_f rfl ?_ | (refine wk_exit ?_; (repeat (refine blockK_other rfl ?_)); refine blockK_same ?_; try ((repeat ((fail_if_success (refine hK _ _ ?_)); clear hK K)); refine hK _ _ ?_; clear hK K)) | (refine a_bin ?_ ?_ <;> intro _ <;> try (exfalso; omega)) | refine a_ld hl ?_ | (refine a_st hl ?_; clear hl; intro _ hl) | refine a_ix (fun _ => ?_) | fail)
    refine o_nil ⟨(i + 1, ps.set i (expand s y k, kv'), [(bk, Obj.cells ((ps.set i (expand s y k, kv')).flatMap kidL ++ junk).toArray 24 (0, 0))]), ⟨rfl, rfl, rfl, rfl, rfl, rfl, rfl, trivial⟩, rfl, ⟨⟨hi1, hmap' kv'⟩, hl5, ⟨hflat, .inr ⟨bk, pc, _, rfl, rfl, hmc, hcap, ?_, ?_⟩⟩, hacc, ?_⟩, by simp only; omega⟩
    · have h1 := congrArg List.length hvs
      rw [hvl, List.length_append, hal] at h1
      simp only [List.size_toArray, List.length_append, hflat]
      omega
    · simp only
      rw [← hflat, List.take_left']
      rfl
    · intro p hp
      rcases List.mem_or_eq_of_mem_set hp with hp | rfl
      · exact (((hkr9 p hp).ext he10).upd hl4.upd (fun b hb => hn5 b ⟨.inl hb, Nat.lt_of_lt_of_le hb.2.1 (by omega)⟩)).mono fun b hb => hgn b ⟨.inl hb, Nat.lt_of_lt_of_le hb.2.1 (by omega)⟩
      · exact (hkk2.upd hl4.upd hn5).mono hgn
  · have hie : i = f.kids.length := by omega
    rw [hie] at hmap
    simp only [List.take_length, List.drop_length, List.append_nil] at hmap
    repeat' (first | refine a_mov ?_ | refine a_asg ?_ | refine a_binN ?_ | refine a_notd ?_ | refine a_notb ?_ | refine a_nilc ?_ | refine a_fa ?_ | refine a_ext ?_ | refine a_lenv ?_ | refine a_lens ?_ | refine a_pick_t ?_ | refine a_pick_f ?_ | refine a_not ?_ | refine a_nilf ?_ | (refine o_nil (hK _ _ ?_); clear hK K) | refine wk_reg ?_ | refine wk_seq fun K hK => ?_ | (refine wk_skip (hK _ _ ?_); clear hK K) | (refine wk_label (hK _ _ ?_); clear hK K) | refine wk_scope ?_ | refine wk_block ?_ | refine wk_cond_t rfl ?_ | refine wk_cond_f rfl ?_ | (refine wk_exit ?_; (repeat (refine blockK_other rfl ?_)); refine blockK_same ?_; try ((repeat ((fail_if_success (refine hK _ _ ?_)); clear hK K)); refine hK _ _ ?_; clear hK K)) | (refine a_bin ?_ ?_ <;> intro _ <;> try (exfalso; omega)) | refine a_ld hl ?_ | (refine a_st hl ?_; clear hl; intro _ hl) | refine a_ix (fun _ => ?_) | refine a_all (hl.rowL (vs := [.int .i64 (f).op, str (f).name, .int .i64 (f).cmp, .int .i64 (f).num, .slice pa f.kids.length pc]) 2 0 5 rfl) ?_)
    have hrb := hl.rb
    have hidw := hidf _ _ hl hacc
    have hl1 : LH w6 _ w6 (_ :: _ :: _ :: accL) := hrb
    refine o_putN (us := [.int .i64 (f).op, str (f).name, .int .i64 (f).cmp, .int .i64 (f).num, .slice pa f.kids.length pc]) hl1 rfl rfl rfl (by simp only [str_eq]; rfl) rfl (.all rfl rfl) ?_
    clear hl1 hrb
    intro w7 hl2
    have hb := hl.bk hl2
    have hl3 : LH w (fun _ => False) w7 ((_ :: _ :: [_]) ++ accL) := hb
    have hsz := hl2.upd.size
    have hres := KR.of_acc hl3 ha hmap (G' := fun b => (G b ∨ w.heap.size ≤ b) ∧ b < w7.heap.size) (fun b hb => ⟨.inr ((hl3.id (by rw [List.map_append]; exact List.mem_append_right _ hb)).elim id False.elim), hl3.idlt (by rw [List.map_append]; exact List.mem_append_right _ hb)⟩) fun p hp => ((hkr p hp).upd hl2.upd (fun b hb hm => hb.2.2 ((hidw b).2 hm))).mono fun b hb => ⟨hb.1, Nat.lt_of_lt_of_le hb.2.1 hsz⟩
    repeat' (first | refine a_mov ?_ | refine a_asg ?_ | refine a_binN ?_ | refine a_notd ?_ | refine a_notb ?_ | refine a_nilc ?_ | refine a_fa ?_ | refine a_ext ?_ | refine a_lenv ?_ | refine a_lens ?_ | refine a_pick_t ?_ | refine a_pick_f ?_ | refine a_not ?_ | refine a_nilf ?_ | (refine o_nil (hK _ _ ?_); clear hK K) | refine wk_reg ?_ | refine wk_seq fun K hK => ?_ | (refine wk_skip (hK _ _ ?_); clear hK K) | (refine wk_label (hK _ _ ?_); clear hK K) | refine wk_scope ?_ | refine wk_block ?_ | refine wk_cond_t rfl ?_ | refine wk_cond_f rfl ?_ | (refine wk_exit ?_; (repeat (refine blockK_other rfl ?_)); refine blockK_same ?_; try ((repeat ((fail_if_success (refine hK _ _ ?_)); clear hK K)); refine hK _ _ ?_; clear hK K)) | (refine a_bin ?_ ?_ <;> intro _ <;> try (exfalso; omega)) | refine a_ld hl ?_ | (refine a_st hl ?_; clear hl; intro _ hl) | refine a_ix (fun _ => ?_) | fail)
    refine wk_ret (retQ_res [.agg ([.int .i64 (f).op, str (f).name, .int .i64 (f).cmp, .int .i64 (f).num, .slice pa f.kids.length pc] : List Value).toArray] rfl rfl ⟨by decide, ⟨⟨b6, 0, none⟩, rfl, run_loadVarN rfl rfl (hl3.rowL (vs := [.int .i64 (f).op, str (f).name, .int .i64 (f).cmp, .int .i64 (f).num, .slice pa f.kids.length pc]) 0 0 5 rfl)⟩, trivial⟩ ⟨⟨.slice pa f.kids.length pc, by rw [hee]; rfl, ?_⟩, hl3.done⟩)
    rw [hee]
    exact hres
end Go.Proofs

/-
  Formulas: the reference's Expand.
-/
set_option linter.unusedVariables false
set_option linter.unusedSimpArgs false
set_option linter.unnecessarySimpa false
set_option maxRecDepth 10000
namespace Go.Proofs
open Go Go.Pd Go.Lexs Go.Fin Go.Fo
attribute [local irreducible] OpsL W RetQ OpsQ OpsC

set_option maxHeartbeats 8000000 in
theorem refExpand_calls (s : List UInt8) (y : Fm) : ∀ f : Fm, ExC Tryd.prog 23 s y f := by
  refine Fm.ind ?_
  intro f ih w G kv yv hk hy hG hc
  obtain ⟨a, c, rfl, -⟩ := hk.shape
  obtain ⟨ya, yc, rfl, -⟩ := hy.shape
  have hex := expand_eq s y f
  have hlen := kids_le f
  have hyone := fmL_one hy
  refine calls_of Tryd.func23 rfl Tryd.ntmps23 rfl ?_
  refine wk_seq fun K hK => ?_
  refine wk_reg ?_
  refine o_box (LH.start w (fun _ => False)) [.int .i64 (f).op, str (f).name, .int .i64 (f).cmp, .int .i64 (f).num, .slice a f.kids.length c] rfl rfl rfl ?_
  intro b3 w1 hb3 hl
  refine o_box hl [.int .i64 (y).op, str (y).name, .int .i64 (y).cmp, .int .i64 (y).num, .slice ya y.kids.length yc] rfl rfl rfl ?_
  clear hl
  intro b5 w2 hb5 hl
  refine o_alloc hl [.int .i64 0, .string ⟨#[]⟩, .int .i64 0, .int .i64 0, .slice none 0 0] rfl rfl ?_
  clear hl
  intro b6 w3 hb6 hl
  have key : ¬ (f.op = 4 ∧ f.name = s) → expand s y f = .node f.op f.name f.cmp f.num (f.kids.map (expand s y)) := fun h => by rw [hex, if_neg h]
  refine o_nil (hK _ _ ?_)
  clear hK K
  refine wk_seq fun K hK => ?_
  refine wk_cut (α := Unit) [] (fun _ => [(1, str s), (3, .pointer (some ⟨b3, 0, none⟩)), (5, .pointer (some ⟨b5, 0, none⟩)), (6, .pointer (some ⟨b6, 0, none⟩))]) (fun _ w' => ¬ (f.op = 4 ∧ f.name = s) ∧ LH w (fun _ => False) w' [(b6, Obj.cells #[.int .i64 0, .string ⟨#[]⟩, .int .i64 0, .int .i64 0, .slice none 0 0] 24 (0, 0)), (b5, Obj.cells ([.int .i64 (y).op, str (y).name, .int .i64 (y).cmp, .int .i64 (y).num, .slice ya y.kids.length yc] : List Value).toArray 24 (0, 0)), (b3, Obj.cells ([.int .i64 (f).op, str (f).name, .int .i64 (f).cmp, .int .i64 (f).num, .slice a f.kids.length c] : List Value).toArray 24 (0, 0))]) ?_ ?_
  · repeat' (first | refine a_mov ?_ | refine a_asg ?_ | refine a_binN ?_ | refine a_notd ?_ | refine a_notb ?_ | refine a_nilc ?_ | refine a_fa ?_ | refine a_ext ?_ | refine a_lenv ?_ | refine a_lens ?_ | refine a_pick_t ?_ | refine a_pick_f ?_ | refine a_not ?_ | refine a_nilf ?_ | (refine o_nil (hK _ _ ?_); clear hK K) | refine wk_reg ?_ | refine wk_seq fun K hK => ?_ | (refine wk_skip (hK _ _ ?_); clear hK K) | (refine wk_label (hK _ _ ?_); clear hK K) | refine wk_scope ?_ | refine wk_block ?_ | refine wk_cond_t rfl ?_ | refine wk_cond_f rfl ?_ | (refine wk_exit ?_; (repeat (refine blockK_other rfl ?_)); refine blockK_same ?_; try ((repeat ((fail_if_success (refine hK _ _ ?_)); clear hK K)); refine hK _ _ ?_; clear hK K)) | (refine a_bin ?_ ?_ <;> intro _ <;> try (exfalso; omega)) | refine a_ld hl ?_ | (refine a_st hl ?_; clear hl; intro _ hl) | refine a_ix (fun _ => ?_) | (refine o_eqsT (a := f.name) (b := s) rfl rfl rfl ?_ ?_ <;> intro hid) | refine a_all (hl.rowL (vs := [.int .i64 (y).op, str (y).name, .int .i64 (y).cmp, .int .i64 (y).num, .slice ya y.kids.length yc]) 1 0 5 rfl) ?_)
    · have hee : expand s y f = y := by rw [hex, if_pos ⟨by assumption, hid⟩]
      refine o_putN (us := [.int .i64 (y).op, str (y).name, .int .i64 (y).cmp, .int .i64 (y).num, .slice ya y.kids.length yc]) hl rfl rfl rfl hyone rfl (.all rfl rfl) ?_
      clear hl
      intro w4 hl
      repeat' (first | refine a_mov ?_ | refine a_asg ?_ | refine a_binN ?_ | refine a_notd ?_ | refine a_notb ?_ | refine a_nilc ?_ | refine a_fa ?_ | refine a_ext ?_ | refine a_lenv ?_ | refine a_lens ?_ | refine a_pick_t ?_ | refine a_pick_f ?_ | refine a_not ?_ | refine a_nilf ?_ | (refine o_nil (hK _ _ ?_); clear hK K) | refine wk_reg ?_ | refine wk_seq fun K hK => ?_ | (refine wk_skip (hK _ _ ?_); clear hK K) | (refine wk_label (hK _ _ ?_); clear hK K) | refine wk_scope ?_ | refine wk_block ?_ | refine wk_cond_t rfl ?_ | refine wk_cond_f rfl ?_ | (refine wk_exit ?_; (repeat (refine blockK_other rfl ?_)); refine blockK_same ?_; try ((repeat ((fail_if_success (refine hK _ _ ?_)); clear hK K)); refine hK _ _ ?_; clear hK K)) | (refine a_bin ?_ ?_ <;> intro _ <;> try (exfalso; omega)) | refine a_ld hl ?_ | (refine a_st hl ?_; clear hl; intro _ hl) | refine a_ix (fun _ => ?_) | fail)
      refine wk_ret (retQ_res [.agg ([.int .i64 (y).op, str (y).name, .int .i64 (y).cmp, .int .i64 (y).num, .slice ya y.kids.length yc] : List Value).toArray] rfl rfl ⟨by decide, ⟨⟨b6, 0, none⟩, rfl, run_loadVarN rfl rfl (hl.rowL (vs := [.int .i64 (y).op, str (y).name, .int .i64 (y).cmp, .int .i64 (y).num, .slice ya y.kids.length yc]) 0 0 5 rfl)⟩, trivial⟩ ⟨⟨.slice ya y.kids.length yc, by rw [hee]; rfl, ?_⟩, hl.done⟩)
      rw [hee]
      exact (hy.ext hl.done).mono fun b hb => ⟨.inl hb, Nat.lt_of_lt_of_le (hG b hb) hl.done.size⟩
    · exact wk_skip ⟨(), ⟨rfl, rfl, rfl, rfl, trivial⟩, rfl, fun h => hid h.2, hl⟩
    · exact wk_skip ⟨(), ⟨rfl, rfl, rfl, rfl, trivial⟩, rfl, fun h => by omega, hl⟩
  clear hl
  rintro - t w4 ⟨hno, hl⟩
  have hee := key hno
  clear hex key
  refine hK _ _ ?_
  clear hK K
  repeat' (first | refine a_mov ?_ | refine a_asg ?_ | refine a_binN ?_ | refine a_notd ?_ | refine a_notb ?_ | refine a_nilc ?_ | refine a_fa ?_ | refine a_ext ?_ | refine a_lenv ?_ | refine a_lens ?_ | refine a_pick_t ?_ | refine a_pick_f ?_ | refine a_not ?_ | refine a_nilf ?_ | (refine o_nil (hK _ _ ?_); clear hK K) | refine wk_reg ?_ | refine wk_seq fun K hK => ?_ | (refine wk_skip (hK _ _ ?_); clear hK K) | (refine wk_label (hK _ _ ?_); clear hK K) | refine wk_scope ?_ | refine wk_block ?_ | refine wk_cond_t rfl ?_ | refine wk_cond_f rfl ?_ | (refine wk_exit ?_; (repeat (refine blockK_other rfl ?_)); refine blockK_same ?_; try ((repeat ((fail_if_success (refine hK _ _ ?_)); clear hK K)); refine hK _ _ ?_; clear hK K)) | (refine a_bin ?_ ?_ <;> intro _ <;> try (exfalso; omega)) | refine a_ld hl ?_ | (refine a_st hl ?_; clear hl; intro _ hl) | refine a_ix (fun _ => ?_) | fail)
  have hl : LH w (fun _ => False) w4 ([(b6, Obj.cells #[.int .i64 0, .string ⟨#[]⟩, .int .i64 0, .int .i64 0, .slice none 0 0] 24 (0, 0)), (b5, Obj.cells ([.int .i64 (y).op, str (y).name, .int .i64 (y).cmp, .int .i64 (y).num, .slice ya y.kids.length yc] : List Value).toArray 24 (0, 0)), (b3, Obj.cells ([.int .i64 (f).op, str (f).name, .int .i64 (f).cmp, .int .i64 (f).num, .slice a f.kids.length c] : List Value).toArray 24 (0, 0))] ++ []) := hl
  refine wk_loopH [] rfl (fun q : Nat × Value × List (Fm × Value) × List (Nat × Obj) => [(1, str s), (3, .pointer (some ⟨b3, 0, none⟩)), (5, .pointer (some ⟨b5, 0, none⟩)), (6, .pointer (some ⟨b6, 0, none⟩)), (7, q.2.1), (8, .int .i64 (q.1 : Int))])
    (fun q w' => (q.1 ≤ f.kids.length ∧ q.2.2.1.map (·.1) = (f.kids.take q.1).map (expand s y)) ∧ LH w (fun _ => False) w' ([(b6, Obj.cells #[.int .i64 0, .string ⟨#[]⟩, .int .i64 0, .int .i64 0, .slice none 0 0] 24 (0, 0)), (b5, Obj.cells ([.int .i64 (y).op, str (y).name, .int .i64 (y).cmp, .int .i64 (y).num, .slice ya y.kids.length yc] : List Value).toArray 24 (0, 0)), (b3, Obj.cells ([.int .i64 (f).op, str (f).name, .int .i64 (f).cmp, .int .i64 (f).num, .slice a f.kids.length c] : List Value).toArray 24 (0, 0))] ++ q.2.2.2) ∧ Acc q.2.1 5 24 q.1 (q.2.2.1.flatMap kidL) q.2.2.2 ∧ ∀ p ∈ q.2.2.1, KR w' (fun b => (G b ∨ w.heap.size ≤ b) ∧ b < w'.heap.size ∧ b ∉ ([(b6, Obj.cells #[.int .i64 0, .string ⟨#[]⟩, .int .i64 0, .int .i64 0, .slice none 0 0] 24 (0, 0)), (b5, Obj.cells ([.int .i64 (y).op, str (y).name, .int .i64 (y).cmp, .int .i64 (y).num, .slice ya y.kids.length yc] : List Value).toArray 24 (0, 0)), (b3, Obj.cells ([.int .i64 (f).op, str (f).name, .int .i64 (f).cmp, .int .i64 (f).num, .slice a f.kids.length c] : List Value).toArray 24 (0, 0))] ++ q.2.2.2 : List (Nat × Obj)).map (·.1)) p.1.kids p.2)
    (fun q => f.kids.length - q.1) (0, .slice none 0 0, [], []) ⟨rfl, rfl, rfl, rfl, rfl, rfl, trivial⟩ ⟨⟨Nat.zero_le _, rfl⟩, hl, Acc.nil _ _, fun p hp => nomatch hp⟩ ?_
  clear hl
  rintro ⟨i, v, ps, acc⟩ t w6 ⟨⟨hi, hmap⟩, hl, ha, hkr⟩
  simp only at hi hmap hl ha hkr
  obtain ⟨pa, pc, rfl⟩ := ha.shape
  by_cases hi1 : i < f.kids.length
  · obtain ⟨bk, ok, kv, hp, hr, hkk⟩ := (hk.ext hl.done).at hi1
    have hy6 := hy.ext hl.done
    have ihk := ih f.kids[i] (List.getElem_mem hi1)
    have hck := cnt_kid hi1
    have hce := cnt_eq f
    have hmap' : ∀ kv' : Value, (ps ++ [(expand s y f.kids[i], kv')]).map (·.1) = (f.kids.take (i + 1)).map (expand s y) := fun kv' => by
      rw [List.map_append, hmap, List.take_succ_eq_append_getElem hi1, List.map_append]
      rfl
    have hw6 := hl.done.size
    have hGid : ∀ b, G b → b ∉ ([(b6, Obj.cells #[.int .i64 0, .string ⟨#[]⟩, .int .i64 0, .int .i64 0, .slice none 0 0] 24 (0, 0)), (b5, Obj.cells ([.int .i64 (y).op, str (y).name, .int .i64 (y).cmp, .int .i64 (y).num, .slice ya y.kids.length yc] : List Value).toArray 24 (0, 0)), (b3, Obj.cells ([.int .i64 (f).op, str (f).name, .int .i64 (f).cmp, .int .i64 (f).num, .slice a f.kids.length c] : List Value).toArray 24 (0, 0))] ++ acc : List (Nat × Obj)).map (·.1) := fun b hb hm => by
      rcases hl.id hm with h | h
      · have := hG b hb; omega
      · exact h
    generalize f.kids[i] = k at *
    have hl1 := hl.rb
    have hl1 : LH w6 _ w6 (_ :: _ :: _ :: acc) := hl1
    repeat' (first | refine a_mov ?_ | refine a_asg ?_ | refine a_binN ?_ | refine a_notd ?_ | refine a_notb ?_ | refine a_nilc ?_ | refine a_fa ?_ | refine a_ext ?_ | refine a_lenv ?_ | refine a_lens ?_ | refine a_pick_t ?_ | refine a_pick_f ?_ | refine a_not ?_ | refine a_nilf ?_ | (refine o_nil (hK _ _ ?_); clear hK K) | refine wk_reg ?_ | refine wk_seq fun K hK => ?_ | (refine wk_skip (hK _ _ ?_); clear hK K) | (refine wk_label (hK _ _ ?_); clear hK K) | refine wk_scope ?_ | refine wk_block ?_ | refine wk_cond_t rfl ?_ | refine wk_cond_f rfl ?_ | (refine wk_exit ?_; (repeat (refine blockK_other rfl ?_)); refine blockK_same ?_; try ((repeat ((fail_if_success (refine hK _ _ ?_)); clear hK K)); refine hK _ _ ?_; clear hK K)) | (refine a_bin ?_ ?_ <;> intro _ <;> try (exfalso; omega)) | refine a_ld hl ?_ | (refine a_st hl ?_; clear hl; intro _ hl) | refine a_ix (fun _ => ?_) | fail)
    refine wk_last (List.dropLast_concat_getLast (by simp)).symm (by kernel_rfl) ?_
    refine any_draw [0, 1, 2, 3, 4, 5, 6, 7] [] [8, 9, 10] (fun w' => To w6 w' w6.heap) (fun _ => True) (by kernel_rfl) (fun _ _ _ _ h => by first | exact h | (simp only [BlockK, NoGoto, RetQ] at h)) (fun w' h => h) (fun w' h => trivial) ?_
    repeat' (first | refine q_mov ?_ | refine q_asg ?_ | refine q_fa ?_ | refine q_ext ?_ | refine q_binN ?_ | refine q_notd ?_ | refine q_notb ?_ | refine q_pick_t ?_ | refine q_pick_f ?_ | refine q_nilc ?_ | refine q_skip ?_ | refine q_lens ?_ | refine q_lenv ?_ | refine q_nil ?_ | refine q_ix (fun _ => ?_) | (refine q_bin ?_ ?_ <;> intro _ <;> try (exfalso; omega)) | refine q_ld (fun w_ hw_ => hl1.heap hw_) ?_ | refine q_idx (c := 5) i hp ?_ | refine q_all (fun w_ hw_ => hr.ext (Upd.of_heap hw_)) ?_ | refine q_all (fun w_ hw_ => (hl1.heap hw_).rowL (vs := [.int .i64 (y).op, str (y).name, .int .i64 (y).cmp, .int .i64 (y).num, .slice ya y.kids.length yc]) 1 0 5 rfl) ?_ | fail)
    intro w9 hw9
    replace hl1 := hl1.heap hw9
    have hup := hl1.upd
    have hkr9 : ∀ p ∈ ps, KR w9 (fun b => (G b ∨ w.heap.size ≤ b) ∧ b < w6.heap.size ∧ b ∉ ([(b6, Obj.cells #[.int .i64 0, .string ⟨#[]⟩, .int .i64 0, .int .i64 0, .slice none 0 0] 24 (0, 0)), (b5, Obj.cells ([.int .i64 (y).op, str (y).name, .int .i64 (y).cmp, .int .i64 (y).num, .slice ya y.kids.length yc] : List Value).toArray 24 (0, 0)), (b3, Obj.cells ([.int .i64 (f).op, str (f).name, .int .i64 (f).cmp, .int .i64 (f).num, .slice a f.kids.length c] : List Value).toArray 24 (0, 0))] ++ acc : List (Nat × Obj)).map (·.1)) p.1.kids p.2 := fun p hp => (hkr p hp).upd hup fun b hb => hb.2.2
    have hkk9 := hkk.heap hw9
    have hy9 := hy6.heap hw9
    have hsz := hup.size
    refine ops_tail rfl rfl ?_
    refine a_fn (ihk w9 G kv (.slice ya y.kids.length yc) hkk9 hy9 (fun b hb => Nat.lt_of_lt_of_le (hG b hb) (by omega)) (by omega)) ?_
    rintro _ w10 ⟨⟨kv', rfl, hkk2⟩, he10⟩
    obtain ⟨ka, kc, rfl, -⟩ := hkk2.shape
    have hl2 := hl1.ext he10
    have hone := fmL_one hkk2
    refine o_nil ⟨trivial, ?_⟩
    refine ops_tail rfl rfl ?_
    have hl3 := hl2.rb
    refine o_buildSlice hl3 (fmL (expand s y k) (.slice ka (expand s y k).kids.length kc)) rfl rfl (by simp only [fmL, str_eq]; kernel_rfl) ?_
    intro b10 w11 hb10 hl4
    refine o_nil ⟨trivial, ?_⟩
    refine ops_tail rfl rfl ?_
    refine o_append (bl' := (b10, .cells (fmL (expand s y k) (.slice ka (expand s y k).kids.length kc)).toArray 24 (0, 0)) :: [(b6, Obj.cells #[.int .i64 0, .string ⟨#[]⟩, .int .i64 0, .int .i64 0, .slice none 0 0] 24 (0, 0)), (b5, Obj.cells ([.int .i64 (y).op, str (y).name, .int .i64 (y).cmp, .int .i64 (y).num, .slice ya y.kids.length yc] : List Value).toArray 24 (0, 0)), (b3, Obj.cells ([.int .i64 (f).op, str (f).name, .int .i64 (f).cmp, .int .i64 (f).num, .slice a f.kids.length c] : List Value).toArray 24 (0, 0))]) (q := 1) (bytes := 64) (us := fmL (expand s y k) (.slice ka (expand s y k).kids.length kc)) hl4 ha (hl4.rowL (vs := fmL (expand s y k) (.slice ka (expand s y k).kids.length kc)) 0 0 5 rfl) rfl hone (by omega) (by omega) (by omega) rfl rfl rfl rfl rfl ?_
    clear hl4 hl3
    intro v' w12 acc' hl4 ha'
    refine o_nil ⟨trivial, ?_⟩
    refine ops_nil ?_
    refine a_asg ?_
    refine o_nil (hK _ _ ?_)
    clear hK K
    have hl5 := hl4.sub (List.sublist_cons_self _ _)
    have hl5 : LH w10 (fun b => b ∈ ([(b6, Obj.cells #[.int .i64 0, .string ⟨#[]⟩, .int .i64 0, .int .i64 0, .slice none 0 0] 24 (0, 0)), (b5, Obj.cells ([.int .i64 (y).op, str (y).name, .int .i64 (y).cmp, .int .i64 (y).num, .slice ya y.kids.length yc] : List Value).toArray 24 (0, 0)), (b3, Obj.cells ([.int .i64 (f).op, str (f).name, .int .i64 (f).cmp, .int .i64 (f).num, .slice a f.kids.length c] : List Value).toArray 24 (0, 0))] ++ acc : List (Nat × Obj)).map (·.1)) w12 ([(b6, Obj.cells #[.int .i64 0, .string ⟨#[]⟩, .int .i64 0, .int .i64 0, .slice none 0 0] 24 (0, 0)), (b5, Obj.cells ([.int .i64 (y).op, str (y).name, .int .i64 (y).cmp, .int .i64 (y).num, .slice ya y.kids.length yc] : List Value).toArray 24 (0, 0)), (b3, Obj.cells ([.int .i64 (f).op, str (f).name, .int .i64 (f).cmp, .int .i64 (f).num, .slice a f.kids.length c] : List Value).toArray 24 (0, 0))] ++ acc') := hl5
    have hl6 := hl.bk (LH.bk hl2 hl5)
    have hsz9 := he10.size
    have hsz12 := hl5.upd.size
    have hid9 : ∀ b, b ∈ ([(b6, Obj.cells #[.int .i64 0, .string ⟨#[]⟩, .int .i64 0, .int .i64 0, .slice none 0 0] 24 (0, 0)), (b5, Obj.cells ([.int .i64 (y).op, str (y).name, .int .i64 (y).cmp, .int .i64 (y).num, .slice ya y.kids.length yc] : List Value).toArray 24 (0, 0)), (b3, Obj.cells ([.int .i64 (f).op, str (f).name, .int .i64 (f).cmp, .int .i64 (f).num, .slice a f.kids.length c] : List Value).toArray 24 (0, 0))] ++ acc : List (Nat × Obj)).map (·.1) → b < w9.heap.size := fun b hb => hl1.idlt hb
    have hidn : ∀ b, b ∈ ([(b6, Obj.cells #[.int .i64 0, .string ⟨#[]⟩, .int .i64 0, .int .i64 0, .slice none 0 0] 24 (0, 0)), (b5, Obj.cells ([.int .i64 (y).op, str (y).name, .int .i64 (y).cmp, .int .i64 (y).num, .slice ya y.kids.length yc] : List Value).toArray 24 (0, 0)), (b3, Obj.cells ([.int .i64 (f).op, str (f).name, .int .i64 (f).cmp, .int .i64 (f).num, .slice a f.kids.length c] : List Value).toArray 24 (0, 0))] ++ acc' : List (Nat × Obj)).map (·.1) → w10.heap.size ≤ b ∨ b ∈ ([(b6, Obj.cells #[.int .i64 0, .string ⟨#[]⟩, .int .i64 0, .int .i64 0, .slice none 0 0] 24 (0, 0)), (b5, Obj.cells ([.int .i64 (y).op, str (y).name, .int .i64 (y).cmp, .int .i64 (y).num, .slice ya y.kids.length yc] : List Value).toArray 24 (0, 0)), (b3, Obj.cells ([.int .i64 (f).op, str (f).name, .int .i64 (f).cmp, .int .i64 (f).num, .slice a f.kids.length c] : List Value).toArray 24 (0, 0))] ++ acc : List (Nat × Obj)).map (·.1) := fun b hb => hl5.id hb
    generalize hI : ([(b6, Obj.cells #[.int .i64 0, .string ⟨#[]⟩, .int .i64 0, .int .i64 0, .slice none 0 0] 24 (0, 0)), (b5, Obj.cells ([.int .i64 (y).op, str (y).name, .int .i64 (y).cmp, .int .i64 (y).num, .slice ya y.kids.length yc] : List Value).toArray 24 (0, 0)), (b3, Obj.cells ([.int .i64 (f).op, str (f).name, .int .i64 (f).cmp, .int .i64 (f).num, .slice a f.kids.length c] : List Value).toArray 24 (0, 0))] ++ acc : List (Nat × Obj)).map (·.1) = I at *
    generalize hI' : ([(b6, Obj.cells #[.int .i64 0, .string ⟨#[]⟩, .int .i64 0, .int .i64 0, .slice none 0 0] 24 (0, 0)), (b5, Obj.cells ([.int .i64 (y).op, str (y).name, .int .i64 (y).cmp, .int .i64 (y).num, .slice ya y.kids.length yc] : List Value).toArray 24 (0, 0)), (b3, Obj.cells ([.int .i64 (f).op, str (f).name, .int .i64 (f).cmp, .int .i64 (f).num, .slice a f.kids.length c] : List Value).toArray 24 (0, 0))] ++ acc' : List (Nat × Obj)).map (·.1) = I' at *
    repeat' (first | refine a_mov ?_ | refine a_asg ?_ | refine a_binN ?_ | refine a_notd ?_ | refine a_notb ?_ | refine a_nilc ?_ | refine a_fa ?_ | refine a_ext ?_ | refine a_lenv ?_ | refine a_lens ?_ | refine a_pick_t ?_ | refine a_pick_f ?_ | refine a_not ?_ | refine a_nilf ?_ | (refine o_nil (hK _ _ ?_); clear hK K) | refine wk_reg ?_ | refine wk_seq fun K hK => ?_ | (refine wk_skip (hK _ _ ?_); clear hK K) | (refine wk_label (hK _ _ ?_); clear hK K) | refine wk_scope ?_ | refine wk_block ?_ | refine wk_cond_t rfl ?_ | refine wk_cond_f rfl ?_ | (refine wk_exit ?_; (repeat (refine blockK_other rfl ?_)); refine blockK_same ?_; try ((repeat ((fail_if_success (refine hK _ _ ?_)); clear hK K)); refine hK _ _ ?_; clear hK K)) | (refine a_bin ?_ ?_ <;> intro _ <;> try (exfalso; omega)) | refine a_ld hl ?_ | (refine a_st hl ?_; clear hl; intro _ hl) | refine a_ix (fun _ => ?_) | fail)
    refine o_nil ⟨(i + 1, v', ps ++ [(expand s y k, .slice ka (expand s y k).kids.length kc)], acc'), ⟨rfl, rfl, rfl, rfl, rfl, rfl, trivial⟩, rfl, ⟨⟨hi1, hmap' _⟩, hl6, ?_, ?_⟩, by simp only; omega⟩
    · simp only [List.flatMap_append, List.flatMap_cons, List.flatMap_nil, List.append_nil]
      exact ha'
    · intro p hp
      rw [hI']
      rcases List.mem_append.1 hp with hp | hp
      · refine (((hkr9 p hp).ext he10).upd hl5.upd (fun b hb => hb.2.2)).mono fun b hb => ⟨hb.1, Nat.lt_of_lt_of_le hb.2.1 (by omega), fun hm => ?_⟩
        rcases hidn b hm with h | h
        · have := hb.2.1; omega
        · exact hb.2.2 h
      · rw [List.mem_singleton.1 hp]
        have hni : ∀ b, ((G b ∨ w9.heap.size ≤ b) ∧ b < w10.heap.size) → b ∉ I := fun b hb hm => by
          rcases hb.1 with h | h
          · exact hGid b h hm
          · have := hid9 b hm; omega
        refine (hkk2.upd hl5.upd hni).mono fun b hb => ⟨hb.1.elim .inl fun h => .inr (by omega), Nat.lt_of_lt_of_le hb.2 hsz12, fun hm => ?_⟩
        rcases hidn b hm with h | h
        · have := hb.2; omega
        · exact hni b hb h
  · have hie : i = f.kids.length := by omega
    subst hie
    rw [List.take_of_length_le (Nat.le_refl _)] at hmap
    have hl0 := hl
    have hb := hl.rb
    clear hl
    have hl : LH w6 _ w6 (_ :: _ :: _ :: acc) := hb
    clear hb
    repeat' (first | refine a_mov ?_ | refine a_asg ?_ | refine a_binN ?_ | refine a_notd ?_ | refine a_notb ?_ | refine a_nilc ?_ | refine a_fa ?_ | refine a_ext ?_ | refine a_lenv ?_ | refine a_lens ?_ | refine a_pick_t ?_ | refine a_pick_f ?_ | refine a_not ?_ | refine a_nilf ?_ | (refine o_nil (hK _ _ ?_); clear hK K) | refine wk_reg ?_ | refine wk_seq fun K hK => ?_ | (refine wk_skip (hK _ _ ?_); clear hK K) | (refine wk_label (hK _ _ ?_); clear hK K) | refine wk_scope ?_ | refine wk_block ?_ | refine wk_cond_t rfl ?_ | refine wk_cond_f rfl ?_ | (refine wk_exit ?_; (repeat (refine blockK_other rfl ?_)); refine blockK_same ?_; try ((repeat ((fail_if_success (refine hK _ _ ?_)); clear hK K)); refine hK _ _ ?_; clear hK K)) | (refine a_bin ?_ ?_ <;> intro _ <;> try (exfalso; omega)) | refine a_ld hl ?_ | (refine a_st hl ?_; clear hl; intro _ hl) | refine a_ix (fun _ => ?_) | refine a_all (hl.rowL (vs := [.int .i64 (f).op, str (f).name, .int .i64 (f).cmp, .int .i64 (f).num, .slice pa f.kids.length pc]) 2 0 5 rfl) ?_)
    refine o_putN (us := [.int .i64 (f).op, str (f).name, .int .i64 (f).cmp, .int .i64 (f).num, .slice pa f.kids.length pc]) hl rfl rfl rfl (by simp only [str_eq]; rfl) rfl (.all rfl rfl) ?_
    clear hl
    intro w8 hl2
    have hb := hl0.bk hl2
    have hl3 : LH w (fun _ => False) w8 ([(b6, Obj.cells ([.int .i64 (f).op, str (f).name, .int .i64 (f).cmp, .int .i64 (f).num, .slice pa f.kids.length pc] : List Value).toArray 24 (0, 0)), (b5, Obj.cells ([.int .i64 (y).op, str (y).name, .int .i64 (y).cmp, .int .i64 (y).num, .slice ya y.kids.length yc] : List Value).toArray 24 (0, 0)), (b3, Obj.cells ([.int .i64 (f).op, str (f).name, .int .i64 (f).cmp, .int .i64 (f).num, .slice pa f.kids.length pc] : List Value).toArray 24 (0, 0))] ++ acc) := hb
    have hsz := hl2.upd.size
    have hres := KR.of_acc hl3 ha hmap (G' := fun b => (G b ∨ w.heap.size ≤ b) ∧ b < w8.heap.size) (fun b hb => ⟨.inr ((hl3.id (by rw [List.map_append]; exact List.mem_append_right _ hb)).elim id False.elim), hl3.idlt (by rw [List.map_append]; exact List.mem_append_right _ hb)⟩) fun p hp => ((hkr p hp).upd hl2.upd (fun b hb => hb.2.2)).mono fun b hb => ⟨hb.1, Nat.lt_of_lt_of_le hb.2.1 hsz⟩
    repeat' (first | refine a_mov ?_ | refine a_asg ?_ | refine a_binN ?_ | refine a_notd ?_ | refine a_notb ?_ | refine a_nilc ?_ | refine a_fa ?_ | refine a_ext ?_ | refine a_lenv ?_ | refine a_lens ?_ | refine a_pick_t ?_ | refine a_pick_f ?_ | refine a_not ?_ | refine a_nilf ?_ | (refine o_nil (hK _ _ ?_); clear hK K) | refine wk_reg ?_ | refine wk_seq fun K hK => ?_ | (refine wk_skip (hK _ _ ?_); clear hK K) | (refine wk_label (hK _ _ ?_); clear hK K) | refine wk_scope ?_ | refine wk_block ?_ | refine wk_cond_t rfl ?_ | refine wk_cond_f rfl ?_ | (refine wk_exit ?_; (repeat (refine blockK_other rfl ?_)); refine blockK_same ?_; try ((repeat ((fail_if_success (refine hK _ _ ?_)); clear hK K)); refine hK _ _ ?_; clear hK K)) | (refine a_bin ?_ ?_ <;> intro _ <;> try (exfalso; omega)) | refine a_ld hl ?_ | (refine a_st hl ?_; clear hl; intro _ hl) | refine a_ix (fun _ => ?_) | fail)
    refine wk_ret (retQ_res [.agg ([.int .i64 (f).op, str (f).name, .int .i64 (f).cmp, .int .i64 (f).num, .slice pa f.kids.length pc] : List Value).toArray] rfl rfl ⟨by decide, ⟨⟨b6, 0, none⟩, rfl, run_loadVarN rfl rfl (hl3.rowL (vs := [.int .i64 (f).op, str (f).name, .int .i64 (f).cmp, .int .i64 (f).num, .slice pa f.kids.length pc]) 0 0 5 rfl)⟩, trivial⟩ ⟨⟨.slice pa f.kids.length pc, by rw [hee]; rfl, ?_⟩, hl3.done⟩)
    rw [hee]
    exact hres
end Go.Proofs
