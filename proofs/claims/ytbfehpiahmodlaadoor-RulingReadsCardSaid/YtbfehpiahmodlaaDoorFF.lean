/-
  Cases: does a case fit (fact.Fits).
-/
import Derived.Test.YtbfehpiahmodlaaDoorFB
import Derived.Test.YtbfehpiahmodlaaDoorFD
import Derived.Test.YtbfehpiahmodlaaDoorLD
import Derived.Test.YtbfehpiahmodlaaDoorFC
set_option linter.unusedVariables false
set_option linter.unusedSimpArgs false
set_option linter.unnecessarySimpa false
set_option maxRecDepth 10000
namespace Go.Proofs
open Go Go.Pd Go.Lexs Go.Fin Go.Fo
attribute [local irreducible] OpsL W RetQ OpsQ OpsC

set_option maxHeartbeats 2000000 in
theorem fits_calls {F : List Fact} {c : List Int} {v cv : Value} {w : World} (hd : Sl w v 4 (factsL F)) (hv : Sl w cv 1 (intsL c)) (hF : F.length ≤ 9223372036854775806) (hC : c.length ≤ 9223372036854775806) (hn : ∀ f ∈ F, f.name.length ≤ 9223372036854775806) :
    Calls Tryd.prog 27 #[.agg #[v], cv] w (fun e w' => ∃ x, e = .returned x ∧ x = .bool (fitsB F c) ∧ Ext w w') := by
  obtain ⟨pa, ca, rfl, -⟩ := hd.shape (factsL_len F) (by omega)
  obtain ⟨pc, cc, rfl, -⟩ := hv.shape (intsL_len c) (by omega)
  have hfb : fitsB F c = (validD F && fitsC F c) := rfl
  refine calls_of Tryd.func27 rfl Tryd.ntmps27 rfl ?_
  refine wk_seq fun K hK => ?_
  refine wk_reg ?_
  refine o_box (LH.start w (fun _ => False)) [.slice pa F.length ca] rfl rfl rfl ?_
  intro b w1 hb hl
  repeat' (first | refine a_mov ?_ | refine a_asg ?_ | refine a_binN ?_ | refine a_notd ?_ | refine a_notb ?_ | refine a_nilc ?_ | refine a_fa ?_ | refine a_ext ?_ | refine a_lenv ?_ | refine a_lens ?_ | refine a_pick_t ?_ | refine a_pick_f ?_ | refine a_not ?_ | refine a_nilf ?_ | (refine o_nil (hK _ _ ?_); clear hK K) | refine wk_reg ?_ | refine wk_seq fun K hK => ?_ | (refine wk_skip (hK _ _ ?_); clear hK K) | (refine wk_label (hK _ _ ?_); clear hK K) | refine wk_scope ?_ | refine wk_block ?_ | refine wk_cond_t rfl ?_ | refine wk_cond_f rfl ?_ | (refine wk_exit ?_; (repeat (refine blockK_other rfl ?_)); refine blockK_same ?_; try ((repeat ((fail_if_success (refine hK _ _ ?_)); clear hK K)); refine hK _ _ ?_; clear hK K)) | (refine a_bin ?_ ?_ <;> intro _ <;> try (exfalso; omega)) | refine a_ld hl ?_ | (refine a_st hl ?_; clear hl; intro _ hl) | refine a_ix (fun _ => ?_) | refine a_all (hl.rowL (vs := [.slice pa F.length ca]) 0 0 1 rfl) ?_)
  refine a_fn (valid_calls (hd.ext hl.done) hF hn) ?_
  rintro _ w2 ⟨rfl, he2⟩
  replace hl := hl.ext he2
  have he := hl.done
  have hr0 : Row w2 b 0 [.slice pa F.length ca] := hl.rowL (vs := [.slice pa F.length ca]) 0 0 1 rfl
  have hd1 := hd.ext he
  have hv1 := hv.ext he
  clear hl hd hv he2
  cases hvd : validD F
  · repeat' (first | refine a_mov ?_ | refine a_asg ?_ | refine a_binN ?_ | refine a_notd ?_ | refine a_notb ?_ | refine a_nilc ?_ | refine a_fa ?_ | refine a_ext ?_ | refine a_lenv ?_ | refine a_lens ?_ | refine a_pick_t ?_ | refine a_pick_f ?_ | refine a_not ?_ | refine a_nilf ?_ | (refine o_nil (hK _ _ ?_); clear hK K) | refine wk_reg ?_ | refine wk_seq fun K hK => ?_ | (refine wk_skip (hK _ _ ?_); clear hK K) | (refine wk_label (hK _ _ ?_); clear hK K) | refine wk_scope ?_ | refine wk_block ?_ | refine wk_cond_t rfl ?_ | refine wk_cond_f rfl ?_ | (refine wk_exit ?_; (repeat (refine blockK_other rfl ?_)); refine blockK_same ?_; try ((repeat ((fail_if_success (refine hK _ _ ?_)); clear hK K)); refine hK _ _ ?_; clear hK K)) | (refine a_bin ?_ ?_ <;> intro _ <;> try (exfalso; omega)) | refine a_ld hl ?_ | (refine a_st hl ?_; clear hl; intro _ hl) | refine a_ix (fun _ => ?_) | fail)
    refine wk_ret (retQ_tmp1 Tryd.results27 (by decide) rfl (by conv => lhs; whnf) ?_)
    exact ⟨by rw [hfb, hvd]; rfl, he⟩
  repeat' (first | refine a_mov ?_ | refine a_asg ?_ | refine a_binN ?_ | refine a_notd ?_ | refine a_notb ?_ | refine a_nilc ?_ | refine a_fa ?_ | refine a_ext ?_ | refine a_lenv ?_ | refine a_lens ?_ | refine a_pick_t ?_ | refine a_pick_f ?_ | refine a_not ?_ | refine a_nilf ?_ | (refine o_nil (hK _ _ ?_); clear hK K) | refine wk_reg ?_ | refine wk_seq fun K hK => ?_ | (refine wk_skip (hK _ _ ?_); clear hK K) | (refine wk_label (hK _ _ ?_); clear hK K) | refine wk_scope ?_ | refine wk_block ?_ | refine wk_cond_t rfl ?_ | refine wk_cond_f rfl ?_ | (refine wk_exit ?_; (repeat (refine blockK_other rfl ?_)); refine blockK_same ?_; try ((repeat ((fail_if_success (refine hK _ _ ?_)); clear hK K)); refine hK _ _ ?_; clear hK K)) | (refine a_bin ?_ ?_ <;> intro _ <;> try (exfalso; omega)) | refine a_ld hl ?_ | (refine a_st hl ?_; clear hl; intro _ hl) | refine a_ix (fun _ => ?_) | refine a_row hr0 ?_)
  · refine wk_ret (retQ_tmp1 Tryd.results27 (by decide) rfl (by conv => lhs; whnf) ?_)
    exact ⟨by rw [hfb, fitsC_len (by omega), Bool.and_false], he⟩
  have hlen : c.length = F.length := by omega
  have hfb : fitsB F c = fitsC F c := by rw [hfb, hvd]; rfl
  refine wk_loopH [] rfl (fun k : Nat => [(1, .slice pc c.length cc), (19, .slice pa F.length ca), (20, .int .i64 (F.length : Int)), (21, .int .i64 (k : Int))]) (fun k w' => (k ≤ F.length ∧ ∀ i (h : i < F.length) (h' : i < c.length), i < k → F[i].lo ≤ c[i] ∧ c[i] ≤ F[i].hi) ∧ Ext w2 w') (fun k => F.length - k) 0 ⟨rfl, rfl, rfl, rfl, trivial⟩ ⟨⟨by omega, fun j _ _ h => by omega⟩, .refl _ _⟩ ?_
  rintro k t w3 ⟨⟨hk, hno⟩, hw⟩
  replace hr0 := hr0.ext hw
  replace hd1 := hd1.ext hw
  replace hv1 := hv1.ext hw
  replace he := he.trans hw
  by_cases hk1 : k < F.length
  · have hk2 : k < c.length := by omega
    obtain ⟨bf, of, hpf, hrf⟩ := Sl.fact hd1 rfl hk1
    obtain ⟨bc, oc, hpc, hrc⟩ := Sl.intAt hv1 rfl hk2
    have hbad := fitsC_false hk1 hk2
    have hgood : (F[k].lo ≤ c[k] ∧ c[k] ≤ F[k].hi) → ∀ i (h : i < F.length) (h' : i < c.length), i < k + 1 → F[i].lo ≤ c[i] ∧ c[i] ≤ F[i].hi := fun h i hi hi' hik => by
      by_cases e : i = k
      · subst e; exact h
      · exact hno i hi hi' (by omega)
    clear hno
    have hone := factL_one F[k]
    generalize F[k] = f at *
    generalize c[k] = z at *
    repeat' (first | refine a_mov ?_ | refine a_asg ?_ | refine a_binN ?_ | refine a_notd ?_ | refine a_notb ?_ | refine a_nilc ?_ | refine a_fa ?_ | refine a_ext ?_ | refine a_lenv ?_ | refine a_lens ?_ | refine a_pick_t ?_ | refine a_pick_f ?_ | refine a_not ?_ | refine a_nilf ?_ | (refine o_nil (hK _ _ ?_); clear hK K) | refine wk_reg ?_ | refine wk_seq fun K hK => ?_ | (refine wk_skip (hK _ _ ?_); clear hK K) | (refine wk_label (hK _ _ ?_); clear hK K) | refine wk_scope ?_ | refine wk_block ?_ | refine wk_cond_t rfl ?_ | refine wk_cond_f rfl ?_ | (refine wk_exit ?_; (repeat (refine blockK_other rfl ?_)); refine blockK_same ?_; try ((repeat ((fail_if_success (refine hK _ _ ?_)); clear hK K)); refine hK _ _ ?_; clear hK K)) | (refine a_bin ?_ ?_ <;> intro _ <;> try (exfalso; omega)) | refine a_ld hl ?_ | (refine a_st hl ?_; clear hl; intro _ hl) | refine a_ix (fun _ => ?_) | refine a_idx (c := 4) k hpf ?_ | refine a_all hrf ?_)
    refine o_alloc (LH.start w3 (fun _ => False)) [.string ⟨#[]⟩, .int .i64 0, .int .i64 0, .int .i64 0] rfl rfl ?_
    intro bg w4 hbg hl
    repeat' (first | refine a_mov ?_ | refine a_asg ?_ | refine a_binN ?_ | refine a_notd ?_ | refine a_notb ?_ | refine a_nilc ?_ | refine a_fa ?_ | refine a_ext ?_ | refine a_lenv ?_ | refine a_lens ?_ | refine a_pick_t ?_ | refine a_pick_f ?_ | refine a_not ?_ | refine a_nilf ?_ | (refine o_nil (hK _ _ ?_); clear hK K) | refine wk_reg ?_ | refine wk_seq fun K hK => ?_ | (refine wk_skip (hK _ _ ?_); clear hK K) | (refine wk_label (hK _ _ ?_); clear hK K) | refine wk_scope ?_ | refine wk_block ?_ | refine wk_cond_t rfl ?_ | refine wk_cond_f rfl ?_ | (refine wk_exit ?_; (repeat (refine blockK_other rfl ?_)); refine blockK_same ?_; try ((repeat ((fail_if_success (refine hK _ _ ?_)); clear hK K)); refine hK _ _ ?_; clear hK K)) | (refine a_bin ?_ ?_ <;> intro _ <;> try (exfalso; omega)) | refine a_ld hl ?_ | (refine a_st hl ?_; clear hl; intro _ hl) | refine a_ix (fun _ => ?_) | fail)
    refine o_putN (us := [str f.name, .int .i64 f.kind, .int .i64 f.lo, .int .i64 f.hi]) hl rfl rfl rfl hone rfl (.all rfl rfl) ?_
    clear hl
    intro w5 hl
    have hw5 := hl.done
    have hrg : Row w5 bg 0 [str f.name, .int .i64 f.kind, .int .i64 f.lo, .int .i64 f.hi] := hl.rowL (vs := [str f.name, .int .i64 f.kind, .int .i64 f.lo, .int .i64 f.hi]) 0 0 4 rfl
    replace hrc := hrc.ext hw5
    clear hl
    repeat' (first | refine a_mov ?_ | refine a_asg ?_ | refine a_binN ?_ | refine a_notd ?_ | refine a_notb ?_ | refine a_nilc ?_ | refine a_fa ?_ | refine a_ext ?_ | refine a_lenv ?_ | refine a_lens ?_ | refine a_pick_t ?_ | refine a_pick_f ?_ | refine a_not ?_ | refine a_nilf ?_ | (refine o_nil (hK _ _ ?_); clear hK K) | refine wk_reg ?_ | refine wk_seq fun K hK => ?_ | (refine wk_skip (hK _ _ ?_); clear hK K) | (refine wk_label (hK _ _ ?_); clear hK K) | refine wk_scope ?_ | refine wk_block ?_ | refine wk_cond_t rfl ?_ | refine wk_cond_f rfl ?_ | (refine wk_exit ?_; (repeat (refine blockK_other rfl ?_)); refine blockK_same ?_; try ((repeat ((fail_if_success (refine hK _ _ ?_)); clear hK K)); refine hK _ _ ?_; clear hK K)) | (refine a_bin ?_ ?_ <;> intro _ <;> try (exfalso; omega)) | refine a_ld hl ?_ | (refine a_st hl ?_; clear hl; intro _ hl) | refine a_ix (fun _ => ?_) | fail)
    by_cases hlo : z < f.lo
    · have hbad := hbad (by omega)
      refine wk_quiet [0, 1, 2, 3, 4, 5, 6, 7, 8, 9, 10, 11, 12, 13, 14, 15] ?_
      repeat' (first | refine q_mov ?_ | refine q_asg ?_ | refine q_fa ?_ | refine q_ext ?_ | refine q_binN ?_ | refine q_notd ?_ | refine q_notb ?_ | refine q_pick_t ?_ | refine q_pick_f ?_ | refine q_nilc ?_ | refine q_skip ?_ | refine q_lens ?_ | refine q_lenv ?_ | refine q_nil ?_ | refine q_ix (fun _ => ?_) | (refine q_bin ?_ ?_ <;> intro _ <;> try (exfalso; omega)) | refine q_idx (c := 1) k hpc ?_ | refine q_row (fun w_ hw_ => hrc.ext hw_) ?_ | refine q_row (fun w_ hw_ => hrg.ext hw_) ?_ | fail)
      intro wm hwm
      refine hK _ _ ?_
      clear hK K
      repeat' (first | refine a_mov ?_ | refine a_asg ?_ | refine a_binN ?_ | refine a_notd ?_ | refine a_notb ?_ | refine a_nilc ?_ | refine a_fa ?_ | refine a_ext ?_ | refine a_lenv ?_ | refine a_lens ?_ | refine a_pick_t ?_ | refine a_pick_f ?_ | refine a_not ?_ | refine a_nilf ?_ | (refine o_nil (hK _ _ ?_); clear hK K) | refine wk_reg ?_ | refine wk_seq fun K hK => ?_ | (refine wk_skip (hK _ _ ?_); clear hK K) | (refine wk_label (hK _ _ ?_); clear hK K) | refine wk_scope ?_ | refine wk_block ?_ | refine wk_cond_t rfl ?_ | refine wk_cond_f rfl ?_ | (refine wk_exit ?_; (repeat (refine blockK_other rfl ?_)); refine blockK_same ?_; try ((repeat ((fail_if_success (refine hK _ _ ?_)); clear hK K)); refine hK _ _ ?_; clear hK K)) | (refine a_bin ?_ ?_ <;> intro _ <;> try (exfalso; omega)) | refine a_ld hl ?_ | (refine a_st hl ?_; clear hl; intro _ hl) | refine a_ix (fun _ => ?_) | fail)
      refine wk_ret (retQ_tmp1 Tryd.results27 (by decide) rfl (by conv => lhs; whnf) ?_)
      exact ⟨by rw [hfb, hbad], (he.trans hw5).trans hwm⟩
    by_cases hhi : z > f.hi
    · have hbad := hbad (by omega)
      refine wk_quiet [0, 1, 2, 3, 4, 5, 6, 7, 8, 9, 10, 11, 12, 13, 14, 15] ?_
      repeat' (first | refine q_mov ?_ | refine q_asg ?_ | refine q_fa ?_ | refine q_ext ?_ | refine q_binN ?_ | refine q_notd ?_ | refine q_notb ?_ | refine q_pick_t ?_ | refine q_pick_f ?_ | refine q_nilc ?_ | refine q_skip ?_ | refine q_lens ?_ | refine q_lenv ?_ | refine q_nil ?_ | refine q_ix (fun _ => ?_) | (refine q_bin ?_ ?_ <;> intro _ <;> try (exfalso; omega)) | refine q_idx (c := 1) k hpc ?_ | refine q_row (fun w_ hw_ => hrc.ext hw_) ?_ | refine q_row (fun w_ hw_ => hrg.ext hw_) ?_ | fail)
      intro wm hwm
      refine hK _ _ ?_
      clear hK K
      repeat' (first | refine a_mov ?_ | refine a_asg ?_ | refine a_binN ?_ | refine a_notd ?_ | refine a_notb ?_ | refine a_nilc ?_ | refine a_fa ?_ | refine a_ext ?_ | refine a_lenv ?_ | refine a_lens ?_ | refine a_pick_t ?_ | refine a_pick_f ?_ | refine a_not ?_ | refine a_nilf ?_ | (refine o_nil (hK _ _ ?_); clear hK K) | refine wk_reg ?_ | refine wk_seq fun K hK => ?_ | (refine wk_skip (hK _ _ ?_); clear hK K) | (refine wk_label (hK _ _ ?_); clear hK K) | refine wk_scope ?_ | refine wk_block ?_ | refine wk_cond_t rfl ?_ | refine wk_cond_f rfl ?_ | (refine wk_exit ?_; (repeat (refine blockK_other rfl ?_)); refine blockK_same ?_; try ((repeat ((fail_if_success (refine hK _ _ ?_)); clear hK K)); refine hK _ _ ?_; clear hK K)) | (refine a_bin ?_ ?_ <;> intro _ <;> try (exfalso; omega)) | refine a_ld hl ?_ | (refine a_st hl ?_; clear hl; intro _ hl) | refine a_ix (fun _ => ?_) | fail)
      refine wk_ret (retQ_tmp1 Tryd.results27 (by decide) rfl (by conv => lhs; whnf) ?_)
      exact ⟨by rw [hfb, hbad], (he.trans hw5).trans hwm⟩
    · refine wk_quiet [0, 1, 2, 3, 4, 5, 6, 7, 8, 9, 10, 11, 12, 13, 14, 15] ?_
      repeat' (first | refine q_mov ?_ | refine q_asg ?_ | refine q_fa ?_ | refine q_ext ?_ | refine q_binN ?_ | refine q_notd ?_ | refine q_notb ?_ | refine q_pick_t ?_ | refine q_pick_f ?_ | refine q_nilc ?_ | refine q_skip ?_ | refine q_lens ?_ | refine q_lenv ?_ | refine q_nil ?_ | refine q_ix (fun _ => ?_) | (refine q_bin ?_ ?_ <;> intro _ <;> try (exfalso; omega)) | refine q_idx (c := 1) k hpc ?_ | refine q_row (fun w_ hw_ => hrc.ext hw_) ?_ | refine q_row (fun w_ hw_ => hrg.ext hw_) ?_ | fail)
      intro wm hwm
      refine hK _ _ ?_
      clear hK K
      repeat' (first | refine a_mov ?_ | refine a_asg ?_ | refine a_binN ?_ | refine a_notd ?_ | refine a_notb ?_ | refine a_nilc ?_ | refine a_fa ?_ | refine a_ext ?_ | refine a_lenv ?_ | refine a_lens ?_ | refine a_pick_t ?_ | refine a_pick_f ?_ | refine a_not ?_ | refine a_nilf ?_ | (refine o_nil (hK _ _ ?_); clear hK K) | refine wk_reg ?_ | refine wk_seq fun K hK => ?_ | (refine wk_skip (hK _ _ ?_); clear hK K) | (refine wk_label (hK _ _ ?_); clear hK K) | refine wk_scope ?_ | refine wk_block ?_ | refine wk_cond_t rfl ?_ | refine wk_cond_f rfl ?_ | (refine wk_exit ?_; (repeat (refine blockK_other rfl ?_)); refine blockK_same ?_; try ((repeat ((fail_if_success (refine hK _ _ ?_)); clear hK K)); refine hK _ _ ?_; clear hK K)) | (refine a_bin ?_ ?_ <;> intro _ <;> try (exfalso; omega)) | refine a_ld hl ?_ | (refine a_st hl ?_; clear hl; intro _ hl) | refine a_ix (fun _ => ?_) | fail)
      exact o_nil ⟨k + 1, ⟨rfl, rfl, rfl, rfl, trivial⟩, rfl, ⟨⟨hk1, hgood (by omega)⟩, (hw.trans hw5).trans hwm⟩, by omega⟩
  · have hall := (fitsC_iff F c).2 ⟨hlen, fun i h h' => hno i h h' (by omega)⟩
    clear hno
    repeat' (first | refine a_mov ?_ | refine a_asg ?_ | refine a_binN ?_ | refine a_notd ?_ | refine a_notb ?_ | refine a_nilc ?_ | refine a_fa ?_ | refine a_ext ?_ | refine a_lenv ?_ | refine a_lens ?_ | refine a_pick_t ?_ | refine a_pick_f ?_ | refine a_not ?_ | refine a_nilf ?_ | (refine o_nil (hK _ _ ?_); clear hK K) | refine wk_reg ?_ | refine wk_seq fun K hK => ?_ | (refine wk_skip (hK _ _ ?_); clear hK K) | (refine wk_label (hK _ _ ?_); clear hK K) | refine wk_scope ?_ | refine wk_block ?_ | refine wk_cond_t rfl ?_ | refine wk_cond_f rfl ?_ | (refine wk_exit ?_; (repeat (refine blockK_other rfl ?_)); refine blockK_same ?_; try ((repeat ((fail_if_success (refine hK _ _ ?_)); clear hK K)); refine hK _ _ ?_; clear hK K)) | (refine a_bin ?_ ?_ <;> intro _ <;> try (exfalso; omega)) | refine a_ld hl ?_ | (refine a_st hl ?_; clear hl; intro _ hl) | refine a_ix (fun _ => ?_) | fail)
    refine wk_ret (retQ_tmp1 Tryd.results27 (by decide) rfl (by conv => lhs; whnf) ?_)
    exact ⟨by rw [hfb, hall], he⟩
end Go.Proofs

/-
  Formulas: formula.Holds.
-/
set_option linter.unusedVariables false
set_option linter.unusedSimpArgs false
set_option linter.unnecessarySimpa false
set_option maxRecDepth 10000
namespace Go.Fo
open Go.Lexs Go.Fin
theorem Right.op {F : List Fact} {f : Fm} (h : Right F f) : f.op = 1 ∨ (f.op = 2 ∧ f.kids.length = 0) ∨ (f.op = 3 ∧ 1 ≤ f.cmp ∧ f.cmp ≤ 6 ∧ ∃ i, idx F f.name = some i) ∨ f.op = 4 ∨ (f.op = 5 ∧ f.kids.length = 1) ∨ f.op = 6 ∨ f.op = 7 := by
  have hnode := h.node
  unfold nodeE at hnode
  split at hnode
  · cases hnode
  · rename_i hf
    split at hnode
    · cases hnode
    · split at hnode
      · cases hnode
      · rename_i hx
        have hf : formed f = true := by simpa using hf
        unfold formed at hf
        split at hf
        · cases hf
        · split at hf
          · simp only [decide_eq_true_eq] at hf; omega
          · split at hf
            · simp only [Bool.and_eq_true, decide_eq_true_eq] at hf
              refine .inr (.inr (.inl ⟨by assumption, hf.2.2.1, hf.2.2.2, ?_⟩))
              cases hi : idx F f.name with
              | none => exact absurd (.inl ⟨by assumption, hi⟩) hx
              | some i => exact ⟨i, rfl⟩
            · split at hf
              · omega
              · split at hf
                · simp only [decide_eq_true_eq] at hf; omega
                · split at hf
                  · omega
                  · cases hf
theorem all_any_not (p : Fm → Bool) (ks : List Fm) : ks.all p = !(ks.any fun k => !(p k)) := by
  induction ks with
  | nil => rfl
  | cons k ks ih => rw [List.all_cons, List.any_cons, ih, Bool.not_or, Bool.not_not]
end Go.Fo

namespace Go.Proofs
open Go Go.Pd Go.Lexs Go.Fin Go.Fo
attribute [local irreducible] OpsL W RetQ OpsQ OpsC

theorem isNaN_calls (a : Int) (w : World) : Calls Tryd.prog 57 #[.int .i64 a] w (fun e w' => ∃ x, e = .returned x ∧ x = .bool false ∧ w' = w) := by
  refine calls_of Tryd.func57 rfl Tryd.ntmps57 rfl ?_
  repeat' (first | refine a_mov ?_ | refine a_asg ?_ | refine a_binN ?_ | refine a_notd ?_ | refine a_notb ?_ | refine a_nilc ?_ | refine a_fa ?_ | refine a_ext ?_ | refine a_lenv ?_ | refine a_lens ?_ | refine a_pick_t ?_ | refine a_pick_f ?_ | refine a_not ?_ | refine a_nilf ?_ | (refine o_nil (hK _ _ ?_); clear hK K) | refine wk_reg ?_ | refine wk_seq fun K hK => ?_ | (refine wk_skip (hK _ _ ?_); clear hK K) | (refine wk_label (hK _ _ ?_); clear hK K) | refine wk_scope ?_ | refine wk_block ?_ | refine wk_cond_t rfl ?_ | refine wk_cond_f rfl ?_ | (refine wk_exit ?_; (repeat (refine blockK_other rfl ?_)); refine blockK_same ?_; try ((repeat ((fail_if_success (refine hK _ _ ?_)); clear hK K)); refine hK _ _ ?_; clear hK K)) | (refine a_bin ?_ ?_ <;> intro _ <;> try (exfalso; omega)) | refine a_ld hl ?_ | (refine a_st hl ?_; clear hl; intro _ hl) | refine a_ix (fun _ => ?_) | fail)
  refine wk_ret (retQ_tmp1 Tryd.results57 (by decide) rfl (by conv => lhs; whnf) ?_)
  exact ⟨rfl, rfl⟩

theorem cmpInt_calls (a b : Int) (w : World) : Calls Tryd.prog 45 #[.int .i64 a, .int .i64 b] w (fun e w' => ∃ x, e = .returned x ∧ x = .int .i64 (if a < b then -1 else if b < a then 1 else 0) ∧ w' = w) := by
  refine calls_of Tryd.func45 rfl Tryd.ntmps45 rfl ?_
  repeat' (first | refine a_mov ?_ | refine a_asg ?_ | refine a_binN ?_ | refine a_notd ?_ | refine a_notb ?_ | refine a_nilc ?_ | refine a_fa ?_ | refine a_ext ?_ | refine a_lenv ?_ | refine a_lens ?_ | refine a_pick_t ?_ | refine a_pick_f ?_ | refine a_not ?_ | refine a_nilf ?_ | (refine o_nil (hK _ _ ?_); clear hK K) | refine wk_reg ?_ | refine wk_seq fun K hK => ?_ | (refine wk_skip (hK _ _ ?_); clear hK K) | (refine wk_label (hK _ _ ?_); clear hK K) | refine wk_scope ?_ | refine wk_block ?_ | refine wk_cond_t rfl ?_ | refine wk_cond_f rfl ?_ | (refine wk_exit ?_; (repeat (refine blockK_other rfl ?_)); refine blockK_same ?_; try ((repeat ((fail_if_success (refine hK _ _ ?_)); clear hK K)); refine hK _ _ ?_; clear hK K)) | (refine a_bin ?_ ?_ <;> intro _ <;> try (exfalso; omega)) | refine a_ld hl ?_ | (refine a_st hl ?_; clear hl; intro _ hl) | refine a_ix (fun _ => ?_) | fail)
  refine a_fn (isNaN_calls a w) ?_
  rintro _ w ⟨rfl, rfl⟩
  repeat' (first | refine a_mov ?_ | refine a_asg ?_ | refine a_binN ?_ | refine a_notd ?_ | refine a_notb ?_ | refine a_nilc ?_ | refine a_fa ?_ | refine a_ext ?_ | refine a_lenv ?_ | refine a_lens ?_ | refine a_pick_t ?_ | refine a_pick_f ?_ | refine a_not ?_ | refine a_nilf ?_ | (refine o_nil (hK _ _ ?_); clear hK K) | refine wk_reg ?_ | refine wk_seq fun K hK => ?_ | (refine wk_skip (hK _ _ ?_); clear hK K) | (refine wk_label (hK _ _ ?_); clear hK K) | refine wk_scope ?_ | refine wk_block ?_ | refine wk_cond_t rfl ?_ | refine wk_cond_f rfl ?_ | (refine wk_exit ?_; (repeat (refine blockK_other rfl ?_)); refine blockK_same ?_; try ((repeat ((fail_if_success (refine hK _ _ ?_)); clear hK K)); refine hK _ _ ?_; clear hK K)) | (refine a_bin ?_ ?_ <;> intro _ <;> try (exfalso; omega)) | refine a_ld hl ?_ | (refine a_st hl ?_; clear hl; intro _ hl) | refine a_ix (fun _ => ?_) | fail)
  refine a_fn (isNaN_calls b _) ?_
  rintro _ w ⟨rfl, rfl⟩
  repeat' (first | refine a_mov ?_ | refine a_asg ?_ | refine a_binN ?_ | refine a_notd ?_ | refine a_notb ?_ | refine a_nilc ?_ | refine a_fa ?_ | refine a_ext ?_ | refine a_lenv ?_ | refine a_lens ?_ | refine a_pick_t ?_ | refine a_pick_f ?_ | refine a_not ?_ | refine a_nilf ?_ | (refine o_nil (hK _ _ ?_); clear hK K) | refine wk_reg ?_ | refine wk_seq fun K hK => ?_ | (refine wk_skip (hK _ _ ?_); clear hK K) | (refine wk_label (hK _ _ ?_); clear hK K) | refine wk_scope ?_ | refine wk_block ?_ | refine wk_cond_t rfl ?_ | refine wk_cond_f rfl ?_ | (refine wk_exit ?_; (repeat (refine blockK_other rfl ?_)); refine blockK_same ?_; try ((repeat ((fail_if_success (refine hK _ _ ?_)); clear hK K)); refine hK _ _ ?_; clear hK K)) | (refine a_bin ?_ ?_ <;> intro _ <;> try (exfalso; omega)) | refine a_ld hl ?_ | (refine a_st hl ?_; clear hl; intro _ hl) | refine a_ix (fun _ => ?_) | fail)
  all_goals (refine wk_ret (retQ_tmp1 Tryd.results45 (by decide) rfl (by conv => lhs; whnf) ?_))
  all_goals refine ⟨congrArg (Value.int .i64) ?_, rfl⟩
  all_goals (split <;> first | rfl | omega | (split <;> first | rfl | omega))

set_option maxHeartbeats 4000000 in
theorem compareInt_calls (a how b : Int) (w : World) : Calls Tryd.prog 29 #[.int .i64 a, .int .i64 how, .int .i64 b] w (fun e w' => ∃ x, e = .returned x ∧ x = .bool (cmpB a how b) ∧ w' = w) := by
  refine calls_of Tryd.func29 rfl Tryd.ntmps29 rfl ?_
  repeat' (first | refine a_mov ?_ | refine a_asg ?_ | refine a_binN ?_ | refine a_notd ?_ | refine a_notb ?_ | refine a_nilc ?_ | refine a_fa ?_ | refine a_ext ?_ | refine a_lenv ?_ | refine a_lens ?_ | refine a_pick_t ?_ | refine a_pick_f ?_ | refine a_not ?_ | refine a_nilf ?_ | (refine o_nil (hK _ _ ?_); clear hK K) | refine wk_reg ?_ | refine wk_seq fun K hK => ?_ | (refine wk_skip (hK _ _ ?_); clear hK K) | (refine wk_label (hK _ _ ?_); clear hK K) | refine wk_scope ?_ | refine wk_block ?_ | refine wk_cond_t rfl ?_ | refine wk_cond_f rfl ?_ | (refine wk_exit ?_; (repeat (refine blockK_other rfl ?_)); refine blockK_same ?_; try ((repeat ((fail_if_success (refine hK _ _ ?_)); clear hK K)); refine hK _ _ ?_; clear hK K)) | (refine a_bin ?_ ?_ <;> intro _ <;> try (exfalso; omega)) | refine a_ld hl ?_ | (refine a_st hl ?_; clear hl; intro _ hl) | refine a_ix (fun _ => ?_) | fail)
  refine a_fn (cmpInt_calls a b w) ?_
  rintro _ w ⟨rfl, rfl⟩
  obtain ⟨n, hn, h1, h2, h3⟩ : ∃ n : Int, (if a < b then (-1 : Int) else if b < a then 1 else 0) = n ∧ (n < 0 ↔ a < b) ∧ (0 < n ↔ b < a) ∧ (n = 0 ↔ a = b) := ⟨_, rfl, by split <;> (try split) <;> omega, by split <;> (try split) <;> omega, by split <;> (try split) <;> omega⟩
  rw [hn]
  clear hn
  have hcmp : cmpB a how b = ((decide (how = 1) && decide (n = 0)) || (decide (how = 2) && decide (n ≠ 0)) || (decide (how = 3) && decide (n < 0)) || (decide (how = 4) && decide (n ≤ 0)) || (decide (how = 5) && decide (n > 0)) || (decide (how = 6) && decide (n ≥ 0))) := by
    unfold cmpB
    congr 1
    · congr 1
      · congr 1
        · congr 1
          · congr 1
            · congr 1; exact decide_eq_decide.2 h3.symm
            · congr 1; exact decide_eq_decide.2 (by omega)
          · congr 1; exact decide_eq_decide.2 (by omega)
        · congr 1; exact decide_eq_decide.2 (by omega)
      · congr 1; exact decide_eq_decide.2 (by omega)
    · congr 1; exact decide_eq_decide.2 (by omega)
  repeat' (first | refine a_mov ?_ | refine a_asg ?_ | refine a_binN ?_ | refine a_notd ?_ | refine a_notb ?_ | refine a_nilc ?_ | refine a_fa ?_ | refine a_ext ?_ | refine a_lenv ?_ | refine a_lens ?_ | refine a_pick_t ?_ | refine a_pick_f ?_ | refine a_not ?_ | refine a_nilf ?_ | (refine o_nil (hK _ _ ?_); clear hK K) | refine wk_reg ?_ | refine wk_seq fun K hK => ?_ | (refine wk_skip (hK _ _ ?_); clear hK K) | (refine wk_label (hK _ _ ?_); clear hK K) | refine wk_scope ?_ | refine wk_block ?_ | refine wk_cond_t rfl ?_ | refine wk_cond_f rfl ?_ | (refine wk_exit ?_; (repeat (refine blockK_other rfl ?_)); refine blockK_same ?_; try ((repeat ((fail_if_success (refine hK _ _ ?_)); clear hK K)); refine hK _ _ ?_; clear hK K)) | (refine a_bin ?_ ?_ <;> intro _ <;> try (exfalso; omega)) | refine a_ld hl ?_ | (refine a_st hl ?_; clear hl; intro _ hl) | refine a_ix (fun _ => ?_) | fail)
  all_goals (refine wk_ret (retQ_tmp1 Tryd.results29 (by decide) rfl (by conv => lhs; whnf) ?_))
  all_goals refine ⟨congrArg Value.bool ?_, rfl⟩
  all_goals rw [hcmp]
  all_goals clear hcmp h1 h2 h3
  all_goals (simp only [*, decide_true, decide_false, Bool.true_and, Bool.false_and, Bool.or_false, Bool.false_or, Bool.or_true, Bool.true_or, not_true_eq_false, not_false_eq_true, ne_eq])
  all_goals first | rfl | (simp; omega) | (simp_all; done) | (simp_all; omega)

/-- What a function value answers of the formulas of a list. -/
def FvC (fv : Value) (pr : Fm → Bool) (ks : List Fm) (G : Nat → Prop) (w : World) : Prop := ∀ i (hi : i < ks.length) w' kv, Ext w w' → KR w' G ks[i].kids kv → CallV Tryd.prog fv #[.agg (fmL ks[i] kv).toArray] w' (fun v w2 => v = .bool (pr ks[i]) ∧ Ext w' w2)

set_option maxHeartbeats 1000000 in
theorem indexF_calls (pr : Fm → Bool) (ks : List Fm) (hn : ks.length ≤ 9223372036854775806) (w : World) (G : Nat → Prop) (kv fv : Value) (hk : KR w G ks kv) (hf : FvC fv pr ks G w) :
    Calls Tryd.prog 48 #[kv, fv] w (fun e w' => ∃ x, e = .returned x ∧ (∃ z : Int, x = .int .i64 z ∧ (0 ≤ z ↔ ks.any pr = true)) ∧ Ext w w') := by
  obtain ⟨a, c, rfl, -⟩ := hk.shape
  refine calls_of Tryd.func48 rfl Tryd.ntmps48 rfl ?_
  repeat' (first | refine a_mov ?_ | refine a_asg ?_ | refine a_binN ?_ | refine a_notd ?_ | refine a_notb ?_ | refine a_nilc ?_ | refine a_fa ?_ | refine a_ext ?_ | refine a_lenv ?_ | refine a_lens ?_ | refine a_pick_t ?_ | refine a_pick_f ?_ | refine a_not ?_ | refine a_nilf ?_ | (refine o_nil (hK _ _ ?_); clear hK K) | refine wk_reg ?_ | refine wk_seq fun K hK => ?_ | (refine wk_skip (hK _ _ ?_); clear hK K) | (refine wk_label (hK _ _ ?_); clear hK K) | refine wk_scope ?_ | refine wk_block ?_ | refine wk_cond_t rfl ?_ | refine wk_cond_f rfl ?_ | (refine wk_exit ?_; (repeat (refine blockK_other rfl ?_)); refine blockK_same ?_; try ((repeat ((fail_if_success (refine hK _ _ ?_)); clear hK K)); refine hK _ _ ?_; clear hK K)) | (refine a_bin ?_ ?_ <;> intro _ <;> try (exfalso; omega)) | refine a_ld hl ?_ | (refine a_st hl ?_; clear hl; intro _ hl) | refine a_ix (fun _ => ?_) | fail)
  refine wk_loopH [] rfl (fun i : Nat => [(0, .slice a ks.length c), (1, fv), (7, .int .i64 (ks.length : Int)), (8, .int .i64 (i : Int))]) (fun i w' => (i ≤ ks.length ∧ (ks.take i).any pr = false) ∧ Ext w w') (fun i => ks.length - i) 0 ⟨rfl, rfl, rfl, rfl, trivial⟩ ⟨⟨by omega, by simp⟩, .refl _ _⟩ ?_
  rintro i t w1 ⟨⟨hi, hpre⟩, he⟩
  by_cases hi1 : i < ks.length
  · obtain ⟨bk, ok, kv, hp, hr, hkk⟩ := (hk.ext he).at hi1
    obtain ⟨hs1, hs2⟩ := any_split hi1 hpre
    have hcall := hf i hi1 w1 kv he hkk
    generalize ks[i] = k at *
    repeat' (first | refine a_mov ?_ | refine a_asg ?_ | refine a_binN ?_ | refine a_notd ?_ | refine a_notb ?_ | refine a_nilc ?_ | refine a_fa ?_ | refine a_ext ?_ | refine a_lenv ?_ | refine a_lens ?_ | refine a_pick_t ?_ | refine a_pick_f ?_ | refine a_not ?_ | refine a_nilf ?_ | (refine o_nil (hK _ _ ?_); clear hK K) | refine wk_reg ?_ | refine wk_seq fun K hK => ?_ | (refine wk_skip (hK _ _ ?_); clear hK K) | (refine wk_label (hK _ _ ?_); clear hK K) | refine wk_scope ?_ | refine wk_block ?_ | refine wk_cond_t rfl ?_ | refine wk_cond_f rfl ?_ | (refine wk_exit ?_; (repeat (refine blockK_other rfl ?_)); refine blockK_same ?_; try ((repeat ((fail_if_success (refine hK _ _ ?_)); clear hK K)); refine hK _ _ ?_; clear hK K)) | (refine a_bin ?_ ?_ <;> intro _ <;> try (exfalso; omega)) | refine a_ld hl ?_ | (refine a_st hl ?_; clear hl; intro _ hl) | refine a_ix (fun _ => ?_) | refine a_idx (c := 5) i hp ?_ | refine a_all hr ?_)
    refine o_callv (fv := fv) (args := #[.agg (fmL k kv).toArray]) rfl rfl rfl hcall ?_
    rintro _ w2 ⟨rfl, he2⟩
    cases hpk : pr k
    · repeat' (first | refine a_mov ?_ | refine a_asg ?_ | refine a_binN ?_ | refine a_notd ?_ | refine a_notb ?_ | refine a_nilc ?_ | refine a_fa ?_ | refine a_ext ?_ | refine a_lenv ?_ | refine a_lens ?_ | refine a_pick_t ?_ | refine a_pick_f ?_ | refine a_not ?_ | refine a_nilf ?_ | (refine o_nil (hK _ _ ?_); clear hK K) | refine wk_reg ?_ | refine wk_seq fun K hK => ?_ | (refine wk_skip (hK _ _ ?_); clear hK K) | (refine wk_label (hK _ _ ?_); clear hK K) | refine wk_scope ?_ | refine wk_block ?_ | refine wk_cond_t rfl ?_ | refine wk_cond_f rfl ?_ | (refine wk_exit ?_; (repeat (refine blockK_other rfl ?_)); refine blockK_same ?_; try ((repeat ((fail_if_success (refine hK _ _ ?_)); clear hK K)); refine hK _ _ ?_; clear hK K)) | (refine a_bin ?_ ?_ <;> intro _ <;> try (exfalso; omega)) | refine a_ld hl ?_ | (refine a_st hl ?_; clear hl; intro _ hl) | refine a_ix (fun _ => ?_) | fail)
      exact o_nil ⟨i + 1, ⟨rfl, rfl, rfl, rfl, trivial⟩, rfl, ⟨⟨hi1, hs2 hpk⟩, he.trans he2⟩, by omega⟩
    · repeat' (first | refine a_mov ?_ | refine a_asg ?_ | refine a_binN ?_ | refine a_notd ?_ | refine a_notb ?_ | refine a_nilc ?_ | refine a_fa ?_ | refine a_ext ?_ | refine a_lenv ?_ | refine a_lens ?_ | refine a_pick_t ?_ | refine a_pick_f ?_ | refine a_not ?_ | refine a_nilf ?_ | (refine o_nil (hK _ _ ?_); clear hK K) | refine wk_reg ?_ | refine wk_seq fun K hK => ?_ | (refine wk_skip (hK _ _ ?_); clear hK K) | (refine wk_label (hK _ _ ?_); clear hK K) | refine wk_scope ?_ | refine wk_block ?_ | refine wk_cond_t rfl ?_ | refine wk_cond_f rfl ?_ | (refine wk_exit ?_; (repeat (refine blockK_other rfl ?_)); refine blockK_same ?_; try ((repeat ((fail_if_success (refine hK _ _ ?_)); clear hK K)); refine hK _ _ ?_; clear hK K)) | (refine a_bin ?_ ?_ <;> intro _ <;> try (exfalso; omega)) | refine a_ld hl ?_ | (refine a_st hl ?_; clear hl; intro _ hl) | refine a_ix (fun _ => ?_) | fail)
      refine wk_ret (retQ_tmp1 Tryd.results48 (by decide) rfl (by conv => lhs; whnf) ?_)
      exact ⟨⟨_, rfl, by rw [hs1 hpk]; simp⟩, he.trans he2⟩
  · have hke : i = ks.length := by omega
    rw [hke, List.take_of_length_le (Nat.le_refl _)] at hpre
    repeat' (first | refine a_mov ?_ | refine a_asg ?_ | refine a_binN ?_ | refine a_notd ?_ | refine a_notb ?_ | refine a_nilc ?_ | refine a_fa ?_ | refine a_ext ?_ | refine a_lenv ?_ | refine a_lens ?_ | refine a_pick_t ?_ | refine a_pick_f ?_ | refine a_not ?_ | refine a_nilf ?_ | (refine o_nil (hK _ _ ?_); clear hK K) | refine wk_reg ?_ | refine wk_seq fun K hK => ?_ | (refine wk_skip (hK _ _ ?_); clear hK K) | (refine wk_label (hK _ _ ?_); clear hK K) | refine wk_scope ?_ | refine wk_block ?_ | refine wk_cond_t rfl ?_ | refine wk_cond_f rfl ?_ | (refine wk_exit ?_; (repeat (refine blockK_other rfl ?_)); refine blockK_same ?_; try ((repeat ((fail_if_success (refine hK _ _ ?_)); clear hK K)); refine hK _ _ ?_; clear hK K)) | (refine a_bin ?_ ?_ <;> intro _ <;> try (exfalso; omega)) | refine a_ld hl ?_ | (refine a_st hl ?_; clear hl; intro _ hl) | refine a_ix (fun _ => ?_) | fail)
    refine wk_ret (retQ_tmp1 Tryd.results48 (by decide) rfl (by conv => lhs; whnf) ?_)
    exact ⟨⟨_, rfl, by rw [hpre]; simp⟩, he⟩

theorem containsF_calls (pr : Fm → Bool) (ks : List Fm) (hn : ks.length ≤ 9223372036854775806) (w : World) (G : Nat → Prop) (kv fv : Value) (hk : KR w G ks kv) (hf : FvC fv pr ks G w) :
    Calls Tryd.prog 31 #[kv, fv] w (fun e w' => ∃ x, e = .returned x ∧ x = .bool (ks.any pr) ∧ Ext w w') := by
  obtain ⟨a, c, rfl, -⟩ := hk.shape
  refine calls_of Tryd.func31 rfl Tryd.ntmps31 rfl ?_
  repeat' (first | refine a_mov ?_ | refine a_asg ?_ | refine a_binN ?_ | refine a_notd ?_ | refine a_notb ?_ | refine a_nilc ?_ | refine a_fa ?_ | refine a_ext ?_ | refine a_lenv ?_ | refine a_lens ?_ | refine a_pick_t ?_ | refine a_pick_f ?_ | refine a_not ?_ | refine a_nilf ?_ | (refine o_nil (hK _ _ ?_); clear hK K) | refine wk_reg ?_ | refine wk_seq fun K hK => ?_ | (refine wk_skip (hK _ _ ?_); clear hK K) | (refine wk_label (hK _ _ ?_); clear hK K) | refine wk_scope ?_ | refine wk_block ?_ | refine wk_cond_t rfl ?_ | refine wk_cond_f rfl ?_ | (refine wk_exit ?_; (repeat (refine blockK_other rfl ?_)); refine blockK_same ?_; try ((repeat ((fail_if_success (refine hK _ _ ?_)); clear hK K)); refine hK _ _ ?_; clear hK K)) | (refine a_bin ?_ ?_ <;> intro _ <;> try (exfalso; omega)) | refine a_ld hl ?_ | (refine a_st hl ?_; clear hl; intro _ hl) | refine a_ix (fun _ => ?_) | fail)
  refine a_fn (indexF_calls pr ks hn w G _ fv hk hf) ?_
  rintro _ w2 ⟨⟨z, rfl, hz⟩, he⟩
  repeat' (first | refine a_mov ?_ | refine a_asg ?_ | refine a_binN ?_ | refine a_notd ?_ | refine a_notb ?_ | refine a_nilc ?_ | refine a_fa ?_ | refine a_ext ?_ | refine a_lenv ?_ | refine a_lens ?_ | refine a_pick_t ?_ | refine a_pick_f ?_ | refine a_not ?_ | refine a_nilf ?_ | (refine o_nil (hK _ _ ?_); clear hK K) | refine wk_reg ?_ | refine wk_seq fun K hK => ?_ | (refine wk_skip (hK _ _ ?_); clear hK K) | (refine wk_label (hK _ _ ?_); clear hK K) | refine wk_scope ?_ | refine wk_block ?_ | refine wk_cond_t rfl ?_ | refine wk_cond_f rfl ?_ | (refine wk_exit ?_; (repeat (refine blockK_other rfl ?_)); refine blockK_same ?_; try ((repeat ((fail_if_success (refine hK _ _ ?_)); clear hK K)); refine hK _ _ ?_; clear hK K)) | (refine a_bin ?_ ?_ <;> intro _ <;> try (exfalso; omega)) | refine a_ld hl ?_ | (refine a_st hl ?_; clear hl; intro _ hl) | refine a_ix (fun _ => ?_) | fail)
  all_goals (refine wk_ret (retQ_tmp1 Tryd.results31 (by decide) rfl (by conv => lhs; whnf) ?_); refine ⟨congrArg Value.bool ?_, he⟩)
  · rw [hz.1 (by omega)]
  · cases hc : ks.any pr
    · rfl
    · exact absurd (hz.2 hc) (by omega)

def holdsV (b6 b5 b7 b9 : Nat) : Value := .func (.func 28) #[] #[.pointer (some ⟨b6, 0, none⟩), .pointer (some ⟨b5, 0, none⟩), .pointer (some ⟨b7, 0, none⟩), .pointer (some ⟨b9, 0, none⟩)]

structure HoEnv (F : List Fact) (c : List Int) (T : List (List UInt8)) (b6 b5 b7 b9 : Nat) (dv cv tv : Value) (w : World) : Prop where
  r6 : Row w b6 0 [cv]
  r5 : Row w b5 0 [dv]
  r7 : Row w b7 0 [tv]
  r9 : Row w b9 0 [holdsV b6 b5 b7 b9]
  d : Sl w dv 4 (factsL F)
  c : Sl w cv 1 (intsL c)
  t : Sl w tv 1 (strsL T)

theorem HoEnv.ext {F : List Fact} {c : List Int} {T : List (List UInt8)} {b6 b5 b7 b9 : Nat} {dv cv tv : Value} {w w' : World} (h : HoEnv F c T b6 b5 b7 b9 dv cv tv w) (e : Ext w w') : HoEnv F c T b6 b5 b7 b9 dv cv tv w' :=
  ⟨h.r6.ext e, h.r5.ext e, h.r7.ext e, h.r9.ext e, h.d.ext e, h.c.ext e, h.t.ext e⟩

/-- The other way round. -/
theorem not_calls {b6 b5 b7 b9 : Nat} {w : World} (hr : Row w b9 0 [holdsV b6 b5 b7 b9]) (k : Fm) (kv : Value) (pk : Bool) (hkv : ∃ a c, kv = .slice a k.kids.length c) (hc : ∀ w', Ext w w' → Calls Tryd.prog 28 #[.agg (fmL k kv).toArray, .pointer (some ⟨b6, 0, none⟩), .pointer (some ⟨b5, 0, none⟩), .pointer (some ⟨b7, 0, none⟩), .pointer (some ⟨b9, 0, none⟩)] w' (fun e w2 => ∃ x, e = .returned x ∧ x = .bool pk ∧ Ext w' w2)) :
    Calls Tryd.prog 32 #[.agg (fmL k kv).toArray, .pointer (some ⟨b9, 0, none⟩)] w (fun e w' => ∃ x, e = .returned x ∧ x = .bool (!pk) ∧ Ext w w') := by
  obtain ⟨a, c, rfl⟩ := hkv
  refine calls_of Tryd.func32 rfl Tryd.ntmps32 rfl ?_
  refine wk_seq fun K hK => ?_
  refine wk_reg ?_
  refine o_box (LH.start w (fun _ => False)) [.int .i64 (k).op, str (k).name, .int .i64 (k).cmp, .int .i64 (k).num, .slice a k.kids.length c] rfl rfl rfl ?_
  intro b1 w1 hb1 hl
  have he := hl.done
  repeat' (first | refine a_mov ?_ | refine a_asg ?_ | refine a_binN ?_ | refine a_notd ?_ | refine a_notb ?_ | refine a_nilc ?_ | refine a_fa ?_ | refine a_ext ?_ | refine a_lenv ?_ | refine a_lens ?_ | refine a_pick_t ?_ | refine a_pick_f ?_ | refine a_not ?_ | refine a_nilf ?_ | (refine o_nil (hK _ _ ?_); clear hK K) | refine wk_reg ?_ | refine wk_seq fun K hK => ?_ | (refine wk_skip (hK _ _ ?_); clear hK K) | (refine wk_label (hK _ _ ?_); clear hK K) | refine wk_scope ?_ | refine wk_block ?_ | refine wk_cond_t rfl ?_ | refine wk_cond_f rfl ?_ | (refine wk_exit ?_; (repeat (refine blockK_other rfl ?_)); refine blockK_same ?_; try ((repeat ((fail_if_success (refine hK _ _ ?_)); clear hK K)); refine hK _ _ ?_; clear hK K)) | (refine a_bin ?_ ?_ <;> intro _ <;> try (exfalso; omega)) | refine a_ld hl ?_ | (refine a_st hl ?_; clear hl; intro _ hl) | refine a_ix (fun _ => ?_) | refine a_row (hr.ext he) ?_ | refine a_all (hl.rowL (vs := [.int .i64 (k).op, str (k).name, .int .i64 (k).cmp, .int .i64 (k).num, .slice a k.kids.length c]) 0 0 5 rfl) ?_)
  refine a_fc #[.agg (fmL k (.slice a k.kids.length c)).toArray] #[.pointer (some ⟨b6, 0, none⟩), .pointer (some ⟨b5, 0, none⟩), .pointer (some ⟨b7, 0, none⟩), .pointer (some ⟨b9, 0, none⟩)] #[.agg (fmL k (.slice a k.kids.length c)).toArray, .pointer (some ⟨b6, 0, none⟩), .pointer (some ⟨b5, 0, none⟩), .pointer (some ⟨b7, 0, none⟩), .pointer (some ⟨b9, 0, none⟩)] rfl (hc w1 he) ?_
  rintro _ w2 ⟨rfl, he2⟩
  repeat' (first | refine a_mov ?_ | refine a_asg ?_ | refine a_binN ?_ | refine a_notd ?_ | refine a_notb ?_ | refine a_nilc ?_ | refine a_fa ?_ | refine a_ext ?_ | refine a_lenv ?_ | refine a_lens ?_ | refine a_pick_t ?_ | refine a_pick_f ?_ | refine a_not ?_ | refine a_nilf ?_ | (refine o_nil (hK _ _ ?_); clear hK K) | refine wk_reg ?_ | refine wk_seq fun K hK => ?_ | (refine wk_skip (hK _ _ ?_); clear hK K) | (refine wk_label (hK _ _ ?_); clear hK K) | refine wk_scope ?_ | refine wk_block ?_ | refine wk_cond_t rfl ?_ | refine wk_cond_f rfl ?_ | (refine wk_exit ?_; (repeat (refine blockK_other rfl ?_)); refine blockK_same ?_; try ((repeat ((fail_if_success (refine hK _ _ ?_)); clear hK K)); refine hK _ _ ?_; clear hK K)) | (refine a_bin ?_ ?_ <;> intro _ <;> try (exfalso; omega)) | refine a_ld hl ?_ | (refine a_st hl ?_; clear hl; intro _ hl) | refine a_ix (fun _ => ?_) | fail)
  refine wk_ret (retQ_tmp1 Tryd.results32 (by decide) rfl (by conv => lhs; whnf) ?_)
  exact ⟨rfl, he.trans he2⟩

set_option maxHeartbeats 4000000 in
theorem holds2_calls (F : List Fact) (c : List Int) (T : List (List UInt8)) (hF : F.length ≤ 9223372036854775806) (hT : T.length ≤ 9223372036854775806) (hcF : c.length = F.length) (b6 b5 b7 b9 : Nat) (dv cv tv : Value) :
    ∀ (f : Fm) (w : World) (G : Nat → Prop) (kv : Value), Right F f → KR w G f.kids kv → Short f.kids → HoEnv F c T b6 b5 b7 b9 dv cv tv w →
      Calls Tryd.prog 28 #[.agg (fmL f kv).toArray, .pointer (some ⟨b6, 0, none⟩), .pointer (some ⟨b5, 0, none⟩), .pointer (some ⟨b7, 0, none⟩), .pointer (some ⟨b9, 0, none⟩)] w (fun e w' => ∃ x, e = .returned x ∧ x = .bool (eval F c T f) ∧ Ext w w') := by
  refine Fm.ind ?_
  intro f ih w G kv hR hk hs hE
  have hlen := hs.1
  have hop := hR.op
  have hev := eval_eq F c T f
  obtain ⟨a, cp, rfl, -⟩ := hk.shape
  obtain ⟨da, dc, rfl, -⟩ := hE.d.shape (factsL_len F) (by omega)
  obtain ⟨ca, cc, rfl, -⟩ := hE.c.shape (intsL_len c) (by omega)
  obtain ⟨ta, tc, rfl, -⟩ := hE.t.shape (strsL_len T) (by omega)
  refine calls_of Tryd.func28 rfl Tryd.ntmps28 rfl ?_
  refine wk_seq fun K hK => ?_
  refine wk_reg ?_
  refine o_box (LH.start w (fun _ => False)) [.int .i64 (f).op, str (f).name, .int .i64 (f).cmp, .int .i64 (f).num, .slice a f.kids.length cp] rfl rfl rfl ?_
  intro b1 w1 hb1 hl
  have he := hl.done
  have hkids : ∀ i (hi : i < f.kids.length) w' (kv : Value), Ext w w' → KR w' G f.kids[i].kids kv → Calls Tryd.prog 28 #[.agg (fmL f.kids[i] kv).toArray, .pointer (some ⟨b6, 0, none⟩), .pointer (some ⟨b5, 0, none⟩), .pointer (some ⟨b7, 0, none⟩), .pointer (some ⟨b9, 0, none⟩)] w' (fun e w2 => ∃ x, e = .returned x ∧ x = .bool (eval F c T f.kids[i]) ∧ Ext w' w2) :=
    fun i hi w' kv e h => ih _ (List.getElem_mem hi) w' G kv (hR.kid hi) h (hs.kid hi) (hE.ext e)
  clear ih hs
  have hE1 := hE.ext he
  rcases hop with h1 | h1 | ⟨h1, h2, h3, i, hi⟩ | h1 | ⟨h1, h2⟩ | h1 | h1
  · have hv1 : eval F c T f = true := by rw [hev]; simp [h1]
    clear hev
    repeat' (first | refine a_mov ?_ | refine a_asg ?_ | refine a_binN ?_ | refine a_notd ?_ | refine a_notb ?_ | refine a_nilc ?_ | refine a_fa ?_ | refine a_ext ?_ | refine a_lenv ?_ | refine a_lens ?_ | refine a_pick_t ?_ | refine a_pick_f ?_ | refine a_not ?_ | refine a_nilf ?_ | (refine o_nil (hK _ _ ?_); clear hK K) | refine wk_reg ?_ | refine wk_seq fun K hK => ?_ | (refine wk_skip (hK _ _ ?_); clear hK K) | (refine wk_label (hK _ _ ?_); clear hK K) | refine wk_scope ?_ | refine wk_block ?_ | refine wk_cond_t rfl ?_ | refine wk_cond_f rfl ?_ | (refine wk_exit ?_; (repeat (refine blockK_other rfl ?_)); refine blockK_same ?_; try ((repeat ((fail_if_success (refine hK _ _ ?_)); clear hK K)); refine hK _ _ ?_; clear hK K)) | (refine a_bin ?_ ?_ <;> intro _ <;> try (exfalso; omega)) | refine a_ld hl ?_ | (refine a_st hl ?_; clear hl; intro _ hl) | refine a_ix (fun _ => ?_) | fail)
    refine wk_ret (retQ_tmp1 Tryd.results28 (by decide) rfl (by conv => lhs; whnf) ?_)
    exact ⟨by rw [hv1], he⟩
  · have hv1 : eval F c T f = false := by rw [hev]; simp [h1]
    clear hev
    repeat' (first | refine a_mov ?_ | refine a_asg ?_ | refine a_binN ?_ | refine a_notd ?_ | refine a_notb ?_ | refine a_nilc ?_ | refine a_fa ?_ | refine a_ext ?_ | refine a_lenv ?_ | refine a_lens ?_ | refine a_pick_t ?_ | refine a_pick_f ?_ | refine a_not ?_ | refine a_nilf ?_ | (refine o_nil (hK _ _ ?_); clear hK K) | refine wk_reg ?_ | refine wk_seq fun K hK => ?_ | (refine wk_skip (hK _ _ ?_); clear hK K) | (refine wk_label (hK _ _ ?_); clear hK K) | refine wk_scope ?_ | refine wk_block ?_ | refine wk_cond_t rfl ?_ | refine wk_cond_f rfl ?_ | (refine wk_exit ?_; (repeat (refine blockK_other rfl ?_)); refine blockK_same ?_; try ((repeat ((fail_if_success (refine hK _ _ ?_)); clear hK K)); refine hK _ _ ?_; clear hK K)) | (refine a_bin ?_ ?_ <;> intro _ <;> try (exfalso; omega)) | refine a_ld hl ?_ | (refine a_st hl ?_; clear hl; intro _ hl) | refine a_ix (fun _ => ?_) | fail)
    refine wk_ret (retQ_tmp1 Tryd.results28 (by decide) rfl (by conv => lhs; whnf) ?_)
    exact ⟨by rw [hv1], he⟩
  · have hix : idxI F f.name = (i : Int) := by simp only [idxI, hi]
    have hilt := idx_lt hi
    have hv1 : eval F c T f = cmpB c[i] f.cmp f.num := by
      rw [hev, if_pos h1]
      unfold valAt
      rw [hi]
      simp [List.getD, show i < c.length by omega]
    clear hev
    obtain ⟨bc, oc, hpc, hrc⟩ := Sl.intAt hE1.c rfl (show i < c.length by omega)
    have hidx := fun w' (hw' : Ext w1 w') => factIndex_calls (hE1.d.ext hw') hF f.name
    rw [hix] at hidx
    have hcmp : ∀ w', Ext w1 w' → Calls Tryd.prog 29 #[.int .i64 c[i], .int .i64 f.cmp, .int .i64 f.num] w' (fun e w3 => ∃ x, e = .returned x ∧ x = .bool (cmpB c[i] f.cmp f.num) ∧ Ext w' w3) := fun w' hw' => by
      refine Calls.mono (compareInt_calls c[i] f.cmp f.num w') ?_
      rintro e w3 ⟨x, hx, hy, rfl⟩
      exact ⟨x, hx, hy, .refl _ _⟩
    generalize c[i] = z at *
    repeat' (first | refine a_mov ?_ | refine a_asg ?_ | refine a_binN ?_ | refine a_notd ?_ | refine a_notb ?_ | refine a_nilc ?_ | refine a_fa ?_ | refine a_ext ?_ | refine a_lenv ?_ | refine a_lens ?_ | refine a_pick_t ?_ | refine a_pick_f ?_ | refine a_not ?_ | refine a_nilf ?_ | (refine o_nil (hK _ _ ?_); clear hK K) | refine wk_reg ?_ | refine wk_seq fun K hK => ?_ | (refine wk_skip (hK _ _ ?_); clear hK K) | (refine wk_label (hK _ _ ?_); clear hK K) | refine wk_scope ?_ | refine wk_block ?_ | refine wk_cond_t rfl ?_ | refine wk_cond_f rfl ?_ | (refine wk_exit ?_; (repeat (refine blockK_other rfl ?_)); refine blockK_same ?_; try ((repeat ((fail_if_success (refine hK _ _ ?_)); clear hK K)); refine hK _ _ ?_; clear hK K)) | (refine a_bin ?_ ?_ <;> intro _ <;> try (exfalso; omega)) | refine a_ld hl ?_ | (refine a_st hl ?_; clear hl; intro _ hl) | refine a_ix (fun _ => ?_) | fail)
    refine wk_quiet [0, 1, 2, 3, 4, 5, 6, 7, 8, 9, 10, 11, 12] ?_
    repeat' (first | refine q_mov ?_ | refine q_asg ?_ | refine q_fa ?_ | refine q_ext ?_ | refine q_binN ?_ | refine q_notd ?_ | refine q_notb ?_ | refine q_pick_t ?_ | refine q_pick_f ?_ | refine q_nilc ?_ | refine q_skip ?_ | refine q_lens ?_ | refine q_lenv ?_ | refine q_nil ?_ | refine q_ix (fun _ => ?_) | (refine q_bin ?_ ?_ <;> intro _ <;> try (exfalso; omega)) | refine q_ld (fun w_ hw_ => hl.ext hw_) ?_ | refine q_row (fun w_ hw_ => hE1.r6.ext hw_) ?_ | refine q_all (fun w_ hw_ => hE1.r5.ext hw_) ?_ | refine q_idx (c := 1) i hpc ?_ | refine q_row (fun w_ hw_ => hrc.ext hw_) ?_ | refine q_fn (v := .int .i64 (i : Int)) hidx ?_ | refine q_fn (v := .bool (cmpB z f.cmp f.num)) hcmp ?_ | fail)
    intro wm hwm
    refine hK _ _ ?_
    clear hK K
    repeat' (first | refine a_mov ?_ | refine a_asg ?_ | refine a_binN ?_ | refine a_notd ?_ | refine a_notb ?_ | refine a_nilc ?_ | refine a_fa ?_ | refine a_ext ?_ | refine a_lenv ?_ | refine a_lens ?_ | refine a_pick_t ?_ | refine a_pick_f ?_ | refine a_not ?_ | refine a_nilf ?_ | (refine o_nil (hK _ _ ?_); clear hK K) | refine wk_reg ?_ | refine wk_seq fun K hK => ?_ | (refine wk_skip (hK _ _ ?_); clear hK K) | (refine wk_label (hK _ _ ?_); clear hK K) | refine wk_scope ?_ | refine wk_block ?_ | refine wk_cond_t rfl ?_ | refine wk_cond_f rfl ?_ | (refine wk_exit ?_; (repeat (refine blockK_other rfl ?_)); refine blockK_same ?_; try ((repeat ((fail_if_success (refine hK _ _ ?_)); clear hK K)); refine hK _ _ ?_; clear hK K)) | (refine a_bin ?_ ?_ <;> intro _ <;> try (exfalso; omega)) | refine a_ld hl ?_ | (refine a_st hl ?_; clear hl; intro _ hl) | refine a_ix (fun _ => ?_) | fail)
    refine wk_ret (retQ_tmp1 Tryd.results28 (by decide) rfl (by conv => lhs; whnf) ?_)
    exact ⟨by rw [hv1], he.trans hwm⟩
  · have hv1 : eval F c T f = T.contains f.name := by rw [hev]; simp [h1]
    clear hev
    repeat' (first | refine a_mov ?_ | refine a_asg ?_ | refine a_binN ?_ | refine a_notd ?_ | refine a_notb ?_ | refine a_nilc ?_ | refine a_fa ?_ | refine a_ext ?_ | refine a_lenv ?_ | refine a_lens ?_ | refine a_pick_t ?_ | refine a_pick_f ?_ | refine a_not ?_ | refine a_nilf ?_ | (refine o_nil (hK _ _ ?_); clear hK K) | refine wk_reg ?_ | refine wk_seq fun K hK => ?_ | (refine wk_skip (hK _ _ ?_); clear hK K) | (refine wk_label (hK _ _ ?_); clear hK K) | refine wk_scope ?_ | refine wk_block ?_ | refine wk_cond_t rfl ?_ | refine wk_cond_f rfl ?_ | (refine wk_exit ?_; (repeat (refine blockK_other rfl ?_)); refine blockK_same ?_; try ((repeat ((fail_if_success (refine hK _ _ ?_)); clear hK K)); refine hK _ _ ?_; clear hK K)) | (refine a_bin ?_ ?_ <;> intro _ <;> try (exfalso; omega)) | refine a_ld hl ?_ | (refine a_st hl ?_; clear hl; intro _ hl) | refine a_ix (fun _ => ?_) | refine a_row hE1.r7 ?_)
    refine a_fn (contains_calls hE1.t hT f.name) ?_
    rintro _ w5 ⟨rfl, rfl⟩
    repeat' (first | refine a_mov ?_ | refine a_asg ?_ | refine a_binN ?_ | refine a_notd ?_ | refine a_notb ?_ | refine a_nilc ?_ | refine a_fa ?_ | refine a_ext ?_ | refine a_lenv ?_ | refine a_lens ?_ | refine a_pick_t ?_ | refine a_pick_f ?_ | refine a_not ?_ | refine a_nilf ?_ | (refine o_nil (hK _ _ ?_); clear hK K) | refine wk_reg ?_ | refine wk_seq fun K hK => ?_ | (refine wk_skip (hK _ _ ?_); clear hK K) | (refine wk_label (hK _ _ ?_); clear hK K) | refine wk_scope ?_ | refine wk_block ?_ | refine wk_cond_t rfl ?_ | refine wk_cond_f rfl ?_ | (refine wk_exit ?_; (repeat (refine blockK_other rfl ?_)); refine blockK_same ?_; try ((repeat ((fail_if_success (refine hK _ _ ?_)); clear hK K)); refine hK _ _ ?_; clear hK K)) | (refine a_bin ?_ ?_ <;> intro _ <;> try (exfalso; omega)) | refine a_ld hl ?_ | (refine a_st hl ?_; clear hl; intro _ hl) | refine a_ix (fun _ => ?_) | fail)
    refine wk_ret (retQ_tmp1 Tryd.results28 (by decide) rfl (by conv => lhs; whnf) ?_)
    exact ⟨by rw [hv1], he⟩
  · have hv1 : eval F c T f = !(evalFirst F c T f.kids) := by rw [hev]; simp [h1]
    clear hev
    obtain ⟨bk, ok, kv, hp, hr, hkk⟩ := (hk.ext he).at (i := 0) (by omega)
    have ihk := fun w' (e : Ext w1 w') => hkids 0 (by omega) w' kv (he.trans e) (hkk.ext e)
    have hfi := evalFirst_eq F c T f.kids (by omega)
    rw [hfi] at hv1
    clear hkids
    have h20 : 0 < f.kids.length := by omega
    generalize f.kids[0]'h20 = k at *
    generalize eval F c T k = ek at *
    repeat' (first | refine a_mov ?_ | refine a_asg ?_ | refine a_binN ?_ | refine a_notd ?_ | refine a_notb ?_ | refine a_nilc ?_ | refine a_fa ?_ | refine a_ext ?_ | refine a_lenv ?_ | refine a_lens ?_ | refine a_pick_t ?_ | refine a_pick_f ?_ | refine a_not ?_ | refine a_nilf ?_ | (refine o_nil (hK _ _ ?_); clear hK K) | refine wk_reg ?_ | refine wk_seq fun K hK => ?_ | (refine wk_skip (hK _ _ ?_); clear hK K) | (refine wk_label (hK _ _ ?_); clear hK K) | refine wk_scope ?_ | refine wk_block ?_ | refine wk_cond_t rfl ?_ | refine wk_cond_f rfl ?_ | (refine wk_exit ?_; (repeat (refine blockK_other rfl ?_)); refine blockK_same ?_; try ((repeat ((fail_if_success (refine hK _ _ ?_)); clear hK K)); refine hK _ _ ?_; clear hK K)) | (refine a_bin ?_ ?_ <;> intro _ <;> try (exfalso; omega)) | refine a_ld hl ?_ | (refine a_st hl ?_; clear hl; intro _ hl) | refine a_ix (fun _ => ?_) | fail)
    refine wk_quiet [0, 1, 2, 3, 4, 5, 6, 7] ?_
    repeat' (first | refine q_mov ?_ | refine q_asg ?_ | refine q_fa ?_ | refine q_ext ?_ | refine q_binN ?_ | refine q_notd ?_ | refine q_notb ?_ | refine q_pick_t ?_ | refine q_pick_f ?_ | refine q_nilc ?_ | refine q_skip ?_ | refine q_lens ?_ | refine q_lenv ?_ | refine q_nil ?_ | refine q_ix (fun _ => ?_) | (refine q_bin ?_ ?_ <;> intro _ <;> try (exfalso; omega)) | refine q_ld (fun w_ hw_ => hl.ext hw_) ?_ | refine q_row (fun w_ hw_ => hE1.r9.ext hw_) ?_ | refine q_idx (c := 5) 0 hp ?_ | refine q_all (fun w_ hw_ => hr.ext hw_) ?_ | refine q_fc (v := .bool ek) #[.agg (fmL k kv).toArray] #[.pointer (some ⟨b6, 0, none⟩), .pointer (some ⟨b5, 0, none⟩), .pointer (some ⟨b7, 0, none⟩), .pointer (some ⟨b9, 0, none⟩)] #[.agg (fmL k kv).toArray, .pointer (some ⟨b6, 0, none⟩), .pointer (some ⟨b5, 0, none⟩), .pointer (some ⟨b7, 0, none⟩), .pointer (some ⟨b9, 0, none⟩)] rfl ihk ?_ | fail)
    intro wm hwm
    refine hK _ _ ?_
    clear hK K
    repeat' (first | refine a_mov ?_ | refine a_asg ?_ | refine a_binN ?_ | refine a_notd ?_ | refine a_notb ?_ | refine a_nilc ?_ | refine a_fa ?_ | refine a_ext ?_ | refine a_lenv ?_ | refine a_lens ?_ | refine a_pick_t ?_ | refine a_pick_f ?_ | refine a_not ?_ | refine a_nilf ?_ | (refine o_nil (hK _ _ ?_); clear hK K) | refine wk_reg ?_ | refine wk_seq fun K hK => ?_ | (refine wk_skip (hK _ _ ?_); clear hK K) | (refine wk_label (hK _ _ ?_); clear hK K) | refine wk_scope ?_ | refine wk_block ?_ | refine wk_cond_t rfl ?_ | refine wk_cond_f rfl ?_ | (refine wk_exit ?_; (repeat (refine blockK_other rfl ?_)); refine blockK_same ?_; try ((repeat ((fail_if_success (refine hK _ _ ?_)); clear hK K)); refine hK _ _ ?_; clear hK K)) | (refine a_bin ?_ ?_ <;> intro _ <;> try (exfalso; omega)) | refine a_ld hl ?_ | (refine a_st hl ?_; clear hl; intro _ hl) | refine a_ix (fun _ => ?_) | fail)
    refine wk_ret (retQ_tmp1 Tryd.results28 (by decide) rfl (by conv => lhs; whnf) ?_)
    exact ⟨by rw [hv1], he.trans hwm⟩
  · have hv1 : eval F c T f = !(f.kids.any fun k => !(eval F c T k)) := by rw [hev, ← all_any_not]; simp [h1]
    clear hev
    repeat' (first | refine a_mov ?_ | refine a_asg ?_ | refine a_binN ?_ | refine a_notd ?_ | refine a_notb ?_ | refine a_nilc ?_ | refine a_fa ?_ | refine a_ext ?_ | refine a_lenv ?_ | refine a_lens ?_ | refine a_pick_t ?_ | refine a_pick_f ?_ | refine a_not ?_ | refine a_nilf ?_ | (refine o_nil (hK _ _ ?_); clear hK K) | refine wk_reg ?_ | refine wk_seq fun K hK => ?_ | (refine wk_skip (hK _ _ ?_); clear hK K) | (refine wk_label (hK _ _ ?_); clear hK K) | refine wk_scope ?_ | refine wk_block ?_ | refine wk_cond_t rfl ?_ | refine wk_cond_f rfl ?_ | (refine wk_exit ?_; (repeat (refine blockK_other rfl ?_)); refine blockK_same ?_; try ((repeat ((fail_if_success (refine hK _ _ ?_)); clear hK K)); refine hK _ _ ?_; clear hK K)) | (refine a_bin ?_ ?_ <;> intro _ <;> try (exfalso; omega)) | refine a_ld hl ?_ | (refine a_st hl ?_; clear hl; intro _ hl) | refine a_ix (fun _ => ?_) | fail)
    refine o_mf [] [.pointer (some ⟨b9, 0, none⟩)] rfl rfl rfl ?_
    refine a_fn (containsF_calls (fun k => !(eval F c T k)) f.kids hlen w1 G _ (.func (.func 32) #[] #[.pointer (some ⟨b9, 0, none⟩)]) (hk.ext he) ?_) ?_
    · intro i hi w' kv hw' hkk
      refine callV_func (args := #[.agg (fmL f.kids[i] kv).toArray]) (fun _ => rfl) (Calls.mono (not_calls (hE1.r9.ext hw') f.kids[i] kv (eval F c T f.kids[i]) ?_ fun w2 hw2 => hkids i hi w2 kv ((he.trans hw').trans hw2) (hkk.ext hw2)) ?_)
      · obtain ⟨a, c, h, -⟩ := hkk.shape
        exact ⟨a, c, h⟩
      · rintro e w2 ⟨x, h1, h2, h3⟩
        exact ⟨x, h1, h2, h3⟩
    · rintro _ w2 ⟨rfl, he2⟩
      repeat' (first | refine a_mov ?_ | refine a_asg ?_ | refine a_binN ?_ | refine a_notd ?_ | refine a_notb ?_ | refine a_nilc ?_ | refine a_fa ?_ | refine a_ext ?_ | refine a_lenv ?_ | refine a_lens ?_ | refine a_pick_t ?_ | refine a_pick_f ?_ | refine a_not ?_ | refine a_nilf ?_ | (refine o_nil (hK _ _ ?_); clear hK K) | refine wk_reg ?_ | refine wk_seq fun K hK => ?_ | (refine wk_skip (hK _ _ ?_); clear hK K) | (refine wk_label (hK _ _ ?_); clear hK K) | refine wk_scope ?_ | refine wk_block ?_ | refine wk_cond_t rfl ?_ | refine wk_cond_f rfl ?_ | (refine wk_exit ?_; (repeat (refine blockK_other rfl ?_)); refine blockK_same ?_; try ((repeat ((fail_if_success (refine hK _ _ ?_)); clear hK K)); refine hK _ _ ?_; clear hK K)) | (refine a_bin ?_ ?_ <;> intro _ <;> try (exfalso; omega)) | refine a_ld hl ?_ | (refine a_st hl ?_; clear hl; intro _ hl) | refine a_ix (fun _ => ?_) | fail)
      refine wk_ret (retQ_tmp1 Tryd.results28 (by decide) rfl (by conv => lhs; whnf) ?_)
      exact ⟨by rw [hv1], he.trans he2⟩
  · have hv1 : eval F c T f = f.kids.any (eval F c T) := by rw [hev]; simp [h1]
    clear hev
    repeat' (first | refine a_mov ?_ | refine a_asg ?_ | refine a_binN ?_ | refine a_notd ?_ | refine a_notb ?_ | refine a_nilc ?_ | refine a_fa ?_ | refine a_ext ?_ | refine a_lenv ?_ | refine a_lens ?_ | refine a_pick_t ?_ | refine a_pick_f ?_ | refine a_not ?_ | refine a_nilf ?_ | (refine o_nil (hK _ _ ?_); clear hK K) | refine wk_reg ?_ | refine wk_seq fun K hK => ?_ | (refine wk_skip (hK _ _ ?_); clear hK K) | (refine wk_label (hK _ _ ?_); clear hK K) | refine wk_scope ?_ | refine wk_block ?_ | refine wk_cond_t rfl ?_ | refine wk_cond_f rfl ?_ | (refine wk_exit ?_; (repeat (refine blockK_other rfl ?_)); refine blockK_same ?_; try ((repeat ((fail_if_success (refine hK _ _ ?_)); clear hK K)); refine hK _ _ ?_; clear hK K)) | (refine a_bin ?_ ?_ <;> intro _ <;> try (exfalso; omega)) | refine a_ld hl ?_ | (refine a_st hl ?_; clear hl; intro _ hl) | refine a_ix (fun _ => ?_) | refine a_row hE1.r9 ?_)
    refine a_fn (containsF_calls (eval F c T) f.kids hlen w1 G _ (holdsV b6 b5 b7 b9) (hk.ext he) ?_) ?_
    · intro i hi w' kv hw' hkk
      refine callV_func (args := #[.agg (fmL f.kids[i] kv).toArray]) (fun _ => rfl) (Calls.mono (hkids i hi w' kv (he.trans hw') hkk) ?_)
      rintro e w2 ⟨x, h1, h2, h3⟩
      exact ⟨x, h1, h2, h3⟩
    · rintro _ w2 ⟨rfl, he2⟩
      repeat' (first | refine a_mov ?_ | refine a_asg ?_ | refine a_binN ?_ | refine a_notd ?_ | refine a_notb ?_ | refine a_nilc ?_ | refine a_fa ?_ | refine a_ext ?_ | refine a_lenv ?_ | refine a_lens ?_ | refine a_pick_t ?_ | refine a_pick_f ?_ | refine a_not ?_ | refine a_nilf ?_ | (refine o_nil (hK _ _ ?_); clear hK K) | refine wk_reg ?_ | refine wk_seq fun K hK => ?_ | (refine wk_skip (hK _ _ ?_); clear hK K) | (refine wk_label (hK _ _ ?_); clear hK K) | refine wk_scope ?_ | refine wk_block ?_ | refine wk_cond_t rfl ?_ | refine wk_cond_f rfl ?_ | (refine wk_exit ?_; (repeat (refine blockK_other rfl ?_)); refine blockK_same ?_; try ((repeat ((fail_if_success (refine hK _ _ ?_)); clear hK K)); refine hK _ _ ?_; clear hK K)) | (refine a_bin ?_ ?_ <;> intro _ <;> try (exfalso; omega)) | refine a_ld hl ?_ | (refine a_st hl ?_; clear hl; intro _ hl) | refine a_ix (fun _ => ?_) | fail)
      refine wk_ret (retQ_tmp1 Tryd.results28 (by decide) rfl (by conv => lhs; whnf) ?_)
      exact ⟨by rw [hv1], he.trans he2⟩

theorem yes_calls (s : List UInt8) (w : World) : Calls Tryd.prog 26 #[str s] w (fun e w' => ∃ x, e = .returned x ∧ x = .bool true ∧ Ext w w') := by
  refine calls_of Tryd.func26 rfl Tryd.ntmps26 rfl ?_
  repeat' (first | refine a_mov ?_ | refine a_asg ?_ | refine a_binN ?_ | refine a_notd ?_ | refine a_notb ?_ | refine a_nilc ?_ | refine a_fa ?_ | refine a_ext ?_ | refine a_lenv ?_ | refine a_lens ?_ | refine a_pick_t ?_ | refine a_pick_f ?_ | refine a_not ?_ | refine a_nilf ?_ | (refine o_nil (hK _ _ ?_); clear hK K) | refine wk_reg ?_ | refine wk_seq fun K hK => ?_ | (refine wk_skip (hK _ _ ?_); clear hK K) | (refine wk_label (hK _ _ ?_); clear hK K) | refine wk_scope ?_ | refine wk_block ?_ | refine wk_cond_t rfl ?_ | refine wk_cond_f rfl ?_ | (refine wk_exit ?_; (repeat (refine blockK_other rfl ?_)); refine blockK_same ?_; try ((repeat ((fail_if_success (refine hK _ _ ?_)); clear hK K)); refine hK _ _ ?_; clear hK K)) | (refine a_bin ?_ ?_ <;> intro _ <;> try (exfalso; omega)) | refine a_ld hl ?_ | (refine a_st hl ?_; clear hl; intro _ hl) | refine a_ix (fun _ => ?_) | fail)
  refine wk_ret (retQ_tmp1 Tryd.results26 (by decide) rfl (by conv => lhs; whnf) ?_)
  exact ⟨rfl, .refl _ _⟩

set_option maxHeartbeats 4000000 in
theorem holds_calls (F : List Fact) (c : List Int) (T : List (List UInt8)) (hF : F.length ≤ 9223372036854775806) (hC : c.length ≤ 9223372036854775806) (hT : T.length ≤ 9223372036854775806) (hn : ∀ f ∈ F, f.name.length ≤ 9223372036854775806)
    (f : Fm) (w : World) (G : Nat → Prop) (kv dv cv tv : Value) (hk : KR w G f.kids kv) (hG : ∀ b, G b → b < w.heap.size) (hs : Short f.kids) (hcn : cnt f ≤ 1000000) (hd : Sl w dv 4 (factsL F)) (hc : Sl w cv 1 (intsL c)) (hv : Sl w tv 1 (strsL T)) :
    Calls Tryd.prog 13 #[.agg (fmL f kv).toArray, .agg #[dv], cv, tv] w (fun e w' => ∃ x, e = .returned x ∧ x = .bool (holdsB F c T f) ∧ Ext w w') := by
  obtain ⟨a, cp, rfl, -⟩ := hk.shape
  obtain ⟨da, dc, rfl, -⟩ := hd.shape (factsL_len F) (by omega)
  obtain ⟨ca, cc, rfl, -⟩ := hc.shape (intsL_len c) (by omega)
  obtain ⟨ta, tc, rfl, -⟩ := hv.shape (strsL_len T) (by omega)
  have hB : holdsB F c T f = (decide (checkE F (fun _ => true) f = 0) && fitsB F c && eval F c T f) := rfl
  refine calls_of Tryd.func13 rfl Tryd.ntmps13 rfl ?_
  refine wk_seq fun K hK => ?_
  refine wk_reg ?_
  refine o_box (LH.start w (fun _ => False)) [.int .i64 (f).op, str (f).name, .int .i64 (f).cmp, .int .i64 (f).num, .slice a f.kids.length cp] rfl rfl rfl ?_
  intro b4 w1 hb4 hl
  refine o_box hl [.slice da F.length dc] rfl rfl rfl ?_
  clear hl
  intro b5 w2 hb5 hl
  refine o_box hl [.slice ca c.length cc] rfl rfl rfl ?_
  clear hl
  intro b6 w3 hb6 hl
  refine o_box hl [.slice ta T.length tc] rfl rfl rfl ?_
  clear hl
  intro b7 w4 hb7 hl
  have he := hl.done
  repeat' (first | refine a_mov ?_ | refine a_asg ?_ | refine a_binN ?_ | refine a_notd ?_ | refine a_notb ?_ | refine a_nilc ?_ | refine a_fa ?_ | refine a_ext ?_ | refine a_lenv ?_ | refine a_lens ?_ | refine a_pick_t ?_ | refine a_pick_f ?_ | refine a_not ?_ | refine a_nilf ?_ | (refine o_nil (hK _ _ ?_); clear hK K) | refine wk_reg ?_ | refine wk_seq fun K hK => ?_ | (refine wk_skip (hK _ _ ?_); clear hK K) | (refine wk_label (hK _ _ ?_); clear hK K) | refine wk_scope ?_ | refine wk_block ?_ | refine wk_cond_t rfl ?_ | refine wk_cond_f rfl ?_ | (refine wk_exit ?_; (repeat (refine blockK_other rfl ?_)); refine blockK_same ?_; try ((repeat ((fail_if_success (refine hK _ _ ?_)); clear hK K)); refine hK _ _ ?_; clear hK K)) | (refine a_bin ?_ ?_ <;> intro _ <;> try (exfalso; omega)) | refine a_ld hl ?_ | (refine a_st hl ?_; clear hl; intro _ hl) | refine a_ix (fun _ => ?_) | refine a_all (hl.rowL (vs := [.int .i64 (f).op, str (f).name, .int .i64 (f).cmp, .int .i64 (f).num, .slice a f.kids.length cp]) 3 0 5 rfl) ?_ | refine a_all (hl.rowL (vs := [.slice da F.length dc]) 2 0 1 rfl) ?_)
  refine a_fn (check_calls F (fun _ => true) hF f w4 G (.slice a f.kids.length cp) (.slice da F.length dc) (.func (.func 26) #[] #[]) (hk.ext he) (fun b hb => Nat.lt_of_lt_of_le (hG b hb) he.size) hs hcn (hd.ext he) ?_ ⟨rfl, rfl⟩) ?_
  · intro w' hw' s
    refine callV_func (args := #[str s]) (fun _ => rfl) (Calls.mono (yes_calls s w') ?_)
    rintro e w2 ⟨x, h1, h2, h3⟩
    exact ⟨x, h1, h2, h3⟩
  rintro _ w5 ⟨rfl, he5⟩
  replace hl := hl.ext he5
  clear he he5
  have he := hl.done
  by_cases hck : checkE F (fun _ => true) f = 0
  · rw [hck]
    repeat' (first | refine a_mov ?_ | refine a_asg ?_ | refine a_binN ?_ | refine a_notd ?_ | refine a_notb ?_ | refine a_nilc ?_ | refine a_fa ?_ | refine a_ext ?_ | refine a_lenv ?_ | refine a_lens ?_ | refine a_pick_t ?_ | refine a_pick_f ?_ | refine a_not ?_ | refine a_nilf ?_ | (refine o_nil (hK _ _ ?_); clear hK K) | refine wk_reg ?_ | refine wk_seq fun K hK => ?_ | (refine wk_skip (hK _ _ ?_); clear hK K) | (refine wk_label (hK _ _ ?_); clear hK K) | refine wk_scope ?_ | refine wk_block ?_ | refine wk_cond_t rfl ?_ | refine wk_cond_f rfl ?_ | (refine wk_exit ?_; (repeat (refine blockK_other rfl ?_)); refine blockK_same ?_; try ((repeat ((fail_if_success (refine hK _ _ ?_)); clear hK K)); refine hK _ _ ?_; clear hK K)) | (refine a_bin ?_ ?_ <;> intro _ <;> try (exfalso; omega)) | refine a_ld hl ?_ | (refine a_st hl ?_; clear hl; intro _ hl) | refine a_ix (fun _ => ?_) | refine a_all (hl.rowL (vs := [.slice da F.length dc]) 2 0 1 rfl) ?_)
    refine a_fn (fits_calls (hd.ext he) (hc.ext he) hF hC hn) ?_
    rintro _ w6 ⟨rfl, he6⟩
    replace hl := hl.ext he6
    clear he he6
    have he := hl.done
    cases hfb : fitsB F c
    · repeat' (first | refine a_mov ?_ | refine a_asg ?_ | refine a_binN ?_ | refine a_notd ?_ | refine a_notb ?_ | refine a_nilc ?_ | refine a_fa ?_ | refine a_ext ?_ | refine a_lenv ?_ | refine a_lens ?_ | refine a_pick_t ?_ | refine a_pick_f ?_ | refine a_not ?_ | refine a_nilf ?_ | (refine o_nil (hK _ _ ?_); clear hK K) | refine wk_reg ?_ | refine wk_seq fun K hK => ?_ | (refine wk_skip (hK _ _ ?_); clear hK K) | (refine wk_label (hK _ _ ?_); clear hK K) | refine wk_scope ?_ | refine wk_block ?_ | refine wk_cond_t rfl ?_ | refine wk_cond_f rfl ?_ | (refine wk_exit ?_; (repeat (refine blockK_other rfl ?_)); refine blockK_same ?_; try ((repeat ((fail_if_success (refine hK _ _ ?_)); clear hK K)); refine hK _ _ ?_; clear hK K)) | (refine a_bin ?_ ?_ <;> intro _ <;> try (exfalso; omega)) | refine a_ld hl ?_ | (refine a_st hl ?_; clear hl; intro _ hl) | refine a_ix (fun _ => ?_) | fail)
      refine wk_ret (retQ_tmp1 Tryd.results13 (by decide) rfl (by conv => lhs; whnf) ?_)
      exact ⟨by rw [hB, hfb]; simp, he⟩
    · have hcF : c.length = F.length := by
        unfold fitsB at hfb
        exact ((fitsC_iff F c).1 (Bool.and_eq_true_iff.1 hfb).2).1
      repeat' (first | refine a_mov ?_ | refine a_asg ?_ | refine a_binN ?_ | refine a_notd ?_ | refine a_notb ?_ | refine a_nilc ?_ | refine a_fa ?_ | refine a_ext ?_ | refine a_lenv ?_ | refine a_lens ?_ | refine a_pick_t ?_ | refine a_pick_f ?_ | refine a_not ?_ | refine a_nilf ?_ | (refine o_nil (hK _ _ ?_); clear hK K) | refine wk_reg ?_ | refine wk_seq fun K hK => ?_ | (refine wk_skip (hK _ _ ?_); clear hK K) | (refine wk_label (hK _ _ ?_); clear hK K) | refine wk_scope ?_ | refine wk_block ?_ | refine wk_cond_t rfl ?_ | refine wk_cond_f rfl ?_ | (refine wk_exit ?_; (repeat (refine blockK_other rfl ?_)); refine blockK_same ?_; try ((repeat ((fail_if_success (refine hK _ _ ?_)); clear hK K)); refine hK _ _ ?_; clear hK K)) | (refine a_bin ?_ ?_ <;> intro _ <;> try (exfalso; omega)) | refine a_ld hl ?_ | (refine a_st hl ?_; clear hl; intro _ hl) | refine a_ix (fun _ => ?_) | fail)
      refine o_alloc hl [.nilFunc] rfl rfl ?_
      clear hl
      intro b9 w7 hb9 hl
      repeat' (first | refine a_mov ?_ | refine a_asg ?_ | refine a_binN ?_ | refine a_notd ?_ | refine a_notb ?_ | refine a_nilc ?_ | refine a_fa ?_ | refine a_ext ?_ | refine a_lenv ?_ | refine a_lens ?_ | refine a_pick_t ?_ | refine a_pick_f ?_ | refine a_not ?_ | refine a_nilf ?_ | (refine o_nil (hK _ _ ?_); clear hK K) | refine wk_reg ?_ | refine wk_seq fun K hK => ?_ | (refine wk_skip (hK _ _ ?_); clear hK K) | (refine wk_label (hK _ _ ?_); clear hK K) | refine wk_scope ?_ | refine wk_block ?_ | refine wk_cond_t rfl ?_ | refine wk_cond_f rfl ?_ | (refine wk_exit ?_; (repeat (refine blockK_other rfl ?_)); refine blockK_same ?_; try ((repeat ((fail_if_success (refine hK _ _ ?_)); clear hK K)); refine hK _ _ ?_; clear hK K)) | (refine a_bin ?_ ?_ <;> intro _ <;> try (exfalso; omega)) | refine a_ld hl ?_ | (refine a_st hl ?_; clear hl; intro _ hl) | refine a_ix (fun _ => ?_) | fail)
      refine o_mf [] [.pointer (some ⟨b6, 0, none⟩), .pointer (some ⟨b5, 0, none⟩), .pointer (some ⟨b7, 0, none⟩), .pointer (some ⟨b9, 0, none⟩)] rfl rfl rfl ?_
      refine o_put1 hl rfl rfl (by conv => lhs; whnf) ⟨rfl, rfl⟩ rfl (.here rfl rfl) ?_
      clear hl he
      intro w8 hl
      have he := hl.done
      have hE : HoEnv F c T b6 b5 b7 b9 (.slice da F.length dc) (.slice ca c.length cc) (.slice ta T.length tc) w8 :=
        ⟨hl.rowL (vs := [.slice ca c.length cc]) 2 0 1 rfl, hl.rowL (vs := [.slice da F.length dc]) 3 0 1 rfl, hl.rowL (vs := [.slice ta T.length tc]) 1 0 1 rfl, hl.rowL (vs := [holdsV b6 b5 b7 b9]) 0 0 1 rfl, hd.ext he, hc.ext he, hv.ext he⟩
      repeat' (first | refine a_mov ?_ | refine a_asg ?_ | refine a_binN ?_ | refine a_notd ?_ | refine a_notb ?_ | refine a_nilc ?_ | refine a_fa ?_ | refine a_ext ?_ | refine a_lenv ?_ | refine a_lens ?_ | refine a_pick_t ?_ | refine a_pick_f ?_ | refine a_not ?_ | refine a_nilf ?_ | (refine o_nil (hK _ _ ?_); clear hK K) | refine wk_reg ?_ | refine wk_seq fun K hK => ?_ | (refine wk_skip (hK _ _ ?_); clear hK K) | (refine wk_label (hK _ _ ?_); clear hK K) | refine wk_scope ?_ | refine wk_block ?_ | refine wk_cond_t rfl ?_ | refine wk_cond_f rfl ?_ | (refine wk_exit ?_; (repeat (refine blockK_other rfl ?_)); refine blockK_same ?_; try ((repeat ((fail_if_success (refine hK _ _ ?_)); clear hK K)); refine hK _ _ ?_; clear hK K)) | (refine a_bin ?_ ?_ <;> intro _ <;> try (exfalso; omega)) | refine a_ld hl ?_ | (refine a_st hl ?_; clear hl; intro _ hl) | refine a_ix (fun _ => ?_) | refine a_all (hl.rowL (vs := [.int .i64 (f).op, str (f).name, .int .i64 (f).cmp, .int .i64 (f).num, .slice a f.kids.length cp]) 4 0 5 rfl) ?_)
      refine a_fc #[.agg (fmL f (.slice a f.kids.length cp)).toArray] #[.pointer (some ⟨b6, 0, none⟩), .pointer (some ⟨b5, 0, none⟩), .pointer (some ⟨b7, 0, none⟩), .pointer (some ⟨b9, 0, none⟩)] #[.agg (fmL f (.slice a f.kids.length cp)).toArray, .pointer (some ⟨b6, 0, none⟩), .pointer (some ⟨b5, 0, none⟩), .pointer (some ⟨b7, 0, none⟩), .pointer (some ⟨b9, 0, none⟩)] rfl (holds2_calls F c T hF hT hcF b6 b5 b7 b9 _ _ _ f w8 G _ (checkE_right hck) (hk.ext he) hs hE) ?_
      rintro _ w9 ⟨rfl, he9⟩
      repeat' (first | refine a_mov ?_ | refine a_asg ?_ | refine a_binN ?_ | refine a_notd ?_ | refine a_notb ?_ | refine a_nilc ?_ | refine a_fa ?_ | refine a_ext ?_ | refine a_lenv ?_ | refine a_lens ?_ | refine a_pick_t ?_ | refine a_pick_f ?_ | refine a_not ?_ | refine a_nilf ?_ | (refine o_nil (hK _ _ ?_); clear hK K) | refine wk_reg ?_ | refine wk_seq fun K hK => ?_ | (refine wk_skip (hK _ _ ?_); clear hK K) | (refine wk_label (hK _ _ ?_); clear hK K) | refine wk_scope ?_ | refine wk_block ?_ | refine wk_cond_t rfl ?_ | refine wk_cond_f rfl ?_ | (refine wk_exit ?_; (repeat (refine blockK_other rfl ?_)); refine blockK_same ?_; try ((repeat ((fail_if_success (refine hK _ _ ?_)); clear hK K)); refine hK _ _ ?_; clear hK K)) | (refine a_bin ?_ ?_ <;> intro _ <;> try (exfalso; omega)) | refine a_ld hl ?_ | (refine a_st hl ?_; clear hl; intro _ hl) | refine a_ix (fun _ => ?_) | fail)
      refine wk_ret (retQ_tmp1 Tryd.results13 (by decide) rfl (by conv => lhs; whnf) ?_)
      exact ⟨by rw [hB, hfb, decide_eq_true hck]; simp, he.trans he9⟩
  · generalize hce : checkE F (fun _ => true) f = ce at *
    repeat' (first | refine a_mov ?_ | refine a_asg ?_ | refine a_binN ?_ | refine a_notd ?_ | refine a_notb ?_ | refine a_nilc ?_ | refine a_fa ?_ | refine a_ext ?_ | refine a_lenv ?_ | refine a_lens ?_ | refine a_pick_t ?_ | refine a_pick_f ?_ | refine a_not ?_ | refine a_nilf ?_ | (refine o_nil (hK _ _ ?_); clear hK K) | refine wk_reg ?_ | refine wk_seq fun K hK => ?_ | (refine wk_skip (hK _ _ ?_); clear hK K) | (refine wk_label (hK _ _ ?_); clear hK K) | refine wk_scope ?_ | refine wk_block ?_ | refine wk_cond_t rfl ?_ | refine wk_cond_f rfl ?_ | (refine wk_exit ?_; (repeat (refine blockK_other rfl ?_)); refine blockK_same ?_; try ((repeat ((fail_if_success (refine hK _ _ ?_)); clear hK K)); refine hK _ _ ?_; clear hK K)) | (refine a_bin ?_ ?_ <;> intro _ <;> try (exfalso; omega)) | refine a_ld hl ?_ | (refine a_st hl ?_; clear hl; intro _ hl) | refine a_ix (fun _ => ?_) | fail)
    refine wk_ret (retQ_tmp1 Tryd.results13 (by decide) rfl (by conv => lhs; whnf) ?_)
    exact ⟨by rw [hB, decide_eq_false hck]; simp, he⟩
end Go.Proofs
