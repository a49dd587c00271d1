/-
  The reference: Valid, Fits.
-/
import Derived.Test.YtcanaadgcgophaaDoorQFaX
import Derived.Test.YtcanaadgcgophaaDoorQNn
set_option linter.unusedVariables false
set_option linter.unusedSimpArgs false
set_option linter.unnecessarySimpa false
set_option maxRecDepth 10000
namespace Go.Fac
open Go.Fo
open Go.Fin (Nm)
def fOkAt (F : List Fact) (k : Nat) (f : Fact) : Prop := Nm f.name = true ∧ idx F f.name = some k ∧ 0 ≤ f.lo ∧ f.lo ≤ f.hi ∧ f.hi ≤ 1000000 ∧ 1 ≤ f.kind ∧ f.kind ≤ 3 ∧ (f.kind = 1 → f.lo = 0 ∧ f.hi = 1)
theorem fOkAt_of {F : List Fact} (h : validD F = true) {k : Nat} (hk : k < F.length) : fOkAt F k F[k] := by
  have hg := (valid_iff F).1 h
  obtain ⟨h1, h2⟩ := factOk_parts (hg.1 _ (List.getElem_mem hk))
  refine ⟨h1, idx_at hg.2.1 hk, ?_⟩
  omega
theorem ok_of_fOkAt {F : List Fact} {k : Nat} {f : Fact} (h : fOkAt F k f) : factOk f = true := by
  obtain ⟨h1, h2, h3⟩ := h
  unfold factOk
  simp only [Bool.and_eq_true, Bool.or_eq_true, decide_eq_true_eq]
  exact ⟨by omega, h1⟩
theorem valid_all {F : List Fact} (h : ∀ k (hk : k < F.length), fOkAt F k F[k]) : validD F = decide (F.length ≤ 60) := by
  have h1 : F.all factOk = true := List.all_eq_true.2 fun f hf => by
    obtain ⟨j, hj, rfl⟩ := List.mem_iff_getElem.1 hf
    exact ok_of_fOkAt (h j hj)
  have h2 : (F.map (·.name)).Nodup := by
    rw [List.Nodup, List.pairwise_iff_getElem]
    intro i j hi hj hij he
    simp only [List.length_map] at hi hj
    simp only [List.getElem_map] at he
    have a := (h i hi).2.1
    have b := (h j hj).2.1
    rw [he] at a
    rw [a] at b
    cases b
    omega
  unfold validD
  rw [h1, decide_eq_true h2]
  rfl
end Go.Fac
namespace Go.Proofs
open Go Go.Pd Go.Fac Go.Fo
attribute [local irreducible] OpsL W RetQ OpsQ OpsC
set_option maxHeartbeats 8000000 in
theorem valid6_calls {F : List Fact} {v : Value} {w : World} (hd : Sl w v 4 (factsL F)) (hF : F.length ≤ 9223372036854775806) (hn : ∀ f ∈ F, f.name.length ≤ 9223372036854775806) :
    Calls Tryd.prog 18 #[.agg #[v]] w (fun e w' => ∃ x, e = .returned x ∧ x = .bool (validD F) ∧ Ext w w') := by
  obtain ⟨pa, ca, rfl, -⟩ := hd.shape (factsL_len F) (by omega)
  refine calls_of Tryd.func18 rfl Tryd.ntmps18 rfl ?_
  refine wk_seq fun K hK => ?_
  refine wk_reg ?_
  refine o_box (LH.start w (fun _ => False)) [.slice pa F.length ca] rfl rfl rfl ?_
  intro b1 w1 hb1 hl
  have hx1 : Ext w w1 := hl.done
  have hra : Row w1 b1 0 [.slice pa F.length ca] := hl.rowL (vs := [.slice pa F.length ca]) 0 0 1 rfl
  clear hl
  refine a_asg ?_
  refine o_nil (hK _ _ ?_)
  clear hK K
  refine wk_seq fun K hK => ?_
  refine wk_seq fun K2 hK2 => ?_
  refine wk_reg ?_
  refine a_asg ?_
  refine o_nil (hK2 _ _ ?_)
  clear hK2 K2
  refine wk_block ?_
  refine wk_loopH [] rfl (fun k : Nat => [(1, .pointer (some ⟨b1, 0, none⟩)), (3, .int .i64 (k : Int))]) (fun k w' => (k ≤ F.length ∧ ∀ j (h : j < F.length), j < k → fOkAt F j F[j]) ∧ Ext w1 w') (fun k => F.length - k) 0 ⟨rfl, rfl, trivial⟩ ⟨⟨Nat.zero_le _, fun j h1 h2 => by omega⟩, .refl _ _⟩ ?_
  rintro k t w2 ⟨⟨hk, hpre⟩, hx2⟩
  have hra2 := hra.ext hx2
  refine wk_seq fun K1 hK1 => ?_
  refine wk_seq fun K2 hK2 => ?_
  refine wk_reg ?_
  by_cases hk1 : k < F.length
  rotate_left
  · have hva := valid_all (F := F) fun j hj => hpre j hj (by omega)
    repeat' (first | refine a_mov ?_ | refine a_asg ?_ | refine a_binN ?_ | refine a_notd ?_ | refine a_notb ?_ | refine a_nilc ?_ | refine a_fa ?_ | refine a_ext ?_ | refine a_lenv ?_ | refine a_lens ?_ | refine a_pick_t ?_ | refine a_pick_f ?_ | refine a_not ?_ | refine a_nilf ?_ | (refine a_bin ?_ ?_ <;> intro _ <;> try (exfalso; omega)) | refine a_ld hl ?_ | (refine a_st hl ?_; clear hl; intro _ hl) | refine a_ix (fun _ => ?_) | refine a_row hra2 ?_ | fail)
    refine o_nil (hK2 _ _ ?_)
    clear hK2 K2
    refine wk_cond_f rfl ?_
    refine wk_exit ?_
    refine blockK_same ?_
    refine hK _ _ ?_
    clear hK1 K1
    clear hK K
    refine wk_seq fun K hK => ?_
    refine wk_reg ?_
    by_cases h60 : F.length ≤ 60
    · rw [decide_eq_true h60] at hva
      repeat' (first | refine a_mov ?_ | refine a_asg ?_ | refine a_binN ?_ | refine a_notd ?_ | refine a_notb ?_ | refine a_nilc ?_ | refine a_fa ?_ | refine a_ext ?_ | refine a_lenv ?_ | refine a_lens ?_ | refine a_pick_t ?_ | refine a_pick_f ?_ | refine a_not ?_ | refine a_nilf ?_ | (refine a_bin ?_ ?_ <;> intro _ <;> try (exfalso; omega)) | refine a_ld hl ?_ | (refine a_st hl ?_; clear hl; intro _ hl) | refine a_ix (fun _ => ?_) | refine a_row hra2 ?_ | fail)
      refine o_nil (hK _ _ ?_)
      refine wk_ret (retQ_tmp1 Tryd.results18 (by decide) rfl (by conv => lhs; whnf) ?_)
      exact ⟨by rw [hva], hx1.trans hx2⟩
    · rw [decide_eq_false h60] at hva
      repeat' (first | refine a_mov ?_ | refine a_asg ?_ | refine a_binN ?_ | refine a_notd ?_ | refine a_notb ?_ | refine a_nilc ?_ | refine a_fa ?_ | refine a_ext ?_ | refine a_lenv ?_ | refine a_lens ?_ | refine a_pick_t ?_ | refine a_pick_f ?_ | refine a_not ?_ | refine a_nilf ?_ | (refine a_bin ?_ ?_ <;> intro _ <;> try (exfalso; omega)) | refine a_ld hl ?_ | (refine a_st hl ?_; clear hl; intro _ hl) | refine a_ix (fun _ => ?_) | refine a_row hra2 ?_ | fail)
      refine o_nil (hK _ _ ?_)
      refine wk_ret (retQ_tmp1 Tryd.results18 (by decide) rfl (by conv => lhs; whnf) ?_)
      exact ⟨by rw [hva], hx1.trans hx2⟩
  obtain ⟨p1, o1, e1, r1⟩ := Sl.fact ((hd.ext hx1).ext hx2) rfl hk1
  have hbad : ¬ fOkAt F k F[k] → validD F = false := fun h => by
    cases hv : validD F
    · rfl
    · exact absurd (fOkAt_of hv hk1) h
  have hgood : fOkAt F k F[k] → ∀ j (h : j < F.length), j < k + 1 → fOkAt F j F[j] := fun ho j h hj => by
    by_cases e : j = k
    · subst e; exact ho
    · exact hpre j h (by omega)
  have hone := factL_one F[k]
  have hnk := hn _ (List.getElem_mem hk1)
  generalize F[k] = f at r1 hbad hgood hone hnk
  repeat' (first | refine a_mov ?_ | refine a_asg ?_ | refine a_binN ?_ | refine a_notd ?_ | refine a_notb ?_ | refine a_nilc ?_ | refine a_fa ?_ | refine a_ext ?_ | refine a_lenv ?_ | refine a_lens ?_ | refine a_pick_t ?_ | refine a_pick_f ?_ | refine a_not ?_ | refine a_nilf ?_ | (refine a_bin ?_ ?_ <;> intro _ <;> try (exfalso; omega)) | refine a_ld hl ?_ | (refine a_st hl ?_; clear hl; intro _ hl) | refine a_ix (fun _ => ?_) | refine a_row hra2 ?_ | fail)
  refine o_nil (hK2 _ _ ?_)
  clear hK2 K2
  refine wk_cond_t rfl ?_
  refine wk_skip (hK1 _ _ ?_)
  clear hK1 K1
  clear hK
  refine wk_seq fun K hK => ?_
  refine wk_block ?_
  refine wk_seq fun K1 hK1 => ?_
  refine wk_reg ?_
  repeat' (first | refine a_mov ?_ | refine a_asg ?_ | refine a_binN ?_ | refine a_notd ?_ | refine a_notb ?_ | refine a_nilc ?_ | refine a_fa ?_ | refine a_ext ?_ | refine a_lenv ?_ | refine a_lens ?_ | refine a_pick_t ?_ | refine a_pick_f ?_ | refine a_not ?_ | refine a_nilf ?_ | (refine a_bin ?_ ?_ <;> intro _ <;> try (exfalso; omega)) | refine a_ld hl ?_ | (refine a_st hl ?_; clear hl; intro _ hl) | refine a_ix (fun _ => ?_) | refine a_row hra2 ?_ | refine a_idx (c := 4) k e1 ?_ | refine a_all r1 ?_ | fail)
  refine o_alloc (LH.start w2 (fun _ => False)) [.string "".toByteArray, .int .i64 0, .int .i64 0, .int .i64 0] (by kernel_rfl) rfl ?_
  intro b4 w3 hb4 hl
  refine o_putN (us := factL f) hl rfl rfl rfl hone rfl (.here rfl rfl) ?_
  clear hl
  intro w4 hl
  have hrf : Row w4 b4 0 [str f.name, .int .i64 f.kind, .int .i64 f.lo, .int .i64 f.hi] := hl.rowL (vs := factL f) 0 0 4 rfl
  have hx4 := hl.done
  clear hl r1
  refine o_nil (hK1 _ _ ?_)
  clear hK1 K1
  refine wk_seq fun K1 hK1 => ?_
  refine wk_seq fun K2 hK2 => ?_
  refine wk_reg ?_
  have hx24 := (hx1.trans hx2).trans hx4
  repeat' (first | refine a_row hrf ?_ | refine a_mov ?_ | refine a_asg ?_ | refine a_binN ?_ | refine a_notd ?_ | refine a_notb ?_ | refine a_nilc ?_ | refine a_fa ?_ | refine a_ext ?_ | refine a_lenv ?_ | refine a_lens ?_ | refine a_pick_t ?_ | refine a_pick_f ?_ | refine a_not ?_ | refine a_nilf ?_ | (refine a_bin ?_ ?_ <;> intro _ <;> try (exfalso; omega)) | refine a_ld hl ?_ | (refine a_st hl ?_; clear hl; intro _ hl) | refine a_ix (fun _ => ?_) | fail)
  refine a_fn (refNm_calls f.name hnk w4) ?_
  rintro _ w5 ⟨rfl, hw⟩
  obtain rfl : w5 = w4 := hw
  cases hnm : Fin.Nm f.name
  · have hb := hbad fun h => by rw [h.1] at hnm; cases hnm
    repeat' (first | refine a_mov ?_ | refine a_asg ?_ | refine a_binN ?_ | refine a_notd ?_ | refine a_notb ?_ | refine a_nilc ?_ | refine a_fa ?_ | refine a_ext ?_ | refine a_lenv ?_ | refine a_lens ?_ | refine a_pick_t ?_ | refine a_pick_f ?_ | refine a_not ?_ | refine a_nilf ?_ | (refine a_bin ?_ ?_ <;> intro _ <;> try (exfalso; omega)) | refine a_ld hl ?_ | (refine a_st hl ?_; clear hl; intro _ hl) | refine a_ix (fun _ => ?_) | fail)
    refine o_nil (hK2 _ _ ?_)
    clear hK2 K2
    refine wk_cond_t rfl ?_
    refine wk_seq fun K2 hK2 => ?_
    refine wk_reg ?_
    refine a_asg ?_
    refine o_nil (hK2 _ _ ?_)
    refine wk_ret (retQ_tmp1 Tryd.results18 (by decide) rfl (by conv => lhs; whnf) ?_)
    exact ⟨by rw [hb], hx24⟩
  repeat' (first | refine a_row hrf ?_ | refine a_mov ?_ | refine a_asg ?_ | refine a_binN ?_ | refine a_notd ?_ | refine a_notb ?_ | refine a_nilc ?_ | refine a_fa ?_ | refine a_ext ?_ | refine a_lenv ?_ | refine a_lens ?_ | refine a_pick_t ?_ | refine a_pick_f ?_ | refine a_not ?_ | refine a_nilf ?_ | (refine a_bin ?_ ?_ <;> intro _ <;> try (exfalso; omega)) | refine a_ld hl ?_ | (refine a_st hl ?_; clear hl; intro _ hl) | refine a_ix (fun _ => ?_) | refine a_all (hra2.ext hx4) ?_ | fail)
  refine a_fn (refIndex_calls (hd.ext hx24) hF f.name) ?_
  rintro _ w6 ⟨rfl, hx6⟩
  have hx26 := hx24.trans hx6
  replace hrf := hrf.ext hx6
  by_cases hix : idxI F f.name = (k : Int)
  rotate_left
  · have hb := hbad fun h => hix (by unfold idxI; rw [h.2.1])
    repeat' (first | refine a_mov ?_ | refine a_asg ?_ | refine a_binN ?_ | refine a_notd ?_ | refine a_notb ?_ | refine a_nilc ?_ | refine a_fa ?_ | refine a_ext ?_ | refine a_lenv ?_ | refine a_lens ?_ | refine a_pick_t ?_ | refine a_pick_f ?_ | refine a_not ?_ | refine a_nilf ?_ | (refine a_bin ?_ ?_ <;> intro _ <;> try (exfalso; omega)) | refine a_ld hl ?_ | (refine a_st hl ?_; clear hl; intro _ hl) | refine a_ix (fun _ => ?_) | fail)
    refine o_nil (hK2 _ _ ?_)
    clear hK2 K2
    refine wk_cond_t rfl ?_
    refine wk_seq fun K2 hK2 => ?_
    refine wk_reg ?_
    refine a_asg ?_
    refine o_nil (hK2 _ _ ?_)
    refine wk_ret (retQ_tmp1 Tryd.results18 (by decide) rfl (by conv => lhs; whnf) ?_)
    exact ⟨by rw [hb], hx26⟩
  have hix2 : idx F f.name = some k := by
    unfold idxI at hix
    cases h : idx F f.name with
    | none => rw [h] at hix; simp only at hix; omega
    | some j => rw [h] at hix; simp only at hix; rw [show j = k by omega]
  by_cases hr : 0 ≤ f.lo ∧ f.lo ≤ f.hi ∧ f.hi ≤ 1000000
  rotate_left
  · have hb := hbad fun h => hr ⟨h.2.2.1, h.2.2.2.1, h.2.2.2.2.1⟩
    repeat' (first | refine a_row hrf ?_ | refine a_mov ?_ | refine a_asg ?_ | refine a_binN ?_ | refine a_notd ?_ | refine a_notb ?_ | refine a_nilc ?_ | refine a_fa ?_ | refine a_ext ?_ | refine a_lenv ?_ | refine a_lens ?_ | refine a_pick_t ?_ | refine a_pick_f ?_ | refine a_not ?_ | refine a_nilf ?_ | (refine a_bin ?_ ?_ <;> intro _ <;> try (exfalso; omega)) | refine a_ld hl ?_ | (refine a_st hl ?_; clear hl; intro _ hl) | refine a_ix (fun _ => ?_) | fail)
    all_goals
      refine o_nil (hK2 _ _ ?_)
      clear hK2 K2
      refine wk_cond_t rfl ?_
      refine wk_seq fun K2 hK2 => ?_
      refine wk_reg ?_
      refine a_asg ?_
      refine o_nil (hK2 _ _ ?_)
      refine wk_ret (retQ_tmp1 Tryd.results18 (by decide) rfl (by conv => lhs; whnf) ?_)
      exact ⟨by rw [hb], hx26⟩
  obtain ⟨hr1, hr2, hr3⟩ := hr
  repeat' (first | refine a_row hrf ?_ | refine a_mov ?_ | refine a_asg ?_ | refine a_binN ?_ | refine a_notd ?_ | refine a_notb ?_ | refine a_nilc ?_ | refine a_fa ?_ | refine a_ext ?_ | refine a_lenv ?_ | refine a_lens ?_ | refine a_pick_t ?_ | refine a_pick_f ?_ | refine a_not ?_ | refine a_nilf ?_ | (refine a_bin ?_ ?_ <;> intro _ <;> try (exfalso; omega)) | refine a_ld hl ?_ | (refine a_st hl ?_; clear hl; intro _ hl) | refine a_ix (fun _ => ?_) | fail)
  refine o_nil (hK2 _ _ ?_)
  clear hK2 K2
  refine wk_cond_f rfl ?_
  refine wk_skip (hK1 _ _ ?_)
  clear hK1 K1
  refine wk_seq fun K2 hK2 => ?_
  refine wk_reg ?_
  by_cases hkk : 1 ≤ f.kind ∧ f.kind ≤ 3 ∧ (f.kind = 1 → f.lo = 0 ∧ f.hi = 1)
  · obtain ⟨hk2, hk3, hk4⟩ := hkk
    have hok : fOkAt F k f := ⟨hnm, hix2, hr1, hr2, hr3, hk2, hk3, hk4⟩
    by_cases h1 : f.kind = 1
    · obtain ⟨h2, h3⟩ := hk4 h1
      repeat' (first | refine a_row hrf ?_ | refine a_mov ?_ | refine a_asg ?_ | refine a_binN ?_ | refine a_notd ?_ | refine a_notb ?_ | refine a_nilc ?_ | refine a_fa ?_ | refine a_ext ?_ | refine a_lenv ?_ | refine a_lens ?_ | refine a_pick_t ?_ | refine a_pick_f ?_ | refine a_not ?_ | refine a_nilf ?_ | (refine a_bin ?_ ?_ <;> intro _ <;> try (exfalso; omega)) | refine a_ld hl ?_ | (refine a_st hl ?_; clear hl; intro _ hl) | refine a_ix (fun _ => ?_) | fail)
      refine o_nil (hK2 _ _ ?_)
      clear hK2 K2
      refine wk_cond_f rfl ?_
      refine wk_skip (hK _ _ ?_)
      clear hK K
      refine wk_reg ?_
      repeat' (first | refine a_mov ?_ | refine a_asg ?_ | refine a_binN ?_ | refine a_notd ?_ | refine a_notb ?_ | refine a_nilc ?_ | refine a_fa ?_ | refine a_ext ?_ | refine a_lenv ?_ | refine a_lens ?_ | refine a_pick_t ?_ | refine a_pick_f ?_ | refine a_not ?_ | refine a_nilf ?_ | (refine a_bin ?_ ?_ <;> intro _ <;> try (exfalso; omega)) | refine a_ld hl ?_ | (refine a_st hl ?_; clear hl; intro _ hl) | refine a_ix (fun _ => ?_) | fail)
      exact o_nil ⟨k + 1, ⟨rfl, rfl, trivial⟩, rfl, ⟨⟨hk1, hgood hok⟩, (hx2.trans hx4).trans hx6⟩, by omega⟩
    · repeat' (first | refine a_row hrf ?_ | refine a_mov ?_ | refine a_asg ?_ | refine a_binN ?_ | refine a_notd ?_ | refine a_notb ?_ | refine a_nilc ?_ | refine a_fa ?_ | refine a_ext ?_ | refine a_lenv ?_ | refine a_lens ?_ | refine a_pick_t ?_ | refine a_pick_f ?_ | refine a_not ?_ | refine a_nilf ?_ | (refine a_bin ?_ ?_ <;> intro _ <;> try (exfalso; omega)) | refine a_ld hl ?_ | (refine a_st hl ?_; clear hl; intro _ hl) | refine a_ix (fun _ => ?_) | fail)
      refine o_nil (hK2 _ _ ?_)
      clear hK2 K2
      refine wk_cond_f rfl ?_
      refine wk_skip (hK _ _ ?_)
      clear hK K
      refine wk_reg ?_
      repeat' (first | refine a_mov ?_ | refine a_asg ?_ | refine a_binN ?_ | refine a_notd ?_ | refine a_notb ?_ | refine a_nilc ?_ | refine a_fa ?_ | refine a_ext ?_ | refine a_lenv ?_ | refine a_lens ?_ | refine a_pick_t ?_ | refine a_pick_f ?_ | refine a_not ?_ | refine a_nilf ?_ | (refine a_bin ?_ ?_ <;> intro _ <;> try (exfalso; omega)) | refine a_ld hl ?_ | (refine a_st hl ?_; clear hl; intro _ hl) | refine a_ix (fun _ => ?_) | fail)
      exact o_nil ⟨k + 1, ⟨rfl, rfl, trivial⟩, rfl, ⟨⟨hk1, hgood hok⟩, (hx2.trans hx4).trans hx6⟩, by omega⟩
  · have hb := hbad fun h => hkk ⟨h.2.2.2.2.2.1, h.2.2.2.2.2.2.1, h.2.2.2.2.2.2.2⟩
    by_cases h1 : f.kind = 1
    · have h2 : ¬ (f.lo = 0 ∧ f.hi = 1) := fun h => hkk ⟨by omega, by omega, fun _ => h⟩
      by_cases h3 : f.lo = 0
      · have h4 : f.hi ≠ 1 := fun h => h2 ⟨h3, h⟩
        repeat' (first | refine a_row hrf ?_ | refine a_mov ?_ | refine a_asg ?_ | refine a_binN ?_ | refine a_notd ?_ | refine a_notb ?_ | refine a_nilc ?_ | refine a_fa ?_ | refine a_ext ?_ | refine a_lenv ?_ | refine a_lens ?_ | refine a_pick_t ?_ | refine a_pick_f ?_ | refine a_not ?_ | refine a_nilf ?_ | (refine a_bin ?_ ?_ <;> intro _ <;> try (exfalso; omega)) | refine a_ld hl ?_ | (refine a_st hl ?_; clear hl; intro _ hl) | refine a_ix (fun _ => ?_) | fail)
        refine o_nil (hK2 _ _ ?_)
        clear hK2 K2
        refine wk_cond_t rfl ?_
        refine wk_seq fun K2 hK2 => ?_
        refine wk_reg ?_
        refine a_asg ?_
        refine o_nil (hK2 _ _ ?_)
        refine wk_ret (retQ_tmp1 Tryd.results18 (by decide) rfl (by conv => lhs; whnf) ?_)
        exact ⟨by rw [hb], hx26⟩
      · repeat' (first | refine a_row hrf ?_ | refine a_mov ?_ | refine a_asg ?_ | refine a_binN ?_ | refine a_notd ?_ | refine a_notb ?_ | refine a_nilc ?_ | refine a_fa ?_ | refine a_ext ?_ | refine a_lenv ?_ | refine a_lens ?_ | refine a_pick_t ?_ | refine a_pick_f ?_ | refine a_not ?_ | refine a_nilf ?_ | (refine a_bin ?_ ?_ <;> intro _ <;> try (exfalso; omega)) | refine a_ld hl ?_ | (refine a_st hl ?_; clear hl; intro _ hl) | refine a_ix (fun _ => ?_) | fail)
        refine o_nil (hK2 _ _ ?_)
        clear hK2 K2
        refine wk_cond_t rfl ?_
        refine wk_seq fun K2 hK2 => ?_
        refine wk_reg ?_
        refine a_asg ?_
        refine o_nil (hK2 _ _ ?_)
        refine wk_ret (retQ_tmp1 Tryd.results18 (by decide) rfl (by conv => lhs; whnf) ?_)
        exact ⟨by rw [hb], hx26⟩
    · by_cases h3 : f.kind < 1
      · repeat' (first | refine a_row hrf ?_ | refine a_mov ?_ | refine a_asg ?_ | refine a_binN ?_ | refine a_notd ?_ | refine a_notb ?_ | refine a_nilc ?_ | refine a_fa ?_ | refine a_ext ?_ | refine a_lenv ?_ | refine a_lens ?_ | refine a_pick_t ?_ | refine a_pick_f ?_ | refine a_not ?_ | refine a_nilf ?_ | (refine a_bin ?_ ?_ <;> intro _ <;> try (exfalso; omega)) | refine a_ld hl ?_ | (refine a_st hl ?_; clear hl; intro _ hl) | refine a_ix (fun _ => ?_) | fail)
        refine o_nil (hK2 _ _ ?_)
        clear hK2 K2
        refine wk_cond_t rfl ?_
        refine wk_seq fun K2 hK2 => ?_
        refine wk_reg ?_
        refine a_asg ?_
        refine o_nil (hK2 _ _ ?_)
        refine wk_ret (retQ_tmp1 Tryd.results18 (by decide) rfl (by conv => lhs; whnf) ?_)
        exact ⟨by rw [hb], hx26⟩
      · have h4 : 3 < f.kind := by omega
        repeat' (first | refine a_row hrf ?_ | refine a_mov ?_ | refine a_asg ?_ | refine a_binN ?_ | refine a_notd ?_ | refine a_notb ?_ | refine a_nilc ?_ | refine a_fa ?_ | refine a_ext ?_ | refine a_lenv ?_ | refine a_lens ?_ | refine a_pick_t ?_ | refine a_pick_f ?_ | refine a_not ?_ | refine a_nilf ?_ | (refine a_bin ?_ ?_ <;> intro _ <;> try (exfalso; omega)) | refine a_ld hl ?_ | (refine a_st hl ?_; clear hl; intro _ hl) | refine a_ix (fun _ => ?_) | fail)
        refine o_nil (hK2 _ _ ?_)
        clear hK2 K2
        refine wk_cond_t rfl ?_
        refine wk_seq fun K2 hK2 => ?_
        refine wk_reg ?_
        refine a_asg ?_
        refine o_nil (hK2 _ _ ?_)
        refine wk_ret (retQ_tmp1 Tryd.results18 (by decide) rfl (by conv => lhs; whnf) ?_)
        exact ⟨by rw [hb], hx26⟩
set_option maxHeartbeats 8000000 in
theorem fits6_calls {F : List Fact} {c : List Int} {v cv : Value} {w : World} (hd : Sl w v 4 (factsL F)) (hv : Sl w cv 1 (intsL c)) (hF : F.length ≤ 9223372036854775806) (hC : c.length ≤ 9223372036854775806) (hn : ∀ f ∈ F, f.name.length ≤ 9223372036854775806) :
    Calls Tryd.prog 20 #[.agg #[v], cv] w (fun e w' => ∃ x, e = .returned x ∧ x = .bool (fitsB F c) ∧ Ext w w') := by
  obtain ⟨pa, ca, rfl, -⟩ := hd.shape (factsL_len F) (by omega)
  obtain ⟨pc, cc, rfl, -⟩ := hv.shape (intsL_len c) (by omega)
  refine calls_of Tryd.func20 rfl Tryd.ntmps20 rfl ?_
  refine wk_seq fun K hK => ?_
  refine wk_reg ?_
  refine o_box (LH.start w (fun _ => False)) [.slice pa F.length ca] rfl rfl rfl ?_
  intro b1 w1 hb1 hl
  have hx1 : Ext w w1 := hl.done
  have hra : Row w1 b1 0 [.slice pa F.length ca] := hl.rowL (vs := [.slice pa F.length ca]) 0 0 1 rfl
  clear hl
  refine a_asg ?_
  refine o_nil (hK _ _ ?_)
  clear hK K
  refine wk_seq fun K hK => ?_
  refine wk_seq fun K2 hK2 => ?_
  refine wk_reg ?_
  refine a_all hra ?_
  refine a_fn (valid6_calls (hd.ext hx1) hF hn) ?_
  rintro _ w2 ⟨rfl, hx2⟩
  have hx12 := hx1.trans hx2
  have hra2 := hra.ext hx2
  cases hvd : validD F
  · have hb : fitsB F c = false := by unfold fitsB; rw [hvd]; rfl
    repeat' (first | refine a_mov ?_ | refine a_asg ?_ | refine a_binN ?_ | refine a_notd ?_ | refine a_notb ?_ | refine a_nilc ?_ | refine a_fa ?_ | refine a_ext ?_ | refine a_lenv ?_ | refine a_lens ?_ | refine a_pick_t ?_ | refine a_pick_f ?_ | refine a_not ?_ | refine a_nilf ?_ | (refine a_bin ?_ ?_ <;> intro _ <;> try (exfalso; omega)) | refine a_ld hl ?_ | (refine a_st hl ?_; clear hl; intro _ hl) | refine a_ix (fun _ => ?_) | fail)
    refine o_nil (hK2 _ _ ?_)
    clear hK2 K2
    refine wk_cond_t rfl ?_
    refine wk_seq fun K2 hK2 => ?_
    refine wk_reg ?_
    refine a_asg ?_
    refine o_nil (hK2 _ _ ?_)
    refine wk_ret (retQ_tmp1 Tryd.results20 (by decide) rfl (by conv => lhs; whnf) ?_)
    exact ⟨by rw [hb], hx12⟩
  by_cases hcl : c.length = F.length
  rotate_left
  · have hb : fitsB F c = false := by
      cases h : fitsB F c
      · rfl
      · exact absurd ((Fo.fitsC_iff F c).1 (fitsB_parts h).2).1 hcl
    repeat' (first | refine a_mov ?_ | refine a_asg ?_ | refine a_binN ?_ | refine a_notd ?_ | refine a_notb ?_ | refine a_nilc ?_ | refine a_fa ?_ | refine a_ext ?_ | refine a_lenv ?_ | refine a_lens ?_ | refine a_pick_t ?_ | refine a_pick_f ?_ | refine a_not ?_ | refine a_nilf ?_ | (refine a_bin ?_ ?_ <;> intro _ <;> try (exfalso; omega)) | refine a_ld hl ?_ | (refine a_st hl ?_; clear hl; intro _ hl) | refine a_ix (fun _ => ?_) | refine a_row hra2 ?_ | fail)
    refine o_nil (hK2 _ _ ?_)
    clear hK2 K2
    refine wk_cond_t rfl ?_
    refine wk_seq fun K2 hK2 => ?_
    refine wk_reg ?_
    refine a_asg ?_
    refine o_nil (hK2 _ _ ?_)
    refine wk_ret (retQ_tmp1 Tryd.results20 (by decide) rfl (by conv => lhs; whnf) ?_)
    exact ⟨by rw [hb], hx12⟩
  repeat' (first | refine a_mov ?_ | refine a_asg ?_ | refine a_binN ?_ | refine a_notd ?_ | refine a_notb ?_ | refine a_nilc ?_ | refine a_fa ?_ | refine a_ext ?_ | refine a_lenv ?_ | refine a_lens ?_ | refine a_pick_t ?_ | refine a_pick_f ?_ | refine a_not ?_ | refine a_nilf ?_ | (refine a_bin ?_ ?_ <;> intro _ <;> try (exfalso; omega)) | refine a_ld hl ?_ | (refine a_st hl ?_; clear hl; intro _ hl) | refine a_ix (fun _ => ?_) | refine a_row hra2 ?_ | fail)
  refine o_nil (hK2 _ _ ?_)
  clear hK2 K2
  refine wk_cond_f rfl ?_
  refine wk_skip (hK _ _ ?_)
  clear hK K
  refine wk_seq fun K hK => ?_
  refine wk_seq fun K2 hK2 => ?_
  refine wk_reg ?_
  refine a_asg ?_
  refine o_nil (hK2 _ _ ?_)
  clear hK2 K2
  refine wk_block ?_
  refine wk_loopH [] rfl (fun k : Nat => [(1, .slice pc c.length cc), (2, .pointer (some ⟨b1, 0, none⟩)), (5, .int .i64 (k : Int))]) (fun k w' => (k ≤ F.length ∧ ∀ j (h : j < F.length) (h2 : j < c.length), j < k → F[j].lo ≤ c[j] ∧ c[j] ≤ F[j].hi) ∧ Ext w2 w') (fun k => F.length - k) 0 ⟨rfl, rfl, rfl, trivial⟩ ⟨⟨Nat.zero_le _, fun j h1 h2 h3 => by omega⟩, .refl _ _⟩ ?_
  rintro k t w3 ⟨⟨hk, hpre⟩, hx3⟩
  have hra3 := hra2.ext hx3
  have hx13 := hx12.trans hx3
  refine wk_seq fun K1 hK1 => ?_
  refine wk_seq fun K2 hK2 => ?_
  refine wk_reg ?_
  by_cases hk1 : k < F.length
  rotate_left
  · have hva : fitsB F c = true := by
      unfold fitsB
      rw [hvd, (Fo.fitsC_iff F c).2 ⟨hcl, fun j h1 h2 => hpre j h1 h2 (by omega)⟩]
      rfl
    repeat' (first | refine a_mov ?_ | refine a_asg ?_ | refine a_binN ?_ | refine a_notd ?_ | refine a_notb ?_ | refine a_nilc ?_ | refine a_fa ?_ | refine a_ext ?_ | refine a_lenv ?_ | refine a_lens ?_ | refine a_pick_t ?_ | refine a_pick_f ?_ | refine a_not ?_ | refine a_nilf ?_ | (refine a_bin ?_ ?_ <;> intro _ <;> try (exfalso; omega)) | refine a_ld hl ?_ | (refine a_st hl ?_; clear hl; intro _ hl) | refine a_ix (fun _ => ?_) | fail)
    refine o_nil (hK2 _ _ ?_)
    clear hK2 K2
    refine wk_cond_f rfl ?_
    refine wk_exit ?_
    refine blockK_same ?_
    refine hK _ _ ?_
    clear hK1 K1
    clear hK K
    refine wk_seq fun K hK => ?_
    refine wk_reg ?_
    refine a_asg ?_
    refine o_nil (hK _ _ ?_)
    refine wk_ret (retQ_tmp1 Tryd.results20 (by decide) rfl (by conv => lhs; whnf) ?_)
    exact ⟨by rw [hva], hx13⟩
  have hkc : k < c.length := by omega
  obtain ⟨p1, o1, e1, r1⟩ := Sl.fact (hd.ext hx13) rfl hk1
  obtain ⟨p2, o2, e2, r2⟩ := Sl.intAt (hv.ext hx13) rfl hkc
  repeat' (first | refine a_mov ?_ | refine a_asg ?_ | refine a_binN ?_ | refine a_notd ?_ | refine a_notb ?_ | refine a_nilc ?_ | refine a_fa ?_ | refine a_ext ?_ | refine a_lenv ?_ | refine a_lens ?_ | refine a_pick_t ?_ | refine a_pick_f ?_ | refine a_not ?_ | refine a_nilf ?_ | (refine a_bin ?_ ?_ <;> intro _ <;> try (exfalso; omega)) | refine a_ld hl ?_ | (refine a_st hl ?_; clear hl; intro _ hl) | refine a_ix (fun _ => ?_) | fail)
  refine o_nil (hK2 _ _ ?_)
  clear hK2 K2
  refine wk_cond_t rfl ?_
  refine wk_skip (hK1 _ _ ?_)
  clear hK1 K1
  clear hK
  refine wk_seq fun K hK => ?_
  refine wk_block ?_
  refine wk_seq fun K2 hK2 => ?_
  by_cases hin : F[k].lo ≤ c[k] ∧ c[k] ≤ F[k].hi
  · obtain ⟨h1, h2⟩ := hin
    refine wk_quiet (List.range 24) ?_
    repeat' (first | refine q_mov ?_ | refine q_asg ?_ | refine q_fa ?_ | refine q_ext ?_ | refine q_binN ?_ | refine q_notd ?_ | refine q_notb ?_ | refine q_pick_t ?_ | refine q_pick_f ?_ | refine q_nilc ?_ | refine q_skip ?_ | refine q_lens ?_ | refine q_lenv ?_ | refine q_nil ?_ | refine q_ix (fun _ => ?_) | (refine q_bin ?_ ?_ <;> intro _ <;> try (exfalso; omega)) | refine q_idx (c := 1) k e2 ?_ | refine q_idx (c := 4) k e1 ?_ | refine q_row (fun w_ hw_ => hra3.ext hw_) ?_ | refine q_row (fun w_ hw_ => r2.ext hw_) ?_ | refine q_row (fun w_ hw_ => r1.ext hw_) ?_ | fail)
    intro w4 hx4
    refine hK2 _ _ ?_
    clear hK2 K2
    refine wk_cond_f rfl ?_
    refine wk_skip (hK _ _ ?_)
    clear hK K
    refine wk_reg ?_
    repeat' (first | refine a_mov ?_ | refine a_asg ?_ | refine a_binN ?_ | refine a_notd ?_ | refine a_notb ?_ | refine a_nilc ?_ | refine a_fa ?_ | refine a_ext ?_ | refine a_lenv ?_ | refine a_lens ?_ | refine a_pick_t ?_ | refine a_pick_f ?_ | refine a_not ?_ | refine a_nilf ?_ | (refine a_bin ?_ ?_ <;> intro _ <;> try (exfalso; omega)) | refine a_ld hl ?_ | (refine a_st hl ?_; clear hl; intro _ hl) | refine a_ix (fun _ => ?_) | fail)
    exact o_nil ⟨k + 1, ⟨rfl, rfl, rfl, trivial⟩, rfl, ⟨⟨hk1, fun j h1' h2' hj => by
      by_cases e : j = k
      · subst e; exact ⟨h1, h2⟩
      · exact hpre j h1' h2' (by omega)⟩, hx3.trans hx4⟩, by omega⟩
  · have hb : fitsB F c = false := by
      cases h : fitsB F c
      · rfl
      · exact absurd (((Fo.fitsC_iff F c).1 (fitsB_parts h).2).2 k hk1 hkc) hin
    by_cases h1 : c[k] < F[k].lo
    · refine wk_quiet (List.range 24) ?_
      repeat' (first | refine q_mov ?_ | refine q_asg ?_ | refine q_fa ?_ | refine q_ext ?_ | refine q_binN ?_ | refine q_notd ?_ | refine q_notb ?_ | refine q_pick_t ?_ | refine q_pick_f ?_ | refine q_nilc ?_ | refine q_skip ?_ | refine q_lens ?_ | refine q_lenv ?_ | refine q_nil ?_ | refine q_ix (fun _ => ?_) | (refine q_bin ?_ ?_ <;> intro _ <;> try (exfalso; omega)) | refine q_idx (c := 1) k e2 ?_ | refine q_idx (c := 4) k e1 ?_ | refine q_row (fun w_ hw_ => hra3.ext hw_) ?_ | refine q_row (fun w_ hw_ => r2.ext hw_) ?_ | refine q_row (fun w_ hw_ => r1.ext hw_) ?_ | fail)
      intro w4 hx4
      refine hK2 _ _ ?_
      clear hK2 K2
      refine wk_cond_t rfl ?_
      refine wk_seq fun K2 hK2 => ?_
      refine wk_reg ?_
      refine a_asg ?_
      refine o_nil (hK2 _ _ ?_)
      refine wk_ret (retQ_tmp1 Tryd.results20 (by decide) rfl (by conv => lhs; whnf) ?_)
      exact ⟨by rw [hb], hx13.trans hx4⟩
    · have h2 : F[k].hi < c[k] := by omega
      refine wk_quiet (List.range 24) ?_
      repeat' (first | refine q_mov ?_ | refine q_asg ?_ | refine q_fa ?_ | refine q_ext ?_ | refine q_binN ?_ | refine q_notd ?_ | refine q_notb ?_ | refine q_pick_t ?_ | refine q_pick_f ?_ | refine q_nilc ?_ | refine q_skip ?_ | refine q_lens ?_ | refine q_lenv ?_ | refine q_nil ?_ | refine q_ix (fun _ => ?_) | (refine q_bin ?_ ?_ <;> intro _ <;> try (exfalso; omega)) | refine q_idx (c := 1) k e2 ?_ | refine q_idx (c := 4) k e1 ?_ | refine q_row (fun w_ hw_ => hra3.ext hw_) ?_ | refine q_row (fun w_ hw_ => r2.ext hw_) ?_ | refine q_row (fun w_ hw_ => r1.ext hw_) ?_ | fail)
      intro w4 hx4
      refine hK2 _ _ ?_
      clear hK2 K2
      refine wk_cond_t rfl ?_
      refine wk_seq fun K2 hK2 => ?_
      refine wk_reg ?_
      refine a_asg ?_
      refine o_nil (hK2 _ _ ?_)
      refine wk_ret (retQ_tmp1 Tryd.results20 (by decide) rfl (by conv => lhs; whnf) ?_)
      exact ⟨by rw [hb], hx13.trans hx4⟩
end Go.Proofs
