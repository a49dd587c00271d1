/-
  Facts: the canonical text of a case; the least case.
-/
import Derived.Test.YtcanaadgcgophaaDoorQFaR
import Derived.Test.YtcanaadgcgophaaDoorQFC
import Derived.Test.YtcanaadgcgophaaDoorQFB
import Derived.Test.YtcanaadgcgophaaDoorQFaMem
set_option linter.unusedVariables false
set_option linter.unusedSimpArgs false
set_option linter.unnecessarySimpa false
set_option maxRecDepth 10000
namespace Go.Fac
open Go.Fo
theorem itemsS_take {F : List Fact} {c : List Int} (h : c.length = F.length) {k : Nat} (hk : k < F.length) : (itemsS F c).take (k + 1) = (itemsS F c).take k ++ [itemS F[k] c[k]] := by
  have hl : k < (itemsS F c).length := by simp [itemsS]; omega
  rw [List.take_succ_eq_append_getElem hl]
  simp [itemsS]
theorem itemS_eq (f : Fact) (z : Int) : itemS f z = f.name ++ [32, 61, 32] ++ decS z.toNat := by
  simp [itemS, kEq]
theorem itemS_len {f : Fact} {z : Int} (h1 : f.name.length ≤ 24) (h2 : 0 ≤ z) (h3 : z ≤ 1000000) : (itemS f z).length ≤ 40 := by
  have := dec_len h2 h3
  rw [itemS_eq]
  simp
  omega
theorem joinC_len : ∀ (l : List Tx), (∀ t ∈ l, t.length ≤ 40) → (joinC l).length ≤ 42 * l.length
  | [], _ => by simp [joinC]
  | [t], h => by
    have := h t List.mem_cons_self
    simp [joinC]
    omega
  | t :: u :: l, h => by
    have h1 := h t List.mem_cons_self
    have h2 := joinC_len (u :: l) fun x hx => h x (List.mem_cons_of_mem _ hx)
    simp only [joinC, List.length_append, List.length_cons] at h2 ⊢
    omega
end Go.Fac
namespace Go.Proofs
open Go Go.Pd Go.Fac Go.Fo
attribute [local irreducible] OpsL W RetQ OpsQ OpsC
set_option maxHeartbeats 4000000 in
theorem caseText_calls {F : List Fact} {c : List Int} {dv cv : Value} {w : World} (hd : Sl w dv 4 (factsL F)) (hv : Sl w cv 1 (intsL c)) (hF : F.length ≤ 9223372036854775806) (hC : c.length ≤ 9223372036854775806) (hn : ∀ f ∈ F, f.name.length ≤ 9223372036854775806) (ht : Tabs w) :
    Calls Tryd.prog 25 #[.agg #[dv], cv] w (fun e w' => ∃ v, e = .returned v ∧ v = str (textC F c) ∧ Ext w w') := by
  obtain ⟨pa, ca, rfl, -⟩ := hd.shape (factsL_len F) (by omega)
  obtain ⟨pc, cc, rfl, -⟩ := hv.shape (intsL_len c) (by omega)
  refine calls_of Tryd.func25 rfl Tryd.ntmps25 rfl ?_
  refine wk_seq fun K hK => ?_
  refine wk_reg ?_
  refine o_box (LH.start w (fun _ => False)) [.slice pa F.length ca] rfl rfl rfl ?_
  intro bx w0 hbx hlx
  have hx0 : Ext w w0 := hlx.done
  have hrx : Row w0 bx 0 [.slice pa F.length ca] := hlx.rowL (vs := [.slice pa F.length ca]) 0 0 1 rfl
  have hd0 := hd.ext hx0
  have hv0 := hv.ext hx0
  clear hlx
  refine a_asg ?_
  refine o_nil (hK _ _ ?_)
  clear hK K
  refine wk_seq fun K hK => ?_
  refine wk_seq fun K2 hK2 => ?_
  refine wk_reg ?_
  refine a_all hrx ?_
  refine a_mov ?_
  refine a_fn (fits_calls hd0 hv0 hF hC hn) ?_
  rintro _ w1 ⟨rfl, hx1⟩
  refine a_notb ?_
  refine o_nil (hK2 _ _ ?_)
  clear hK2 K2
  cases hfb : fitsB F c with
  | false =>
    refine wk_cond_t rfl ?_
    refine wk_seq fun K2 hK2 => ?_
    refine wk_reg ?_
    refine a_asg ?_
    refine o_nil (hK2 _ _ ?_)
    refine wk_ret (retQ_tmp1 Tryd.results25 (by decide) rfl (by conv => lhs; whnf) ?_)
    refine ⟨?_, hx0.trans hx1⟩
    unfold textC
    rw [hfb, if_neg (by decide), str_nil]
  | true =>
    have hfb2 := hfb
    unfold fitsB at hfb2
    rw [Bool.and_eq_true] at hfb2
    obtain ⟨hvd, hfc⟩ := hfb2
    have hg := (valid_iff F).1 hvd
    obtain ⟨hcl, hrng⟩ := (Fo.fitsC_iff F c).1 hfc
    refine wk_cond_f rfl ?_
    refine wk_skip (hK _ _ ?_)
    clear hK K
    refine wk_seq fun K hK => ?_
    refine wk_reg ?_
    refine a_asg ?_
    refine o_nil (hK _ _ ?_)
    clear hK K
    refine wk_seq fun K hK => ?_
    refine wk_seq fun K2 hK2 => ?_
    refine wk_reg ?_
    have hr2 := hrx.ext hx1
    repeat' (first | refine a_mov ?_ | refine a_asg ?_ | refine a_binN ?_ | refine a_notd ?_ | refine a_notb ?_ | refine a_nilc ?_ | refine a_fa ?_ | refine a_ext ?_ | refine a_lenv ?_ | refine a_lens ?_ | refine a_pick_t ?_ | refine a_pick_f ?_ | refine a_not ?_ | refine a_nilf ?_ | (refine a_bin ?_ ?_ <;> intro _ <;> try (exfalso; omega)) | refine a_ld hl ?_ | (refine a_st hl ?_; clear hl; intro _ hl) | refine a_ix (fun _ => ?_) | refine a_row hr2 ?_ | fail)
    refine o_nil (hK2 _ _ ?_)
    clear hK2 K2 hr2
    refine wk_block ?_
    refine wk_loopH [] rfl (fun q : Nat × Value × List (Nat × Obj) => [(1, .slice pc c.length cc), (2, .pointer (some ⟨bx, 0, none⟩)), (5, q.2.1), (13, .slice pa F.length ca), (14, .int .i64 (F.length : Int)), (15, .int .i64 (q.1 : Int))])
      (fun q w' => q.1 ≤ F.length ∧ LH w1 (fun _ => False) w' q.2.2 ∧ Acc q.2.1 1 9 q.1 (((itemsS F c).take q.1).map str) q.2.2) (fun q => F.length - q.1) (0, .slice none 0 0, []) ⟨rfl, rfl, rfl, rfl, rfl, rfl, trivial⟩ ⟨by omega, LH.start w1 _, Acc.nil _ _⟩ ?_
    rintro ⟨k, v, acc⟩ t w3 ⟨hk, hl, ha⟩
    simp only at hk hl ha
    have hx3 := hl.done
    refine wk_seq fun K1 hK1 => ?_
    refine wk_reg ?_
    by_cases hk1 : k < F.length
    · obtain ⟨bk, o, hp1, hr1⟩ := Sl.fact ((hd0.ext hx1).ext hx3) rfl hk1
      have hfk := good_fact hg (List.getElem_mem hk1)
      have ht3 := ((ht.ext hx0).ext hx1).ext hx3
      have hone := factL_one F[k]
      have h60 := hg.2.2
      have hkc : k < c.length := by omega
      have hrk := hrng k hk1 hkc
      have htk := itemsS_take hcl hk1
      rw [itemS_eq] at htk
      repeat' (first | refine a_mov ?_ | refine a_asg ?_ | refine a_binN ?_ | refine a_notd ?_ | refine a_notb ?_ | refine a_nilc ?_ | refine a_fa ?_ | refine a_ext ?_ | refine a_lenv ?_ | refine a_lens ?_ | refine a_pick_t ?_ | refine a_pick_f ?_ | refine a_not ?_ | refine a_nilf ?_ | (refine a_bin ?_ ?_ <;> intro _ <;> try (exfalso; omega)) | refine a_ld hl ?_ | (refine a_st hl ?_; clear hl; intro _ hl) | refine a_ix (fun _ => ?_) | fail)
      refine o_nil (hK1 _ _ ?_)
      clear hK1 K1
      refine wk_seq fun K1 hK1 => ?_
      refine wk_cond_t rfl ?_
      refine wk_skip (hK1 _ _ ?_)
      clear hK1 K1
      refine wk_seq fun K1 hK1 => ?_
      refine wk_block ?_
      refine wk_seq fun K2 hK2 => ?_
      refine wk_reg ?_
      repeat' (first | refine a_mov ?_ | refine a_asg ?_ | refine a_binN ?_ | refine a_notd ?_ | refine a_notb ?_ | refine a_nilc ?_ | refine a_fa ?_ | refine a_ext ?_ | refine a_lenv ?_ | refine a_lens ?_ | refine a_pick_t ?_ | refine a_pick_f ?_ | refine a_not ?_ | refine a_nilf ?_ | (refine a_bin ?_ ?_ <;> intro _ <;> try (exfalso; omega)) | refine a_ld hl ?_ | (refine a_st hl ?_; clear hl; intro _ hl) | refine a_ix (fun _ => ?_) | refine a_idx (c := 4) k hp1 ?_ | refine a_all hr1 ?_ | fail)
      refine o_alloc hl [.string "".toByteArray, .int .i64 0, .int .i64 0, .int .i64 0] (by kernel_rfl) rfl ?_
      clear hl
      intro b7 w4 hb7 hl
      refine a_asg ?_
      refine o_putN (us := factL F[k]) hl rfl rfl rfl hone rfl (.here rfl rfl) ?_
      clear hl
      intro w5 hl
      refine o_nil (hK2 _ _ ?_)
      clear hK2 K2
      have hrf : Row w5 b7 0 [str F[k].name, .int .i64 F[k].kind, .int .i64 F[k].lo, .int .i64 F[k].hi] := hl.rowL (vs := factL F[k]) 0 0 4 rfl
      obtain ⟨bc, oc, hpc, hrc⟩ := Sl.intAt ((hv0.ext hx1).ext hl.done) rfl hkc
      have ht5 := (((ht.ext hx0).ext hx1)).ext hl.done
      have hit : ∀ w_, Ext w5 w_ → Calls Tryd.prog 53 #[.int .i64 c[k]] w_ (fun e w' => ∃ x, e = .returned x ∧ x = str (decS c[k].toNat) ∧ Ext w_ w') := fun w_ hx => itoa_calls (by omega) (by omega) (ht5.ext hx)
      have hdl := dec_len (z := c[k]) (by omega) (by omega)
      refine wk_last (List.dropLast_concat_getLast (by simp)).symm (by kernel_rfl) ?_
      refine any_draw (List.range 10) [] [10, 11] (fun w' => Ext w5 w') (fun _ => True) (by kernel_rfl) (by intro _ _ _ _ h; first | exact h | (simp only [BlockK, NoGoto, RetQ] at h)) (fun _ h => Upd.of_heap h) (fun _ _ => trivial) ?_
      repeat' (first | refine q_mov ?_ | refine q_asg ?_ | refine q_fa ?_ | refine q_ext ?_ | refine q_binN ?_ | refine q_notd ?_ | refine q_notb ?_ | refine q_pick_t ?_ | refine q_pick_f ?_ | refine q_nilc ?_ | refine q_skip ?_ | refine q_lens ?_ | refine q_lenv ?_ | refine q_nil ?_ | refine q_ix (fun _ => ?_) | (refine q_bin ?_ ?_ <;> intro _ <;> try (exfalso; omega)) | refine q_row (fun w_ hw_ => hrf.ext hw_) ?_ | refine q_idx (c := 1) k hpc ?_ | refine q_row (fun w_ hw_ => hrc.ext hw_) ?_ | refine q_pur (v := str (F[k].name ++ [32, 61, 32])) rfl rfl rfl (fun _ => by exact r_cat (a := F[k].name) (b := [32, 61, 32]) (by simp; omega) rfl (by simp only [str_eq]; rfl)) ?_ | refine q_pur rfl rfl rfl (fun _ => r_cat (a := F[k].name ++ [32, 61, 32]) (b := decS c[k].toNat) (by simp; omega) rfl rfl) ?_ | refine q_fn hit ?_ | fail)
      intro w6 hx6
      replace hl := hl.ext hx6
      clear hrf hit
      refine ops_tail rfl rfl ?_
      refine o_buildSlice hl [str (F[k].name ++ [32, 61, 32] ++ decS c[k].toNat)] rfl rfl (by kernel_rfl) ?_
      clear hl
      intro bq w7 hbq hl
      refine o_nil ⟨trivial, ?_⟩
      refine ops_tail rfl rfl ?_
      refine o_append (bl' := [(bq, _), (b7, _)]) (bytes := 16) (q := 1) hl ha (hl.rowL (vs := [str (F[k].name ++ [32, 61, 32] ++ decS c[k].toNat)]) 0 0 1 rfl) rfl (by simp [oneCell_str]) (by decide) (by omega) (by omega) rfl rfl (by kernel_rfl) rfl rfl ?_
      clear hl
      intro v' w8 acc' hl ha'
      refine o_nil ⟨trivial, ?_⟩
      refine ops_nil ?_
      refine a_asg ?_
      refine o_nil (hK1 _ _ ?_)
      clear hK1 K1
      refine wk_reg ?_
      repeat' (first | refine a_mov ?_ | refine a_asg ?_ | refine a_binN ?_ | refine a_notd ?_ | refine a_notb ?_ | refine a_nilc ?_ | refine a_fa ?_ | refine a_ext ?_ | refine a_lenv ?_ | refine a_lens ?_ | refine a_pick_t ?_ | refine a_pick_f ?_ | refine a_not ?_ | refine a_nilf ?_ | (refine a_bin ?_ ?_ <;> intro _ <;> try (exfalso; omega)) | refine a_ld hl ?_ | (refine a_st hl ?_; clear hl; intro _ hl) | refine a_ix (fun _ => ?_) | fail)
      refine o_nil ⟨(k + 1, v', acc'), ⟨rfl, rfl, rfl, rfl, rfl, rfl, trivial⟩, rfl, ⟨hk1, hl.sub ((List.sublist_cons_self _ _).trans (List.sublist_cons_self _ _)), ?_⟩, by simp only; omega⟩
      simp only
      rw [htk, List.map_append]
      exact ha'
    · obtain rfl : k = F.length := by omega
      have hil : (itemsS F c).length = F.length := by simp [itemsS, hcl]
      rw [List.take_of_length_le (by omega)] at ha
      repeat' (first | refine a_mov ?_ | refine a_asg ?_ | refine a_binN ?_ | refine a_notd ?_ | refine a_notb ?_ | refine a_nilc ?_ | refine a_fa ?_ | refine a_ext ?_ | refine a_lenv ?_ | refine a_lens ?_ | refine a_pick_t ?_ | refine a_pick_f ?_ | refine a_not ?_ | refine a_nilf ?_ | (refine a_bin ?_ ?_ <;> intro _ <;> try (exfalso; omega)) | refine a_ld hl ?_ | (refine a_st hl ?_; clear hl; intro _ hl) | refine a_ix (fun _ => ?_) | fail)
      refine o_nil (hK1 _ _ ?_)
      clear hK1 K1
      refine wk_seq fun K1 hK1 => ?_
      refine wk_cond_f rfl ?_
      refine wk_exit ?_
      refine blockK_same ?_
      refine hK _ _ ?_
      clear hK1 K1
      clear hK K
      have hjs : Sl w3 v 1 ((itemsS F c).map str) := LH.acc_sl (l := []) hl ha
      obtain ⟨va, vc, rfl⟩ := ha.shape
      have h60 := hg.2.2
      have hjl : (joinC (itemsS F c)).length ≤ 42 * (itemsS F c).length := joinC_len _ fun t ht => by
        obtain ⟨j, hj, rfl⟩ := List.mem_iff_getElem.1 ht
        rw [hil] at hj
        have h1 := good_fact hg (List.getElem_mem hj)
        have h2 := hrng j hj (by omega)
        simp only [itemsS, List.getElem_zipWith]
        exact itemS_len h1.1 (by omega) (by omega)
      rw [joinC_eq, hil] at hjl
      refine wk_seq fun K hK => ?_
      refine wk_reg ?_
      refine a_mov ?_
      refine a_fn (join_calls (xs := itemsS F c) (sep := [44, 32]) hjs (by omega) (by omega)) ?_ rfl (fun _ => rfl) (by simp only [str_eq]; rfl)
      rintro _ w4 ⟨rfl, hx4⟩
      refine a_asg ?_
      refine o_nil (hK _ _ ?_)
      clear hK K
      refine wk_ret (retQ_tmp1 Tryd.results25 (by decide) rfl (by conv => lhs; whnf) ?_)
      refine ⟨?_, (hx0.trans hx1).trans (hx3.trans hx4)⟩
      unfold textC
      rw [if_pos hfb, joinC_eq]
set_option maxHeartbeats 4000000 in
theorem least_calls {F : List Fact} {dv : Value} {w : World} (hd : Sl w dv 4 (factsL F)) (hF : F.length ≤ 9223372036854775806) (hn : ∀ f ∈ F, f.name.length ≤ 9223372036854775806) :
    Calls Tryd.prog 29 #[.agg #[dv]] w (fun e w' => ∃ v, e = .returned v ∧ Sl w' v 1 (intsL (leastC F)) ∧ Ext w w') := by
  obtain ⟨pa, ca, rfl, -⟩ := hd.shape (factsL_len F) (by omega)
  refine calls_of Tryd.func29 rfl Tryd.ntmps29 rfl ?_
  refine wk_seq fun K hK => ?_
  refine wk_reg ?_
  refine o_box (LH.start w (fun _ => False)) [.slice pa F.length ca] rfl rfl rfl ?_
  intro bx w0 hbx hlx
  have hx0 : Ext w w0 := hlx.done
  have hrx : Row w0 bx 0 [.slice pa F.length ca] := hlx.rowL (vs := [.slice pa F.length ca]) 0 0 1 rfl
  have hd0 := hd.ext hx0
  clear hlx
  refine a_asg ?_
  refine o_nil (hK _ _ ?_)
  clear hK K
  refine wk_seq fun K hK => ?_
  refine wk_seq fun K2 hK2 => ?_
  refine wk_reg ?_
  refine a_all hrx ?_
  refine a_fn (valid_calls hd0 hF hn) ?_
  rintro _ w1 ⟨rfl, hx1⟩
  refine a_notb ?_
  refine o_nil (hK2 _ _ ?_)
  clear hK2 K2
  cases hvd : validD F with
  | false =>
    refine wk_cond_t rfl ?_
    refine wk_seq fun K2 hK2 => ?_
    refine wk_reg ?_
    refine a_asg ?_
    refine o_nil (hK2 _ _ ?_)
    refine wk_ret (retQ_tmp1 Tryd.results29 (by decide) rfl (by conv => lhs; whnf) ?_)
    refine ⟨?_, hx0.trans hx1⟩
    unfold leastC
    rw [hvd, if_neg (by decide)]
    exact Sl.nil _ _
  | true =>
    have hg := (valid_iff F).1 hvd
    have h60 := hg.2.2
    refine wk_cond_f rfl ?_
    refine wk_skip (hK _ _ ?_)
    clear hK K
    refine wk_seq fun K hK => ?_
    refine wk_reg ?_
    refine a_asg ?_
    refine o_nil (hK _ _ ?_)
    clear hK K
    refine wk_seq fun K hK => ?_
    refine wk_seq fun K2 hK2 => ?_
    refine wk_reg ?_
    have hr2 := hrx.ext hx1
    repeat' (first | refine a_mov ?_ | refine a_asg ?_ | refine a_binN ?_ | refine a_notd ?_ | refine a_notb ?_ | refine a_nilc ?_ | refine a_fa ?_ | refine a_ext ?_ | refine a_lenv ?_ | refine a_lens ?_ | refine a_pick_t ?_ | refine a_pick_f ?_ | refine a_not ?_ | refine a_nilf ?_ | (refine a_bin ?_ ?_ <;> intro _ <;> try (exfalso; omega)) | refine a_ld hl ?_ | (refine a_st hl ?_; clear hl; intro _ hl) | refine a_ix (fun _ => ?_) | refine a_row hr2 ?_ | fail)
    refine o_nil (hK2 _ _ ?_)
    clear hK2 K2 hr2
    refine wk_block ?_
    refine wk_loopH [] rfl (fun q : Nat × Value × List (Nat × Obj) => [(1, .pointer (some ⟨bx, 0, none⟩)), (3, q.2.1), (10, .slice pa F.length ca), (11, .int .i64 (F.length : Int)), (12, .int .i64 (q.1 : Int))])
      (fun q w' => q.1 ≤ F.length ∧ LH w1 (fun _ => False) w' q.2.2 ∧ Acc q.2.1 1 3 q.1 (intsL ((F.map (·.lo)).take q.1)) q.2.2) (fun q => F.length - q.1) (0, .slice none 0 0, []) ⟨rfl, rfl, rfl, rfl, rfl, trivial⟩ ⟨by omega, LH.start w1 _, Acc.nil _ _⟩ ?_
    rintro ⟨k, v, acc⟩ t w3 ⟨hk, hl, ha⟩
    simp only at hk hl ha
    have hx3 := hl.done
    refine wk_seq fun K1 hK1 => ?_
    refine wk_reg ?_
    by_cases hk1 : k < F.length
    · obtain ⟨bk, o, hp1, hr1⟩ := Sl.fact ((hd0.ext hx1).ext hx3) rfl hk1
      have hone := factL_one F[k]
      have htk : (F.map (·.lo)).take (k + 1) = (F.map (·.lo)).take k ++ [F[k].lo] := by
        rw [List.take_succ_eq_append_getElem (by simpa using hk1)]
        simp
      repeat' (first | refine a_mov ?_ | refine a_asg ?_ | refine a_binN ?_ | refine a_notd ?_ | refine a_notb ?_ | refine a_nilc ?_ | refine a_fa ?_ | refine a_ext ?_ | refine a_lenv ?_ | refine a_lens ?_ | refine a_pick_t ?_ | refine a_pick_f ?_ | refine a_not ?_ | refine a_nilf ?_ | (refine a_bin ?_ ?_ <;> intro _ <;> try (exfalso; omega)) | refine a_ld hl ?_ | (refine a_st hl ?_; clear hl; intro _ hl) | refine a_ix (fun _ => ?_) | fail)
      refine o_nil (hK1 _ _ ?_)
      clear hK1 K1
      refine wk_seq fun K1 hK1 => ?_
      refine wk_cond_t rfl ?_
      refine wk_skip (hK1 _ _ ?_)
      clear hK1 K1
      refine wk_seq fun K1 hK1 => ?_
      refine wk_block ?_
      refine wk_seq fun K2 hK2 => ?_
      refine wk_reg ?_
      repeat' (first | refine a_mov ?_ | refine a_asg ?_ | refine a_binN ?_ | refine a_notd ?_ | refine a_notb ?_ | refine a_nilc ?_ | refine a_fa ?_ | refine a_ext ?_ | refine a_lenv ?_ | refine a_lens ?_ | refine a_pick_t ?_ | refine a_pick_f ?_ | refine a_not ?_ | refine a_nilf ?_ | (refine a_bin ?_ ?_ <;> intro _ <;> try (exfalso; omega)) | refine a_ld hl ?_ | (refine a_st hl ?_; clear hl; intro _ hl) | refine a_ix (fun _ => ?_) | refine a_idx (c := 4) k hp1 ?_ | refine a_all hr1 ?_ | fail)
      refine o_alloc hl [.string "".toByteArray, .int .i64 0, .int .i64 0, .int .i64 0] (by kernel_rfl) rfl ?_
      clear hl
      intro b7 w4 hb7 hl
      refine o_putN (us := factL F[k]) hl rfl rfl rfl hone rfl (.here rfl rfl) ?_
      clear hl
      intro w5 hl
      refine o_nil (hK2 _ _ ?_)
      clear hK2 K2
      have hrf : Row w5 b7 0 [str F[k].name, .int .i64 F[k].kind, .int .i64 F[k].lo, .int .i64 F[k].hi] := hl.rowL (vs := factL F[k]) 0 0 4 rfl
      refine wk_reg ?_
      refine a_mov ?_
      refine a_fa ?_
      refine a_row hrf ?_
      refine o_buildSlice hl [.int .i64 F[k].lo] rfl rfl (by kernel_rfl) ?_
      clear hl hrf
      intro bq w7 hbq hl
      refine o_append (bl' := [(bq, _), (b7, _)]) (bytes := 8) (q := 1) hl ha (hl.rowL (vs := [.int .i64 F[k].lo]) 0 0 1 rfl) rfl rfl (by decide) (by omega) (by omega) rfl rfl (by kernel_rfl) rfl rfl ?_
      clear hl
      intro v' w8 acc' hl ha'
      refine a_asg ?_
      refine o_nil (hK1 _ _ ?_)
      clear hK1 K1
      refine wk_reg ?_
      repeat' (first | refine a_mov ?_ | refine a_asg ?_ | refine a_binN ?_ | refine a_notd ?_ | refine a_notb ?_ | refine a_nilc ?_ | refine a_fa ?_ | refine a_ext ?_ | refine a_lenv ?_ | refine a_lens ?_ | refine a_pick_t ?_ | refine a_pick_f ?_ | refine a_not ?_ | refine a_nilf ?_ | (refine a_bin ?_ ?_ <;> intro _ <;> try (exfalso; omega)) | refine a_ld hl ?_ | (refine a_st hl ?_; clear hl; intro _ hl) | refine a_ix (fun _ => ?_) | fail)
      refine o_nil ⟨(k + 1, v', acc'), ⟨rfl, rfl, rfl, rfl, rfl, trivial⟩, rfl, ⟨hk1, hl.sub ((List.sublist_cons_self _ _).trans (List.sublist_cons_self _ _)), ?_⟩, by simp only; omega⟩
      simp only
      rw [htk]
      have e : ∀ (l : List Int) (z : Int), intsL (l ++ [z]) = intsL l ++ [.int .i64 z] := fun l z => by simp [intsL, intL]
      rw [e]
      exact ha'
    · obtain rfl : k = F.length := by omega
      rw [List.take_of_length_le (by simp)] at ha
      repeat' (first | refine a_mov ?_ | refine a_asg ?_ | refine a_binN ?_ | refine a_notd ?_ | refine a_notb ?_ | refine a_nilc ?_ | refine a_fa ?_ | refine a_ext ?_ | refine a_lenv ?_ | refine a_lens ?_ | refine a_pick_t ?_ | refine a_pick_f ?_ | refine a_not ?_ | refine a_nilf ?_ | (refine a_bin ?_ ?_ <;> intro _ <;> try (exfalso; omega)) | refine a_ld hl ?_ | (refine a_st hl ?_; clear hl; intro _ hl) | refine a_ix (fun _ => ?_) | fail)
      refine o_nil (hK1 _ _ ?_)
      clear hK1 K1
      refine wk_seq fun K1 hK1 => ?_
      refine wk_cond_f rfl ?_
      refine wk_exit ?_
      refine blockK_same ?_
      refine hK _ _ ?_
      clear hK1 K1
      clear hK K
      have hjs : Sl w3 v 1 (intsL (F.map (·.lo))) := LH.acc_sl (l := []) hl ha
      refine wk_seq fun K hK => ?_
      refine wk_reg ?_
      refine a_mov ?_
      refine a_asg ?_
      refine o_nil (hK _ _ ?_)
      clear hK K
      refine wk_ret (retQ_tmp1 Tryd.results29 (by decide) rfl (by conv => lhs; whnf) ?_)
      refine ⟨?_, (hx0.trans hx1).trans hx3⟩
      unfold leastC
      rw [if_pos hvd]
      exact hjs
end Go.Proofs
