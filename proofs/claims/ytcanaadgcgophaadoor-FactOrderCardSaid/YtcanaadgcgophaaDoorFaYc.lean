/-
  The statement about the order of a case's values, walked.
-/
import Derived.Test.YtcanaadgcgophaaDoorFaX
import Derived.Test.YtcanaadgcgophaaDoorLC
set_option linter.unusedVariables false
set_option linter.unusedSimpArgs false
set_option linter.unnecessarySimpa false
set_option maxRecDepth 10000
namespace Go.Fac
theorem rev_take_succ {α : Type} {l : List α} {j : Nat} (h : j < l.length) : l.reverse.take (j + 1) = l.reverse.take j ++ [l[l.length - 1 - j]] := by
  rw [List.take_succ_eq_append_getElem (by simpa using h)]
  congr 2
  rw [List.getElem_reverse]
end Go.Fac
namespace Go.Proofs
open Go Go.Pd Go.Fac Go.Fo
attribute [local irreducible] OpsL W RetQ OpsQ OpsC
set_option maxHeartbeats 8000000 in
theorem Order_calls {F : List Fact} {a : List Int} {dv av : Value} {w : World} (ht : Tabs w) (hd : DomIn w F dv) (ha : CaseIn w a av) :
    Calls Tryd.prog 6 #[.agg #[dv], av] w (fun e w' => ∃ v, e = .returned v ∧ v = .bool true ∧ Ext w w') := by
  obtain ⟨da, dc, rfl⟩ := hd.shape
  obtain ⟨aa, ac, rfl⟩ := ha.shape
  refine calls_of Tryd.func6 rfl Tryd.ntmps6 rfl ?_
  refine wk_seq fun K hK => ?_
  refine wk_reg ?_
  refine o_box (LH.start w (fun _ => False)) [.slice da F.length dc] rfl rfl rfl ?_
  intro b2 w2 hb2 hl
  have hrd : Row w2 b2 0 [.slice da F.length dc] := hl.rowL (vs := [.slice da F.length dc]) 0 0 1 rfl
  have hx2 := hl.done
  clear hl
  refine a_asg ?_
  refine o_nil (hK _ _ ?_)
  clear hK K
  refine wk_seq fun K hK => ?_
  refine wk_reg ?_
  refine a_fn (head_calls (ht.ext hx2)) ?_
  rintro _ w3 ⟨rfl, hx3⟩
  refine a_asg ?_
  refine o_nil (hK _ _ ?_)
  clear hK K
  have hx := hx2.trans hx3
  replace ht := ht.ext hx
  replace hd := hd.ext hx
  replace ha := ha.ext hx
  replace hrd := hrd.ext hx3
  clear hx2 hx3
  have hF := hd.n
  have hFn := hd.m
  have hA := ha.n
  refine wk_seq fun K hK => ?_
  refine wk_seq fun K2 hK2 => ?_
  refine wk_reg ?_
  refine a_all hrd ?_
  refine a_mov ?_
  refine a_fn (few_calls hd.1 ha.1 hF hA hFn) ?_
  rintro _ w4 ⟨rfl, hx4⟩
  cases hfa : (fewD F 70 && decide (a.length ≤ 70))
  · repeat' (first | refine a_mov ?_ | refine a_asg ?_ | refine a_binN ?_ | refine a_notd ?_ | refine a_notb ?_ | refine a_nilc ?_ | refine a_fa ?_ | refine a_ext ?_ | refine a_lenv ?_ | refine a_lens ?_ | refine a_pick_t ?_ | refine a_pick_f ?_ | refine a_not ?_ | refine a_nilf ?_ | (refine a_bin ?_ ?_ <;> intro _ <;> try (exfalso; omega)) | refine a_ld hl ?_ | (refine a_st hl ?_; clear hl; intro _ hl) | refine a_ix (fun _ => ?_) | fail)
    refine o_nil (hK2 _ _ ?_)
    clear hK2 K2
    refine wk_cond_t rfl ?_
    refine wk_seq fun K2 hK2 => ?_
    refine wk_reg ?_
    repeat' (first | refine a_mov ?_ | refine a_asg ?_ | refine a_binN ?_ | refine a_notd ?_ | refine a_notb ?_ | refine a_nilc ?_ | refine a_fa ?_ | refine a_ext ?_ | refine a_lenv ?_ | refine a_lens ?_ | refine a_pick_t ?_ | refine a_pick_f ?_ | refine a_not ?_ | refine a_nilf ?_ | (refine a_bin ?_ ?_ <;> intro _ <;> try (exfalso; omega)) | refine a_ld hl ?_ | (refine a_st hl ?_; clear hl; intro _ hl) | refine a_ix (fun _ => ?_) | fail)
    refine o_nil (hK2 _ _ ?_)
    refine wk_ret (retQ_tmp1 Tryd.results6 (by decide) rfl (by conv => lhs; whnf) ?_)
    exact ⟨rfl, hx.trans hx4⟩
  repeat' (first | refine a_mov ?_ | refine a_asg ?_ | refine a_binN ?_ | refine a_notd ?_ | refine a_notb ?_ | refine a_nilc ?_ | refine a_fa ?_ | refine a_ext ?_ | refine a_lenv ?_ | refine a_lens ?_ | refine a_pick_t ?_ | refine a_pick_f ?_ | refine a_not ?_ | refine a_nilf ?_ | (refine a_bin ?_ ?_ <;> intro _ <;> try (exfalso; omega)) | refine a_ld hl ?_ | (refine a_st hl ?_; clear hl; intro _ hl) | refine a_ix (fun _ => ?_) | refine a_all (hrd.ext hx4) ?_ | fail)
  refine a_fn (fits_calls (hd.1.ext hx4) (ha.1.ext hx4) hF hA hFn) ?_
  rintro _ w5 ⟨rfl, hx5⟩
  replace hx4 := hx4.trans hx5
  cases hfb : fitsB F a
  · repeat' (first | refine a_mov ?_ | refine a_asg ?_ | refine a_binN ?_ | refine a_notd ?_ | refine a_notb ?_ | refine a_nilc ?_ | refine a_fa ?_ | refine a_ext ?_ | refine a_lenv ?_ | refine a_lens ?_ | refine a_pick_t ?_ | refine a_pick_f ?_ | refine a_not ?_ | refine a_nilf ?_ | (refine a_bin ?_ ?_ <;> intro _ <;> try (exfalso; omega)) | refine a_ld hl ?_ | (refine a_st hl ?_; clear hl; intro _ hl) | refine a_ix (fun _ => ?_) | fail)
    refine o_nil (hK2 _ _ ?_)
    clear hK2 K2
    refine wk_cond_t rfl ?_
    refine wk_seq fun K2 hK2 => ?_
    refine wk_reg ?_
    repeat' (first | refine a_mov ?_ | refine a_asg ?_ | refine a_binN ?_ | refine a_notd ?_ | refine a_notb ?_ | refine a_nilc ?_ | refine a_fa ?_ | refine a_ext ?_ | refine a_lenv ?_ | refine a_lens ?_ | refine a_pick_t ?_ | refine a_pick_f ?_ | refine a_not ?_ | refine a_nilf ?_ | (refine a_bin ?_ ?_ <;> intro _ <;> try (exfalso; omega)) | refine a_ld hl ?_ | (refine a_st hl ?_; clear hl; intro _ hl) | refine a_ix (fun _ => ?_) | fail)
    refine o_nil (hK2 _ _ ?_)
    refine wk_ret (retQ_tmp1 Tryd.results6 (by decide) rfl (by conv => lhs; whnf) ?_)
    exact ⟨rfl, hx.trans hx4⟩
  repeat' (first | refine a_mov ?_ | refine a_asg ?_ | refine a_binN ?_ | refine a_notd ?_ | refine a_notb ?_ | refine a_nilc ?_ | refine a_fa ?_ | refine a_ext ?_ | refine a_lenv ?_ | refine a_lens ?_ | refine a_pick_t ?_ | refine a_pick_f ?_ | refine a_not ?_ | refine a_nilf ?_ | (refine a_bin ?_ ?_ <;> intro _ <;> try (exfalso; omega)) | refine a_ld hl ?_ | (refine a_st hl ?_; clear hl; intro _ hl) | refine a_ix (fun _ => ?_) | fail)
  refine o_nil (hK2 _ _ ?_)
  clear hK2 K2
  refine wk_cond_f rfl ?_
  refine wk_skip (hK _ _ ?_)
  clear hK K
  replace ht := ht.ext hx4
  replace hd := hd.ext hx4
  replace ha := ha.ext hx4
  replace hrd := hrd.ext hx4
  replace hx := hx.trans hx4
  clear hx4 hx5 hfa
  obtain ⟨hvd, hfc⟩ := fitsB_parts hfb
  have hg := (valid_iff F).1 hvd
  have h60 := hg.2.2
  have hcl := ((Fo.fitsC_iff F a).1 hfc).1
  refine wk_seq fun K hK => ?_
  refine wk_reg ?_
  refine o_build [.slice none 0 0] rfl rfl ?_
  refine o_buildSlice0 (LH.start w5 (fun _ => False)) rfl rfl rfl ?_
  intro b0 w6 hb0 hl
  refine o_alloc hl [.slice none 0 0] rfl rfl ?_
  clear hl
  intro b6 w7 hb6 hl
  refine o_putN (us := [.slice none 0 0]) hl rfl rfl rfl rfl rfl (.here rfl rfl) ?_
  clear hl
  intro w8 hl
  refine a_asg ?_
  refine o_nil (hK _ _ ?_)
  clear hK K
  refine wk_seq fun K hK => ?_
  refine wk_seq fun K2 hK2 => ?_
  refine wk_reg ?_
  repeat' (first | refine a_mov ?_ | refine a_asg ?_ | refine a_binN ?_ | refine a_notd ?_ | refine a_notb ?_ | refine a_nilc ?_ | refine a_fa ?_ | refine a_ext ?_ | refine a_lenv ?_ | refine a_lens ?_ | refine a_pick_t ?_ | refine a_pick_f ?_ | refine a_not ?_ | refine a_nilf ?_ | (refine a_bin ?_ ?_ <;> intro _ <;> try (exfalso; omega)) | refine a_ld hl ?_ | (refine a_st hl ?_; clear hl; intro _ hl) | refine a_ix (fun _ => ?_) | fail)
  refine o_nil (hK2 _ _ ?_)
  clear hK2 K2
  refine wk_block ?_
  refine wk_loopH [] rfl (fun q : Nat × (Value × List (Nat × Obj)) × Value × List (Nat × Obj) => [(1, .slice aa a.length ac), (2, .pointer (some ⟨b2, 0, none⟩)), (5, .bool true), (6, .pointer (some ⟨b6, 0, none⟩)), (7, q.2.2.1), (8, .int .i64 ((a.length : Int) - 1 - q.1))])
    (fun q w' => q.1 ≤ F.length ∧ LH w5 (fun _ => False) w' ((b6, .cells [q.2.1.1].toArray 24 (0, 0)) :: (q.2.2.2 ++ q.2.1.2)) ∧ Acc q.2.1.1 4 47 q.1 (factsL (F.reverse.take q.1)) q.2.1.2 ∧ Acc q.2.2.1 1 3 q.1 (intsL (a.reverse.take q.1)) q.2.2.2)
    (fun q => F.length - q.1) (0, (.slice none 0 0, []), .slice (some ⟨b0, 0, none⟩) 0 0, [(b0, .cells #[] 3 (0, 0))]) ⟨rfl, rfl, rfl, rfl, rfl, by rw [show (a.length : Int) - 1 - ((0 : Nat) : Int) = (a.length : Int) - 1 by omega]; rfl, trivial⟩ ⟨Nat.zero_le _, hl, Acc.nil _ _, Acc.empty 1 3 b0⟩ ?_
  clear hl
  rintro ⟨j, ⟨bv, accF⟩, tv, accC⟩ t w9 ⟨hj, hl, hbF, hbC⟩
  simp only at hj hl hbF hbC
  refine wk_seq fun K1 hK1 => ?_
  refine wk_seq fun K2 hK2 => ?_
  refine wk_reg ?_
  by_cases hj1 : j < F.length
  · have hidx : F.length - 1 - j < F.length := by omega
    have hida : F.length - 1 - j < a.length := by omega
    obtain ⟨b, o, hpp, hr0⟩ := Sl.fact (hd.1.ext hl.done) rfl hidx
    have hz : (a.length : Int) - 1 - (j : Int) = ((F.length - 1 - j : Nat) : Int) := by omega
    have htF := rev_take_succ hj1
    have htA : a.reverse.take (j + 1) = a.reverse.take j ++ [a[F.length - 1 - j]] := by
      have := rev_take_succ (l := a) (j := j) (by omega)
      simpa only [hcl] using this
    have hzf : a[F.length - 1 - j] = a[F.length - 1 - j] := rfl
    generalize F[F.length - 1 - j] = f at hr0 htF
    have hone := factL_one f
    obtain ⟨ba, be, rfl⟩ := hbF.shape
    rw [hz]
    repeat' (first | refine a_mov ?_ | refine a_asg ?_ | refine a_binN ?_ | refine a_notd ?_ | refine a_notb ?_ | refine a_nilc ?_ | refine a_fa ?_ | refine a_ext ?_ | refine a_lenv ?_ | refine a_lens ?_ | refine a_pick_t ?_ | refine a_pick_f ?_ | refine a_not ?_ | refine a_nilf ?_ | (refine a_bin ?_ ?_ <;> intro _ <;> try (exfalso; omega)) | refine a_ld hl ?_ | (refine a_st hl ?_; clear hl; intro _ hl) | refine a_ix (fun _ => ?_) | fail)
    refine o_nil (hK2 _ _ ?_)
    clear hK2 K2
    refine wk_cond_t rfl ?_
    refine wk_skip (hK1 _ _ ?_)
    clear hK1 K1
    refine wk_seq fun K1 hK1 => ?_
    refine wk_block ?_
    refine wk_seq fun K2 hK2 => ?_
    refine wk_drawP [0, 1, 2, 3, 4, 5, 6, 9] [1] [7, 8, 10] [] [] (fun w' => To w9 w' w9.heap) (fun w' => w'.heap[b6]? = some (Obj.cells #[.slice ba j be] 24 (0, 0))) rfl (by kernel_rfl) (by intro _ _ _ _ h; first | exact h | (simp only [BlockK, NoGoto, RetQ] at h)) (fun _ h => h) (fun w' h => (hl.heap h).get 0 rfl) ?_
    repeat' (first | refine q_mov ?_ | refine q_asg ?_ | refine q_fa ?_ | refine q_ext ?_ | refine q_binN ?_ | refine q_notd ?_ | refine q_notb ?_ | refine q_pick_t ?_ | refine q_pick_f ?_ | refine q_nilc ?_ | refine q_skip ?_ | refine q_lens ?_ | refine q_lenv ?_ | refine q_nil ?_ | refine q_ix (fun _ => ?_) | (refine q_bin ?_ ?_ <;> intro _ <;> try (exfalso; omega)) | refine q_late rfl rfl rfl rfl (fun w' hw' => r_load rfl rfl (cell_of_block hw' rfl)) ?_ | refine q_row (fun w_ hw_ => (hrd.ext hl.done).ext (Upd.of_heap hw_)) ?_ | refine q_idx (c := 4) (F.length - 1 - j) hpp ?_ | refine q_all (fun w_ hw_ => hr0.ext (Upd.of_heap hw_)) ?_)
    intro w10 hw10
    replace hl := hl.heap hw10
    refine opsD_tail rfl rfl ?_
    refine o_buildSlice hl (factL f) rfl rfl (by simp only [factL, str_eq]; kernel_rfl) ?_
    clear hl
    intro bt w11 hbt hl
    refine o_nil ⟨.inl (hl.get 1 rfl), ?_⟩
    refine opsD_tail rfl rfl ?_
    refine o_append (us := factL f) (bl' := (bt, _) :: (b6, _) :: accC) (bytes := 40) (q := 1) hl hbF (hl.rowL (vs := factL f) 0 0 4 rfl) rfl hone (by decide) (by omega) (by omega) rfl rfl (by kernel_rfl) rfl rfl ?_
    clear hl
    intro v' w12 accF' hl hbF'
    obtain ⟨va, vc, rfl⟩ := hbF'.shape
    refine o_nil ⟨.inr (by kernel_rfl), ?_⟩
    refine opsD_tail rfl rfl ?_
    refine o_put1 (b := b6) (o := 0) (v := .slice va (j + 1) vc) hl rfl rfl rfl ⟨rfl, rfl⟩ rfl (.there (.here rfl rfl)) ?_
    clear hl
    intro w13 hl
    refine o_nil ⟨.inr (by kernel_rfl), ?_⟩
    refine opsD_nil ?_
    unfold PostQ
    refine q_nil ?_
    refine hK2 _ _ ?_
    clear hK2 K2
    have hl : LH w5 (fun _ => False) w13 ((b6, .cells [.slice va (j + 1) vc].toArray 24 (0, 0)) :: (accF' ++ accC)) := (hl.sub (List.sublist_cons_self _ _)).perm (List.Perm.cons _ List.perm_append_comm)
    obtain ⟨p2, o2, hp2, hr2⟩ := Sl.intAt (ha.1.ext hl.done) rfl hida
    refine wk_reg ?_
    repeat' (first | refine a_mov ?_ | refine a_asg ?_ | refine a_binN ?_ | refine a_notd ?_ | refine a_notb ?_ | refine a_nilc ?_ | refine a_fa ?_ | refine a_ext ?_ | refine a_lenv ?_ | refine a_lens ?_ | refine a_pick_t ?_ | refine a_pick_f ?_ | refine a_not ?_ | refine a_nilf ?_ | (refine a_bin ?_ ?_ <;> intro _ <;> try (exfalso; omega)) | refine a_ld hl ?_ | (refine a_st hl ?_; clear hl; intro _ hl) | refine a_ix (fun _ => ?_) | refine a_idx (c := 1) (F.length - 1 - j) hp2 ?_ | refine a_row hr2 ?_ | fail)
    refine o_buildSlice hl [.int .i64 a[F.length - 1 - j]] rfl rfl (by kernel_rfl) ?_
    clear hl
    intro bu w14 hbu hl
    refine o_append (us := [.int .i64 a[F.length - 1 - j]]) (bl' := (bu, _) :: (b6, _) :: accF') (bytes := 8) (q := 1) hl hbC (hl.rowL (vs := [.int .i64 a[F.length - 1 - j]]) 0 0 1 rfl) rfl rfl (by decide) (by omega) (by omega) rfl rfl (by kernel_rfl) rfl rfl ?_
    clear hl
    intro u' w15 accC' hl hbC'
    have hl : LH w5 (fun _ => False) w15 ((b6, .cells [.slice va (j + 1) vc].toArray 24 (0, 0)) :: (accC' ++ accF')) := (hl.sub (List.sublist_cons_self _ _)).perm (List.Perm.cons _ List.perm_append_comm)
    refine a_asg ?_
    refine o_nil (hK1 _ _ ?_)
    clear hK1 K1
    refine wk_reg ?_
    have hz2 : ((F.length - 1 - j : Nat) : Int) - 1 = (a.length : Int) - 1 - ((j + 1 : Nat) : Int) := by omega
    repeat' (first | refine a_mov ?_ | refine a_asg ?_ | refine a_binN ?_ | refine a_notd ?_ | refine a_notb ?_ | refine a_nilc ?_ | refine a_fa ?_ | refine a_ext ?_ | refine a_lenv ?_ | refine a_lens ?_ | refine a_pick_t ?_ | refine a_pick_f ?_ | refine a_not ?_ | refine a_nilf ?_ | (refine a_bin ?_ ?_ <;> intro _ <;> try (exfalso; omega)) | refine a_ld hl ?_ | (refine a_st hl ?_; clear hl; intro _ hl) | refine a_ix (fun _ => ?_) | fail)
    rw [hz2]
    refine o_nil ⟨(j + 1, (.slice va (j + 1) vc, accF'), u', accC'), ⟨rfl, rfl, rfl, rfl, rfl, rfl, trivial⟩, rfl, ⟨hj1, hl, ?_, ?_⟩, by simp only; omega⟩
    · simp only
      rw [htF]
      simpa only [factsL, List.flatMap_append, List.flatMap_cons, List.flatMap_nil, List.append_nil] using hbF'
    · simp only
      rw [htA]
      have e : ∀ (l : List Int) (z : Int), intsL (l ++ [z]) = intsL l ++ [.int .i64 z] := fun l z => by simp [intsL, intL]
      rw [e]
      exact hbC'
  · obtain rfl : j = F.length := by omega
    rw [List.take_of_length_le (by simp)] at hbF
    rw [List.take_of_length_le (by simp; omega)] at hbC
    repeat' (first | refine a_mov ?_ | refine a_asg ?_ | refine a_binN ?_ | refine a_notd ?_ | refine a_notb ?_ | refine a_nilc ?_ | refine a_fa ?_ | refine a_ext ?_ | refine a_lenv ?_ | refine a_lens ?_ | refine a_pick_t ?_ | refine a_pick_f ?_ | refine a_not ?_ | refine a_nilf ?_ | (refine a_bin ?_ ?_ <;> intro _ <;> try (exfalso; omega)) | refine a_ld hl ?_ | (refine a_st hl ?_; clear hl; intro _ hl) | refine a_ix (fun _ => ?_) | fail)
    refine o_nil (hK2 _ _ ?_)
    clear hK2 K2
    refine wk_cond_f rfl ?_
    refine wk_exit ?_
    refine blockK_same ?_
    refine hK _ _ ?_
    clear hK1 K1
    clear hK K
    have hsC : Sl w9 tv 1 (intsL a.reverse) := LH.acc_sl (l := [(b6, _)] ++ accF) (hl.perm (List.Perm.cons _ List.perm_append_comm)) hbC
    have hsF : Sl w9 bv 4 (factsL F.reverse) := LH.acc_sl (l := (b6, _) :: accC) hl hbF
    have hr6 : Row w9 b6 0 [bv] := hl.rowL (vs := [bv]) 0 0 1 rfl
    have hx9 := hl.done
    clear hl hbF hbC
    have hfr := fits_reverse hfb
    have hpb := parseC_back hfb
    have hFr : F.reverse.length ≤ 9223372036854775806 := by rw [List.length_reverse]; exact hF
    have hAr : a.reverse.length ≤ 9223372036854775806 := by rw [List.length_reverse]; exact hA
    have hFnr : ∀ f ∈ F.reverse, f.name.length ≤ 9223372036854775806 := fun f hf => hFn f (List.mem_reverse.1 hf)
    have hct : ∀ w_, Ext w9 w_ → Calls Tryd.prog 25 #[.agg #[bv], tv] w_ (fun e w' => ∃ x, e = .returned x ∧ x = str (textC F.reverse a.reverse) ∧ Ext w_ w') := fun w_ hx_ => caseText_calls (hsF.ext hx_) (hsC.ext hx_) hFr hAr hFnr ((ht.ext hx9).ext hx_)
    refine wk_seq fun K hK => ?_
    refine wk_drawP [0, 1, 2, 3] [] [4] [5, 6, 7, 8, 9, 10, 11] [] (fun w' => Ext w9 w') (fun _ => True) rfl (by kernel_rfl) (by intro _ _ _ _ h; first | exact h | (simp only [BlockK, NoGoto, RetQ] at h)) (fun _ h => Upd.of_heap h) (fun _ _ => trivial) ?_
    repeat' (first | refine q_mov ?_ | refine q_asg ?_ | refine q_fa ?_ | refine q_ext ?_ | refine q_binN ?_ | refine q_notd ?_ | refine q_notb ?_ | refine q_pick_t ?_ | refine q_pick_f ?_ | refine q_nilc ?_ | refine q_skip ?_ | refine q_lens ?_ | refine q_lenv ?_ | refine q_nil ?_ | refine q_ix (fun _ => ?_) | (refine q_bin ?_ ?_ <;> intro _ <;> try (exfalso; omega)) | refine q_all (fun w_ hw_ => (hrd.ext hx9).ext hw_) ?_ | refine q_all (fun w_ hw_ => hr6.ext hw_) ?_ | refine q_fn hct ?_ | fail)
    intro w10 hx10
    refine opsD_tail rfl rfl ?_
    refine a_fn (parseC_calls2 ((hd.1.ext hx9).ext hx10) hF hFn (textC F.reverse a.reverse)) ?_
    rintro _ w11 ⟨⟨yv, rfl, hyv⟩, hx11⟩
    rw [hpb] at hyv ⊢
    rw [show erO (Sum.inl a : List Int ⊕ (Int × Int)) = 0 from rfl, show atO (Sum.inl a : List Int ⊕ (Int × Int)) = 0 from rfl]
    have hyv : Sl w11 yv 1 (intsL a) := hyv
    refine o_nil ⟨.inl trivial, ?_⟩
    refine opsD_nil ?_
    unfold PostQ
    repeat' (first | refine q_mov ?_ | refine q_asg ?_ | refine q_fa ?_ | refine q_ext ?_ | refine q_binN ?_ | refine q_notd ?_ | refine q_notb ?_ | refine q_pick_t ?_ | refine q_pick_f ?_ | refine q_nilc ?_ | refine q_skip ?_ | refine q_lens ?_ | refine q_lenv ?_ | refine q_nil ?_ | refine q_ix (fun _ => ?_) | (refine q_bin ?_ ?_ <;> intro _ <;> try (exfalso; omega)) | fail)
    refine hK _ _ ?_
    clear hK K
    have hxx := (hx9.trans hx10).trans hx11
    refine wk_seq fun K hK => ?_
    refine wk_reg ?_
    repeat' (first | refine a_mov ?_ | refine a_asg ?_ | refine a_binN ?_ | refine a_notd ?_ | refine a_notb ?_ | refine a_nilc ?_ | refine a_fa ?_ | refine a_ext ?_ | refine a_lenv ?_ | refine a_lens ?_ | refine a_pick_t ?_ | refine a_pick_f ?_ | refine a_not ?_ | refine a_nilf ?_ | (refine a_bin ?_ ?_ <;> intro _ <;> try (exfalso; omega)) | refine a_ld hl ?_ | (refine a_st hl ?_; clear hl; intro _ hl) | refine a_ix (fun _ => ?_) | fail)
    refine a_fn (equal_calls hyv (ha.1.ext hxx) hA hA) ?_
    rintro _ w12 ⟨rfl, hx12⟩
    rw [decide_eq_true rfl]
    repeat' (first | refine a_mov ?_ | refine a_asg ?_ | refine a_binN ?_ | refine a_notd ?_ | refine a_notb ?_ | refine a_nilc ?_ | refine a_fa ?_ | refine a_ext ?_ | refine a_lenv ?_ | refine a_lens ?_ | refine a_pick_t ?_ | refine a_pick_f ?_ | refine a_not ?_ | refine a_nilf ?_ | (refine a_bin ?_ ?_ <;> intro _ <;> try (exfalso; omega)) | refine a_ld hl ?_ | (refine a_st hl ?_; clear hl; intro _ hl) | refine a_ix (fun _ => ?_) | fail)
    refine o_nil (hK _ _ ?_)
    refine wk_ret (retQ_tmp1 Tryd.results6 (by decide) rfl (by conv => lhs; whnf) ?_)
    exact ⟨rfl, (hx.trans hxx).trans hx12⟩
end Go.Proofs
