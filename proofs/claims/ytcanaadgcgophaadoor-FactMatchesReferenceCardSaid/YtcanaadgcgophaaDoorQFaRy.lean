/-
  The reference: Text, CaseText, Least, Next.
-/
import Derived.Test.YtcanaadgcgophaaDoorQFaRh
import Derived.Test.YtcanaadgcgophaaDoorQFaRw
import Derived.Test.YtcanaadgcgophaaDoorQL2
set_option linter.unusedVariables false
set_option linter.unusedSimpArgs false
set_option linter.unnecessarySimpa false
set_option maxRecDepth 10000
namespace Go.Fac
open Go.Fo
theorem joinC_snoc : ∀ (l : List Tx) (t : Tx), joinC (l ++ [t]) = (if l = [] then [] else joinC l ++ [44, 32]) ++ t
  | [], t => by simp [joinC]
  | [a], t => by simp [joinC]
  | a :: b :: l, t => by
    have := joinC_snoc (b :: l) t
    rw [if_neg (by simp)] at this ⊢
    simp only [List.cons_append, joinC] at this ⊢
    rw [this]
    simp
theorem joinC_take {l : List Tx} {k : Nat} (hk : k < l.length) : joinC (l.take (k + 1)) = (if k = 0 then joinC (l.take k) else joinC (l.take k) ++ [44, 32]) ++ l[k] := by
  rw [List.take_succ_eq_append_getElem hk, joinC_snoc]
  by_cases h : k = 0
  · subst h
    simp [joinC]
  · rw [if_neg h, if_neg]
    intro h2
    have := congrArg List.length h2
    rw [List.length_take, List.length_nil] at this
    omega
end Go.Fac
namespace Go.Proofs
open Go Go.Pd Go.Fac Go.Fo
attribute [local irreducible] OpsL W RetQ OpsQ OpsC
theorem decW_calls {z : Int} (h0 : 0 ≤ z) (h1 : z ≤ 1000000) (w : World) : Calls Tryd.prog 57 #[.int .i64 z] w (fun e w' => ∃ x, e = .returned x ∧ x = str (decS z.toNat) ∧ Ext w w') := by
  refine Calls.mono (decimalR_calls h0 h1 w) ?_
  rintro e w' ⟨x, h1, h2, rfl⟩
  exact ⟨x, h1, h2, .refl _ _⟩
set_option maxHeartbeats 8000000 in
theorem text6_calls {F : List Fact} {dv : Value} {w : World} (hd : Sl w dv 4 (factsL F)) (hF : F.length ≤ 9223372036854775806) (hn : ∀ f ∈ F, f.name.length ≤ 9223372036854775806) :
    Calls Tryd.prog 24 #[.agg #[dv]] w (fun e w' => ∃ v, e = .returned v ∧ v = str (textD F) ∧ Ext w w') := by
  obtain ⟨pa, ca, rfl, -⟩ := hd.shape (factsL_len F) (by omega)
  refine calls_of Tryd.func24 rfl Tryd.ntmps24 rfl ?_
  refine wk_seq fun K hK => ?_
  refine wk_reg ?_
  refine o_box (LH.start w (fun _ => False)) [.slice pa F.length ca] rfl rfl rfl ?_
  intro bx w0 hbx hlx
  have hx0 : Ext w w0 := hlx.done
  have hrx : Row w0 bx 0 [.slice pa F.length ca] := hlx.rowL (vs := [.slice pa F.length ca]) 0 0 1 rfl
  have hd0 := hd.ext hx0
  clear hlx
  refine a_asg ?_
  refine o_nil (hK _ _ ?_)
  clear hK K
  refine wk_seq fun K hK => ?_
  refine wk_seq fun K2 hK2 => ?_
  refine wk_reg ?_
  refine a_all hrx ?_
  refine a_fn (valid6_calls hd0 hF hn) ?_
  rintro _ w1 ⟨rfl, hx1⟩
  refine a_notb ?_
  refine o_nil (hK2 _ _ ?_)
  clear hK2 K2
  cases hvd : validD F with
  | false =>
    refine wk_cond_t rfl ?_
    refine wk_seq fun K2 hK2 => ?_
    refine wk_reg ?_
    refine a_asg ?_
    refine o_nil (hK2 _ _ ?_)
    refine wk_ret (retQ_tmp1 Tryd.results24 (by decide) rfl (by conv => lhs; whnf) ?_)
    refine ⟨?_, hx0.trans hx1⟩
    unfold textD
    rw [hvd, if_neg (by decide), str_nil]
  | true =>
  have hg := (valid_iff F).1 hvd
  have h60 := hg.2.2
  refine wk_cond_f rfl ?_
  refine wk_skip (hK _ _ ?_)
  clear hK K
  refine wk_seq fun K hK => ?_
  refine wk_reg ?_
  refine a_asg ?_
  refine o_nil (hK _ _ ?_)
  clear hK K
  refine wk_seq fun K hK => ?_
  refine wk_seq fun K2 hK2 => ?_
  refine wk_reg ?_
  refine a_asg ?_
  refine o_nil (hK2 _ _ ?_)
  clear hK2 K2
  have hrx1 := hrx.ext hx1
  refine wk_block ?_
  refine wk_loopH [] rfl (fun k : Nat => [(1, .pointer (some ⟨bx, 0, none⟩)), (3, str ((F.take k).flatMap factS)), (4, .int .i64 (k : Int))]) (fun k w' => k ≤ F.length ∧ Ext w1 w') (fun k => F.length - k) 0 ⟨rfl, by simp only [List.take_zero, List.flatMap_nil, str_eq]; rfl, rfl, trivial⟩ ⟨Nat.zero_le _, .refl _ _⟩ ?_
  rintro k t w2 ⟨hk, hx2⟩
  have hrx2 := hrx1.ext hx2
  refine wk_seq fun K1 hK1 => ?_
  refine wk_seq fun K2 hK2 => ?_
  refine wk_reg ?_
  by_cases hk1 : k < F.length
  rotate_left
  · have hkF : k = F.length := by omega
    rw [List.take_of_length_le (by omega)]
    repeat' (first | refine a_mov ?_ | refine a_asg ?_ | refine a_binN ?_ | refine a_notd ?_ | refine a_notb ?_ | refine a_nilc ?_ | refine a_fa ?_ | refine a_ext ?_ | refine a_lenv ?_ | refine a_lens ?_ | refine a_pick_t ?_ | refine a_pick_f ?_ | refine a_not ?_ | refine a_nilf ?_ | (refine a_bin ?_ ?_ <;> intro _ <;> try (exfalso; omega)) | refine a_ld hl ?_ | (refine a_st hl ?_; clear hl; intro _ hl) | refine a_ix (fun _ => ?_) | refine a_row hrx2 ?_ | fail)
    refine o_nil (hK2 _ _ ?_)
    clear hK2 K2
    refine wk_cond_f rfl ?_
    refine wk_exit ?_
    refine blockK_same ?_
    refine hK _ _ ?_
    clear hK1 K1
    clear hK K
    refine wk_seq fun K hK => ?_
    refine wk_reg ?_
    repeat' (first | refine a_mov ?_ | refine a_asg ?_ | refine a_binN ?_ | refine a_notd ?_ | refine a_notb ?_ | refine a_nilc ?_ | refine a_fa ?_ | refine a_ext ?_ | refine a_lenv ?_ | refine a_lens ?_ | refine a_pick_t ?_ | refine a_pick_f ?_ | refine a_not ?_ | refine a_nilf ?_ | (refine a_bin ?_ ?_ <;> intro _ <;> try (exfalso; omega)) | refine a_ld hl ?_ | (refine a_st hl ?_; clear hl; intro _ hl) | refine a_ix (fun _ => ?_) | fail)
    refine o_nil (hK _ _ ?_)
    refine wk_ret (retQ_tmp1 Tryd.results24 (by decide) rfl (by conv => lhs; whnf) ?_)
    refine ⟨?_, (hx0.trans hx1).trans hx2⟩
    unfold textD
    rw [if_pos hvd]
  obtain ⟨p1, o1, e1, r1⟩ := Sl.fact ((hd0.ext hx1).ext hx2) rfl hk1
  have hfk := good_fact hg (List.getElem_mem hk1)
  have hone := factL_one F[k]
  have hlk := factS_len2 hg (List.getElem_mem hk1)
  have hlt := factsS_len hg (F.take k) fun f hf => List.mem_of_mem_take hf
  have hsucc : (F.take (k + 1)).flatMap factS = (F.take k).flatMap factS ++ factS F[k] := by
    rw [List.take_succ_eq_append_getElem hk1, List.flatMap_append]
    simp
  rw [List.length_take, Nat.min_eq_left (by omega)] at hlt
  have hlo := dec_len hfk.2.2.1 (by omega)
  have hhi := dec_len (z := F[k].hi) (by omega) hfk.2.2.2.2
  generalize F[k] = f at r1 hfk hone hlk hsucc hlo hhi
  generalize (F.take k).flatMap factS = out at hsucc hlt ⊢
  have hnl := hfk.1
  repeat' (first | refine a_mov ?_ | refine a_asg ?_ | refine a_binN ?_ | refine a_notd ?_ | refine a_notb ?_ | refine a_nilc ?_ | refine a_fa ?_ | refine a_ext ?_ | refine a_lenv ?_ | refine a_lens ?_ | refine a_pick_t ?_ | refine a_pick_f ?_ | refine a_not ?_ | refine a_nilf ?_ | (refine a_bin ?_ ?_ <;> intro _ <;> try (exfalso; omega)) | refine a_ld hl ?_ | (refine a_st hl ?_; clear hl; intro _ hl) | refine a_ix (fun _ => ?_) | refine a_row hrx2 ?_ | fail)
  refine o_nil (hK2 _ _ ?_)
  clear hK2 K2
  refine wk_cond_t rfl ?_
  refine wk_skip (hK1 _ _ ?_)
  clear hK1 K1
  clear hK
  refine wk_seq fun K hK => ?_
  refine wk_block ?_
  refine wk_seq fun K1 hK1 => ?_
  refine wk_reg ?_
  repeat' (first | refine a_mov ?_ | refine a_asg ?_ | refine a_binN ?_ | refine a_notd ?_ | refine a_notb ?_ | refine a_nilc ?_ | refine a_fa ?_ | refine a_ext ?_ | refine a_lenv ?_ | refine a_lens ?_ | refine a_pick_t ?_ | refine a_pick_f ?_ | refine a_not ?_ | refine a_nilf ?_ | (refine a_bin ?_ ?_ <;> intro _ <;> try (exfalso; omega)) | refine a_ld hl ?_ | (refine a_st hl ?_; clear hl; intro _ hl) | refine a_ix (fun _ => ?_) | refine a_row hrx2 ?_ | refine a_idx (c := 4) k e1 ?_ | refine a_all r1 ?_ | fail)
  refine o_alloc (LH.start w2 (fun _ => False)) [.string "".toByteArray, .int .i64 0, .int .i64 0, .int .i64 0] (by kernel_rfl) rfl ?_
  intro b5 w3 hb5 hl
  refine o_putN (us := factL f) hl rfl rfl rfl hone rfl (.here rfl rfl) ?_
  clear hl
  intro w4 hl
  have hrf : Row w4 b5 0 [str f.name, .int .i64 f.kind, .int .i64 f.lo, .int .i64 f.hi] := hl.rowL (vs := factL f) 0 0 4 rfl
  have hx4 := hl.done
  clear hl r1
  refine o_nil (hK1 _ _ ?_)
  clear hK1 K1
  refine wk_seq fun K1 hK1 => ?_
  refine wk_reg ?_
  refine a_mov ?_
  refine a_fa ?_
  refine a_row hrf ?_
  refine o_cat (a := out) (b := f.name) (by omega) rfl rfl rfl ?_
  refine a_asg ?_
  refine o_nil (hK1 _ _ ?_)
  clear hK1 K1
  refine wk_seq fun K1 hK1 => ?_
  refine wk_seq fun K2 hK2 => ?_
  refine wk_reg ?_
  by_cases hk1f : f.kind = 1
  · repeat' (first | refine a_row hrf ?_ | refine a_mov ?_ | refine a_asg ?_ | refine a_binN ?_ | refine a_notd ?_ | refine a_notb ?_ | refine a_nilc ?_ | refine a_fa ?_ | refine a_ext ?_ | refine a_lenv ?_ | refine a_lens ?_ | refine a_pick_t ?_ | refine a_pick_f ?_ | refine a_not ?_ | refine a_nilf ?_ | (refine a_bin ?_ ?_ <;> intro _ <;> try (exfalso; omega)) | refine a_ld hl ?_ | (refine a_st hl ?_; clear hl; intro _ hl) | refine a_ix (fun _ => ?_) | fail)
    refine o_nil (hK2 _ _ ?_)
    clear hK2 K2
    refine wk_cond_t rfl ?_
    refine wk_seq fun K2 hK2 => ?_
    refine wk_reg ?_
    refine a_mov ?_
    refine o_cat (a := out ++ f.name) (b := 32 :: kFlag ++ [59, 10]) (by simp [kFlag]; omega) rfl rfl (by simp only [kFlag, str_eq]; rfl) ?_
    refine a_asg ?_
    refine o_nil (hK2 _ _ ?_)
    clear hK2 K2
    refine wk_exit ?_
    refine blockK_same ?_
    refine hK _ _ ?_
    clear hK1 K1
    refine wk_reg ?_
    repeat' (first | refine a_mov ?_ | refine a_asg ?_ | refine a_binN ?_ | refine a_notd ?_ | refine a_notb ?_ | refine a_nilc ?_ | refine a_fa ?_ | refine a_ext ?_ | refine a_lenv ?_ | refine a_lens ?_ | refine a_pick_t ?_ | refine a_pick_f ?_ | refine a_not ?_ | refine a_nilf ?_ | (refine a_bin ?_ ?_ <;> intro _ <;> try (exfalso; omega)) | refine a_ld hl ?_ | (refine a_st hl ?_; clear hl; intro _ hl) | refine a_ix (fun _ => ?_) | fail)
    refine o_nil ⟨k + 1, ⟨rfl, ?_, rfl, trivial⟩, rfl, ⟨hk1, hx2.trans hx4⟩, by omega⟩
    have hfin : out ++ factS f = out ++ f.name ++ (32 :: kFlag ++ [59, 10]) := by
      unfold factS
      rw [if_pos hk1f]
      simp
    rw [hsucc, hfin]
    rfl
  · repeat' (first | refine a_row hrf ?_ | refine a_mov ?_ | refine a_asg ?_ | refine a_binN ?_ | refine a_notd ?_ | refine a_notb ?_ | refine a_nilc ?_ | refine a_fa ?_ | refine a_ext ?_ | refine a_lenv ?_ | refine a_lens ?_ | refine a_pick_t ?_ | refine a_pick_f ?_ | refine a_not ?_ | refine a_nilf ?_ | (refine a_bin ?_ ?_ <;> intro _ <;> try (exfalso; omega)) | refine a_ld hl ?_ | (refine a_st hl ?_; clear hl; intro _ hl) | refine a_ix (fun _ => ?_) | fail)
    refine o_nil (hK2 _ _ ?_)
    clear hK2 K2
    refine wk_cond_f rfl ?_
    refine wk_skip (hK1 _ _ ?_)
    clear hK1 K1
    refine wk_seq fun K1 hK1 => ?_
    refine wk_cut [] (fun _ : Unit => [(1, .pointer (some ⟨bx, 0, none⟩)), (3, str (out ++ f.name ++ (32 :: kindW f ++ [32]))), (4, .int .i64 (k : Int)), (5, .pointer (some ⟨b5, 0, none⟩))]) (fun _ w' => w' = w4) ?_ ?_
    · refine wk_seq fun K2 hK2 => ?_
      refine wk_reg ?_
      by_cases hk2f : f.kind = 2
      · have hkw : kindW f = kNumber := by unfold kindW; rw [if_pos hk2f]
        repeat' (first | refine a_row hrf ?_ | refine a_mov ?_ | refine a_asg ?_ | refine a_binN ?_ | refine a_notd ?_ | refine a_notb ?_ | refine a_nilc ?_ | refine a_fa ?_ | refine a_ext ?_ | refine a_lenv ?_ | refine a_lens ?_ | refine a_pick_t ?_ | refine a_pick_f ?_ | refine a_not ?_ | refine a_nilf ?_ | (refine a_bin ?_ ?_ <;> intro _ <;> try (exfalso; omega)) | refine a_ld hl ?_ | (refine a_st hl ?_; clear hl; intro _ hl) | refine a_ix (fun _ => ?_) | fail)
        refine o_nil (hK2 _ _ ?_)
        clear hK2 K2
        refine wk_cond_t rfl ?_
        refine wk_reg ?_
        refine a_mov ?_
        refine o_cat (a := out ++ f.name) (b := 32 :: kNumber ++ [32]) (by simp [kNumber]; omega) rfl rfl (by simp only [kNumber, str_eq]; rfl) ?_
        refine a_asg ?_
        exact o_nil ⟨(), ⟨rfl, by rw [hkw]; rfl, rfl, rfl, trivial⟩, rfl, rfl⟩
      · have hkw : kindW f = kDay := by unfold kindW; rw [if_neg hk2f]
        repeat' (first | refine a_row hrf ?_ | refine a_mov ?_ | refine a_asg ?_ | refine a_binN ?_ | refine a_notd ?_ | refine a_notb ?_ | refine a_nilc ?_ | refine a_fa ?_ | refine a_ext ?_ | refine a_lenv ?_ | refine a_lens ?_ | refine a_pick_t ?_ | refine a_pick_f ?_ | refine a_not ?_ | refine a_nilf ?_ | (refine a_bin ?_ ?_ <;> intro _ <;> try (exfalso; omega)) | refine a_ld hl ?_ | (refine a_st hl ?_; clear hl; intro _ hl) | refine a_ix (fun _ => ?_) | fail)
        refine o_nil (hK2 _ _ ?_)
        clear hK2 K2
        refine wk_cond_f rfl ?_
        refine wk_reg ?_
        refine a_mov ?_
        refine o_cat (a := out ++ f.name) (b := 32 :: kDay ++ [32]) (by simp [kDay]; omega) rfl rfl (by simp only [kDay, str_eq]; rfl) ?_
        refine a_asg ?_
        exact o_nil ⟨(), ⟨rfl, by rw [hkw]; rfl, rfl, rfl, trivial⟩, rfl, rfl⟩
    rintro _ t2 w4 rfl
    refine hK1 _ _ ?_
    clear hK1 K1
    have hkwl : (kindW f).length ≤ 6 := by unfold kindW; split <;> decide
    have hc1 : ∀ w_, Ext w4 w_ → Calls Tryd.prog 57 #[.int .i64 f.lo] w_ (fun e w' => ∃ x, e = .returned x ∧ x = str (decS f.lo.toNat) ∧ Ext w_ w') := fun w_ _ => decW_calls (by omega) (by omega) w_
    have hc2 : ∀ w_, Ext w4 w_ → Calls Tryd.prog 57 #[.int .i64 f.hi] w_ (fun e w' => ∃ x, e = .returned x ∧ x = str (decS f.hi.toNat) ∧ Ext w_ w') := fun w_ _ => decW_calls (by omega) (by omega) w_
    have hfin : out ++ factS f = (((out ++ f.name ++ (32 :: kindW f ++ [32])) ++ decS f.lo.toNat ++ (32 :: kTo ++ [32])) ++ decS f.hi.toNat) ++ [59, 10] := by
      unfold factS
      rw [if_neg hk1f]
      simp
    rw [hfin] at hsucc
    generalize hP : out ++ f.name ++ (32 :: kindW f ++ [32]) = P at hsucc ⊢
    have hPl : P.length ≤ 10000 := by
      rw [← hP]
      simp
      omega
    clear hP hfin
    refine wk_lastQ (List.range 11) (List.dropLast_concat_getLast (by simp)).symm (by kernel_rfl) (by kernel_rfl) ?_
    repeat' (first | refine q_row (fun w_ hw_ => hrf.ext hw_) ?_ | refine q_mov ?_ | refine q_asg ?_ | refine q_fa ?_ | refine q_ext ?_ | refine q_binN ?_ | refine q_notd ?_ | refine q_notb ?_ | refine q_pick_t ?_ | refine q_pick_f ?_ | refine q_nilc ?_ | refine q_skip ?_ | refine q_lens ?_ | refine q_lenv ?_ | refine q_nil ?_ | refine q_ix (fun _ => ?_) | (refine q_bin ?_ ?_ <;> intro _ <;> try (exfalso; omega)) | refine q_fn hc1 ?_ | refine q_fn hc2 ?_ | refine q_pur rfl rfl rfl (fun _ => r_cat (a := P) (b := decS f.lo.toNat) (by omega) rfl rfl) ?_ | refine q_pur (v := str (P ++ decS f.lo.toNat ++ (32 :: kTo ++ [32]))) rfl rfl rfl (fun _ => by exact r_cat (a := P ++ decS f.lo.toNat) (b := 32 :: kTo ++ [32]) (by simp [kTo]; omega) rfl (by simp only [kTo, str_eq]; rfl)) ?_ | refine q_pur rfl rfl rfl (fun _ => r_cat (a := P ++ decS f.lo.toNat ++ (32 :: kTo ++ [32])) (b := decS f.hi.toNat) (by simp [kTo]; omega) rfl rfl) ?_ | refine q_pur (v := str ((P ++ decS f.lo.toNat ++ (32 :: kTo ++ [32])) ++ decS f.hi.toNat ++ [59, 10])) rfl rfl rfl (fun _ => by exact r_cat (a := (P ++ decS f.lo.toNat ++ (32 :: kTo ++ [32])) ++ decS f.hi.toNat) (b := [59, 10]) (by simp [kTo]; omega) rfl (by simp only [str_eq]; rfl)) ?_ | fail)
    intro w5 hx5
    refine a_asg ?_
    refine o_nil (hK _ _ ?_)
    refine wk_reg ?_
    repeat' (first | refine a_mov ?_ | refine a_asg ?_ | refine a_binN ?_ | refine a_notd ?_ | refine a_notb ?_ | refine a_nilc ?_ | refine a_fa ?_ | refine a_ext ?_ | refine a_lenv ?_ | refine a_lens ?_ | refine a_pick_t ?_ | refine a_pick_f ?_ | refine a_not ?_ | refine a_nilf ?_ | (refine a_bin ?_ ?_ <;> intro _ <;> try (exfalso; omega)) | refine a_ld hl ?_ | (refine a_st hl ?_; clear hl; intro _ hl) | refine a_ix (fun _ => ?_) | fail)
    refine o_nil ⟨k + 1, ⟨rfl, ?_, rfl, trivial⟩, rfl, ⟨hk1, (hx2.trans hx4).trans hx5⟩, by omega⟩
    rw [hsucc]
    rfl
set_option maxHeartbeats 8000000 in
theorem caseText6_calls {F : List Fact} {c : List Int} {dv cv : Value} {w : World} (hd : Sl w dv 4 (factsL F)) (hv : Sl w cv 1 (intsL c)) (hF : F.length ≤ 9223372036854775806) (hC : c.length ≤ 9223372036854775806) (hn : ∀ f ∈ F, f.name.length ≤ 9223372036854775806) :
    Calls Tryd.prog 26 #[.agg #[dv], cv] w (fun e w' => ∃ v, e = .returned v ∧ v = str (textC F c) ∧ Ext w w') := by
  obtain ⟨pa, ca, rfl, -⟩ := hd.shape (factsL_len F) (by omega)
  obtain ⟨pc, cc, rfl, -⟩ := hv.shape (intsL_len c) (by omega)
  refine calls_of Tryd.func26 rfl Tryd.ntmps26 rfl ?_
  refine wk_seq fun K hK => ?_
  refine wk_reg ?_
  refine o_box (LH.start w (fun _ => False)) [.slice pa F.length ca] rfl rfl rfl ?_
  intro bx w0 hbx hlx
  have hx0 : Ext w w0 := hlx.done
  have hrx : Row w0 bx 0 [.slice pa F.length ca] := hlx.rowL (vs := [.slice pa F.length ca]) 0 0 1 rfl
  have hd0 := hd.ext hx0
  have hv0 := hv.ext hx0
  clear hlx
  refine a_asg ?_
  refine o_nil (hK _ _ ?_)
  clear hK K
  refine wk_seq fun K hK => ?_
  refine wk_seq fun K2 hK2 => ?_
  refine wk_reg ?_
  refine a_all hrx ?_
  refine a_mov ?_
  refine a_fn (fits6_calls hd0 hv0 hF hC hn) ?_
  rintro _ w1 ⟨rfl, hx1⟩
  refine a_notb ?_
  refine o_nil (hK2 _ _ ?_)
  clear hK2 K2
  cases hfb : fitsB F c with
  | false =>
    refine wk_cond_t rfl ?_
    refine wk_seq fun K2 hK2 => ?_
    refine wk_reg ?_
    refine a_asg ?_
    refine o_nil (hK2 _ _ ?_)
    refine wk_ret (retQ_tmp1 Tryd.results26 (by decide) rfl (by conv => lhs; whnf) ?_)
    refine ⟨?_, hx0.trans hx1⟩
    unfold textC
    rw [hfb, if_neg (by decide), str_nil]
  | true =>
  obtain ⟨hvd, hfc⟩ := fitsB_parts hfb
  have hg := (valid_iff F).1 hvd
  have h60 := hg.2.2
  obtain ⟨hcl, hrng⟩ := (Fo.fitsC_iff F c).1 hfc
  have hil : (itemsS F c).length = F.length := by simp [itemsS, hcl]
  refine wk_cond_f rfl ?_
  refine wk_skip (hK _ _ ?_)
  clear hK K
  refine wk_seq fun K hK => ?_
  refine wk_reg ?_
  refine a_asg ?_
  refine o_nil (hK _ _ ?_)
  clear hK K
  refine wk_seq fun K hK => ?_
  refine wk_seq fun K2 hK2 => ?_
  refine wk_reg ?_
  refine a_asg ?_
  refine o_nil (hK2 _ _ ?_)
  clear hK2 K2
  have hrx1 := hrx.ext hx1
  refine wk_block ?_
  refine wk_loopH [] rfl (fun k : Nat => [(1, .slice pc c.length cc), (2, .pointer (some ⟨bx, 0, none⟩)), (5, str (joinC ((itemsS F c).take k))), (6, .int .i64 (k : Int))]) (fun k w' => k ≤ F.length ∧ Ext w1 w') (fun k => F.length - k) 0 ⟨rfl, rfl, by simp only [List.take_zero, joinC, str_eq]; rfl, rfl, trivial⟩ ⟨Nat.zero_le _, .refl _ _⟩ ?_
  rintro k t w2 ⟨hk, hx2⟩
  have hrx2 := hrx1.ext hx2
  refine wk_seq fun K1 hK1 => ?_
  refine wk_seq fun K2 hK2 => ?_
  refine wk_reg ?_
  by_cases hk1 : k < F.length
  rotate_left
  · rw [List.take_of_length_le (by omega)]
    repeat' (first | refine a_mov ?_ | refine a_asg ?_ | refine a_binN ?_ | refine a_notd ?_ | refine a_notb ?_ | refine a_nilc ?_ | refine a_fa ?_ | refine a_ext ?_ | refine a_lenv ?_ | refine a_lens ?_ | refine a_pick_t ?_ | refine a_pick_f ?_ | refine a_not ?_ | refine a_nilf ?_ | (refine a_bin ?_ ?_ <;> intro _ <;> try (exfalso; omega)) | refine a_ld hl ?_ | (refine a_st hl ?_; clear hl; intro _ hl) | refine a_ix (fun _ => ?_) | fail)
    refine o_nil (hK2 _ _ ?_)
    clear hK2 K2
    refine wk_cond_f rfl ?_
    refine wk_exit ?_
    refine blockK_same ?_
    refine hK _ _ ?_
    clear hK1 K1
    clear hK K
    refine wk_seq fun K hK => ?_
    refine wk_reg ?_
    repeat' (first | refine a_mov ?_ | refine a_asg ?_ | refine a_binN ?_ | refine a_notd ?_ | refine a_notb ?_ | refine a_nilc ?_ | refine a_fa ?_ | refine a_ext ?_ | refine a_lenv ?_ | refine a_lens ?_ | refine a_pick_t ?_ | refine a_pick_f ?_ | refine a_not ?_ | refine a_nilf ?_ | (refine a_bin ?_ ?_ <;> intro _ <;> try (exfalso; omega)) | refine a_ld hl ?_ | (refine a_st hl ?_; clear hl; intro _ hl) | refine a_ix (fun _ => ?_) | fail)
    refine o_nil (hK _ _ ?_)
    refine wk_ret (retQ_tmp1 Tryd.results26 (by decide) rfl (by conv => lhs; whnf) ?_)
    refine ⟨?_, (hx0.trans hx1).trans hx2⟩
    unfold textC
    rw [if_pos hfb]
  have hkc : k < c.length := by omega
  obtain ⟨p1, o1, e1, r1⟩ := Sl.fact ((hd0.ext hx1).ext hx2) rfl hk1
  obtain ⟨p2, o2, e2, r2⟩ := Sl.intAt ((hv0.ext hx1).ext hx2) rfl hkc
  have hfk := good_fact hg (List.getElem_mem hk1)
  have hrk := hrng k hk1 hkc
  have hdl := dec_len (z := c[k]) (by omega) (by omega)
  have hnl := hfk.1
  have hsucc := joinC_take (l := itemsS F c) (k := k) (by omega)
  have hit : (itemsS F c)[k]'(by omega) = F[k].name ++ [32, 61, 32] ++ decS c[k].toNat := by
    simp [itemsS, itemS_eq]
  rw [hit] at hsucc
  have hjl : (joinC ((itemsS F c).take k)).length ≤ 42 * ((itemsS F c).take k).length := joinC_len _ fun t ht => by
    obtain ⟨j, hj, rfl⟩ := List.mem_iff_getElem.1 (List.mem_of_mem_take ht)
    rw [hil] at hj
    have h1 := good_fact hg (List.getElem_mem hj)
    have h2 := hrng j hj (by omega)
    simp only [itemsS, List.getElem_zipWith]
    exact itemS_len h1.1 (by omega) (by omega)
  rw [List.length_take] at hjl
  generalize joinC ((itemsS F c).take k) = out at hsucc hjl ⊢
  have hol : out.length ≤ 10000 := by omega
  clear hit hjl
  repeat' (first | refine a_mov ?_ | refine a_asg ?_ | refine a_binN ?_ | refine a_notd ?_ | refine a_notb ?_ | refine a_nilc ?_ | refine a_fa ?_ | refine a_ext ?_ | refine a_lenv ?_ | refine a_lens ?_ | refine a_pick_t ?_ | refine a_pick_f ?_ | refine a_not ?_ | refine a_nilf ?_ | (refine a_bin ?_ ?_ <;> intro _ <;> try (exfalso; omega)) | refine a_ld hl ?_ | (refine a_st hl ?_; clear hl; intro _ hl) | refine a_ix (fun _ => ?_) | fail)
  refine o_nil (hK2 _ _ ?_)
  clear hK2 K2
  refine wk_cond_t rfl ?_
  refine wk_skip (hK1 _ _ ?_)
  clear hK1 K1
  clear hK
  refine wk_seq fun K hK => ?_
  refine wk_block ?_
  refine wk_seq fun K1 hK1 => ?_
  refine wk_cut [] (fun _ : Unit => [(1, .slice pc c.length cc), (2, .pointer (some ⟨bx, 0, none⟩)), (5, str (if k = 0 then out else out ++ [44, 32])), (6, .int .i64 (k : Int))]) (fun _ w' => w' = w2) ?_ ?_
  · refine wk_seq fun K2 hK2 => ?_
    refine wk_reg ?_
    by_cases hz : k = 0
    · repeat' (first | refine a_mov ?_ | refine a_asg ?_ | refine a_binN ?_ | refine a_notd ?_ | refine a_notb ?_ | refine a_nilc ?_ | refine a_fa ?_ | refine a_ext ?_ | refine a_lenv ?_ | refine a_lens ?_ | refine a_pick_t ?_ | refine a_pick_f ?_ | refine a_not ?_ | refine a_nilf ?_ | (refine a_bin ?_ ?_ <;> intro _ <;> try (exfalso; omega)) | refine a_ld hl ?_ | (refine a_st hl ?_; clear hl; intro _ hl) | refine a_ix (fun _ => ?_) | fail)
      refine o_nil (hK2 _ _ ?_)
      clear hK2 K2
      refine wk_cond_f rfl ?_
      exact wk_skip ⟨(), ⟨rfl, rfl, by rw [if_pos hz]; rfl, rfl, trivial⟩, rfl, rfl⟩
    · repeat' (first | refine a_mov ?_ | refine a_asg ?_ | refine a_binN ?_ | refine a_notd ?_ | refine a_notb ?_ | refine a_nilc ?_ | refine a_fa ?_ | refine a_ext ?_ | refine a_lenv ?_ | refine a_lens ?_ | refine a_pick_t ?_ | refine a_pick_f ?_ | refine a_not ?_ | refine a_nilf ?_ | (refine a_bin ?_ ?_ <;> intro _ <;> try (exfalso; omega)) | refine a_ld hl ?_ | (refine a_st hl ?_; clear hl; intro _ hl) | refine a_ix (fun _ => ?_) | fail)
      refine o_nil (hK2 _ _ ?_)
      clear hK2 K2
      refine wk_cond_t rfl ?_
      refine wk_reg ?_
      refine a_mov ?_
      refine o_cat (a := out) (b := [44, 32]) (by simp; omega) rfl rfl (by simp only [str_eq]; rfl) ?_
      refine a_asg ?_
      exact o_nil ⟨(), ⟨rfl, rfl, by rw [if_neg hz]; rfl, rfl, trivial⟩, rfl, rfl⟩
  rintro _ t2 w2 rfl
  refine hK1 _ _ ?_
  clear hK1 K1
  have hPl : (if k = 0 then out else out ++ [44, 32]).length ≤ 20000 := by
    split
    · omega
    · simp
      omega
  generalize (if k = 0 then out else out ++ [44, 32]) = P at hsucc hPl ⊢
  have hc1 : ∀ w_, Ext w2 w_ → Calls Tryd.prog 57 #[.int .i64 c[k]] w_ (fun e w' => ∃ x, e = .returned x ∧ x = str (decS c[k].toNat) ∧ Ext w_ w') := fun w_ _ => decW_calls (by omega) (by omega) w_
  refine wk_lastQ (List.range 15) (List.dropLast_concat_getLast (by simp)).symm (by kernel_rfl) (by kernel_rfl) ?_
  repeat' (first | refine q_row (fun w_ hw_ => hrx2.ext hw_) ?_ | refine q_row (fun w_ hw_ => r1.ext hw_) ?_ | refine q_row (fun w_ hw_ => r2.ext hw_) ?_ | refine q_mov ?_ | refine q_asg ?_ | refine q_fa ?_ | refine q_ext ?_ | refine q_binN ?_ | refine q_notd ?_ | refine q_notb ?_ | refine q_pick_t ?_ | refine q_pick_f ?_ | refine q_nilc ?_ | refine q_skip ?_ | refine q_lens ?_ | refine q_lenv ?_ | refine q_nil ?_ | refine q_ix (fun _ => ?_) | (refine q_bin ?_ ?_ <;> intro _ <;> try (exfalso; omega)) | refine q_idx (c := 4) k e1 ?_ | refine q_idx (c := 1) k e2 ?_ | refine q_fn hc1 ?_ | refine q_pur rfl rfl rfl (fun _ => r_cat (a := P) (b := F[k].name) (by omega) rfl rfl) ?_ | refine q_pur (v := str (P ++ F[k].name ++ [32, 61, 32])) rfl rfl rfl (fun _ => by exact r_cat (a := P ++ F[k].name) (b := [32, 61, 32]) (by simp; omega) rfl (by simp only [str_eq]; rfl)) ?_ | refine q_pur rfl rfl rfl (fun _ => r_cat (a := P ++ F[k].name ++ [32, 61, 32]) (b := decS c[k].toNat) (by simp; omega) rfl rfl) ?_ | fail)
  intro w5 hx5
  refine a_asg ?_
  refine o_nil (hK _ _ ?_)
  refine wk_reg ?_
  repeat' (first | refine a_mov ?_ | refine a_asg ?_ | refine a_binN ?_ | refine a_notd ?_ | refine a_notb ?_ | refine a_nilc ?_ | refine a_fa ?_ | refine a_ext ?_ | refine a_lenv ?_ | refine a_lens ?_ | refine a_pick_t ?_ | refine a_pick_f ?_ | refine a_not ?_ | refine a_nilf ?_ | (refine a_bin ?_ ?_ <;> intro _ <;> try (exfalso; omega)) | refine a_ld hl ?_ | (refine a_st hl ?_; clear hl; intro _ hl) | refine a_ix (fun _ => ?_) | fail)
  refine o_nil ⟨k + 1, ⟨rfl, rfl, ?_, rfl, trivial⟩, rfl, ⟨hk1, hx2.trans hx5⟩, by omega⟩
  rw [hsucc, ← List.append_assoc, ← List.append_assoc]
  rfl
set_option maxHeartbeats 4000000 in
theorem least6_calls {F : List Fact} {dv : Value} {w : World} (hd : Sl w dv 4 (factsL F)) (hF : F.length ≤ 9223372036854775806) (hn : ∀ f ∈ F, f.name.length ≤ 9223372036854775806) :
    Calls Tryd.prog 30 #[.agg #[dv]] w (fun e w' => ∃ v, e = .returned v ∧ Sl w' v 1 (intsL (leastC F)) ∧ Ext w w') := by
  obtain ⟨pa, ca, rfl, -⟩ := hd.shape (factsL_len F) (by omega)
  refine calls_of Tryd.func30 rfl Tryd.ntmps30 rfl ?_
  refine wk_seq fun K hK => ?_
  refine wk_reg ?_
  refine o_box (LH.start w (fun _ => False)) [.slice pa F.length ca] rfl rfl rfl ?_
  intro bx w0 hbx hlx
  have hx0 : Ext w w0 := hlx.done
  have hrx : Row w0 bx 0 [.slice pa F.length ca] := hlx.rowL (vs := [.slice pa F.length ca]) 0 0 1 rfl
  have hd0 := hd.ext hx0
  clear hlx
  refine a_asg ?_
  refine o_nil (hK _ _ ?_)
  clear hK K
  refine wk_seq fun K hK => ?_
  refine wk_seq fun K2 hK2 => ?_
  refine wk_reg ?_
  refine a_all hrx ?_
  refine a_fn (valid6_calls hd0 hF hn) ?_
  rintro _ w1 ⟨rfl, hx1⟩
  refine a_notb ?_
  refine o_nil (hK2 _ _ ?_)
  clear hK2 K2
  cases hvd : validD F with
  | false =>
    refine wk_cond_t rfl ?_
    refine wk_seq fun K2 hK2 => ?_
    refine wk_reg ?_
    refine a_asg ?_
    refine o_nil (hK2 _ _ ?_)
    refine wk_ret (retQ_tmp1 Tryd.results30 (by decide) rfl (by conv => lhs; whnf) ?_)
    refine ⟨?_, hx0.trans hx1⟩
    unfold leastC
    rw [hvd, if_neg (by decide)]
    exact Sl.nil _ _
  | true =>
  have hg := (valid_iff F).1 hvd
  have h60 := hg.2.2
  refine wk_cond_f rfl ?_
  refine wk_skip (hK _ _ ?_)
  clear hK K
  refine wk_seq fun K hK => ?_
  refine wk_reg ?_
  refine a_asg ?_
  refine o_nil (hK _ _ ?_)
  clear hK K
  refine wk_seq fun K hK => ?_
  refine wk_seq fun K2 hK2 => ?_
  refine wk_reg ?_
  refine a_asg ?_
  refine o_nil (hK2 _ _ ?_)
  clear hK2 K2
  refine wk_block ?_
  refine wk_loopH [] rfl (fun q : Nat × Value × List (Nat × Obj) => [(1, .pointer (some ⟨bx, 0, none⟩)), (3, q.2.1), (4, .int .i64 (q.1 : Int))])
    (fun q w' => q.1 ≤ F.length ∧ LH w1 (fun _ => False) w' q.2.2 ∧ Acc q.2.1 1 3 q.1 (intsL ((F.map (·.lo)).take q.1)) q.2.2) (fun q => F.length - q.1) (0, .slice none 0 0, []) ⟨rfl, rfl, rfl, trivial⟩ ⟨by omega, LH.start w1 _, Acc.nil _ _⟩ ?_
  rintro ⟨k, v, acc⟩ t w3 ⟨hk, hl, ha⟩
  simp only at hk hl ha
  have hx3 := hl.done
  have hr3 := (hrx.ext hx1).ext hx3
  refine wk_seq fun K1 hK1 => ?_
  refine wk_seq fun K2 hK2 => ?_
  refine wk_reg ?_
  by_cases hk1 : k < F.length
  · obtain ⟨bk, o, hp1, hr1⟩ := Sl.fact ((hd0.ext hx1).ext hx3) rfl hk1
    have htk : (F.map (·.lo)).take (k + 1) = (F.map (·.lo)).take k ++ [F[k].lo] := by
      rw [List.take_succ_eq_append_getElem (by simpa using hk1)]
      simp
    repeat' (first | refine a_mov ?_ | refine a_asg ?_ | refine a_binN ?_ | refine a_notd ?_ | refine a_notb ?_ | refine a_nilc ?_ | refine a_fa ?_ | refine a_ext ?_ | refine a_lenv ?_ | refine a_lens ?_ | refine a_pick_t ?_ | refine a_pick_f ?_ | refine a_not ?_ | refine a_nilf ?_ | (refine a_bin ?_ ?_ <;> intro _ <;> try (exfalso; omega)) | refine a_ld hl ?_ | (refine a_st hl ?_; clear hl; intro _ hl) | refine a_ix (fun _ => ?_) | refine a_row hr3 ?_ | fail)
    refine o_nil (hK2 _ _ ?_)
    clear hK2 K2
    refine wk_cond_t rfl ?_
    refine wk_skip (hK1 _ _ ?_)
    clear hK1 K1
    clear hK
    refine wk_seq fun K hK => ?_
    refine wk_block ?_
    refine wk_reg ?_
    refine a_mov ?_
    refine a_fa ?_
    refine a_row hr3 ?_
    refine a_mov ?_
    refine a_idx (c := 4) k hp1 ?_
    refine a_fa ?_
    refine a_row hr1 ?_
    refine o_buildSlice hl [.int .i64 F[k].lo] rfl rfl (by kernel_rfl) ?_
    clear hl
    intro bq w7 hbq hl
    refine o_append (bl' := [(bq, _)]) (bytes := 8) (q := 1) hl ha (hl.rowL (vs := [.int .i64 F[k].lo]) 0 0 1 rfl) rfl rfl (by decide) (by omega) (by omega) rfl rfl (by kernel_rfl) rfl rfl ?_
    clear hl
    intro v' w8 acc' hl ha'
    refine a_asg ?_
    refine o_nil (hK _ _ ?_)
    clear hK K
    refine wk_reg ?_
    repeat' (first | refine a_mov ?_ | refine a_asg ?_ | refine a_binN ?_ | refine a_notd ?_ | refine a_notb ?_ | refine a_nilc ?_ | refine a_fa ?_ | refine a_ext ?_ | refine a_lenv ?_ | refine a_lens ?_ | refine a_pick_t ?_ | refine a_pick_f ?_ | refine a_not ?_ | refine a_nilf ?_ | (refine a_bin ?_ ?_ <;> intro _ <;> try (exfalso; omega)) | refine a_ld hl ?_ | (refine a_st hl ?_; clear hl; intro _ hl) | refine a_ix (fun _ => ?_) | fail)
    refine o_nil ⟨(k + 1, v', acc'), ⟨rfl, rfl, rfl, trivial⟩, rfl, ⟨hk1, hl.sub (List.sublist_cons_self _ _), ?_⟩, by simp only; omega⟩
    simp only
    rw [htk]
    have e : ∀ (l : List Int) (z : Int), intsL (l ++ [z]) = intsL l ++ [.int .i64 z] := fun l z => by simp [intsL, intL]
    rw [e]
    exact ha'
  · obtain rfl : k = F.length := by omega
    rw [List.take_of_length_le (by simp)] at ha
    repeat' (first | refine a_mov ?_ | refine a_asg ?_ | refine a_binN ?_ | refine a_notd ?_ | refine a_notb ?_ | refine a_nilc ?_ | refine a_fa ?_ | refine a_ext ?_ | refine a_lenv ?_ | refine a_lens ?_ | refine a_pick_t ?_ | refine a_pick_f ?_ | refine a_not ?_ | refine a_nilf ?_ | (refine a_bin ?_ ?_ <;> intro _ <;> try (exfalso; omega)) | refine a_ld hl ?_ | (refine a_st hl ?_; clear hl; intro _ hl) | refine a_ix (fun _ => ?_) | refine a_row hr3 ?_ | fail)
    refine o_nil (hK2 _ _ ?_)
    clear hK2 K2
    refine wk_cond_f rfl ?_
    refine wk_exit ?_
    refine blockK_same ?_
    refine hK _ _ ?_
    clear hK1 K1
    clear hK K
    have hjs : Sl w3 v 1 (intsL (F.map (·.lo))) := LH.acc_sl (l := []) hl ha
    refine wk_seq fun K hK => ?_
    refine wk_reg ?_
    refine a_mov ?_
    refine a_asg ?_
    refine o_nil (hK _ _ ?_)
    clear hK K
    refine wk_ret (retQ_tmp1 Tryd.results30 (by decide) rfl (by conv => lhs; whnf) ?_)
    refine ⟨?_, (hx0.trans hx1).trans hx3⟩
    unfold leastC
    rw [if_pos hvd]
    exact hjs
end Go.Proofs
