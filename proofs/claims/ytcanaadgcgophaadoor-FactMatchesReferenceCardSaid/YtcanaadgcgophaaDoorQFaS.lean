/-
  Facts: the canonical text of a domain.
-/
import Derived.Test.YtcanaadgcgophaaDoorQFaR
import Derived.Test.YtcanaadgcgophaaDoorQFC
import Derived.Test.YtcanaadgcgophaaDoorQFD
set_option linter.unusedVariables false
set_option linter.unusedSimpArgs false
set_option linter.unnecessarySimpa false
set_option maxRecDepth 10000
namespace Go.Fac
open Go.Fo
def factW (f : Fact) : List Tx := if f.kind = 1 then [f.name, kFlag] else [f.name, kindW f, decS f.lo.toNat, kTo, decS f.hi.toNat]
theorem factW_join (f : Fact) : Lib.join (factW f) [32] ++ [59, 10] = factS f := by
  unfold factW factS
  split
  · rw [Lib.join_cons]
    simp [Lib.joinTail]
  · rw [Lib.join_cons]
    simp [Lib.joinTail]
end Go.Fac
namespace Go.Proofs
open Go Go.Pd Go.Fac Go.Fo
attribute [local irreducible] OpsL W RetQ OpsQ OpsC
set_option maxHeartbeats 4000000 in
theorem factText_calls {F : List Fact} {dv : Value} {w : World} (hd : Sl w dv 4 (factsL F)) (hF : F.length ≤ 9223372036854775806) (hn : ∀ f ∈ F, f.name.length ≤ 9223372036854775806) (ht : Tabs w) :
    Calls Tryd.prog 23 #[.agg #[dv]] w (fun e w' => ∃ v, e = .returned v ∧ v = str (textD F) ∧ Ext w w') := by
  obtain ⟨pa, ca, rfl, -⟩ := hd.shape (factsL_len F) (by omega)
  refine calls_of Tryd.func23 rfl Tryd.ntmps23 rfl ?_
  refine wk_seq fun K hK => ?_
  refine wk_reg ?_
  refine o_box (LH.start w (fun _ => False)) [.slice pa F.length ca] rfl rfl rfl ?_
  intro bx w0 hbx hlx
  have hx0 : Ext w w0 := hlx.done
  have hrx : Row w0 bx 0 [.slice pa F.length ca] := hlx.rowL (vs := [.slice pa F.length ca]) 0 0 1 rfl
  have hd0 := hd.ext hx0
  clear hlx
  refine a_asg ?_
  refine o_nil (hK _ _ ?_)
  clear hK K
  refine wk_seq fun K hK => ?_
  refine wk_seq fun K2 hK2 => ?_
  refine wk_reg ?_
  refine a_all hrx ?_
  refine a_fn (valid_calls hd0 hF hn) ?_
  rintro _ w1 ⟨rfl, hx1⟩
  refine a_notb ?_
  refine o_nil (hK2 _ _ ?_)
  clear hK2 K2
  cases hvd : validD F with
  | false =>
    refine wk_cond_t rfl ?_
    refine wk_seq fun K2 hK2 => ?_
    refine wk_reg ?_
    refine a_asg ?_
    refine o_nil (hK2 _ _ ?_)
    refine wk_ret (retQ_tmp1 Tryd.results23 (by decide) rfl (by conv => lhs; whnf) ?_)
    refine ⟨?_, hx0.trans hx1⟩
    unfold textD
    rw [hvd, if_neg (by decide), str_nil]
  | true =>
    have hg := (valid_iff F).1 hvd
    refine wk_cond_f rfl ?_
    refine wk_skip (hK _ _ ?_)
    clear hK K
    refine wk_seq fun K hK => ?_
    refine wk_reg ?_
    refine o_alloc (LH.start w1 (fun _ => False)) [.pointer none, .slice none 0 0] (by kernel_rfl) rfl ?_
    intro bb w2 hbb hl
    have hib : IsB bb [] w2 := IsB.fresh (hl.get 0 rfl)
    have hxw : Ext w1 w2 := hl.done
    clear hl
    refine o_nil (hK _ _ ?_)
    clear hK K
    refine wk_seq fun K hK => ?_
    refine wk_seq fun K2 hK2 => ?_
    refine wk_reg ?_
    have hr2 := (hrx.ext hx1).ext hxw
    repeat' (first | refine a_mov ?_ | refine a_asg ?_ | refine a_binN ?_ | refine a_notd ?_ | refine a_notb ?_ | refine a_nilc ?_ | refine a_fa ?_ | refine a_ext ?_ | refine a_lenv ?_ | refine a_lens ?_ | refine a_pick_t ?_ | refine a_pick_f ?_ | refine a_not ?_ | refine a_nilf ?_ | (refine a_bin ?_ ?_ <;> intro _ <;> try (exfalso; omega)) | refine a_ld hl ?_ | (refine a_st hl ?_; clear hl; intro _ hl) | refine a_ix (fun _ => ?_) | refine a_row hr2 ?_ | fail)
    refine o_nil (hK2 _ _ ?_)
    clear hK2 K2 hr2
    refine wk_block ?_
    refine wk_loopH [] rfl (fun k : Nat => [(1, .pointer (some ⟨bx, 0, none⟩)), (3, .pointer (some ⟨bb, 0, none⟩)), (12, .slice pa F.length ca), (13, .int .i64 (F.length : Int)), (14, .int .i64 (k : Int))])
      (fun k w' => k ≤ F.length ∧ IsB bb ((F.take k).flatMap factS) w' ∧ Ext w1 w') (fun k => F.length - k) 0 ⟨rfl, rfl, rfl, rfl, rfl, trivial⟩ ⟨by omega, hib, hxw⟩ ?_
    clear hib hxw
    rintro k t w3 ⟨hk, hib, hx3⟩
    refine wk_seq fun K1 hK1 => ?_
    refine wk_reg ?_
    by_cases hk1 : k < F.length
    · obtain ⟨bk, o, hp1, hr1⟩ := Sl.fact ((hd0.ext hx1).ext hx3) rfl hk1
      have hfk := good_fact hg (List.getElem_mem hk1)
      have hlk := factS_len2 hg (List.getElem_mem hk1)
      have hlt := factsS_len hg (F.take k) fun f hf => List.mem_of_mem_take hf
      have h60 := hg.2.2
      have ht3 := ((ht.ext hx0).ext hx1).ext hx3
      have hone := factL_one F[k]
      have hWj := factW_join F[k]
      have hsucc : (F.take (k + 1)).flatMap factS = (F.take k).flatMap factS ++ factS F[k] := by
        rw [List.take_succ_eq_append_getElem hk1, List.flatMap_append]
        simp
      rw [List.length_take, Nat.min_eq_left (by omega)] at hlt
      rw [← hWj] at hsucc hlk
      clear hWj
      generalize F[k] = f at hr1 hfk hlk hone hsucc
      repeat' (first | refine a_mov ?_ | refine a_asg ?_ | refine a_binN ?_ | refine a_notd ?_ | refine a_notb ?_ | refine a_nilc ?_ | refine a_fa ?_ | refine a_ext ?_ | refine a_lenv ?_ | refine a_lens ?_ | refine a_pick_t ?_ | refine a_pick_f ?_ | refine a_not ?_ | refine a_nilf ?_ | (refine a_bin ?_ ?_ <;> intro _ <;> try (exfalso; omega)) | refine a_ld hl ?_ | (refine a_st hl ?_; clear hl; intro _ hl) | refine a_ix (fun _ => ?_) | fail)
      refine o_nil (hK1 _ _ ?_)
      clear hK1 K1
      refine wk_seq fun K1 hK1 => ?_
      refine wk_cond_t rfl ?_
      refine wk_skip (hK1 _ _ ?_)
      clear hK1 K1
      refine wk_seq fun K1 hK1 => ?_
      refine wk_block ?_
      refine wk_seq fun K2 hK2 => ?_
      refine wk_reg ?_
      repeat' (first | refine a_mov ?_ | refine a_asg ?_ | refine a_binN ?_ | refine a_notd ?_ | refine a_notb ?_ | refine a_nilc ?_ | refine a_fa ?_ | refine a_ext ?_ | refine a_lenv ?_ | refine a_lens ?_ | refine a_pick_t ?_ | refine a_pick_f ?_ | refine a_not ?_ | refine a_nilf ?_ | (refine a_bin ?_ ?_ <;> intro _ <;> try (exfalso; omega)) | refine a_ld hl ?_ | (refine a_st hl ?_; clear hl; intro _ hl) | refine a_ix (fun _ => ?_) | refine a_idx (c := 4) k hp1 ?_ | refine a_all hr1 ?_ | fail)
      refine o_alloc (LH.start w3 (fun _ => False)) [.string "".toByteArray, .int .i64 0, .int .i64 0, .int .i64 0] (by kernel_rfl) rfl ?_
      intro b5 w4 hb5 hl
      refine o_putN (us := factL f) hl rfl rfl rfl hone rfl (.here rfl rfl) ?_
      clear hl
      intro w5 hl
      refine o_nil (hK2 _ _ ?_)
      clear hK2 K2
      refine wk_seq fun K2 hK2 => ?_
      refine wk_reg ?_
      have hrf : Row w5 b5 0 [str f.name, .int .i64 f.kind, .int .i64 f.lo, .int .i64 f.hi] := hl.rowL (vs := factL f) 0 0 4 rfl
      repeat' (first | refine a_row hrf ?_ | refine a_mov ?_ | refine a_asg ?_ | refine a_binN ?_ | refine a_notd ?_ | refine a_notb ?_ | refine a_nilc ?_ | refine a_fa ?_ | refine a_ext ?_ | refine a_lenv ?_ | refine a_lens ?_ | refine a_pick_t ?_ | refine a_pick_f ?_ | refine a_not ?_ | refine a_nilf ?_ | (refine a_bin ?_ ?_ <;> intro _ <;> try (exfalso; omega)) | refine a_ld hl ?_ | (refine a_st hl ?_; clear hl; intro _ hl) | refine a_ix (fun _ => ?_) | fail)
      refine o_buildSlice hl [str f.name, str kFlag] rfl rfl (by simp only [kFlag, str_eq]; kernel_rfl) ?_
      clear hl
      intro bq w6 hbq hl
      refine a_asg ?_
      refine o_nil (hK2 _ _ ?_)
      clear hK2 K2 hrf
      have hrf : Row w6 b5 0 [str f.name, .int .i64 f.kind, .int .i64 f.lo, .int .i64 f.hi] := hl.rowL (vs := factL f) 1 0 4 rfl
      refine wk_seq fun K2 hK2 => ?_
      refine wk_cut [] (fun jv : Value => [(1, .pointer (some ⟨bx, 0, none⟩)), (3, .pointer (some ⟨bb, 0, none⟩)), (6, jv), (12, .slice pa F.length ca), (13, .int .i64 (F.length : Int)), (14, .int .i64 (k : Int))]) (fun jv w' => Sl w' jv 1 ((factW f).map str) ∧ Ext w3 w') ?_ ?_
      · refine wk_seq fun K3 hK3 => ?_
        refine wk_reg ?_
        by_cases hk0 : f.kind = 1
        · repeat' (first | refine a_row hrf ?_ | refine a_mov ?_ | refine a_asg ?_ | refine a_binN ?_ | refine a_notd ?_ | refine a_notb ?_ | refine a_nilc ?_ | refine a_fa ?_ | refine a_ext ?_ | refine a_lenv ?_ | refine a_lens ?_ | refine a_pick_t ?_ | refine a_pick_f ?_ | refine a_not ?_ | refine a_nilf ?_ | (refine a_bin ?_ ?_ <;> intro _ <;> try (exfalso; omega)) | refine a_ld hl ?_ | (refine a_st hl ?_; clear hl; intro _ hl) | refine a_ix (fun _ => ?_) | fail)
          refine o_nil (hK3 _ _ ?_)
          clear hK3 K3
          refine wk_cond_f rfl ?_
          refine wk_skip ?_
          refine ⟨_, ⟨rfl, rfl, rfl, rfl, rfl, rfl, trivial⟩, rfl, ?_, hl.done⟩
          unfold factW
          rw [if_pos hk0]
          exact Sl.mk rfl (Nat.le_refl _) (hl.rowL (vs := [str f.name, str kFlag]) 0 0 2 rfl)
        · repeat' (first | refine a_row hrf ?_ | refine a_mov ?_ | refine a_asg ?_ | refine a_binN ?_ | refine a_notd ?_ | refine a_notb ?_ | refine a_nilc ?_ | refine a_fa ?_ | refine a_ext ?_ | refine a_lenv ?_ | refine a_lens ?_ | refine a_pick_t ?_ | refine a_pick_f ?_ | refine a_not ?_ | refine a_nilf ?_ | (refine a_bin ?_ ?_ <;> intro _ <;> try (exfalso; omega)) | refine a_ld hl ?_ | (refine a_st hl ?_; clear hl; intro _ hl) | refine a_ix (fun _ => ?_) | fail)
          refine o_nil (hK3 _ _ ?_)
          clear hK3 K3
          refine wk_cond_t rfl ?_
          refine wk_seq fun K3 hK3 => ?_
          refine wk_reg ?_
          refine o_makeMap hl rfl ?_
          clear hl
          intro bm w7 hbm hl
          refine o_insertB (a := (2 : Int)) (v := str kNumber) hl 0 rfl (MapB.nil 0) (by decide) (key_i64 rfl) rfl rfl rfl rfl (by simp only [kNumber, str_eq]; rfl) ?_
          clear hl
          intro w8 es1 m1 hl
          refine o_insertB (a := (3 : Int)) (v := str kDay) hl 0 rfl m1 (by decide) (key_i64 rfl) rfl rfl rfl rfl (by simp only [kDay, str_eq]; rfl) ?_
          clear hl
          intro w9 es2 m2 hl
          have hrf : Row w9 b5 0 [str f.name, .int .i64 f.kind, .int .i64 f.lo, .int .i64 f.hi] := hl.rowL (vs := factL f) 2 0 4 rfl
          refine a_mov ?_
          refine a_fa ?_
          refine a_row hrf ?_
          refine o_lookup (z := .string ⟨#[]⟩) f.kind m2.r (hl.get 0 rfl) (key_i64 rfl) rfl rfl (by kernel_rfl) rfl rfl ?_
          have hget : (if false = true then Value.tuple #[(Pd.get ([] ++ [((2 : Int), str kNumber)] ++ [((3 : Int), str kDay)]) f.kind).getD (.string ⟨#[]⟩), .bool (Pd.get ([] ++ [((2 : Int), str kNumber)] ++ [((3 : Int), str kDay)]) f.kind).isSome] else (Pd.get ([] ++ [((2 : Int), str kNumber)] ++ [((3 : Int), str kDay)]) f.kind).getD (.string ⟨#[]⟩)) = str (kindW f) := by
            have h23 : f.kind = 2 ∨ f.kind = 3 := by omega
            unfold kindW
            rcases h23 with h | h <;> rw [h] <;> rfl
          rw [hget]
          clear hget
          refine a_asg ?_
          refine o_nil (hK3 _ _ ?_)
          clear hK3 K3
          have ht9 := ht3.ext hl.done
          have hlo : ∀ w_, Ext w9 w_ → Calls Tryd.prog 53 #[.int .i64 f.lo] w_ (fun e w' => ∃ x, e = .returned x ∧ x = str (decS f.lo.toNat) ∧ Ext w_ w') := fun w_ hx => itoa_calls (by omega) (by omega) (ht9.ext hx)
          have hhi : ∀ w_, Ext w9 w_ → Calls Tryd.prog 53 #[.int .i64 f.hi] w_ (fun e w' => ∃ x, e = .returned x ∧ x = str (decS f.hi.toNat) ∧ Ext w_ w') := fun w_ hx => itoa_calls (by omega) (by omega) (ht9.ext hx)
          refine wk_draw (List.range 9) [] [9, 10] (fun w' => Ext w9 w') (fun w' => Ext w9 w') rfl (by kernel_rfl) (by intro _ _ _ _ h; first | exact h | (simp only [BlockK, NoGoto, RetQ] at h)) (fun _ h => Upd.of_heap h) (fun _ h => h) ?_
          repeat' (first | refine q_mov ?_ | refine q_asg ?_ | refine q_fa ?_ | refine q_ext ?_ | refine q_binN ?_ | refine q_notd ?_ | refine q_notb ?_ | refine q_pick_t ?_ | refine q_pick_f ?_ | refine q_nilc ?_ | refine q_skip ?_ | refine q_lens ?_ | refine q_lenv ?_ | refine q_nil ?_ | refine q_ix (fun _ => ?_) | (refine q_bin ?_ ?_ <;> intro _ <;> try (exfalso; omega)) | refine q_row (fun w_ hw_ => hrf.ext hw_) ?_ | refine q_fn hlo ?_ | refine q_fn hhi ?_ | fail)
          intro w10 hx10
          refine ops_tail rfl rfl ?_
          refine o_buildSlice (LH.start w10 (fun _ => False)) [str f.name, str (kindW f), str (decS f.lo.toNat), str kTo, str (decS f.hi.toNat)] rfl rfl (by simp only [kTo, str_eq]; kernel_rfl) ?_
          intro bz w11 hbz hl2
          refine o_nil ⟨hx10.trans hl2.done, ?_⟩
          refine ops_tail rfl rfl ?_
          refine a_asg ?_
          refine o_nil ⟨hx10.trans hl2.done, ?_⟩
          refine ops_nil ?_
          refine ⟨_, ⟨rfl, rfl, rfl, rfl, rfl, rfl, trivial⟩, rfl, ?_, (hl.done.trans hx10).trans hl2.done⟩
          unfold factW
          rw [if_neg hk0]
          exact Sl.mk rfl (Nat.le_refl _) (hl2.rowL (vs := [str f.name, str (kindW f), str (decS f.lo.toNat), str kTo, str (decS f.hi.toNat)]) 0 0 5 rfl)
      clear hl hrf hr1
      rintro jv t2 w7 ⟨hj, hx7⟩
      refine hK2 _ _ ?_
      clear hK2 K2
      refine wk_reg ?_
      have hwl : (factW f).length ≤ 5 := by unfold factW; split <;> simp
      have hjl : (Lib.join (factW f) [32]).length ≤ 100 := by rw [List.length_append] at hlk; omega
      refine a_mov ?_
      refine a_fn (join_calls (xs := factW f) (sep := [32]) hj (by omega) (by omega)) ?_ rfl (fun _ => rfl) (by simp only [str_eq]; rfl)
      rintro _ w8 ⟨rfl, hx8⟩
      generalize Lib.join (factW f) [32] = J at hlk hsucc hjl
      refine o_cat (a := J) (b := [59, 10]) (by simp; omega) rfl rfl (by simp only [str_eq]; rfl) ?_
      have hxs := hx7.trans hx8
      refine a_fn (wstr_calls (hib.ext hxs) (s := J ++ [59, 10]) (by omega)) ?_
      rintro v w9 ⟨hib9, hbl⟩
      refine o_nil (hK1 _ _ ?_)
      clear hK1 K1
      refine wk_reg ?_
      have hx9 : Ext w1 w9 := ext_below hbb (hx3.trans hxs) hbl
      repeat' (first | refine a_mov ?_ | refine a_asg ?_ | refine a_binN ?_ | refine a_notd ?_ | refine a_notb ?_ | refine a_nilc ?_ | refine a_fa ?_ | refine a_ext ?_ | refine a_lenv ?_ | refine a_lens ?_ | refine a_pick_t ?_ | refine a_pick_f ?_ | refine a_not ?_ | refine a_nilf ?_ | (refine a_bin ?_ ?_ <;> intro _ <;> try (exfalso; omega)) | refine a_ld hl ?_ | (refine a_st hl ?_; clear hl; intro _ hl) | refine a_ix (fun _ => ?_) | fail)
      refine o_nil ⟨k + 1, ⟨rfl, rfl, rfl, rfl, rfl, trivial⟩, rfl, ⟨hk1, ?_, hx9⟩, by omega⟩
      rw [hsucc]
      exact hib9
    · obtain rfl : k = F.length := by omega
      rw [List.take_length] at hib
      repeat' (first | refine a_mov ?_ | refine a_asg ?_ | refine a_binN ?_ | refine a_notd ?_ | refine a_notb ?_ | refine a_nilc ?_ | refine a_fa ?_ | refine a_ext ?_ | refine a_lenv ?_ | refine a_lens ?_ | refine a_pick_t ?_ | refine a_pick_f ?_ | refine a_not ?_ | refine a_nilf ?_ | (refine a_bin ?_ ?_ <;> intro _ <;> try (exfalso; omega)) | refine a_ld hl ?_ | (refine a_st hl ?_; clear hl; intro _ hl) | refine a_ix (fun _ => ?_) | fail)
      refine o_nil (hK1 _ _ ?_)
      clear hK1 K1
      refine wk_seq fun K1 hK1 => ?_
      refine wk_cond_f rfl ?_
      refine wk_exit ?_
      refine blockK_same ?_
      refine hK _ _ ?_
      clear hK1 K1
      clear hK K
      refine wk_seq fun K hK => ?_
      refine wk_reg ?_
      refine a_fn (bstr_calls hib) ?_
      rintro _ w4 ⟨rfl, hbl⟩
      refine a_asg ?_
      refine o_nil (hK _ _ ?_)
      clear hK K
      refine wk_ret (retQ_tmp1 Tryd.results23 (by decide) rfl (by conv => lhs; whnf) ?_)
      refine ⟨?_, (hx0.trans hx1).trans (ext_below hbb hx3 hbl)⟩
      unfold textD
      rw [if_pos hvd]
end Go.Proofs
