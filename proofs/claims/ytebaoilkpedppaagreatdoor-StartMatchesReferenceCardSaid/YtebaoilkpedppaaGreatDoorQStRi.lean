/-
  Conditions of commencement: the program's Same.
-/
import Derived.Test.YtebaoilkpedppaaGreatDoorQSF
import Derived.Test.YtebaoilkpedppaaGreatDoorQStAf
set_option linter.unusedVariables false
set_option linter.unusedSimpArgs false
set_option linter.unnecessarySimpa false
set_option maxRecDepth 10000
namespace Go.Proofs
open Go Go.Pd Go.Sta
attribute [local irreducible] OpsL W RetQ OpsQ OpsC
def SameS (a : Sn) : Prop := ∀ (b : Sn) (w : World) (av bv : Value), KA w a.kids av → KA w b.kids bv → fitS b → Calls Tryz.prog 20 #[.agg (snL a av).toArray, .agg (snL b bv).toArray] w (fun e w' => ∃ v, e = .returned v ∧ ∃ q, v = .bool q ∧ (q = true ↔ a = b) ∧ Ext w w')
set_option maxHeartbeats 4000000 in
theorem eqF_calls {xs ys : List Sn} {w : World} {av bv : Value} (ha : KA w xs av) (hb : KA w ys bv) (hn : xs.length ≤ 140737488351232) (hm : ys.length ≤ 140737488351232) (hbs : fitL ys) (hc : ∀ k ∈ xs, SameS k) :
    Calls Tryz.prog 42 #[av, bv, .func (.func 20) #[] #[]] w (fun e w' => ∃ v, e = .returned v ∧ ∃ q, v = .bool q ∧ (q = true ↔ xs = ys) ∧ Ext w w') := by
  obtain ⟨aa, ac, rfl, -⟩ := ha.shape
  obtain ⟨ba, bc, rfl, -⟩ := hb.shape
  refine calls_of Tryz.func42 rfl Tryz.ntmps42 rfl ?_
  refine wk_seq fun K hK => ?_
  refine wk_reg ?_
  refine a_asg ?_
  refine o_nil (hK _ _ ?_)
  clear hK K
  refine wk_seq fun K hK => ?_
  refine wk_seq fun K2 hK2 => ?_
  refine wk_reg ?_
  by_cases hlen : xs.length = ys.length
  rotate_left
  · repeat' (first | refine a_mov ?_ | refine a_asg ?_ | refine a_binN ?_ | refine a_notd ?_ | refine a_notb ?_ | refine a_nilc ?_ | refine a_fa ?_ | refine a_ext ?_ | refine a_lenv ?_ | refine a_lens ?_ | refine a_pick_t ?_ | refine a_pick_f ?_ | refine a_not ?_ | refine a_nilf ?_ | (refine a_bin ?_ ?_ <;> intro _ <;> try (exfalso; omega)) | refine a_ld hl ?_ | (refine a_st hl ?_; clear hl; intro _ hl) | refine a_ix (fun _ => ?_) | fail)
    refine o_nil (hK2 _ _ ?_)
    clear hK2 K2
    refine wk_cond_t rfl ?_
    refine wk_seq fun K2 hK2 => ?_
    refine wk_reg ?_
    refine a_asg ?_
    refine o_nil (hK2 _ _ ?_)
    refine wk_ret (retQ_tmp1 Tryz.results42 (by decide) rfl (by conv => lhs; whnf) ?_)
    exact ⟨false, rfl, ⟨(fun h => nomatch h), fun h => absurd (by rw [h]) hlen⟩, .refl _ _⟩
  repeat' (first | refine a_mov ?_ | refine a_asg ?_ | refine a_binN ?_ | refine a_notd ?_ | refine a_notb ?_ | refine a_nilc ?_ | refine a_fa ?_ | refine a_ext ?_ | refine a_lenv ?_ | refine a_lens ?_ | refine a_pick_t ?_ | refine a_pick_f ?_ | refine a_not ?_ | refine a_nilf ?_ | (refine a_bin ?_ ?_ <;> intro _ <;> try (exfalso; omega)) | refine a_ld hl ?_ | (refine a_st hl ?_; clear hl; intro _ hl) | refine a_ix (fun _ => ?_) | fail)
  refine o_nil (hK2 _ _ ?_)
  clear hK2 K2
  refine wk_cond_f rfl ?_
  refine wk_skip (hK _ _ ?_)
  clear hK K
  refine wk_seq fun K hK => ?_
  refine wk_seq fun K2 hK2 => ?_
  refine wk_reg ?_
  repeat' (first | refine a_mov ?_ | refine a_asg ?_ | refine a_binN ?_ | refine a_notd ?_ | refine a_notb ?_ | refine a_nilc ?_ | refine a_fa ?_ | refine a_ext ?_ | refine a_lenv ?_ | refine a_lens ?_ | refine a_pick_t ?_ | refine a_pick_f ?_ | refine a_not ?_ | refine a_nilf ?_ | (refine a_bin ?_ ?_ <;> intro _ <;> try (exfalso; omega)) | refine a_ld hl ?_ | (refine a_st hl ?_; clear hl; intro _ hl) | refine a_ix (fun _ => ?_) | fail)
  refine o_nil (hK2 _ _ ?_)
  clear hK2 K2
  refine wk_block ?_
  refine wk_loopH [] rfl (fun i : Nat => [(1, .slice ba ys.length bc), (2, .func (.func 20) #[] #[]), (15, .slice aa xs.length ac), (16, .int .i64 (xs.length : Int)), (17, .int .i64 (i : Int))]) (fun i w' => (i ≤ xs.length ∧ xs.take i = ys.take i) ∧ Ext w w') (fun i => xs.length - i) 0 ⟨rfl, rfl, rfl, rfl, rfl, trivial⟩ ⟨⟨Nat.zero_le _, by simp⟩, .refl _ _⟩ ?_
  rintro i t w2 ⟨⟨hi, hpre⟩, hx⟩
  refine wk_seq fun K1 hK1 => ?_
  refine wk_reg ?_
  by_cases hi1 : i < xs.length
  · have hi2 : i < ys.length := by omega
    obtain ⟨p1, o1, k1, rfl, r1, q1⟩ := (ha.ext hx).at hi1
    obtain ⟨p2, o2, k2, rfl, r2, q2⟩ := (hb.ext hx).at hi2
    have hone1 := snL_one q1
    have hone2 := snL_one q2
    repeat' (first | refine a_mov ?_ | refine a_asg ?_ | refine a_binN ?_ | refine a_notd ?_ | refine a_notb ?_ | refine a_nilc ?_ | refine a_fa ?_ | refine a_ext ?_ | refine a_lenv ?_ | refine a_lens ?_ | refine a_pick_t ?_ | refine a_pick_f ?_ | refine a_not ?_ | refine a_nilf ?_ | (refine a_bin ?_ ?_ <;> intro _ <;> try (exfalso; omega)) | refine a_ld hl ?_ | (refine a_st hl ?_; clear hl; intro _ hl) | refine a_ix (fun _ => ?_) | fail)
    refine o_nil (hK1 _ _ ?_)
    clear hK1 K1
    refine wk_seq fun K1 hK1 => ?_
    refine wk_cond_t rfl ?_
    refine wk_skip (hK1 _ _ ?_)
    clear hK1 K1
    refine wk_seq fun K1 hK1 => ?_
    refine wk_block ?_
    refine wk_seq fun K2 hK2 => ?_
    refine wk_reg ?_
    refine a_mov ?_
    refine a_idx (c := 4) i rfl ?_
    refine a_all r1 ?_
    refine o_alloc (LH.start w2 (fun _ => False)) [.int .i64 0, .string "".toByteArray, .int .i64 0, .slice none 0 0] (by kernel_rfl) rfl ?_
    intro b8 w3 hb8 hl
    refine a_asg ?_
    refine o_putN (us := snL xs[i] k1) hl rfl rfl rfl hone1 rfl (.here rfl rfl) ?_
    clear hl
    intro w4 hl
    refine o_nil (hK2 _ _ ?_)
    clear hK2 K2
    refine wk_seq fun K2 hK2 => ?_
    refine wk_reg ?_
    refine a_mov ?_
    refine a_mov ?_
    refine a_idx (c := 4) i rfl ?_
    refine a_all (r2.ext hl.done) ?_
    refine o_alloc hl [.int .i64 0, .string "".toByteArray, .int .i64 0, .slice none 0 0] (by kernel_rfl) rfl ?_
    clear hl
    intro b9 w5 hb9 hl
    refine o_putN (us := snL ys[i] k2) hl rfl rfl rfl hone2 rfl (.here rfl rfl) ?_
    clear hl
    intro w6 hl
    refine o_nil (hK2 _ _ ?_)
    clear hK2 K2
    refine wk_seq fun K2 hK2 => ?_
    refine wk_reg ?_
    refine a_mov ?_
    refine a_all (hl.rowL (vs := snL xs[i] k1) 1 0 4 rfl) ?_
    refine a_all (hl.rowL (vs := snL ys[i] k2) 0 0 4 rfl) ?_
    have hx6 := hl.done
    clear hl
    refine a_fv (hc xs[i] (List.getElem_mem hi1) ys[i] w6 k1 k2 (KA.ext q1 hx6) (KA.ext q2 hx6) (fitL_mem hbs _ (List.getElem_mem hi2))) ?_
    rintro _ w7 ⟨q, rfl, hq, hx7⟩
    refine a_notb ?_
    refine o_nil (hK2 _ _ ?_)
    clear hK2 K2
    cases q
    · have hne : xs[i] ≠ ys[i] := fun h => by have := hq.2 h; cases this
      refine wk_cond_t rfl ?_
      refine wk_seq fun K2 hK2 => ?_
      refine wk_reg ?_
      refine a_asg ?_
      refine o_nil (hK2 _ _ ?_)
      refine wk_ret (retQ_tmp1 Tryz.results42 (by decide) rfl (by conv => lhs; whnf) ?_)
      exact ⟨false, rfl, ⟨(fun h => nomatch h), fun h => absurd (by subst h; rfl) hne⟩, (hx.trans hx6).trans hx7⟩
    · have heq := hq.1 rfl
      refine wk_cond_f rfl ?_
      refine wk_skip (hK1 _ _ ?_)
      clear hK1 K1
      refine wk_reg ?_
      repeat' (first | refine a_mov ?_ | refine a_asg ?_ | refine a_binN ?_ | refine a_notd ?_ | refine a_notb ?_ | refine a_nilc ?_ | refine a_fa ?_ | refine a_ext ?_ | refine a_lenv ?_ | refine a_lens ?_ | refine a_pick_t ?_ | refine a_pick_f ?_ | refine a_not ?_ | refine a_nilf ?_ | (refine a_bin ?_ ?_ <;> intro _ <;> try (exfalso; omega)) | refine a_ld hl ?_ | (refine a_st hl ?_; clear hl; intro _ hl) | refine a_ix (fun _ => ?_) | fail)
      refine o_nil ⟨i + 1, ⟨rfl, rfl, rfl, rfl, rfl, trivial⟩, rfl, ⟨⟨hi1, ?_⟩, (hx.trans hx6).trans hx7⟩, by omega⟩
      rw [List.take_succ_eq_append_getElem hi1, List.take_succ_eq_append_getElem hi2, hpre, heq]
  · obtain rfl : i = xs.length := by omega
    repeat' (first | refine a_mov ?_ | refine a_asg ?_ | refine a_binN ?_ | refine a_notd ?_ | refine a_notb ?_ | refine a_nilc ?_ | refine a_fa ?_ | refine a_ext ?_ | refine a_lenv ?_ | refine a_lens ?_ | refine a_pick_t ?_ | refine a_pick_f ?_ | refine a_not ?_ | refine a_nilf ?_ | (refine a_bin ?_ ?_ <;> intro _ <;> try (exfalso; omega)) | refine a_ld hl ?_ | (refine a_st hl ?_; clear hl; intro _ hl) | refine a_ix (fun _ => ?_) | fail)
    refine o_nil (hK1 _ _ ?_)
    clear hK1 K1
    refine wk_seq fun K1 hK1 => ?_
    refine wk_cond_f rfl ?_
    refine wk_exit ?_
    refine blockK_same ?_
    refine hK _ _ ?_
    clear hK1 K1
    clear hK K
    refine wk_seq fun K hK => ?_
    refine wk_reg ?_
    refine a_asg ?_
    refine o_nil (hK _ _ ?_)
    refine wk_ret (retQ_tmp1 Tryz.results42 (by decide) rfl (by conv => lhs; whnf) ?_)
    refine ⟨true, rfl, ⟨fun _ => ?_, fun _ => rfl⟩, hx⟩
    rw [List.take_length, hlen, List.take_length] at hpre
    exact hpre
set_option maxHeartbeats 4000000 in
theorem samePS_calls : ∀ (a : Sn), fitS a → SameS a := Sn.ind fun a ih => by
  intro hfa b w av bv ha hb hfb
  obtain ⟨aa, ac, rfl, -⟩ := ha.shape
  obtain ⟨ba, bc, rfl, -⟩ := hb.shape
  obtain ⟨hf1, hf2, hf3⟩ := (fitS_eq a).1 hfa
  obtain ⟨hg1, hg2, hg3⟩ := (fitS_eq b).1 hfb
  refine calls_of Tryz.func20 rfl Tryz.ntmps20 rfl ?_
  refine wk_seq fun K hK => ?_
  refine wk_reg ?_
  refine o_box (LH.start w (fun _ => False)) (snL a (.slice aa a.kids.length ac)) rfl rfl rfl ?_
  intro b2 w1 hb2 hl
  refine o_box hl (snL b (.slice ba b.kids.length bc)) rfl rfl rfl ?_
  clear hl
  intro b3 w2 hb3 hl
  have hra : Row w2 b2 0 (snL a (.slice aa a.kids.length ac)) := hl.rowL (vs := snL a (.slice aa a.kids.length ac)) 1 0 4 rfl
  have hrb : Row w2 b3 0 (snL b (.slice ba b.kids.length bc)) := hl.rowL (vs := snL b (.slice ba b.kids.length bc)) 0 0 4 rfl
  have hx2 := hl.done
  clear hl
  refine a_asg ?_
  refine o_nil (hK _ _ ?_)
  clear hK K
  refine wk_seq fun K hK => ?_
  refine wk_reg ?_
  rcases Classical.em (a.op = b.op ∧ a.name = b.name ∧ a.day = b.day) with hhd | hhd
  · obtain ⟨h1, h2, h3⟩ := hhd
    repeat' (first | refine a_mov ?_ | refine a_asg ?_ | refine a_binN ?_ | refine a_notd ?_ | refine a_notb ?_ | refine a_nilc ?_ | refine a_fa ?_ | refine a_ext ?_ | refine a_lenv ?_ | refine a_lens ?_ | refine a_pick_t ?_ | refine a_pick_f ?_ | refine a_not ?_ | refine a_nilf ?_ | (refine a_bin ?_ ?_ <;> intro _ <;> try (exfalso; omega)) | refine a_ld hl ?_ | (refine a_st hl ?_; clear hl; intro _ hl) | refine a_ix (fun _ => ?_) | refine a_row hra ?_ | refine a_row hrb ?_ | refine o_eqsT (a := a.name) (b := b.name) rfl rfl rfl (fun _ => ?_) (fun h_ => absurd h2 h_) | fail)
    refine a_fn (eqF_calls (ha.ext hx2) (hb.ext hx2) hf2 hg2 hg3 (fun k hk => ih k hk (fitL_mem hf3 k hk))) ?_
    rintro _ w3 ⟨q, rfl, hq, hx3⟩
    repeat' (first | refine a_mov ?_ | refine a_asg ?_ | refine a_binN ?_ | refine a_notd ?_ | refine a_notb ?_ | refine a_nilc ?_ | refine a_fa ?_ | refine a_ext ?_ | refine a_lenv ?_ | refine a_lens ?_ | refine a_pick_t ?_ | refine a_pick_f ?_ | refine a_not ?_ | refine a_nilf ?_ | (refine a_bin ?_ ?_ <;> intro _ <;> try (exfalso; omega)) | refine a_ld hl ?_ | (refine a_st hl ?_; clear hl; intro _ hl) | refine a_ix (fun _ => ?_) | fail)
    refine o_nil (hK _ _ ?_)
    refine wk_ret (retQ_tmp1 Tryz.results20 (by decide) rfl (by conv => lhs; whnf) ?_)
    refine ⟨q, rfl, ?_, hx2.trans hx3⟩
    rw [hq]
    exact ⟨fun h => sn_ext h1 h2 h3 h, fun h => by rw [h]⟩
  · refine o_cut [] (fun _ : Unit => [(4, .bool false)]) (fun _ w' => w' = w2) ?_ ?_
    · by_cases hn : a.name = b.name
      · have hne : ¬ (a.op = b.op ∧ a.day = b.day) := fun h => hhd ⟨h.1, hn, h.2⟩
        repeat' (first | refine a_mov ?_ | refine a_asg ?_ | refine a_binN ?_ | refine a_notd ?_ | refine a_notb ?_ | refine a_nilc ?_ | refine a_fa ?_ | refine a_ext ?_ | refine a_lenv ?_ | refine a_lens ?_ | refine a_pick_t ?_ | refine a_pick_f ?_ | refine a_not ?_ | refine a_nilf ?_ | (refine a_bin ?_ ?_ <;> intro _ <;> try (exfalso; omega)) | refine a_ld hl ?_ | (refine a_st hl ?_; clear hl; intro _ hl) | refine a_ix (fun _ => ?_) | refine a_row hra ?_ | refine a_row hrb ?_ | refine o_eqsT (a := a.name) (b := b.name) rfl rfl rfl (fun _ => ?_) (fun h_ => absurd hn h_) | fail)
        all_goals exact o_nil ⟨(), ⟨rfl, trivial⟩, rfl, rfl⟩
      · repeat' (first | refine a_mov ?_ | refine a_asg ?_ | refine a_binN ?_ | refine a_notd ?_ | refine a_notb ?_ | refine a_nilc ?_ | refine a_fa ?_ | refine a_ext ?_ | refine a_lenv ?_ | refine a_lens ?_ | refine a_pick_t ?_ | refine a_pick_f ?_ | refine a_not ?_ | refine a_nilf ?_ | (refine a_bin ?_ ?_ <;> intro _ <;> try (exfalso; omega)) | refine a_ld hl ?_ | (refine a_st hl ?_; clear hl; intro _ hl) | refine a_ix (fun _ => ?_) | refine a_row hra ?_ | refine a_row hrb ?_ | refine o_eqsT (a := a.name) (b := b.name) rfl rfl rfl (fun h_ => absurd h_ hn) (fun _ => ?_) | fail)
        all_goals exact o_nil ⟨(), ⟨rfl, trivial⟩, rfl, rfl⟩
    rintro _ t w2 rfl
    refine hK _ _ ?_
    refine wk_ret (retQ_tmp1 Tryz.results20 (by decide) rfl (by conv => lhs; whnf) ?_)
    exact ⟨false, rfl, ⟨(fun h => nomatch h), fun h => absurd (by subst h; exact ⟨rfl, rfl, rfl⟩) hhd⟩, hx2⟩
end Go.Proofs
