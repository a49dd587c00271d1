/-
  The reference's Same, and the statement about texts, walked.
-/
import Derived.Test.YtebaoilkpedppaaGreatDoorQStAa
import Derived.Test.YtebaoilkpedppaaGreatDoorQStAb
import Derived.Test.YtebaoilkpedppaaGreatDoorQStX
set_option linter.unusedVariables false
set_option linter.unusedSimpArgs false
set_option linter.unnecessarySimpa false
set_option maxRecDepth 10000
namespace Go.Sta
theorem sn_ext {a b : Sn} (h1 : a.op = b.op) (h2 : a.name = b.name) (h3 : a.day = b.day) (h4 : a.kids = b.kids) : a = b := by
  cases a; cases b
  simp only [Sn.op, Sn.name, Sn.day, Sn.kids] at h1 h2 h3 h4
  subst h1 h2 h3 h4
  rfl
end Go.Sta
namespace Go.Proofs
open Go Go.Pd Go.Sta
attribute [local irreducible] OpsL W RetQ OpsQ OpsC
set_option maxHeartbeats 4000000 in
theorem sameS_calls : ∀ (a : Sn) (b : Sn) (w : World) (av bv : Value), KA w a.kids av → KA w b.kids bv → fitS a → Calls Tryz.prog 13 #[.agg (snL a av).toArray, .agg (snL b bv).toArray] w (fun e w' => ∃ v, e = .returned v ∧ ∃ q, v = .bool q ∧ (q = true ↔ a = b) ∧ Ext w w') := Sn.ind fun a ih => by
  intro b w av bv ha hb hfit
  obtain ⟨aa, ac, rfl, -⟩ := ha.shape
  obtain ⟨ba, bc, rfl, -⟩ := hb.shape
  obtain ⟨hf1, hf2, hf3⟩ := (fitS_eq a).1 hfit
  refine calls_of Tryz.func13 rfl Tryz.ntmps13 rfl ?_
  refine wk_seq fun K hK => ?_
  refine wk_reg ?_
  refine o_box (LH.start w (fun _ => False)) (snL a (.slice aa a.kids.length ac)) rfl rfl rfl ?_
  intro b2 w1 hb2 hl
  refine o_box hl (snL b (.slice ba b.kids.length bc)) rfl rfl rfl ?_
  clear hl
  intro b3 w2 hb3 hl
  have hra : Row w2 b2 0 (snL a (.slice aa a.kids.length ac)) := hl.rowL (vs := snL a (.slice aa a.kids.length ac)) 1 0 4 rfl
  have hrb : Row w2 b3 0 (snL b (.slice ba b.kids.length bc)) := hl.rowL (vs := snL b (.slice ba b.kids.length bc)) 0 0 4 rfl
  have hx2 := hl.done
  clear hl
  refine a_asg ?_
  refine o_nil (hK _ _ ?_)
  clear hK K
  refine wk_seq fun K hK => ?_
  refine wk_seq fun K2 hK2 => ?_
  refine wk_reg ?_
  rcases Classical.em (a.op = b.op ∧ a.name = b.name ∧ a.day = b.day ∧ a.kids.length = b.kids.length) with hhd | hhd
  rotate_left
  · refine o_cut [] (fun _ : Unit => [(33, .bool true)]) (fun _ w' => w' = w2) ?_ ?_
    · by_cases hn : a.name = b.name
      · have hne : ¬ (a.op = b.op ∧ a.day = b.day ∧ a.kids.length = b.kids.length) := fun h => hhd ⟨h.1, hn, h.2⟩
        repeat' (first | refine a_mov ?_ | refine a_asg ?_ | refine a_binN ?_ | refine a_notd ?_ | refine a_notb ?_ | refine a_nilc ?_ | refine a_fa ?_ | refine a_ext ?_ | refine a_lenv ?_ | refine a_lens ?_ | refine a_pick_t ?_ | refine a_pick_f ?_ | refine a_not ?_ | refine a_nilf ?_ | (refine a_bin ?_ ?_ <;> intro _ <;> try (exfalso; omega)) | refine a_ld hl ?_ | (refine a_st hl ?_; clear hl; intro _ hl) | refine a_ix (fun _ => ?_) | refine a_row hra ?_ | refine a_row hrb ?_ | refine o_nesT (a := a.name) (b := b.name) rfl rfl rfl (fun h_ => absurd hn h_) (fun _ => ?_) | fail)
        all_goals exact o_nil ⟨(), ⟨rfl, trivial⟩, rfl, rfl⟩
      · repeat' (first | refine a_mov ?_ | refine a_asg ?_ | refine a_binN ?_ | refine a_notd ?_ | refine a_notb ?_ | refine a_nilc ?_ | refine a_fa ?_ | refine a_ext ?_ | refine a_lenv ?_ | refine a_lens ?_ | refine a_pick_t ?_ | refine a_pick_f ?_ | refine a_not ?_ | refine a_nilf ?_ | (refine a_bin ?_ ?_ <;> intro _ <;> try (exfalso; omega)) | refine a_ld hl ?_ | (refine a_st hl ?_; clear hl; intro _ hl) | refine a_ix (fun _ => ?_) | refine a_row hra ?_ | refine a_row hrb ?_ | refine o_nesT (a := a.name) (b := b.name) rfl rfl rfl (fun _ => ?_) (fun h_ => absurd h_ hn) | fail)
        all_goals exact o_nil ⟨(), ⟨rfl, trivial⟩, rfl, rfl⟩
    rintro _ t w2' rfl
    refine hK2 _ _ ?_
    clear hK2 K2
    refine wk_cond_t rfl ?_
    refine wk_seq fun K2 hK2 => ?_
    refine wk_reg ?_
    refine a_asg ?_
    refine o_nil (hK2 _ _ ?_)
    refine wk_ret (retQ_tmp1 Tryz.results13 (by decide) rfl (by conv => lhs; whnf) ?_)
    exact ⟨false, rfl, ⟨(fun h => nomatch h), fun h => absurd (by subst h; exact ⟨rfl, rfl, rfl, rfl⟩) hhd⟩, hx2⟩
  · obtain ⟨h1, h2, h3, h4⟩ := hhd
    refine o_cut [] (fun _ : Unit => [(2, .pointer (some ⟨b2, 0, none⟩)), (3, .pointer (some ⟨b3, 0, none⟩)), (33, .bool false)]) (fun _ w' => w' = w2) ?_ ?_
    · repeat' (first | refine a_mov ?_ | refine a_asg ?_ | refine a_binN ?_ | refine a_notd ?_ | refine a_notb ?_ | refine a_nilc ?_ | refine a_fa ?_ | refine a_ext ?_ | refine a_lenv ?_ | refine a_lens ?_ | refine a_pick_t ?_ | refine a_pick_f ?_ | refine a_not ?_ | refine a_nilf ?_ | (refine a_bin ?_ ?_ <;> intro _ <;> try (exfalso; omega)) | refine a_ld hl ?_ | (refine a_st hl ?_; clear hl; intro _ hl) | refine a_ix (fun _ => ?_) | refine a_row hra ?_ | refine a_row hrb ?_ | refine o_nesT (a := a.name) (b := b.name) rfl rfl rfl (fun h_ => absurd h2 h_) (fun _ => ?_) | fail)
      all_goals exact o_nil ⟨(), ⟨rfl, rfl, rfl, trivial⟩, rfl, rfl⟩
    rintro _ t w2' rfl
    refine hK2 _ _ ?_
    clear hK2 K2
    refine wk_cond_f rfl ?_
    refine wk_skip (hK _ _ ?_)
    clear hK K
    refine wk_seq fun K hK => ?_
    refine wk_seq fun K2 hK2 => ?_
    refine wk_reg ?_
    refine a_asg ?_
    refine o_nil (hK2 _ _ ?_)
    clear hK2 K2
    refine wk_block ?_
    refine wk_loopH [] rfl (fun i : Nat => [(2, .pointer (some ⟨b2, 0, none⟩)), (3, .pointer (some ⟨b3, 0, none⟩)), (5, .int .i64 (i : Int))]) (fun i w' => (i ≤ a.kids.length ∧ a.kids.take i = b.kids.take i) ∧ Ext w2' w') (fun i => a.kids.length - i) 0 ⟨rfl, rfl, rfl, trivial⟩ ⟨⟨Nat.zero_le _, by simp⟩, .refl _ _⟩ ?_
    rintro i t w4 ⟨⟨hi, hpre⟩, hx4⟩
    refine wk_seq fun K1 hK1 => ?_
    refine wk_seq fun K2 hK2 => ?_
    refine wk_reg ?_
    have hra4 := hra.ext hx4
    have hrb4 := hrb.ext hx4
    by_cases hi1 : i < a.kids.length
    · have hi2 : i < b.kids.length := by omega
      obtain ⟨p1, o1, k1, rfl, r1, q1⟩ := ((ha.ext hx2).ext hx4).at hi1
      obtain ⟨p2, o2, k2, rfl, r2, q2⟩ := ((hb.ext hx2).ext hx4).at hi2
      repeat' (first | refine a_mov ?_ | refine a_asg ?_ | refine a_binN ?_ | refine a_notd ?_ | refine a_notb ?_ | refine a_nilc ?_ | refine a_fa ?_ | refine a_ext ?_ | refine a_lenv ?_ | refine a_lens ?_ | refine a_pick_t ?_ | refine a_pick_f ?_ | refine a_not ?_ | refine a_nilf ?_ | (refine a_bin ?_ ?_ <;> intro _ <;> try (exfalso; omega)) | refine a_ld hl ?_ | (refine a_st hl ?_; clear hl; intro _ hl) | refine a_ix (fun _ => ?_) | refine a_row hra4 ?_ | fail)
      refine o_nil (hK2 _ _ ?_)
      clear hK2 K2
      refine wk_cond_t rfl ?_
      refine wk_skip (hK1 _ _ ?_)
      clear hK1 K1
      refine wk_seq fun K1 hK1 => ?_
      refine wk_block ?_
      refine wk_seq fun K2 hK2 => ?_
      obtain ⟨q, hq⟩ : ∃ q : Bool, (q = true ↔ a.kids[i] = b.kids[i]) := by
        by_cases h : a.kids[i] = b.kids[i]
        · exact ⟨true, by simp [h]⟩
        · exact ⟨false, by simp [h]⟩
      have hc : ∀ w_, Ext w4 w_ → Calls Tryz.prog 13 #[.agg (snL a.kids[i] k1).toArray, .agg (snL b.kids[i] k2).toArray] w_ (fun e w' => ∃ v, e = .returned v ∧ v = .bool q ∧ Ext w_ w') := fun w_ hx => by
        refine Calls.mono (ih a.kids[i] (List.getElem_mem hi1) b.kids[i] w_ k1 k2 (KA.ext q1 hx) (KA.ext q2 hx) (fitL_mem hf3 _ (List.getElem_mem hi1))) ?_
        rintro e w' ⟨v, he, q', rfl, hq', hx'⟩
        refine ⟨_, he, ?_, hx'⟩
        have : q' = q := by
          rw [Bool.eq_iff_iff, hq', hq]
        rw [this]
      refine wk_quiet (List.range 12) ?_
      repeat' (first | refine q_mov ?_ | refine q_asg ?_ | refine q_fa ?_ | refine q_ext ?_ | refine q_binN ?_ | refine q_notd ?_ | refine q_notb ?_ | refine q_pick_t ?_ | refine q_pick_f ?_ | refine q_nilc ?_ | refine q_skip ?_ | refine q_lens ?_ | refine q_lenv ?_ | refine q_nil ?_ | refine q_ix (fun _ => ?_) | (refine q_bin ?_ ?_ <;> intro _ <;> try (exfalso; omega)) | refine q_row (fun w_ hw_ => hra4.ext hw_) ?_ | refine q_row (fun w_ hw_ => hrb4.ext hw_) ?_ | refine q_idx (c := 4) i rfl ?_ | refine q_all (fun w_ hw_ => r1.ext hw_) ?_ | refine q_all (fun w_ hw_ => r2.ext hw_) ?_ | fail)
      refine q_fn hc ?_
      repeat' (first | refine q_mov ?_ | refine q_asg ?_ | refine q_fa ?_ | refine q_ext ?_ | refine q_binN ?_ | refine q_notd ?_ | refine q_notb ?_ | refine q_pick_t ?_ | refine q_pick_f ?_ | refine q_nilc ?_ | refine q_skip ?_ | refine q_lens ?_ | refine q_lenv ?_ | refine q_nil ?_ | refine q_ix (fun _ => ?_) | (refine q_bin ?_ ?_ <;> intro _ <;> try (exfalso; omega)) | fail)
      intro w5 hx5
      refine hK2 _ _ ?_
      clear hK2 K2
      cases q
      · have hne : a.kids[i] ≠ b.kids[i] := fun h => by have := hq.2 h; cases this
        refine wk_cond_t rfl ?_
        refine wk_seq fun K2 hK2 => ?_
        refine wk_reg ?_
        refine a_asg ?_
        refine o_nil (hK2 _ _ ?_)
        refine wk_ret (retQ_tmp1 Tryz.results13 (by decide) rfl (by conv => lhs; whnf) ?_)
        exact ⟨false, rfl, ⟨(fun h => nomatch h), fun h => absurd (by subst h; rfl) hne⟩, (hx2.trans hx4).trans hx5⟩
      · have heq := hq.1 rfl
        refine wk_cond_f rfl ?_
        refine wk_skip (hK1 _ _ ?_)
        clear hK1 K1
        refine wk_reg ?_
        repeat' (first | refine a_mov ?_ | refine a_asg ?_ | refine a_binN ?_ | refine a_notd ?_ | refine a_notb ?_ | refine a_nilc ?_ | refine a_fa ?_ | refine a_ext ?_ | refine a_lenv ?_ | refine a_lens ?_ | refine a_pick_t ?_ | refine a_pick_f ?_ | refine a_not ?_ | refine a_nilf ?_ | (refine a_bin ?_ ?_ <;> intro _ <;> try (exfalso; omega)) | refine a_ld hl ?_ | (refine a_st hl ?_; clear hl; intro _ hl) | refine a_ix (fun _ => ?_) | fail)
        refine o_nil ⟨i + 1, ⟨rfl, rfl, rfl, trivial⟩, rfl, ⟨⟨hi1, ?_⟩, hx4.trans hx5⟩, by omega⟩
        rw [List.take_succ_eq_append_getElem hi1, List.take_succ_eq_append_getElem hi2, hpre, heq]
    · obtain rfl : i = a.kids.length := by omega
      repeat' (first | refine a_mov ?_ | refine a_asg ?_ | refine a_binN ?_ | refine a_notd ?_ | refine a_notb ?_ | refine a_nilc ?_ | refine a_fa ?_ | refine a_ext ?_ | refine a_lenv ?_ | refine a_lens ?_ | refine a_pick_t ?_ | refine a_pick_f ?_ | refine a_not ?_ | refine a_nilf ?_ | (refine a_bin ?_ ?_ <;> intro _ <;> try (exfalso; omega)) | refine a_ld hl ?_ | (refine a_st hl ?_; clear hl; intro _ hl) | refine a_ix (fun _ => ?_) | refine a_row hra4 ?_ | fail)
      refine o_nil (hK2 _ _ ?_)
      clear hK2 K2
      refine wk_cond_f rfl ?_
      refine wk_exit ?_
      refine blockK_same ?_
      refine hK _ _ ?_
      clear hK1 K1
      clear hK K
      refine wk_seq fun K hK => ?_
      refine wk_reg ?_
      refine a_asg ?_
      refine o_nil (hK _ _ ?_)
      refine wk_ret (retQ_tmp1 Tryz.results13 (by decide) rfl (by conv => lhs; whnf) ?_)
      refine ⟨true, rfl, ⟨fun _ => sn_ext h1 h2 h3 ?_, fun _ => rfl⟩, hx2.trans hx4⟩
      rw [List.take_length, h4, List.take_length] at hpre
      exact hpre
end Go.Proofs
