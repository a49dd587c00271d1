/-
  The reference's network: Put.
-/
import Derived.Test.YthiiodbjmcafgaaNrC
set_option linter.unusedVariables false
set_option linter.unusedSimpArgs false
set_option linter.unnecessarySimpa false
set_option maxRecDepth 10000
namespace Go.Ne
open Go Go.Pd
/-- A new leaf, made in memory since, after a store into the reference's own blocks. -/
theorem RefOK.leaf {R R' : RefB} {n : Nat} {w5 wd w6 : World} {v : Value} {k m : Nat} {E : TypeId} {xs : List Value} {l acc : List (Nat × Obj)} (hown : Own w5 (R.bl n)) (hy : ∀ b, R.Y b → b < w5.heap.size) (hl : LH w5 (fun _ => False) wd (l ++ acc)) (ha : Acc v k E m xs acc) (hY : R'.Y = R.Y) (h6 : LH wd (Go.Pd.In (R.bl n)) w6 (R'.bl n)) : SlO (R'.D n) w6 v k xs := by
  have h1 : SlO (fun b => Go.Pd.In (R.bl n) b ∨ R.Y b) wd v k xs := SlO.freshD (hl.sub (List.sublist_append_right _ _)) ha fun b hb => hb.elim (fun h => hown.idlt h) (hy b)
  have h2 := h1.stepX h6
  unfold RefB.D
  rw [hY]
  exact h2
end Go.Ne
namespace Go.Proofs
open Go Go.Pd Go.Ne
attribute [local irreducible] OpsL W RetQ OpsQ OpsC
theorem bs1 (t : Tx) : buildSC Try.prog 9 1 [(0, str t)] = some [str t].toArray := by simp only [str_eq]; kernel_rfl

set_option maxHeartbeats 2000000 in
theorem putR_calls {Y : Nat → Prop} {s : Net} {p : Nat} {bl : List (Nat × Obj)} {w : World} (h : RefR Y s p bl w) (i : Nat) (t : Tx) (hlen : ∀ a, (texts s a).length ≤ 1000000) (hal : s.all.length ≤ 1000) (ht : t.length ≤ 9223372036854775807) :
    Calls Try.prog 14 #[.pointer (some ⟨p, 0, none⟩), .int .i64 (i : Int), str t] w (fun e w' => ∃ v, e = .returned v ∧ v = .int .i64 (putE s i t : Int) ∧ AftR Y (put s i t) p bl w w') := by
  have hR := h
  obtain ⟨R, rfl, rfl, rfl, hok, hown⟩ := h
  have hsame : ∀ {w'}, Ext w w' → putE s i t ≠ 0 → AftR R.Y (put s i t) R.p (R.bl s.n) w w' := fun e hne => by
    have : put s i t = s := if_pos hne
    rw [this]; exact AftR.same hR e
  obtain ⟨av, ac, hav⟩ := hok.a.shape
  have hr0 := RefB.r0 hown
  rw [hav] at hr0
  have hsa : Sl w (.slice av s.all.length ac) 1 (strL s.all) := by
    have := LH.acc_sl hown hok.a
    rwa [hav] at this
  refine calls_of Try.func14 rfl Try.ntmps14 rfl ?_
  refine wk_seq fun K hK => ?_
  refine wk_reg ?_
  repeat' (first | refine a_mov ?_ | refine a_asg ?_ | refine a_binN ?_ | refine a_notd ?_ | refine a_notb ?_ | refine a_nilc ?_ | refine a_fa ?_ | refine a_ext ?_ | refine a_lenv ?_ | refine a_lens ?_ | refine a_pick_t ?_ | refine a_pick_f ?_ | refine a_not ?_ | refine a_nilf ?_ | (refine a_bin ?_ ?_ <;> intro _ <;> try (exfalso; omega)) | refine a_ld hl ?_ | (refine a_st hl ?_; clear hl; intro _ hl) | refine a_ix (fun _ => ?_) | fail)
  refine o_nil (hK _ _ ?_)
  clear hK K
  refine wk_seq fun K hK => ?_
  refine wk_cut [] (fun _ : Unit => [(0, .pointer (some ⟨R.p, 0, none⟩)), (1, .int .i64 (i : Int)), (2, str t)]) (fun _ w' => i < s.n ∧ Ext w w') ?_ ?_
  · clear hK K
    repeat' (first | refine a_mov ?_ | refine a_asg ?_ | refine a_binN ?_ | refine a_notd ?_ | refine a_notb ?_ | refine a_nilc ?_ | refine a_fa ?_ | refine a_ext ?_ | refine a_lenv ?_ | refine a_lens ?_ | refine a_pick_t ?_ | refine a_pick_f ?_ | refine a_not ?_ | refine a_nilf ?_ | (refine o_nil (hK _ _ ?_); clear hK K) | refine wk_reg ?_ | refine wk_seq fun K hK => ?_ | (refine wk_skip (hK _ _ ?_); clear hK K) | (refine wk_label (hK _ _ ?_); clear hK K) | refine wk_scope ?_ | refine wk_block ?_ | refine wk_cond_t rfl ?_ | refine wk_cond_f rfl ?_ | (refine wk_exit ?_; (repeat (refine blockK_other rfl ?_)); refine blockK_same ?_; try ((repeat ((fail_if_success (refine hK _ _ ?_)); clear hK K)); refine hK _ _ ?_; clear hK K)) | (refine a_bin ?_ ?_ <;> intro _ <;> try (exfalso; omega)) | refine a_ld hl ?_ | (refine a_st hl ?_; clear hl; intro _ hl) | refine a_ix (fun _ => ?_) | fail)
    refine a_fn (nodeR_calls (RefB.r0 hown) i) ?_
    rintro _ w1 ⟨rfl, he1⟩
    by_cases hi : i < s.n
    · rw [decide_eq_true hi]
      repeat' (first | refine a_mov ?_ | refine a_asg ?_ | refine a_binN ?_ | refine a_notd ?_ | refine a_notb ?_ | refine a_nilc ?_ | refine a_fa ?_ | refine a_ext ?_ | refine a_lenv ?_ | refine a_lens ?_ | refine a_pick_t ?_ | refine a_pick_f ?_ | refine a_not ?_ | refine a_nilf ?_ | (refine o_nil (hK _ _ ?_); clear hK K) | refine wk_reg ?_ | refine wk_seq fun K hK => ?_ | (refine wk_skip (hK _ _ ?_); clear hK K) | (refine wk_label (hK _ _ ?_); clear hK K) | refine wk_scope ?_ | refine wk_block ?_ | refine wk_cond_t rfl ?_ | refine wk_cond_f rfl ?_ | (refine wk_exit ?_; (repeat (refine blockK_other rfl ?_)); refine blockK_same ?_; try ((repeat ((fail_if_success (refine hK _ _ ?_)); clear hK K)); refine hK _ _ ?_; clear hK K)) | (refine a_bin ?_ ?_ <;> intro _ <;> try (exfalso; omega)) | refine a_ld hl ?_ | (refine a_st hl ?_; clear hl; intro _ hl) | refine a_ix (fun _ => ?_) | fail)
      exact wk_skip ⟨(), ⟨rfl, rfl, rfl, trivial⟩, rfl, hi, he1⟩
    · rw [decide_eq_false hi]
      repeat' (first | refine a_mov ?_ | refine a_asg ?_ | refine a_binN ?_ | refine a_notd ?_ | refine a_notb ?_ | refine a_nilc ?_ | refine a_fa ?_ | refine a_ext ?_ | refine a_lenv ?_ | refine a_lens ?_ | refine a_pick_t ?_ | refine a_pick_f ?_ | refine a_not ?_ | refine a_nilf ?_ | (refine o_nil (hK _ _ ?_); clear hK K) | refine wk_reg ?_ | refine wk_seq fun K hK => ?_ | (refine wk_skip (hK _ _ ?_); clear hK K) | (refine wk_label (hK _ _ ?_); clear hK K) | refine wk_scope ?_ | refine wk_block ?_ | refine wk_cond_t rfl ?_ | refine wk_cond_f rfl ?_ | (refine wk_exit ?_; (repeat (refine blockK_other rfl ?_)); refine blockK_same ?_; try ((repeat ((fail_if_success (refine hK _ _ ?_)); clear hK K)); refine hK _ _ ?_; clear hK K)) | (refine a_bin ?_ ?_ <;> intro _ <;> try (exfalso; omega)) | refine a_ld hl ?_ | (refine a_st hl ?_; clear hl; intro _ hl) | refine a_ix (fun _ => ?_) | fail)
      refine wk_ret (retQ_tmp1 Try.results14 (by decide) rfl (by conv => lhs; whnf) ?_)
      have hE : putE s i t = 1 := if_pos (by omega)
      exact ⟨by rw [hE]; rfl, hsame he1 (by rw [hE]; decide)⟩
  rintro _ t1 w1 ⟨hi, he1⟩
  refine hK _ _ ?_
  clear hK K
  refine wk_seq fun K hK => ?_
  refine wk_cut [] (fun _ : Unit => [(0, .pointer (some ⟨R.p, 0, none⟩)), (1, .int .i64 (i : Int)), (2, str t)]) (fun _ w' => t.length ≤ 20000 ∧ Ext w w') ?_ ?_
  · clear hK K
    repeat' (first | refine a_mov ?_ | refine a_asg ?_ | refine a_binN ?_ | refine a_notd ?_ | refine a_notb ?_ | refine a_nilc ?_ | refine a_fa ?_ | refine a_ext ?_ | refine a_lenv ?_ | refine a_lens ?_ | refine a_pick_t ?_ | refine a_pick_f ?_ | refine a_not ?_ | refine a_nilf ?_ | (refine o_nil (hK _ _ ?_); clear hK K) | refine wk_reg ?_ | refine wk_seq fun K hK => ?_ | (refine wk_skip (hK _ _ ?_); clear hK K) | (refine wk_label (hK _ _ ?_); clear hK K) | refine wk_scope ?_ | refine wk_block ?_ | refine wk_cond_t rfl ?_ | refine wk_cond_f rfl ?_ | (refine wk_exit ?_; (repeat (refine blockK_other rfl ?_)); refine blockK_same ?_; try ((repeat ((fail_if_success (refine hK _ _ ?_)); clear hK K)); refine hK _ _ ?_; clear hK K)) | (refine a_bin ?_ ?_ <;> intro _ <;> try (exfalso; omega)) | refine a_ld hl ?_ | (refine a_st hl ?_; clear hl; intro _ hl) | refine a_ix (fun _ => ?_) | fail)
    · refine wk_ret (retQ_tmp1 Try.results14 (by decide) rfl (by conv => lhs; whnf) ?_)
      have hE : putE s i t = 2 := by unfold putE; rw [if_neg (by omega), if_pos (by omega)]
      exact ⟨by rw [hE]; rfl, hsame he1 (by rw [hE]; decide)⟩
    · exact wk_skip ⟨(), ⟨rfl, rfl, rfl, trivial⟩, rfl, by omega, he1⟩
  clear he1
  rintro _ t2 w2 ⟨htl, he2⟩
  refine hK _ _ ?_
  clear hK K
  refine wk_seq fun K hK => ?_
  have hown2 := hown.ext he2
  refine wk_cut [] (fun _ : Unit => [(0, .pointer (some ⟨R.p, 0, none⟩)), (1, .int .i64 (i : Int)), (2, str t)]) (fun _ w' => putE s i t = 0 ∧ ∃ R5 : RefB, R5.p = R.p ∧ R5.Y = R.Y ∧ LH w (Go.Pd.In (R.bl s.n)) w' (R5.bl s.n) ∧ RefOK R5 { s with all := addT s.all t } w') ?_ ?_
  · clear hK K
    repeat' (first | refine a_mov ?_ | refine a_asg ?_ | refine a_binN ?_ | refine a_notd ?_ | refine a_notb ?_ | refine a_nilc ?_ | refine a_fa ?_ | refine a_ext ?_ | refine a_lenv ?_ | refine a_lens ?_ | refine a_pick_t ?_ | refine a_pick_f ?_ | refine a_not ?_ | refine a_nilf ?_ | (refine o_nil (hK _ _ ?_); clear hK K) | refine wk_reg ?_ | refine wk_seq fun K hK => ?_ | (refine wk_skip (hK _ _ ?_); clear hK K) | (refine wk_label (hK _ _ ?_); clear hK K) | refine wk_scope ?_ | refine wk_block ?_ | refine wk_cond_t rfl ?_ | refine wk_cond_f rfl ?_ | (refine wk_exit ?_; (repeat (refine blockK_other rfl ?_)); refine blockK_same ?_; try ((repeat ((fail_if_success (refine hK _ _ ?_)); clear hK K)); refine hK _ _ ?_; clear hK K)) | (refine a_bin ?_ ?_ <;> intro _ <;> try (exfalso; omega)) | refine a_ld hl ?_ | (refine a_st hl ?_; clear hl; intro _ hl) | refine a_ix (fun _ => ?_) | refine a_row (hr0.ext he2) ?_ | fail)
    refine a_fn (in_calls (l := s.all) t (hsa.ext he2) (by omega)) ?_
    rintro _ w3 ⟨rfl, he3⟩
    have hx3 := he2.trans he3
    by_cases hin : t ∈ s.all
    · rw [decide_eq_true hin]
      repeat' (first | refine a_mov ?_ | refine a_asg ?_ | refine a_binN ?_ | refine a_notd ?_ | refine a_notb ?_ | refine a_nilc ?_ | refine a_fa ?_ | refine a_ext ?_ | refine a_lenv ?_ | refine a_lens ?_ | refine a_pick_t ?_ | refine a_pick_f ?_ | refine a_not ?_ | refine a_nilf ?_ | (refine o_nil (hK _ _ ?_); clear hK K) | refine wk_reg ?_ | refine wk_seq fun K hK => ?_ | (refine wk_skip (hK _ _ ?_); clear hK K) | (refine wk_label (hK _ _ ?_); clear hK K) | refine wk_scope ?_ | refine wk_block ?_ | refine wk_cond_t rfl ?_ | refine wk_cond_f rfl ?_ | (refine wk_exit ?_; (repeat (refine blockK_other rfl ?_)); refine blockK_same ?_; try ((repeat ((fail_if_success (refine hK _ _ ?_)); clear hK K)); refine hK _ _ ?_; clear hK K)) | (refine a_bin ?_ ?_ <;> intro _ <;> try (exfalso; omega)) | refine a_ld hl ?_ | (refine a_st hl ?_; clear hl; intro _ hl) | refine a_ix (fun _ => ?_) | fail)
      refine wk_skip ⟨(), ⟨rfl, rfl, rfl, trivial⟩, rfl, ?_, R, rfl, rfl, hown.ext hx3, ?_⟩
      · unfold putE; rw [if_neg (by omega), if_neg (by omega), if_neg (fun h => h.1 hin)]
      · rw [show addT s.all t = s.all from if_pos hin]; exact hok.ext hx3
    · rw [decide_eq_false hin]
      repeat' (first | refine a_mov ?_ | refine a_asg ?_ | refine a_binN ?_ | refine a_notd ?_ | refine a_notb ?_ | refine a_nilc ?_ | refine a_fa ?_ | refine a_ext ?_ | refine a_lenv ?_ | refine a_lens ?_ | refine a_pick_t ?_ | refine a_pick_f ?_ | refine a_not ?_ | refine a_nilf ?_ | (refine o_nil (hK _ _ ?_); clear hK K) | refine wk_reg ?_ | refine wk_seq fun K hK => ?_ | (refine wk_skip (hK _ _ ?_); clear hK K) | (refine wk_label (hK _ _ ?_); clear hK K) | refine wk_scope ?_ | refine wk_block ?_ | refine wk_cond_t rfl ?_ | refine wk_cond_f rfl ?_ | (refine wk_exit ?_; (repeat (refine blockK_other rfl ?_)); refine blockK_same ?_; try ((repeat ((fail_if_success (refine hK _ _ ?_)); clear hK K)); refine hK _ _ ?_; clear hK K)) | (refine a_bin ?_ ?_ <;> intro _ <;> try (exfalso; omega)) | refine a_ld hl ?_ | (refine a_st hl ?_; clear hl; intro _ hl) | refine a_ix (fun _ => ?_) | refine a_row (hr0.ext hx3) ?_ | fail)
      · refine wk_ret (retQ_tmp1 Try.results14 (by decide) rfl (by conv => lhs; whnf) ?_)
        have hE : putE s i t = 27 := by unfold putE; rw [if_neg (by omega), if_neg (by omega), if_pos ⟨hin, by omega⟩]
        exact ⟨by rw [hE]; rfl, hsame hx3 (by rw [hE]; decide)⟩
      · have hE : putE s i t = 0 := by unfold putE; rw [if_neg (by omega), if_neg (by omega), if_neg (fun h => by have := h.2; omega)]
        have hown3 : LH w (Go.Pd.In (R.bl s.n)) w3 ((idxN s.n).map (R.F s.n) ++ R.aacc) := hown.ext hx3
        have hac : Acc (.slice av s.all.length ac) 1 9 s.all.length (sLs s.all) R.aacc := by have := hok.a; rwa [hav] at this
        refine o_buildSlice hown3 [str t] rfl rfl (by simp only [str_eq]; kernel_rfl) ?_
        intro b4 w4 hb4 hl4
        refine o_append (bl' := (b4, .cells #[str t] 9 (0, 0)) :: (idxN s.n).map (R.F s.n)) (k := 1) (bytes := 16) (q := 1) (us := [str t]) hl4 hac (hl4.rowL (vs := [str t]) 0 0 1 rfl) rfl (by simp [oneCell_str]) (by omega) (by omega) (by omega) rfl rfl rfl rfl rfl ?_
        intro v5 w5 acc5 hl5 hac5
        obtain ⟨x5, y5, rfl⟩ := hac5.shape
        have hl5 : LH w (Go.Pd.In (R.bl s.n)) w5 (RefB.bl { R with aacc := acc5 } s.n) := hl5.sub (List.sublist_cons_self _ _)
        repeat' (first | refine a_mov ?_ | refine a_asg ?_ | refine a_binN ?_ | refine a_notd ?_ | refine a_notb ?_ | refine a_nilc ?_ | refine a_fa ?_ | refine a_ext ?_ | refine a_lenv ?_ | refine a_lens ?_ | refine a_pick_t ?_ | refine a_pick_f ?_ | refine a_not ?_ | refine a_nilf ?_ | (refine o_nil (hK _ _ ?_); clear hK K) | refine wk_reg ?_ | refine wk_seq fun K hK => ?_ | (refine wk_skip (hK _ _ ?_); clear hK K) | (refine wk_label (hK _ _ ?_); clear hK K) | refine wk_scope ?_ | refine wk_block ?_ | refine wk_cond_t rfl ?_ | refine wk_cond_f rfl ?_ | (refine wk_exit ?_; (repeat (refine blockK_other rfl ?_)); refine blockK_same ?_; try ((repeat ((fail_if_success (refine hK _ _ ?_)); clear hK K)); refine hK _ _ ?_; clear hK K)) | (refine a_bin ?_ ?_ <;> intro _ <;> try (exfalso; omega)) | refine a_ld hl ?_ | (refine a_st hl ?_; clear hl; intro _ hl) | refine a_ix (fun _ => ?_) | fail)
        refine o_store (RefB.atTop hl5 (t := 0) (by omega)) 0 [.slice x5 (s.all.length + 1) y5] rfl rfl rfl rfl rfl (by show 3 + 1 ≤ 4; omega) rfl ?_
        intro w6 h6
        have hown6 := RefB.setAv (.slice x5 (s.all.length + 1) y5) acc5 (n := s.n) (R := R) h6 hl5
        refine o_nil ⟨(), ⟨rfl, rfl, rfl, trivial⟩, rfl, hE, { R with av := .slice x5 (s.all.length + 1) y5, aacc := acc5 }, rfl, rfl, hown6, ?_⟩
        have ha6 : Acc (.slice x5 (s.all.length + 1) y5) 1 9 (addT s.all t).length (sLs (addT s.all t)) acc5 := by
          rw [show addT s.all t = s.all ++ [t] from if_neg hin, List.length_append, sLs, List.map_append]
          exact hac5
        exact hok.moved hown6 rfl rfl (fun _ _ => .inl ⟨rfl, rfl⟩) (fun _ _ _ _ => .inl ⟨rfl, rfl⟩) (fun _ _ _ _ => .inl ⟨rfl, rfl, rfl⟩) ha6 hok.h hok.k hok.c
  clear hown2 he2 hsa hr0
  rintro _ t4 w5 ⟨hE, R5, hp5, hY5, hown5, hok5⟩
  refine hK _ _ ?_
  clear hK K
  have hput : put s i t = { s with all := addT s.all t, node := upd s.node i ⟨addT (s.node i).texts t, (s.node i).peer⟩ } := if_neg (by rw [hE]; exact fun h => h rfl)
  have hti := hok5.t i hi
  have hli := hlen i
  obtain ⟨s1, hs1⟩ : ∃ s1 : Net, s1 = { s with all := addT s.all t } := ⟨_, rfl⟩
  rw [← hs1] at hok5 hti
  have hn1 : s1.n = s.n := by rw [hs1]
  have ht1 : texts s1 i = texts s i := by rw [hs1]; rfl
  rw [← hn1] at hown5 hi
  have hr0 := RefB.r0 hown5
  rw [hp5] at hr0
  have hrF := RefB.rF hown5 hi
  repeat' (first | refine a_mov ?_ | refine a_asg ?_ | refine a_binN ?_ | refine a_notd ?_ | refine a_notb ?_ | refine a_nilc ?_ | refine a_fa ?_ | refine a_ext ?_ | refine a_lenv ?_ | refine a_lens ?_ | refine a_pick_t ?_ | refine a_pick_f ?_ | refine a_not ?_ | refine a_nilf ?_ | (refine o_nil (hK _ _ ?_); clear hK K) | refine wk_reg ?_ | refine wk_seq fun K hK => ?_ | (refine wk_skip (hK _ _ ?_); clear hK K) | (refine wk_label (hK _ _ ?_); clear hK K) | refine wk_scope ?_ | refine wk_block ?_ | refine wk_cond_t rfl ?_ | refine wk_cond_f rfl ?_ | (refine wk_exit ?_; (repeat (refine blockK_other rfl ?_)); refine blockK_same ?_; try ((repeat ((fail_if_success (refine hK _ _ ?_)); clear hK K)); refine hK _ _ ?_; clear hK K)) | (refine a_bin ?_ ?_ <;> intro _ <;> try (exfalso; omega)) | refine a_ld hl ?_ | (refine a_st hl ?_; clear hl; intro _ hl) | refine a_ix (fun _ => ?_) | refine a_row hr0 ?_ | refine a_idx (c := 4) i rfl ?_ | refine a_row hrF ?_ | fail)
  rw [← ht1] at hli
  refine a_fn (in_calls (l := texts s1 i) t hti.1 (by omega)) ?_
  rintro _ w6 ⟨rfl, he6⟩
  replace hown5 := hown5.ext he6
  replace hok5 := hok5.ext he6
  replace hr0 := hr0.ext he6
  replace hrF := hrF.ext he6
  replace hti := hti.ext he6
  clear he6
  by_cases hin : t ∈ texts s1 i
  · rw [decide_eq_true hin]
    repeat' (first | refine a_mov ?_ | refine a_asg ?_ | refine a_binN ?_ | refine a_notd ?_ | refine a_notb ?_ | refine a_nilc ?_ | refine a_fa ?_ | refine a_ext ?_ | refine a_lenv ?_ | refine a_lens ?_ | refine a_pick_t ?_ | refine a_pick_f ?_ | refine a_not ?_ | refine a_nilf ?_ | (refine o_nil (hK _ _ ?_); clear hK K) | refine wk_reg ?_ | refine wk_seq fun K hK => ?_ | (refine wk_skip (hK _ _ ?_); clear hK K) | (refine wk_label (hK _ _ ?_); clear hK K) | refine wk_scope ?_ | refine wk_block ?_ | refine wk_cond_t rfl ?_ | refine wk_cond_f rfl ?_ | (refine wk_exit ?_; (repeat (refine blockK_other rfl ?_)); refine blockK_same ?_; try ((repeat ((fail_if_success (refine hK _ _ ?_)); clear hK K)); refine hK _ _ ?_; clear hK K)) | (refine a_bin ?_ ?_ <;> intro _ <;> try (exfalso; omega)) | refine a_ld hl ?_ | (refine a_st hl ?_; clear hl; intro _ hl) | refine a_ix (fun _ => ?_) | fail)
    refine wk_ret (retQ_tmp1 Try.results14 (by decide) rfl (by conv => lhs; whnf) ?_)
    refine ⟨by rw [hE]; rfl, ?_⟩
    have : put s i t = s1 := by
      rw [ht1] at hin
      rw [hput, hs1, show addT (s.node i).texts t = (s.node i).texts from if_pos hin]
      congr 1
      funext j
      by_cases e : j = i
      · subst e; rw [upd_same]
      · rw [upd_ne _ _ e]
    rw [this]
    rw [hn1] at hown5
    exact AftR.mk hp5 (by rw [hn1]; exact hown5) hok5 hY5
  · rw [decide_eq_false hin]
    have hs2 : put s i t = { s1 with node := upd s.node i ⟨texts s1 i ++ [t], (s.node i).peer⟩ } := by
      rw [hput, show addT (s.node i).texts t = texts s1 i ++ [t] by rw [ht1] at hin ⊢; exact if_neg hin]
      generalize texts s1 i = X
      rw [hs1]
    have hpt : ∀ a, texts (put s i t) a = if a = i then texts s1 i ++ [t] else texts s1 a := fun a => by
      rw [hs2]
      unfold texts
      by_cases e : a = i
      · subst e; simp only [upd_same, if_pos]
      · simp only [upd_ne _ _ e, if_neg e]; rw [hs1]
    have hpp : ∀ a, ((put s i t).node a).peer = (s1.node a).peer := fun a => by
      rw [hs2]
      by_cases e : a = i
      · subst e; simp only [upd_same]; rw [hs1]
      · simp only [upd_ne _ _ e]; rw [hs1]
    have hpn : (put s i t).n = s1.n := by rw [hs2]
    have hfin : ∀ (v : Value) (wd w6' : World), Ext w6 wd → LH w (Go.Pd.In (R.bl s1.n)) w6' (RefB.bl { R5 with tv := upd R5.tv i v } s1.n) → LH wd (Go.Pd.In (R5.bl s1.n)) w6' (RefB.bl { R5 with tv := upd R5.tv i v } s1.n) → SlO (RefB.D { R5 with tv := upd R5.tv i v } s1.n) w6' v 1 (strL (texts s1 i) ++ [str t]) → AftR R.Y (put s i t) R.p (R.bl s.n) w w6' := fun v wd w6' he hl6 h6 hv => by
      rw [hn1] at hl6
      refine AftR.mk (R' := { R5 with tv := upd R5.tv i v }) hp5 (by rw [hpn, hn1]; exact hl6) ((hok5.ext he).moved h6 rfl hpn (fun a ha => ?_) (fun a b _ _ => .inl ⟨rfl, by rw [hpp]⟩) (fun a b _ _ => .inl ⟨rfl, rfl, by rw [hs2]⟩) (by rw [hs2]; exact hok5.a) (fun a b ha hb => by rw [hpp]; exact hok5.h a b ha hb) (fun a b ha hb => by rw [hpp]; exact hok5.k a b ha hb) (fun a b ha hb => by rw [hs2]; exact hok5.c a b ha hb)) hY5
      rw [hpt]
      by_cases e : a = i
      · subst e
        right
        rw [if_pos rfl, sLs, List.map_append]
        show SlO _ w6' (upd R5.tv a v a) 1 _
        rw [upd_same]; exact hv
      · left
        rw [if_neg e]
        exact ⟨upd_ne _ _ e, rfl⟩
    have hsl : Sl w6 (R5.tv i) 1 (strL (texts s1 i)) := hti.1
    have hsll := strL_len (texts s1 i)
    have hsone := strL_one (texts s1 i)
    have hxone : [str t].all Value.oneCell' = true := by simp [oneCell_str]
    repeat' (first | refine a_mov ?_ | refine a_asg ?_ | refine a_binN ?_ | refine a_notd ?_ | refine a_notb ?_ | refine a_nilc ?_ | refine a_fa ?_ | refine a_ext ?_ | refine a_lenv ?_ | refine a_lens ?_ | refine a_pick_t ?_ | refine a_pick_f ?_ | refine a_not ?_ | refine a_nilf ?_ | (refine o_nil (hK _ _ ?_); clear hK K) | refine wk_reg ?_ | refine wk_seq fun K hK => ?_ | (refine wk_skip (hK _ _ ?_); clear hK K) | (refine wk_label (hK _ _ ?_); clear hK K) | refine wk_scope ?_ | refine wk_block ?_ | refine wk_cond_t rfl ?_ | refine wk_cond_f rfl ?_ | (refine wk_exit ?_; (repeat (refine blockK_other rfl ?_)); refine blockK_same ?_; try ((repeat ((fail_if_success (refine hK _ _ ?_)); clear hK K)); refine hK _ _ ?_; clear hK K)) | (refine a_bin ?_ ?_ <;> intro _ <;> try (exfalso; omega)) | refine a_ld hl ?_ | (refine a_st hl ?_; clear hl; intro _ hl) | refine a_ix (fun _ => ?_) | fail)
    refine wk_cut [] (fun _ : Unit => []) (fun _ w' => AftR R.Y (put s i t) R.p (R.bl s.n) w w') ?_ ?_
    · refine wk_tree [0, 1, 2, 3, 4, 6, 7, 8, 9, 10, 11, 12, 13, 15, 18, 19] [3, 9, 13] [5, 14, 16, 17, 20] [] [] (fun w' => To w6 w' w6.heap) (fun w' => Ext w6 w') rfl (by kernel_rfl) (fun _ _ _ _ h => by first | exact h | (simp only [BlockK, NoGoto, RetQ] at h)) (fun _ h => h) (fun w' h => Upd.of_heap h) ?_
      repeat' (first | refine q_mov ?_ | refine q_asg ?_ | refine q_fa ?_ | refine q_ext ?_ | refine q_binN ?_ | refine q_notd ?_ | refine q_notb ?_ | refine q_pick_t ?_ | refine q_pick_f ?_ | refine q_nilc ?_ | refine q_skip ?_ | refine q_lens ?_ | refine q_lenv ?_ | refine q_nil ?_ | refine q_ix (fun _ => ?_) | (refine q_bin ?_ ?_ <;> intro _ <;> try (exfalso; omega)) | refine q_idx (c := 4) i rfl ?_ | refine q_late rfl rfl rfl rfl (fun w' hw' => r_load rfl rfl ((hr0.ext hw') 0 _ rfl)) ?_ | refine q_late rfl rfl rfl rfl (fun w' hw' => r_load rfl rfl ((hrF.ext hw') 0 _ rfl)) ?_ | fail)
      intro w7 hw7
      have hlh : LH w6 (fun _ => False) w7 [] := (LH.start w6 _).heap hw7
      clear hw7
      refine opsT_2 (i := 5) (i' := 16) (by kernel_rfl) rfl rfl rfl rfl ?_ ?_
      · refine o_buildSlice0 hlh rfl rfl rfl ?_
        clear hlh
        intro b0 wa hb0 hlh
        refine o_nil ⟨.inl hlh.done, ?_⟩
        refine opsT_2 (i := 14) (i' := 16) (by kernel_rfl) rfl rfl rfl rfl ?_ ?_
        · have hlh : LH _ _ _ ([] ++ [_]) := hlh
          refine o_appendS (k := 1) (bytes := 16) (q := (texts s1 i).length) (us := strL (texts s1 i)) hlh (Acc.empty 1 9 b0) (hsl.ext hlh.done) hsll (by decide) hsone (by omega) (by omega) rfl rfl rfl rfl rfl rfl ?_
          clear hlh
          intro v1 wb acc hlh hacc
          rw [Nat.zero_add, List.nil_append] at hacc
          obtain ⟨x1, y1, rfl⟩ := hacc.shape
          refine o_nil ⟨.inl hlh.done, ?_⟩
          refine opsT_1 (i := 16) (by kernel_rfl) rfl rfl ?_
          refine o_buildSlice hlh ([str t]) rfl rfl (bs1 t) ?_
          clear hlh
          intro b4 wc hb4 hlh
          refine o_nil ⟨.inl hlh.done, ?_⟩
          have hlh : LH _ _ _ ([_] ++ acc) := hlh
          refine opsT_1 (i := 17) (by kernel_rfl) rfl rfl ?_
          refine o_append (k := 1) (bytes := 16) (m := (texts s1 i).length) (q := 1) (us := [str t]) hlh hacc (hlh.rowL (vs := [str t]) 0 0 1 rfl) rfl hxone (by omega) (by omega) (by omega) rfl rfl rfl rfl rfl ?_
          clear hlh hacc
          intro v2 wd acc2 hlh hacc
          obtain ⟨x2, y2, rfl⟩ := hacc.shape
          refine o_nil ⟨.inl hlh.done, ?_⟩
          refine opsT_1 (i := 20) (by kernel_rfl) rfl rfl ?_
          refine o_store (RefB.atTop (hown5.ext hlh.done) (t := 1) (by omega)) 0 [.slice x2 ((texts s1 i).length + 1) y2] rfl rfl rfl rfl rfl (by have := flt_len (n := s1.n) (f := R5.nodeC s1.n) (c := 4) (fun _ => rfl) R5.nj hi; simp only [List.length_cons, List.length_nil]; omega) rfl ?_
          intro w8 h6
          have hown6 := RefB.setTv (i := i) (.slice x2 ((texts s1 i).length + 1) y2) hi h6 (hown5.ext hlh.done)
          have hself := RefB.setTv (i := i) (.slice x2 ((texts s1 i).length + 1) y2) hi h6 (hown5.ext hlh.done).owned
          have hleaf := RefOK.leaf (R := R5) (R' := { R5 with tv := upd R5.tv i (.slice x2 ((texts s1 i).length + 1) y2) }) hown5.owned hok5.ys hlh hacc rfl hself
          refine o_nil ⟨.inr (by kernel_rfl), ?_⟩
          refine opsT_nil ?_
          unfold PostQ
          refine q_nil ?_
          exact ⟨(), trivial, rfl, hfin _ _ _ hlh.done hown6 hself hleaf⟩
        · skip
          refine o_buildSlice hlh ([str t]) rfl rfl (bs1 t) ?_
          clear hlh
          intro b4 wc hb4 hlh
          refine o_nil ⟨.inl hlh.done, ?_⟩
          have hlh : LH _ _ _ ([_] ++ [_]) := hlh
          refine opsT_1 (i := 14) (by kernel_rfl) rfl rfl ?_
          refine o_appendS (k := 1) (bytes := 16) (q := (texts s1 i).length) (us := strL (texts s1 i)) hlh (Acc.empty 1 9 b0) (hsl.ext hlh.done) hsll (by decide) hsone (by omega) (by omega) rfl rfl rfl rfl rfl rfl ?_
          clear hlh
          intro v1 wb acc hlh hacc
          rw [Nat.zero_add, List.nil_append] at hacc
          obtain ⟨x1, y1, rfl⟩ := hacc.shape
          refine o_nil ⟨.inl hlh.done, ?_⟩
          refine opsT_1 (i := 17) (by kernel_rfl) rfl rfl ?_
          refine o_append (k := 1) (bytes := 16) (m := (texts s1 i).length) (q := 1) (us := [str t]) hlh hacc (hlh.rowL (vs := [str t]) 0 0 1 rfl) rfl hxone (by omega) (by omega) (by omega) rfl rfl rfl rfl rfl ?_
          clear hlh hacc
          intro v2 wd acc2 hlh hacc
          obtain ⟨x2, y2, rfl⟩ := hacc.shape
          refine o_nil ⟨.inl hlh.done, ?_⟩
          refine opsT_1 (i := 20) (by kernel_rfl) rfl rfl ?_
          refine o_store (RefB.atTop (hown5.ext hlh.done) (t := 1) (by omega)) 0 [.slice x2 ((texts s1 i).length + 1) y2] rfl rfl rfl rfl rfl (by have := flt_len (n := s1.n) (f := R5.nodeC s1.n) (c := 4) (fun _ => rfl) R5.nj hi; simp only [List.length_cons, List.length_nil]; omega) rfl ?_
          intro w8 h6
          have hown6 := RefB.setTv (i := i) (.slice x2 ((texts s1 i).length + 1) y2) hi h6 (hown5.ext hlh.done)
          have hself := RefB.setTv (i := i) (.slice x2 ((texts s1 i).length + 1) y2) hi h6 (hown5.ext hlh.done).owned
          have hleaf := RefOK.leaf (R := R5) (R' := { R5 with tv := upd R5.tv i (.slice x2 ((texts s1 i).length + 1) y2) }) hown5.owned hok5.ys hlh hacc rfl hself
          refine o_nil ⟨.inr (by kernel_rfl), ?_⟩
          refine opsT_nil ?_
          unfold PostQ
          refine q_nil ?_
          exact ⟨(), trivial, rfl, hfin _ _ _ hlh.done hown6 hself hleaf⟩
      · skip
        refine o_buildSlice hlh ([str t]) rfl rfl (bs1 t) ?_
        clear hlh
        intro b4 wc hb4 hlh
        refine o_nil ⟨.inl hlh.done, ?_⟩
        refine opsT_1 (i := 5) (by kernel_rfl) rfl rfl ?_
        refine o_buildSlice0 hlh rfl rfl rfl ?_
        clear hlh
        intro b0 wa hb0 hlh
        refine o_nil ⟨.inl hlh.done, ?_⟩
        replace hlh := hlh.perm (List.Perm.swap _ _ _)
        have hlh : LH _ _ _ ([_] ++ [_]) := hlh
        refine opsT_1 (i := 14) (by kernel_rfl) rfl rfl ?_
        refine o_appendS (k := 1) (bytes := 16) (q := (texts s1 i).length) (us := strL (texts s1 i)) hlh (Acc.empty 1 9 b0) (hsl.ext hlh.done) hsll (by decide) hsone (by omega) (by omega) rfl rfl rfl rfl rfl rfl ?_
        clear hlh
        intro v1 wb acc hlh hacc
        rw [Nat.zero_add, List.nil_append] at hacc
        obtain ⟨x1, y1, rfl⟩ := hacc.shape
        refine o_nil ⟨.inl hlh.done, ?_⟩
        refine opsT_1 (i := 17) (by kernel_rfl) rfl rfl ?_
        refine o_append (k := 1) (bytes := 16) (m := (texts s1 i).length) (q := 1) (us := [str t]) hlh hacc (hlh.rowL (vs := [str t]) 0 0 1 rfl) rfl hxone (by omega) (by omega) (by omega) rfl rfl rfl rfl rfl ?_
        clear hlh hacc
        intro v2 wd acc2 hlh hacc
        obtain ⟨x2, y2, rfl⟩ := hacc.shape
        refine o_nil ⟨.inl hlh.done, ?_⟩
        refine opsT_1 (i := 20) (by kernel_rfl) rfl rfl ?_
        refine o_store (RefB.atTop (hown5.ext hlh.done) (t := 1) (by omega)) 0 [.slice x2 ((texts s1 i).length + 1) y2] rfl rfl rfl rfl rfl (by have := flt_len (n := s1.n) (f := R5.nodeC s1.n) (c := 4) (fun _ => rfl) R5.nj hi; simp only [List.length_cons, List.length_nil]; omega) rfl ?_
        intro w8 h6
        have hown6 := RefB.setTv (i := i) (.slice x2 ((texts s1 i).length + 1) y2) hi h6 (hown5.ext hlh.done)
        have hself := RefB.setTv (i := i) (.slice x2 ((texts s1 i).length + 1) y2) hi h6 (hown5.ext hlh.done).owned
        have hleaf := RefOK.leaf (R := R5) (R' := { R5 with tv := upd R5.tv i (.slice x2 ((texts s1 i).length + 1) y2) }) hown5.owned hok5.ys hlh hacc rfl hself
        refine o_nil ⟨.inr (by kernel_rfl), ?_⟩
        refine opsT_nil ?_
        unfold PostQ
        refine q_nil ?_
        exact ⟨(), trivial, rfl, hfin _ _ _ hlh.done hown6 hself hleaf⟩
    rintro _ t7 w7 hA
    refine hK _ _ ?_
    clear hK K
    repeat' (first | refine a_mov ?_ | refine a_asg ?_ | refine a_binN ?_ | refine a_notd ?_ | refine a_notb ?_ | refine a_nilc ?_ | refine a_fa ?_ | refine a_ext ?_ | refine a_lenv ?_ | refine a_lens ?_ | refine a_pick_t ?_ | refine a_pick_f ?_ | refine a_not ?_ | refine a_nilf ?_ | (refine o_nil (hK _ _ ?_); clear hK K) | refine wk_reg ?_ | refine wk_seq fun K hK => ?_ | (refine wk_skip (hK _ _ ?_); clear hK K) | (refine wk_label (hK _ _ ?_); clear hK K) | refine wk_scope ?_ | refine wk_block ?_ | refine wk_cond_t rfl ?_ | refine wk_cond_f rfl ?_ | (refine wk_exit ?_; (repeat (refine blockK_other rfl ?_)); refine blockK_same ?_; try ((repeat ((fail_if_success (refine hK _ _ ?_)); clear hK K)); refine hK _ _ ?_; clear hK K)) | (refine a_bin ?_ ?_ <;> intro _ <;> try (exfalso; omega)) | refine a_ld hl ?_ | (refine a_st hl ?_; clear hl; intro _ hl) | refine a_ix (fun _ => ?_) | fail)
    refine wk_ret (retQ_tmp1 Try.results14 (by decide) rfl (by conv => lhs; whnf) ?_)
    exact ⟨by rw [hE]; rfl, hA⟩
end Go.Proofs
