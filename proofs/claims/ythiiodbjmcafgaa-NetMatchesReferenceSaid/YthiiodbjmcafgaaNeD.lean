/-
  A network: adding a text at a node; a queue's end and its beginning.
-/
import Derived.Test.YthiiodbjmcafgaaNeR
set_option linter.unusedVariables false
set_option linter.unusedSimpArgs false
set_option linter.unnecessarySimpa false
set_option maxRecDepth 10000
namespace Go.Proofs
open Go Go.Pd Go.Ne
attribute [local irreducible] OpsL W RetQ OpsQ OpsC

/-- The node with other texts. -/
abbrev withT (d : NodB) (tv : Value) (tacc : List (Nat × Obj)) (hes : Array MapEntry) (hc : Nat) : NodB := { d with tv := tv, tacc := tacc, hes := hes, hc := hc }
theorem addA_calls {n : Nat} {d : NodB} {x : Nod} {w : World} (t : Tx) (hl : Own w (nodA n d x)) (ht : Acc d.tv 1 9 x.texts.length (sL x.texts) d.tacc) (hm : MapR str d.hes (boolM x.texts)) (hlen : x.texts.length ≤ 1000000) :
    Calls Try.prog 32 #[.pointer (some ⟨d.nb, 0, none⟩), str t] w (fun e w' => ∃ v, e = .returned v ∧ ∃ tv tacc hes hc, LH w (Go.Pd.In (nodA n d x)) w' (nodA n (withT d tv tacc hes hc) ⟨addT x.texts t, x.peer⟩) ∧ Acc tv 1 9 (addT x.texts t).length (sL (addT x.texts t)) tacc ∧ MapR str hes (boolM (addT x.texts t))) := by
  refine calls_of Try.func32 rfl Try.ntmps32 rfl ?_
  have hl0 : LH w (Go.Pd.In (nodA n d x)) w ([(d.nb, .cells (nodCells n d x).toArray 61 (0, 0)), (d.hb, .map d.hes d.hc)] ++ d.tacc) := hl
  generalize Go.Pd.In (nodA n d x) = M at *
  repeat' (first | refine a_mov ?_ | refine a_asg ?_ | refine a_binN ?_ | refine a_notd ?_ | refine a_notb ?_ | refine a_nilc ?_ | refine a_fa ?_ | refine a_ext ?_ | refine a_lenv ?_ | refine a_lens ?_ | refine a_pick_t ?_ | refine a_pick_f ?_ | refine a_not ?_ | refine a_nilf ?_ | (refine o_nil (hK _ _ ?_); clear hK K) | refine wk_reg ?_ | refine wk_seq fun K hK => ?_ | (refine wk_skip (hK _ _ ?_); clear hK K) | (refine wk_label (hK _ _ ?_); clear hK K) | refine wk_scope ?_ | refine wk_block ?_ | refine wk_cond_t rfl ?_ | refine wk_cond_f rfl ?_ | (refine wk_exit ?_; (repeat (refine blockK_other rfl ?_)); refine blockK_same ?_; try ((repeat ((fail_if_success (refine hK _ _ ?_)); clear hK K)); refine hK _ _ ?_; clear hK K)) | (refine a_bin ?_ ?_ <;> intro _ <;> try (exfalso; omega)) | refine a_ld hl ?_ | (refine a_st hl ?_; clear hl; intro _ hl) | refine a_ix (fun _ => ?_) | refine a_ld hl0 ?_ | fail)
  refine o_lookup t hm (hl0.get 1 rfl) (key_str rfl) rfl rfl rfl rfl rfl ?_
  rw [boolM_get]
  by_cases hin : t ∈ x.texts
  · have hadd : addT x.texts t = x.texts := if_pos hin
    rw [if_pos hin]
    repeat' (first | refine a_mov ?_ | refine a_asg ?_ | refine a_binN ?_ | refine a_notd ?_ | refine a_notb ?_ | refine a_nilc ?_ | refine a_fa ?_ | refine a_ext ?_ | refine a_lenv ?_ | refine a_lens ?_ | refine a_pick_t ?_ | refine a_pick_f ?_ | refine a_not ?_ | refine a_nilf ?_ | (refine o_nil (hK _ _ ?_); clear hK K) | refine wk_reg ?_ | refine wk_seq fun K hK => ?_ | (refine wk_skip (hK _ _ ?_); clear hK K) | (refine wk_label (hK _ _ ?_); clear hK K) | refine wk_scope ?_ | refine wk_block ?_ | refine wk_cond_t rfl ?_ | refine wk_cond_f rfl ?_ | (refine wk_exit ?_; (repeat (refine blockK_other rfl ?_)); refine blockK_same ?_; try ((repeat ((fail_if_success (refine hK _ _ ?_)); clear hK K)); refine hK _ _ ?_; clear hK K)) | (refine a_bin ?_ ?_ <;> intro _ <;> try (exfalso; omega)) | refine a_ld hl ?_ | (refine a_st hl ?_; clear hl; intro _ hl) | refine a_ix (fun _ => ?_) | fail)
    refine wk_skip (retQ_tmp0 rfl rfl ⟨d.tv, d.tacc, d.hes, d.hc, ?_, ?_, ?_⟩)
    · rw [hadd]; exact hl0
    · rw [hadd]; exact ht
    · rw [hadd]; exact hm
  · have hadd : addT x.texts t = x.texts ++ [t] := if_neg hin
    rw [if_neg hin]
    repeat' (first | refine a_mov ?_ | refine a_asg ?_ | refine a_binN ?_ | refine a_notd ?_ | refine a_notb ?_ | refine a_nilc ?_ | refine a_fa ?_ | refine a_ext ?_ | refine a_lenv ?_ | refine a_lens ?_ | refine a_pick_t ?_ | refine a_pick_f ?_ | refine a_not ?_ | refine a_nilf ?_ | (refine o_nil (hK _ _ ?_); clear hK K) | refine wk_reg ?_ | refine wk_seq fun K hK => ?_ | (refine wk_skip (hK _ _ ?_); clear hK K) | (refine wk_label (hK _ _ ?_); clear hK K) | refine wk_scope ?_ | refine wk_block ?_ | refine wk_cond_t rfl ?_ | refine wk_cond_f rfl ?_ | (refine wk_exit ?_; (repeat (refine blockK_other rfl ?_)); refine blockK_same ?_; try ((repeat ((fail_if_success (refine hK _ _ ?_)); clear hK K)); refine hK _ _ ?_; clear hK K)) | (refine a_bin ?_ ?_ <;> intro _ <;> try (exfalso; omega)) | refine a_ld hl ?_ | (refine a_st hl ?_; clear hl; intro _ hl) | refine a_ix (fun _ => ?_) | refine a_ld hl0 ?_ | fail)
    refine o_mapUpdate (v := .bool true) t hl0 1 rfl hm (key_str rfl) rfl rfl rfl rfl rfl ?_
    intro w1 hes hc hm1 hl1
    rw [boolM_ins] at hm1
    replace hl1 : LH w M w1 ([(d.nb, .cells (nodCells n d x).toArray 61 (0, 0)), (d.hb, .map hes hc)] ++ d.tacc) := hl1
    repeat' (first | refine a_mov ?_ | refine a_asg ?_ | refine a_binN ?_ | refine a_notd ?_ | refine a_notb ?_ | refine a_nilc ?_ | refine a_fa ?_ | refine a_ext ?_ | refine a_lenv ?_ | refine a_lens ?_ | refine a_pick_t ?_ | refine a_pick_f ?_ | refine a_not ?_ | refine a_nilf ?_ | (refine o_nil (hK _ _ ?_); clear hK K) | refine wk_reg ?_ | refine wk_seq fun K hK => ?_ | (refine wk_skip (hK _ _ ?_); clear hK K) | (refine wk_label (hK _ _ ?_); clear hK K) | refine wk_scope ?_ | refine wk_block ?_ | refine wk_cond_t rfl ?_ | refine wk_cond_f rfl ?_ | (refine wk_exit ?_; (repeat (refine blockK_other rfl ?_)); refine blockK_same ?_; try ((repeat ((fail_if_success (refine hK _ _ ?_)); clear hK K)); refine hK _ _ ?_; clear hK K)) | (refine a_bin ?_ ?_ <;> intro _ <;> try (exfalso; omega)) | refine a_ld hl ?_ | (refine a_st hl ?_; clear hl; intro _ hl) | refine a_ix (fun _ => ?_) | refine a_ld hl1 ?_ | fail)
    refine o_buildSlice hl1 [str t] rfl rfl (by simp only [str_eq]; kernel_rfl) ?_
    intro b w2 hb hl2
    refine o_append (bl' := [(b, .cells #[str t] 9 (0, 0)), (d.nb, .cells (nodCells n d x).toArray 61 (0, 0)), (d.hb, .map hes hc)]) (k := 1) (bytes := 16) (q := 1) (us := [str t]) hl2 ht (hl2.rowL (vs := [str t]) 0 0 1 rfl) rfl (by simp [oneCell_str]) (by omega) (by omega) (by omega) rfl rfl rfl rfl rfl ?_
    intro tv w3 tacc hl3 ha3
    replace hl3 : LH w M w3 ((b, .cells #[str t] 9 (0, 0)) :: (d.nb, .cells (nodCells n d x).toArray 61 (0, 0)) :: (d.hb, .map hes hc) :: tacc) := hl3
    obtain ⟨ta, tc, rfl⟩ := ha3.shape
    repeat' (first | refine a_mov ?_ | refine a_asg ?_ | refine a_binN ?_ | refine a_notd ?_ | refine a_notb ?_ | refine a_nilc ?_ | refine a_fa ?_ | refine a_ext ?_ | refine a_lenv ?_ | refine a_lens ?_ | refine a_pick_t ?_ | refine a_pick_f ?_ | refine a_not ?_ | refine a_nilf ?_ | (refine a_bin ?_ ?_ <;> intro _ <;> try (exfalso; omega)) | refine a_ld hl ?_ | (refine a_st hl ?_; clear hl; intro _ hl) | refine a_ix (fun _ => ?_))
    refine o_put1 (bl' := (b, .cells #[str t] 9 (0, 0)) :: (d.nb, .cells (nodCells n (withT d (.slice ta (x.texts.length + 1) tc) tacc hes hc) x).toArray 61 (0, 0)) :: (d.hb, .map hes hc) :: tacc) hl3 rfl rfl rfl ⟨rfl, rfl⟩ rfl (.there (.here rfl rfl)) ?_
    intro w4 hl4
    repeat' (first | refine a_mov ?_ | refine a_asg ?_ | refine a_binN ?_ | refine a_notd ?_ | refine a_notb ?_ | refine a_nilc ?_ | refine a_fa ?_ | refine a_ext ?_ | refine a_lenv ?_ | refine a_lens ?_ | refine a_pick_t ?_ | refine a_pick_f ?_ | refine a_not ?_ | refine a_nilf ?_ | (refine o_nil (hK _ _ ?_); clear hK K) | refine wk_reg ?_ | refine wk_seq fun K hK => ?_ | (refine wk_skip (hK _ _ ?_); clear hK K) | (refine wk_label (hK _ _ ?_); clear hK K) | refine wk_scope ?_ | refine wk_block ?_ | refine wk_cond_t rfl ?_ | refine wk_cond_f rfl ?_ | (refine wk_exit ?_; (repeat (refine blockK_other rfl ?_)); refine blockK_same ?_; try ((repeat ((fail_if_success (refine hK _ _ ?_)); clear hK K)); refine hK _ _ ?_; clear hK K)) | (refine a_bin ?_ ?_ <;> intro _ <;> try (exfalso; omega)) | refine a_ld hl ?_ | (refine a_st hl ?_; clear hl; intro _ hl) | refine a_ix (fun _ => ?_) | fail)
    refine o_nil (retQ_tmp0 rfl rfl ⟨_, tacc, hes, hc, hl4.sub (List.sublist_cons_self _ _), ?_, ?_⟩)
    · rw [hadd, List.length_append]
      simpa using ha3
    · exact hm1

/-! ### Queues -/
theorem msgC_len (q : Value × Msg) : (msgC q).length = 3 := rfl
theorem msgL_len (l : List (Value × Msg)) : (l.flatMap msgC).length = l.length * 3 := flat_length (f := msgC) (c := 3) msgC_len l
theorem push_calls {d : QB} {w : World} (mv : Value) (hmv : Cell1 mv) {m : Msg} (hl : Own w (qBl d)) (ha : AccO d.qv 3 83 d.l.length (d.l.flatMap msgC) d.qacc) (hlen : d.l.length ≤ 1000) :
    Calls Try.prog 35 #[.pointer (some ⟨d.qb, 0, none⟩), .agg (msgC (mv, m)).toArray] w (fun e w' => ∃ v, e = .returned v ∧ ∃ qv qacc, LH w (Go.Pd.In (qBl d)) w' (qBl ⟨d.qb, qv, qacc, d.l ++ [(mv, m)]⟩) ∧ AccO qv 3 83 (d.l.length + 1) ((d.l ++ [(mv, m)]).flatMap msgC) qacc) := by
  refine calls_of Try.func35 rfl Try.ntmps35 rfl ?_
  have hl0 : LH w (Go.Pd.In (qBl d)) w ((d.qb, .cells #[d.qv] 65 (0, 0)) :: d.qacc) := hl
  generalize Go.Pd.In (qBl d) = M at *
  obtain ⟨pa, pc, hqv, -⟩ := ha.shape
  refine wk_seq fun K hK => ?_
  refine wk_reg ?_
  refine o_box hl0 (msgC (mv, m)) rfl rfl rfl ?_
  intro b w1 hb hl1
  refine o_nil (hK _ _ ?_)
  clear hK K
  have hrow : ∀ w', To w1 w' w1.heap → Row w' b 0 (msgC (mv, m)) := fun w' h => (hl1.heap h).rowL (vs := msgC (mv, m)) 0 0 3 rfl
  refine wk_drawP [0, 1, 2, 3, 4, 5, 8, 9] [4] [6, 7, 10] [] [] (fun w' => To w1 w' w1.heap) (fun w' => w'.heap[d.qb]? = some (.cells #[d.qv] 65 (0, 0))) rfl (by kernel_rfl) (fun _ _ _ _ h => by first | exact h | (simp only [BlockK, NoGoto, RetQ] at h)) (fun _ h => h) (fun w' h => (hl1.heap h).get 1 rfl) ?_
  repeat' (first | refine q_pur rfl rfl rfl (fun _ => r_mov (by conv => lhs; whnf)) ?_ | refine q_pur rfl rfl rfl (fun _ => r_asg (by conv => lhs; whnf)) ?_ | refine q_pur rfl rfl rfl (fun _ => r_fa2 rfl (by conv => lhs; whnf; arg 1; whnf) (by first | (conv => lhs; simp only [Nat.reduceAdd, Nat.zero_add, Nat.add_zero]) | rfl)) ?_ | refine q_pur rfl rfl rfl (fun _ => r_ext rfl (by conv => lhs; whnf)) ?_ | refine q_pur rfl rfl rfl (fun _ => r_binN rfl rfl rfl (by omega)) ?_ | refine q_pur rfl rfl rfl (fun _ => r_ix (by omega) rfl rfl rfl rfl) ?_ | refine q_pur rfl rfl rfl (fun _ => r_notd rfl) ?_ | refine q_pur rfl rfl rfl (fun _ => r_notb rfl) ?_ | refine q_pur rfl rfl rfl (fun _ => r_pick_t rfl (by conv => lhs; whnf)) ?_ | refine q_pur rfl rfl rfl (fun _ => r_pick_f rfl (by conv => lhs; whnf)) ?_ | refine q_pur rfl rfl rfl (fun _ => r_nilc rfl) ?_ | refine q_not rfl rfl ?_ | refine q_val rfl rfl rfl rfl (fun w_ hw_ => r_lens rfl rfl) ?_ | refine q_val rfl rfl rfl rfl (fun w_ hw_ => r_lenv rfl rfl) ?_ | refine q_nil ?_ | (refine q_binT rfl rfl rfl rfl rfl ?_ ?_ <;> intro _ <;> try (exfalso; omega)))
  refine q_late rfl rfl rfl rfl (fun w' hw' => r_load rfl rfl (cell_of_block hw' rfl)) ?_
  refine q_val rfl rfl rfl rfl (fun w_ hw_ => r_loadN (vs := msgC (mv, m)) rfl rfl rfl (hrow w_ hw_)) ?_
  repeat' (first | refine q_pur rfl rfl rfl (fun _ => r_mov (by conv => lhs; whnf)) ?_ | refine q_pur rfl rfl rfl (fun _ => r_asg (by conv => lhs; whnf)) ?_ | refine q_pur rfl rfl rfl (fun _ => r_fa2 rfl (by conv => lhs; whnf; arg 1; whnf) (by first | (conv => lhs; simp only [Nat.reduceAdd, Nat.zero_add, Nat.add_zero]) | rfl)) ?_ | refine q_pur rfl rfl rfl (fun _ => r_ext rfl (by conv => lhs; whnf)) ?_ | refine q_pur rfl rfl rfl (fun _ => r_binN rfl rfl rfl (by omega)) ?_ | refine q_pur rfl rfl rfl (fun _ => r_ix (by omega) rfl rfl rfl rfl) ?_ | refine q_pur rfl rfl rfl (fun _ => r_notd rfl) ?_ | refine q_pur rfl rfl rfl (fun _ => r_notb rfl) ?_ | refine q_pur rfl rfl rfl (fun _ => r_pick_t rfl (by conv => lhs; whnf)) ?_ | refine q_pur rfl rfl rfl (fun _ => r_pick_f rfl (by conv => lhs; whnf)) ?_ | refine q_pur rfl rfl rfl (fun _ => r_nilc rfl) ?_ | refine q_not rfl rfl ?_ | refine q_val rfl rfl rfl rfl (fun w_ hw_ => r_lens rfl rfl) ?_ | refine q_val rfl rfl rfl rfl (fun w_ hw_ => r_lenv rfl rfl) ?_ | refine q_nil ?_ | (refine q_binT rfl rfl rfl rfl rfl ?_ ?_ <;> intro _ <;> try (exfalso; omega)))
  intro w2 hw2
  replace hl1 := hl1.heap hw2
  refine opsD_tail rfl rfl ?_
  refine o_buildSlice hl1 (msgC (mv, m)) rfl rfl (by kernel_rfl) ?_
  intro b3 w3 hb3 hl3
  refine o_nil ⟨.inl (hl3.get 2 rfl), ?_⟩
  refine opsD_tail rfl rfl ?_
  refine o_appendO (bl' := [(b3, .cells (msgC (mv, m)).toArray 83 (0, 0)), (b, .cells (msgC (mv, m)).toArray 83 (0, 0)), (d.qb, .cells #[d.qv] 65 (0, 0))]) (k := 3) (bytes := 40) (q := 1) (us := msgC (mv, m)) hl3 ha (hl3.rowL (vs := msgC (mv, m)) 0 0 3 rfl) rfl (by show (mv.oneCell' && _) = true; rw [hmv.2]; rfl) (by omega) (by omega) (by omega) rfl rfl rfl rfl rfl ?_
  intro qv w4 qacc hl4 ha4
  obtain ⟨qa, qc, rfl, -⟩ := ha4.shape
  refine o_nil ⟨.inr (by kernel_rfl), ?_⟩
  refine opsD_tail rfl rfl ?_
  refine o_put1 (bl' := (b3, .cells (msgC (mv, m)).toArray 83 (0, 0)) :: (b, .cells (msgC (mv, m)).toArray 83 (0, 0)) :: (d.qb, .cells #[.slice qa (d.l.length + 1) qc] 65 (0, 0)) :: qacc) hl4 rfl rfl rfl ⟨rfl, rfl⟩ rfl (.there (.there (.here (vs := [d.qv]) rfl rfl))) ?_
  intro w5 hl5
  refine o_nil ⟨.inr (by kernel_rfl), ?_⟩
  refine opsD_nil ?_
  unfold PostQ
  refine q_nil ?_
  refine retQ_tmp0 rfl rfl ⟨_, qacc, hl5.sub ((List.sublist_cons_self _ _).trans (List.sublist_cons_self _ _)), ?_⟩
  rw [List.flatMap_append]
  simpa using ha4

abbrev zeroMsg : List Value := [.slice none 0 0, .int .i64 0, .int .i64 0]
theorem first_none {d : QB} {w : World} (stay : Bool) (hl : Own w (qBl d)) (ha : AccO d.qv 3 83 d.l.length (d.l.flatMap msgC) d.qacc) (h0 : d.l = []) :
    Calls Try.prog 37 #[.pointer (some ⟨d.qb, 0, none⟩), .bool stay] w (fun e w' => ∃ v, e = .returned v ∧ v = .tuple #[.agg zeroMsg.toArray, .bool false] ∧ LH w (Go.Pd.In (qBl d)) w' (qBl d)) := by
  refine calls_of Try.func37 rfl Try.ntmps37 rfl ?_
  have hl0 : LH w (Go.Pd.In (qBl d)) w ((d.qb, .cells #[d.qv] 65 (0, 0)) :: d.qacc) := hl
  generalize Go.Pd.In (qBl d) = M at *
  obtain ⟨pa, pc, hqv, -⟩ := ha.shape
  replace hqv : d.qv = .slice pa 0 pc := by rw [hqv, h0]; rfl
  rw [hqv] at hl0
  refine wk_seq fun K hK => ?_
  refine wk_reg ?_
  refine o_alloc hl0 zeroMsg rfl rfl ?_
  intro b1 w1 hb1 hl1
  repeat' (first | refine a_mov ?_ | refine a_asg ?_ | refine a_binN ?_ | refine a_notd ?_ | refine a_notb ?_ | refine a_nilc ?_ | refine a_fa ?_ | refine a_ext ?_ | refine a_lenv ?_ | refine a_lens ?_ | refine a_pick_t ?_ | refine a_pick_f ?_ | refine a_not ?_ | refine a_nilf ?_ | (refine o_nil (hK _ _ ?_); clear hK K) | refine wk_reg ?_ | refine wk_seq fun K hK => ?_ | (refine wk_skip (hK _ _ ?_); clear hK K) | (refine wk_label (hK _ _ ?_); clear hK K) | refine wk_scope ?_ | refine wk_block ?_ | refine wk_cond_t rfl ?_ | refine wk_cond_f rfl ?_ | (refine wk_exit ?_; (repeat (refine blockK_other rfl ?_)); refine blockK_same ?_; try ((repeat ((fail_if_success (refine hK _ _ ?_)); clear hK K)); refine hK _ _ ?_; clear hK K)) | (refine a_bin ?_ ?_ <;> intro _ <;> try (exfalso; omega)) | refine a_ld hl ?_ | (refine a_st hl ?_; clear hl; intro _ hl) | refine a_ix (fun _ => ?_) | fail)
  refine o_alloc hl1 zeroMsg rfl rfl ?_
  intro b2 w2 hb2 hl2
  repeat' (first | refine a_mov ?_ | refine a_asg ?_ | refine a_binN ?_ | refine a_notd ?_ | refine a_notb ?_ | refine a_nilc ?_ | refine a_fa ?_ | refine a_ext ?_ | refine a_lenv ?_ | refine a_lens ?_ | refine a_pick_t ?_ | refine a_pick_f ?_ | refine a_not ?_ | refine a_nilf ?_ | (refine o_nil (hK _ _ ?_); clear hK K) | refine wk_reg ?_ | refine wk_seq fun K hK => ?_ | (refine wk_skip (hK _ _ ?_); clear hK K) | (refine wk_label (hK _ _ ?_); clear hK K) | refine wk_scope ?_ | refine wk_block ?_ | refine wk_cond_t rfl ?_ | refine wk_cond_f rfl ?_ | (refine wk_exit ?_; (repeat (refine blockK_other rfl ?_)); refine blockK_same ?_; try ((repeat ((fail_if_success (refine hK _ _ ?_)); clear hK K)); refine hK _ _ ?_; clear hK K)) | (refine a_bin ?_ ?_ <;> intro _ <;> try (exfalso; omega)) | refine a_ld hl ?_ | (refine a_st hl ?_; clear hl; intro _ hl) | refine a_ix (fun _ => ?_) | refine a_ld hl2 ?_ | fail)
  refine a_all (hl2.rowL (vs := zeroMsg) 0 0 3 rfl) ?_
  refine o_putN (us := zeroMsg) hl2 rfl rfl rfl rfl rfl (.there (.all (vs := zeroMsg) rfl rfl)) ?_
  intro w3 hl3
  repeat' (first | refine a_mov ?_ | refine a_asg ?_ | refine a_binN ?_ | refine a_notd ?_ | refine a_notb ?_ | refine a_nilc ?_ | refine a_fa ?_ | refine a_ext ?_ | refine a_lenv ?_ | refine a_lens ?_ | refine a_pick_t ?_ | refine a_pick_f ?_ | refine a_not ?_ | refine a_nilf ?_ | (refine o_nil (hK _ _ ?_); clear hK K) | refine wk_reg ?_ | refine wk_seq fun K hK => ?_ | (refine wk_skip (hK _ _ ?_); clear hK K) | (refine wk_label (hK _ _ ?_); clear hK K) | refine wk_scope ?_ | refine wk_block ?_ | refine wk_cond_t rfl ?_ | refine wk_cond_f rfl ?_ | (refine wk_exit ?_; (repeat (refine blockK_other rfl ?_)); refine blockK_same ?_; try ((repeat ((fail_if_success (refine hK _ _ ?_)); clear hK K)); refine hK _ _ ?_; clear hK K)) | (refine a_bin ?_ ?_ <;> intro _ <;> try (exfalso; omega)) | refine a_ld hl ?_ | (refine a_st hl ?_; clear hl; intro _ hl) | refine a_ix (fun _ => ?_) | fail)
  refine wk_ret (retQ_res [.agg zeroMsg.toArray, .bool false] rfl rfl ⟨by decide, ⟨⟨b1, 0, none⟩, rfl, run_loadVarN rfl rfl (hl3.rowL (vs := zeroMsg) 1 0 3 rfl)⟩, by decide, rfl, trivial⟩ ⟨rfl, ?_⟩)
  have h4 := hl3.sub ((List.sublist_cons_self _ _).trans (List.sublist_cons_self _ _))
  rw [← hqv] at h4
  exact h4

theorem first_some {d : QB} {w : World} (stay : Bool) (q : Value × Msg) (qs : List (Value × Msg)) (hl : Own w (qBl d)) (ha : AccO d.qv 3 83 d.l.length (d.l.flatMap msgC) d.qacc) (h0 : d.l = q :: qs) (hq : Cell1 q.1) :
    Calls Try.prog 37 #[.pointer (some ⟨d.qb, 0, none⟩), .bool stay] w (fun e w' => ∃ v, e = .returned v ∧ v = .tuple #[.agg (msgC q).toArray, .bool true] ∧ ∃ d', LH w (Go.Pd.In (qBl d)) w' (qBl d') ∧ d'.qb = d.qb ∧ d'.l = (if stay then d.l else qs) ∧ AccO d'.qv 3 83 d'.l.length (d'.l.flatMap msgC) d'.qacc) := by
  refine calls_of Try.func37 rfl Try.ntmps37 rfl ?_
  have hl0 : LH w (Go.Pd.In (qBl d)) w ((d.qb, .cells #[d.qv] 65 (0, 0)) :: d.qacc) := hl
  obtain ⟨pa, pc, hqv, hpc⟩ := ha.shape
  generalize Go.Pd.In (qBl d) = M at *
  have hq1 : (msgC q).all Value.oneCell' = true := by show (q.1.oneCell' && _) = true; rw [hq.2]; rfl
  rw [hqv] at hl0
  have ha0 := ha
  rw [hqv] at ha0
  have hlen0 : d.l.length = qs.length + 1 := by rw [h0]; rfl
  refine wk_seq fun K hK => ?_
  refine wk_reg ?_
  refine o_alloc hl0 zeroMsg rfl rfl ?_
  intro b1 w1 hb1 hl1
  repeat' (first | refine a_mov ?_ | refine a_asg ?_ | refine a_binN ?_ | refine a_notd ?_ | refine a_notb ?_ | refine a_nilc ?_ | refine a_fa ?_ | refine a_ext ?_ | refine a_lenv ?_ | refine a_lens ?_ | refine a_pick_t ?_ | refine a_pick_f ?_ | refine a_not ?_ | refine a_nilf ?_ | (refine o_nil (hK _ _ ?_); clear hK K) | refine wk_reg ?_ | refine wk_seq fun K hK => ?_ | (refine wk_skip (hK _ _ ?_); clear hK K) | (refine wk_label (hK _ _ ?_); clear hK K) | refine wk_scope ?_ | refine wk_block ?_ | refine wk_cond_t rfl ?_ | refine wk_cond_f rfl ?_ | (refine wk_exit ?_; (repeat (refine blockK_other rfl ?_)); refine blockK_same ?_; try ((repeat ((fail_if_success (refine hK _ _ ?_)); clear hK K)); refine hK _ _ ?_; clear hK K)) | (refine a_bin ?_ ?_ <;> intro _ <;> try (exfalso; omega)) | refine a_ld hl ?_ | (refine a_st hl ?_; clear hl; intro _ hl) | refine a_ix (fun _ => ?_) | fail)
  refine o_alloc hl1 zeroMsg rfl rfl ?_
  intro b2 w2 hb2 hl2
  have hsl := LH.accO_sl (l := []) (hl2.sub ((List.sublist_cons_self _ _).trans ((List.sublist_cons_self _ _).trans (List.sublist_cons_self _ _)))) ha0
  rw [h0] at hsl
  obtain ⟨b, o, hpa, hrow⟩ := hsl.at (msgL_len (q :: qs)) (by decide) (by simp)
  have hr0 : Row w2 b (o + 0 * 3) (msgC q) := hrow.elem msgC_len (k := 0) rfl
  repeat' (first | refine a_mov ?_ | refine a_asg ?_ | refine a_binN ?_ | refine a_notd ?_ | refine a_notb ?_ | refine a_nilc ?_ | refine a_fa ?_ | refine a_ext ?_ | refine a_lenv ?_ | refine a_lens ?_ | refine a_pick_t ?_ | refine a_pick_f ?_ | refine a_not ?_ | refine a_nilf ?_ | (refine o_nil (hK _ _ ?_); clear hK K) | refine wk_reg ?_ | refine wk_seq fun K hK => ?_ | (refine wk_skip (hK _ _ ?_); clear hK K) | (refine wk_label (hK _ _ ?_); clear hK K) | refine wk_scope ?_ | refine wk_block ?_ | refine wk_cond_t rfl ?_ | refine wk_cond_f rfl ?_ | (refine wk_exit ?_; (repeat (refine blockK_other rfl ?_)); refine blockK_same ?_; try ((repeat ((fail_if_success (refine hK _ _ ?_)); clear hK K)); refine hK _ _ ?_; clear hK K)) | (refine a_bin ?_ ?_ <;> intro _ <;> try (exfalso; omega)) | refine a_ld hl ?_ | (refine a_st hl ?_; clear hl; intro _ hl) | refine a_ix (fun _ => ?_) | refine a_ld hl2 ?_ | refine a_idx (c := 3) 0 hpa ?_ | refine a_all hr0 ?_ | fail)
  refine o_putN (us := msgC q) hl2 rfl rfl rfl hq1 rfl (.all (vs := zeroMsg) rfl rfl) ?_
  intro w3 hl3
  cases stay
  · repeat' (first | refine a_mov ?_ | refine a_asg ?_ | refine a_binN ?_ | refine a_notd ?_ | refine a_notb ?_ | refine a_nilc ?_ | refine a_fa ?_ | refine a_ext ?_ | refine a_lenv ?_ | refine a_lens ?_ | refine a_pick_t ?_ | refine a_pick_f ?_ | refine a_not ?_ | refine a_nilf ?_ | (refine o_nil (hK _ _ ?_); clear hK K) | refine wk_reg ?_ | refine wk_seq fun K hK => ?_ | (refine wk_skip (hK _ _ ?_); clear hK K) | (refine wk_label (hK _ _ ?_); clear hK K) | refine wk_scope ?_ | refine wk_block ?_ | refine wk_cond_t rfl ?_ | refine wk_cond_f rfl ?_ | (refine wk_exit ?_; (repeat (refine blockK_other rfl ?_)); refine blockK_same ?_; try ((repeat ((fail_if_success (refine hK _ _ ?_)); clear hK K)); refine hK _ _ ?_; clear hK K)) | (refine a_bin ?_ ?_ <;> intro _ <;> try (exfalso; omega)) | refine a_ld hl ?_ | (refine a_st hl ?_; clear hl; intro _ hl) | refine a_ix (fun _ => ?_) | refine a_ld hl3 ?_ | fail)
    obtain ⟨a', c', acc', e, hc', hsub, ha'⟩ := AccO.tail (v := d.qv) (k := 3) (m := qs.length) (x := msgC q) (xs := qs.flatMap msgC) (E := 83) (acc := d.qacc) (by rw [← hlen0]; rw [h0] at ha ⊢; exact ha) rfl
    rw [hqv, hlen0] at e
    injection e with e1 e2 e3
    subst e1 e3
    refine o_pur (v := cutLv pa d.l.length pc 3 1) rfl (fun w => r_slcL (e := 83) rfl rfl hpc (by omega) rfl rfl rfl w) ?_
    have hcv : cutLv pa d.l.length pc 3 1 = .slice (if pc = 1 then pa else pa.map (·.add (1 * 3))) (qs.length + 1 - 1) (pc - 1) := by unfold cutLv; rw [hlen0]
    rw [hcv]
    generalize hpp : (if pc = 1 then pa else pa.map (·.add (1 * 3))) = pp at ha'
    repeat' (first | refine a_mov ?_ | refine a_asg ?_ | refine a_binN ?_ | refine a_notd ?_ | refine a_notb ?_ | refine a_nilc ?_ | refine a_fa ?_ | refine a_ext ?_ | refine a_lenv ?_ | refine a_lens ?_ | refine a_pick_t ?_ | refine a_pick_f ?_ | refine a_not ?_ | refine a_nilf ?_ | (refine a_bin ?_ ?_ <;> intro _ <;> try (exfalso; omega)) | refine a_ld hl ?_ | (refine a_st hl ?_; clear hl; intro _ hl) | refine a_ix (fun _ => ?_) | fail)
    refine o_put1 (bl' := (b2, .cells (msgC q).toArray 83 (0, 0)) :: (b1, .cells zeroMsg.toArray 83 (0, 0)) :: (d.qb, .cells #[.slice pp (qs.length + 1 - 1) (pc - 1)] 65 (0, 0)) :: d.qacc) hl3 rfl rfl rfl ⟨rfl, rfl⟩ rfl (.there (.there (.here (vs := [.slice pa d.l.length pc]) rfl rfl))) ?_
    intro w4 hl4
    repeat' (first | refine a_mov ?_ | refine a_asg ?_ | refine a_binN ?_ | refine a_notd ?_ | refine a_notb ?_ | refine a_nilc ?_ | refine a_fa ?_ | refine a_ext ?_ | refine a_lenv ?_ | refine a_lens ?_ | refine a_pick_t ?_ | refine a_pick_f ?_ | refine a_not ?_ | refine a_nilf ?_ | (refine o_nil (hK _ _ ?_); clear hK K) | refine wk_reg ?_ | refine wk_seq fun K hK => ?_ | (refine wk_skip (hK _ _ ?_); clear hK K) | (refine wk_label (hK _ _ ?_); clear hK K) | refine wk_scope ?_ | refine wk_block ?_ | refine wk_cond_t rfl ?_ | refine wk_cond_f rfl ?_ | (refine wk_exit ?_; (repeat (refine blockK_other rfl ?_)); refine blockK_same ?_; try ((repeat ((fail_if_success (refine hK _ _ ?_)); clear hK K)); refine hK _ _ ?_; clear hK K)) | (refine a_bin ?_ ?_ <;> intro _ <;> try (exfalso; omega)) | refine a_ld hl ?_ | (refine a_st hl ?_; clear hl; intro _ hl) | refine a_ix (fun _ => ?_) | fail)
    refine a_all (hl4.rowL (vs := msgC q) 0 0 3 rfl) ?_
    refine o_putN (us := msgC q) hl4 rfl rfl rfl hq1 rfl (.there (.all (vs := zeroMsg) rfl rfl)) ?_
    intro w5 hl5
    repeat' (first | refine a_mov ?_ | refine a_asg ?_ | refine a_binN ?_ | refine a_notd ?_ | refine a_notb ?_ | refine a_nilc ?_ | refine a_fa ?_ | refine a_ext ?_ | refine a_lenv ?_ | refine a_lens ?_ | refine a_pick_t ?_ | refine a_pick_f ?_ | refine a_not ?_ | refine a_nilf ?_ | (refine o_nil (hK _ _ ?_); clear hK K) | refine wk_reg ?_ | refine wk_seq fun K hK => ?_ | (refine wk_skip (hK _ _ ?_); clear hK K) | (refine wk_label (hK _ _ ?_); clear hK K) | refine wk_scope ?_ | refine wk_block ?_ | refine wk_cond_t rfl ?_ | refine wk_cond_f rfl ?_ | (refine wk_exit ?_; (repeat (refine blockK_other rfl ?_)); refine blockK_same ?_; try ((repeat ((fail_if_success (refine hK _ _ ?_)); clear hK K)); refine hK _ _ ?_; clear hK K)) | (refine a_bin ?_ ?_ <;> intro _ <;> try (exfalso; omega)) | refine a_ld hl ?_ | (refine a_st hl ?_; clear hl; intro _ hl) | refine a_ix (fun _ => ?_) | fail)
    refine wk_ret (retQ_res [.agg (msgC q).toArray, .bool true] rfl rfl ⟨by decide, ⟨⟨b1, 0, none⟩, rfl, run_loadVarN rfl rfl (hl5.rowL (vs := msgC q) 1 0 3 rfl)⟩, by decide, rfl, trivial⟩ ⟨rfl, ⟨d.qb, .slice pp (qs.length + 1 - 1) (pc - 1), acc', qs⟩, ?_, rfl, rfl, ?_⟩)
    · exact hl5.sub ((List.Sublist.cons_cons _ hsub).trans ((List.sublist_cons_self _ _).trans (List.sublist_cons_self _ _)))
    · rw [Nat.add_sub_cancel] at *
      exact ha'
  · repeat' (first | refine a_mov ?_ | refine a_asg ?_ | refine a_binN ?_ | refine a_notd ?_ | refine a_notb ?_ | refine a_nilc ?_ | refine a_fa ?_ | refine a_ext ?_ | refine a_lenv ?_ | refine a_lens ?_ | refine a_pick_t ?_ | refine a_pick_f ?_ | refine a_not ?_ | refine a_nilf ?_ | (refine o_nil (hK _ _ ?_); clear hK K) | refine wk_reg ?_ | refine wk_seq fun K hK => ?_ | (refine wk_skip (hK _ _ ?_); clear hK K) | (refine wk_label (hK _ _ ?_); clear hK K) | refine wk_scope ?_ | refine wk_block ?_ | refine wk_cond_t rfl ?_ | refine wk_cond_f rfl ?_ | (refine wk_exit ?_; (repeat (refine blockK_other rfl ?_)); refine blockK_same ?_; try ((repeat ((fail_if_success (refine hK _ _ ?_)); clear hK K)); refine hK _ _ ?_; clear hK K)) | (refine a_bin ?_ ?_ <;> intro _ <;> try (exfalso; omega)) | refine a_ld hl ?_ | (refine a_st hl ?_; clear hl; intro _ hl) | refine a_ix (fun _ => ?_) | fail)
    refine a_all (hl3.rowL (vs := msgC q) 0 0 3 rfl) ?_
    refine o_putN (us := msgC q) hl3 rfl rfl rfl hq1 rfl (.there (.all (vs := zeroMsg) rfl rfl)) ?_
    intro w4 hl4
    repeat' (first | refine a_mov ?_ | refine a_asg ?_ | refine a_binN ?_ | refine a_notd ?_ | refine a_notb ?_ | refine a_nilc ?_ | refine a_fa ?_ | refine a_ext ?_ | refine a_lenv ?_ | refine a_lens ?_ | refine a_pick_t ?_ | refine a_pick_f ?_ | refine a_not ?_ | refine a_nilf ?_ | (refine o_nil (hK _ _ ?_); clear hK K) | refine wk_reg ?_ | refine wk_seq fun K hK => ?_ | (refine wk_skip (hK _ _ ?_); clear hK K) | (refine wk_label (hK _ _ ?_); clear hK K) | refine wk_scope ?_ | refine wk_block ?_ | refine wk_cond_t rfl ?_ | refine wk_cond_f rfl ?_ | (refine wk_exit ?_; (repeat (refine blockK_other rfl ?_)); refine blockK_same ?_; try ((repeat ((fail_if_success (refine hK _ _ ?_)); clear hK K)); refine hK _ _ ?_; clear hK K)) | (refine a_bin ?_ ?_ <;> intro _ <;> try (exfalso; omega)) | refine a_ld hl ?_ | (refine a_st hl ?_; clear hl; intro _ hl) | refine a_ix (fun _ => ?_) | fail)
    refine wk_ret (retQ_res [.agg (msgC q).toArray, .bool true] rfl rfl ⟨by decide, ⟨⟨b1, 0, none⟩, rfl, run_loadVarN rfl rfl (hl4.rowL (vs := msgC q) 1 0 3 rfl)⟩, by decide, rfl, trivial⟩ ⟨rfl, d, ?_, rfl, rfl, ha⟩)
    have h4 := hl4.sub ((List.sublist_cons_self _ _).trans (List.sublist_cons_self _ _))
    rw [← hqv] at h4
    exact h4
end Go.Proofs
