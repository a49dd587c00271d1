/-
  A network: Send.
-/
import Derived.Test.YthiiodbjmcafgaaNeG
set_option linter.unusedVariables false
set_option linter.unusedSimpArgs false
set_option linter.unnecessarySimpa false
set_option maxRecDepth 10000
namespace Go.Proofs
open Go Go.Pd Go.Ne
attribute [local irreducible] OpsL W RetQ OpsQ OpsC

set_option maxHeartbeats 4000000 in
theorem send_calls {X : Nat → Prop} {s : Net} {p : Nat} {bl : List (Nat × Obj)} {w : World} (h : NetR X s p bl w) (a b : Nat) (hlen : ∀ a, (texts s a).length ≤ 1000000) (hq : ∀ a b, (s.q a b).length ≤ 100) :
    Calls Try.prog 15 #[.pointer (some ⟨p, 0, none⟩), .int .i64 (a : Int), .int .i64 (b : Int)] w (fun e w' => ∃ v, e = .returned v ∧ v = .int .i64 (sendE s a b : Int) ∧ After X (send s a b) p bl w w') := by
  have hR := h
  obtain ⟨D, rfl, rfl, rfl, hok, hown⟩ := h
  obtain ⟨nb, no, nc, hnv, hptr⟩ := hok.ptr hown
  have hhd := NetOK.head hown
  rw [hnv] at hhd
  have hsame : ∀ {w'}, Ext w w' → sendE s a b ≠ 0 → After D.X (send s a b) D.p (D.bl s) w w' := fun e hne => by
    have : send s a b = s := if_pos hne
    rw [this]; exact After.same hR e
  refine calls_of Try.func15 rfl Try.ntmps15 rfl ?_
  repeat' (first | refine a_mov ?_ | refine a_asg ?_ | refine a_binN ?_ | refine a_notd ?_ | refine a_notb ?_ | refine a_nilc ?_ | refine a_fa ?_ | refine a_ext ?_ | refine a_lenv ?_ | refine a_lens ?_ | refine a_pick_t ?_ | refine a_pick_f ?_ | refine a_not ?_ | refine a_nilf ?_ | (refine o_nil (hK _ _ ?_); clear hK K) | refine wk_reg ?_ | refine wk_seq fun K hK => ?_ | (refine wk_skip (hK _ _ ?_); clear hK K) | (refine wk_label (hK _ _ ?_); clear hK K) | refine wk_scope ?_ | refine wk_block ?_ | refine wk_cond_t rfl ?_ | refine wk_cond_f rfl ?_ | (refine wk_exit ?_; (repeat (refine blockK_other rfl ?_)); refine blockK_same ?_; try ((repeat ((fail_if_success (refine hK _ _ ?_)); clear hK K)); refine hK _ _ ?_; clear hK K)) | (refine a_bin ?_ ?_ <;> intro _ <;> try (exfalso; omega)) | refine a_ld hl ?_ | (refine a_st hl ?_; clear hl; intro _ hl) | refine a_ix (fun _ => ?_) | fail)
  refine o_buildSlice (LH.start w (fun _ => False)) [.int .i64 (a : Int), .int .i64 (b : Int)] rfl rfl (by kernel_rfl) ?_
  intro b1 w1 hb1 hl1
  refine a_fn (there_calls (p := D.p) (l := [a, b]) (Sl.mk (b := b1) (o := 0) (m := 2) (c := 2) rfl (Nat.le_refl _) (hl1.rowL (vs := [.int .i64 (a : Int), .int .i64 (b : Int)]) 0 0 2 rfl)) (by simp) (fun j v hj => (hhd.ext hl1.done) j v (by cases j with | zero => exact hj | succ j => simp at hj))) ?_
  rintro _ w2 ⟨rfl, he2⟩
  have hx2 : Ext w w2 := hl1.done.trans he2
  by_cases hp : pair s a b = true
  · obtain ⟨ha, hb, hab⟩ := of_decide_eq_true hp
    have hall : [a, b].all (fun i => decide (i < s.n)) = true := by simp [ha, hb]
    rw [hall]
    have hl2 := hown.ext hx2
    repeat' (first | refine a_mov ?_ | refine a_asg ?_ | refine a_binN ?_ | refine a_notd ?_ | refine a_notb ?_ | refine a_nilc ?_ | refine a_fa ?_ | refine a_ext ?_ | refine a_lenv ?_ | refine a_lens ?_ | refine a_pick_t ?_ | refine a_pick_f ?_ | refine a_not ?_ | refine a_nilf ?_ | (refine o_nil (hK _ _ ?_); clear hK K) | refine wk_reg ?_ | refine wk_seq fun K hK => ?_ | (refine wk_skip (hK _ _ ?_); clear hK K) | (refine wk_label (hK _ _ ?_); clear hK K) | refine wk_scope ?_ | refine wk_block ?_ | refine wk_cond_t rfl ?_ | refine wk_cond_f rfl ?_ | (refine wk_exit ?_; (repeat (refine blockK_other rfl ?_)); refine blockK_same ?_; try ((repeat ((fail_if_success (refine hK _ _ ?_)); clear hK K)); refine hK _ _ ?_; clear hK K)) | (refine a_bin ?_ ?_ <;> intro _ <;> try (exfalso; omega)) | refine a_ld hl ?_ | (refine a_st hl ?_; clear hl; intro _ hl) | refine a_ix (fun _ => ?_) | refine a_row (hhd.ext hx2) ?_ | fail)
    refine o_build [.int .i64 (a : Int), .int .i64 (b : Int)] rfl (by kernel_rfl) ?_
    refine o_lookup (a, b) hok.qm (hl2.get 1 rfl) (key_int2 rfl rfl rfl) rfl rfl rfl rfl rfl ?_
    rw [hok.qg a b ha hb]
    repeat' (first | refine a_mov ?_ | refine a_asg ?_ | refine a_binN ?_ | refine a_notd ?_ | refine a_notb ?_ | refine a_nilc ?_ | refine a_fa ?_ | refine a_ext ?_ | refine a_lenv ?_ | refine a_lens ?_ | refine a_pick_t ?_ | refine a_pick_f ?_ | refine a_not ?_ | refine a_nilf ?_ | (refine o_nil (hK _ _ ?_); clear hK K) | refine wk_reg ?_ | refine wk_seq fun K hK => ?_ | (refine wk_skip (hK _ _ ?_); clear hK K) | (refine wk_label (hK _ _ ?_); clear hK K) | refine wk_scope ?_ | refine wk_block ?_ | refine wk_cond_t rfl ?_ | refine wk_cond_f rfl ?_ | (refine wk_exit ?_; (repeat (refine blockK_other rfl ?_)); refine blockK_same ?_; try ((repeat ((fail_if_success (refine hK _ _ ?_)); clear hK K)); refine hK _ _ ?_; clear hK K)) | (refine a_bin ?_ ?_ <;> intro _ <;> try (exfalso; omega)) | refine a_ld hl ?_ | (refine a_st hl ?_; clear hl; intro _ hl) | refine a_ix (fun _ => ?_) | fail)
    have hd2 : ∀ w', To w2 w' w2.heap → w'.heap[D.p]? = some (.cells #[D.nv, .map (some D.qm), .map (some D.cm), .map (some D.am)] 55 (0, 0)) := fun w' h => (hl2.heap h).get 0 rfl
    refine wk_draw [0, 1, 2, 3, 4, 5] [3] [6, 7, 8] (fun w' => To w2 w' w2.heap) (fun w' => w'.heap[D.p]? = some (.cells #[D.nv, .map (some D.qm), .map (some D.cm), .map (some D.am)] 55 (0, 0))) rfl (by kernel_rfl) (fun _ _ _ _ h => by first | exact h | (simp only [BlockK, NoGoto, RetQ] at h)) (fun _ h => h) (fun w' h => hd2 w' h) ?_
    repeat' (first | refine q_pur rfl rfl rfl (fun _ => r_mov (by conv => lhs; whnf)) ?_ | refine q_pur rfl rfl rfl (fun _ => r_asg (by conv => lhs; whnf)) ?_ | refine q_pur rfl rfl rfl (fun _ => r_fa2 rfl (by conv => lhs; whnf; arg 1; whnf) (by first | (conv => lhs; simp only [Nat.reduceAdd, Nat.zero_add, Nat.add_zero]) | rfl)) ?_ | refine q_pur rfl rfl rfl (fun _ => r_ext rfl (by conv => lhs; whnf)) ?_ | refine q_pur rfl rfl rfl (fun _ => r_binN rfl rfl rfl (by omega)) ?_ | refine q_pur rfl rfl rfl (fun _ => r_ix (by omega) rfl rfl rfl rfl) ?_ | refine q_pur rfl rfl rfl (fun _ => r_notd rfl) ?_ | refine q_pur rfl rfl rfl (fun _ => r_notb rfl) ?_ | refine q_pur rfl rfl rfl (fun _ => r_pick_t rfl (by conv => lhs; whnf)) ?_ | refine q_pur rfl rfl rfl (fun _ => r_pick_f rfl (by conv => lhs; whnf)) ?_ | refine q_pur rfl rfl rfl (fun _ => r_nilc rfl) ?_ | refine q_not rfl rfl ?_ | refine q_val rfl rfl rfl rfl (fun w_ hw_ => r_lens rfl rfl) ?_ | refine q_val rfl rfl rfl rfl (fun w_ hw_ => r_lenv rfl rfl) ?_ | refine q_nil ?_ | (refine q_binT rfl rfl rfl rfl rfl ?_ ?_ <;> intro _ <;> try (exfalso; omega)))
    refine q_late rfl rfl rfl rfl (fun w' hw' => r_load rfl rfl (cell_of_block hw' rfl)) ?_
    repeat' (first | refine q_pur rfl rfl rfl (fun _ => r_mov (by conv => lhs; whnf)) ?_ | refine q_pur rfl rfl rfl (fun _ => r_asg (by conv => lhs; whnf)) ?_ | refine q_pur rfl rfl rfl (fun _ => r_fa2 rfl (by conv => lhs; whnf; arg 1; whnf) (by first | (conv => lhs; simp only [Nat.reduceAdd, Nat.zero_add, Nat.add_zero]) | rfl)) ?_ | refine q_pur rfl rfl rfl (fun _ => r_ext rfl (by conv => lhs; whnf)) ?_ | refine q_pur rfl rfl rfl (fun _ => r_binN rfl rfl rfl (by omega)) ?_ | refine q_pur rfl rfl rfl (fun _ => r_ix (by omega) rfl rfl rfl rfl) ?_ | refine q_pur rfl rfl rfl (fun _ => r_notd rfl) ?_ | refine q_pur rfl rfl rfl (fun _ => r_notb rfl) ?_ | refine q_pur rfl rfl rfl (fun _ => r_pick_t rfl (by conv => lhs; whnf)) ?_ | refine q_pur rfl rfl rfl (fun _ => r_pick_f rfl (by conv => lhs; whnf)) ?_ | refine q_pur rfl rfl rfl (fun _ => r_nilc rfl) ?_ | refine q_not rfl rfl ?_ | refine q_val rfl rfl rfl rfl (fun w_ hw_ => r_lens rfl rfl) ?_ | refine q_val rfl rfl rfl rfl (fun w_ hw_ => r_lenv rfl rfl) ?_ | refine q_nil ?_ | (refine q_binT rfl rfl rfl rfl rfl ?_ ?_ <;> intro _ <;> try (exfalso; omega)))
    intro w3 hw3
    have hl3 := hl2.heap hw3
    refine ops_tail rfl rfl ?_
    refine a_fn (line_calls a b w3) ?_
    rintro _ w4 ⟨rfl, he4⟩
    have hx4 : Ext w w4 := hx2.trans (Ext.trans (Upd.of_heap hw3) he4)
    have hl4 := hown.ext hx4
    refine o_nil ⟨hl4.get 0 rfl, ?_⟩
    refine ops_tail rfl rfl ?_
    refine o_lookup (min a b, max a b) hok.cm (hl4.get 2 rfl) (key_int2 rfl rfl rfl) rfl rfl rfl rfl rfl ?_
    rw [boolI_get]
    have hck := hok.ck (min a b) (max a b)
    by_cases hc : (min a b, max a b) ∈ D.ck
    · rw [if_pos hc]
      rw [decide_eq_true hc] at hck
      refine o_nil ⟨hl4.get 0 rfl, ?_⟩
      refine ops_tail rfl rfl ?_
      refine a_asg ?_
      refine o_nil ⟨hl4.get 0 rfl, ?_⟩
      refine ops_nil (hK _ _ ?_)
      clear hK K
      repeat' (first | refine a_mov ?_ | refine a_asg ?_ | refine a_binN ?_ | refine a_notd ?_ | refine a_notb ?_ | refine a_nilc ?_ | refine a_fa ?_ | refine a_ext ?_ | refine a_lenv ?_ | refine a_lens ?_ | refine a_pick_t ?_ | refine a_pick_f ?_ | refine a_not ?_ | refine a_nilf ?_ | (refine o_nil (hK _ _ ?_); clear hK K) | refine wk_reg ?_ | refine wk_seq fun K hK => ?_ | (refine wk_skip (hK _ _ ?_); clear hK K) | (refine wk_label (hK _ _ ?_); clear hK K) | refine wk_scope ?_ | refine wk_block ?_ | refine wk_cond_t rfl ?_ | refine wk_cond_f rfl ?_ | (refine wk_exit ?_; (repeat (refine blockK_other rfl ?_)); refine blockK_same ?_; try ((repeat ((fail_if_success (refine hK _ _ ?_)); clear hK K)); refine hK _ _ ?_; clear hK K)) | (refine a_bin ?_ ?_ <;> intro _ <;> try (exfalso; omega)) | refine a_ld hl ?_ | (refine a_st hl ?_; clear hl; intro _ hl) | refine a_ix (fun _ => ?_) | fail)
      refine wk_ret (retQ_tmp1 Try.results15 (by decide) rfl (by conv => lhs; whnf) ?_)
      have hE : sendE s a b = 28 := by unfold sendE; rw [if_neg (by rw [hp]; decide), if_pos (show cutA s a b = true from hck)]
      exact ⟨by rw [hE]; rfl, hsame hx4 (by rw [hE]; decide)⟩
    · rw [if_neg hc]
      rw [decide_eq_false hc] at hck
      have hQ := hok.qu a b ha hb
      have hlq : (D.qu (a, b)).l.length = (s.q a b).length := by rw [← hQ.l, List.length_map]
      obtain ⟨pa, pc, hqv, hpc⟩ := hQ.a.shape
      have hqo : Own w4 (qBl (D.qu (a, b))) := NetOK.qOwn hl4 ha hb
      have hrq : Row w4 (D.qu (a, b)).qb 0 [(D.qu (a, b)).qv] := hqo.rowL (vs := [(D.qu (a, b)).qv]) 0 0 1 rfl
      rw [hqv] at hrq
      have hno := NetOK.nodOwn hl4 ha
      have hd := hok.nd a ha
      have hn8 := hok.np.2
      refine o_nil ⟨hl4.get 0 rfl, ?_⟩
      refine ops_tail rfl rfl ?_
      refine a_asg ?_
      refine o_nil ⟨hl4.get 0 rfl, ?_⟩
      refine ops_nil (hK _ _ ?_)
      clear hK K
      repeat' (first | refine a_mov ?_ | refine a_asg ?_ | refine a_binN ?_ | refine a_notd ?_ | refine a_notb ?_ | refine a_nilc ?_ | refine a_fa ?_ | refine a_ext ?_ | refine a_lenv ?_ | refine a_lens ?_ | refine a_pick_t ?_ | refine a_pick_f ?_ | refine a_not ?_ | refine a_nilf ?_ | (refine o_nil (hK _ _ ?_); clear hK K) | refine wk_reg ?_ | refine wk_seq fun K hK => ?_ | (refine wk_skip (hK _ _ ?_); clear hK K) | (refine wk_label (hK _ _ ?_); clear hK K) | refine wk_scope ?_ | refine wk_block ?_ | refine wk_cond_t rfl ?_ | refine wk_cond_f rfl ?_ | (refine wk_exit ?_; (repeat (refine blockK_other rfl ?_)); refine blockK_same ?_; try ((repeat ((fail_if_success (refine hK _ _ ?_)); clear hK K)); refine hK _ _ ?_; clear hK K)) | (refine a_bin ?_ ?_ <;> intro _ <;> try (exfalso; omega)) | refine a_ld hl ?_ | (refine a_st hl ?_; clear hl; intro _ hl) | refine a_ix (fun _ => ?_) | refine a_row hrq ?_ | refine a_row (hhd.ext hx4) ?_ | refine a_idx (c := 1) a rfl ?_ | refine a_row ((hptr a ha).ext hx4) ?_ | fail)
      · refine wk_ret (retQ_tmp1 Try.results15 (by decide) rfl (by conv => lhs; whnf) ?_)
        have hE : sendE s a b = 27 := by unfold sendE; rw [if_neg (by rw [hp]; decide), if_neg (by unfold cutA; rw [hck]; decide), if_pos (by omega)]
        exact ⟨by rw [hE]; rfl, hsame hx4 (by rw [hE]; decide)⟩
      · have hE : sendE s a b = 0 := by unfold sendE; rw [if_neg (by rw [hp]; decide), if_neg (by unfold cutA; rw [hck]; decide), if_neg (by omega)]
        have hsd : send s a b = { s with q := upd2 s.q a b (s.q a b ++ [msg s a b]) } := if_neg (by rw [hE]; exact fun h => h rfl)
        have hpr := NodOK.peer hno hb hn8
        have hr2 := NodOK.row2 hno
        obtain ⟨ta, tc, htv, htc⟩ := (hd.sl hno).shape (m := (s.node a).texts.length) (by simp) (by omega)
        rw [htv] at hr2
        refine wk_last (List.dropLast_concat_getLast (by simp)).symm (by kernel_rfl) ?_
        refine any_grow [([0, 1, 2, 3, 5, 6, 7, 8, 9, 10, 11, 12, 13, 14, 15, 16], [4]), ([17], [])] ?_ (fun _ _ _ _ h => by first | exact h | (simp only [BlockK, NoGoto, RetQ] at h)) (by kernel_rfl)
        refine g_one (fun v w' => SlO (D.D s) w' v 1 (strL (lacks s a b)) ∧ ∃ x k c, v = .slice x k c) (fun v w w' h e => ⟨h.1.ext e, h.2⟩) ?_
        repeat' (first | refine x_mov ?_ | refine x_asg ?_ | refine x_fa ?_ | refine x_ext ?_ | refine x_binN ?_ | refine x_notd ?_ | refine x_notb ?_ | refine x_pick_t ?_ | refine x_pick_f ?_ | refine x_nilc ?_ | refine x_skip ?_ | refine x_lens ?_ | refine x_lenv ?_ | refine x_ix (fun _ => ?_) | (refine x_bin ?_ ?_ <;> intro _ <;> try (exfalso; omega)) | refine x_row (fun w_ hw_ => hr2.ext hw_) ?_ | refine x_row (fun w_ hw_ => hpr.ext hw_) ?_ | refine x_pur rfl rfl (fun _ => r_indexArr (len := 8) (k := 3) b (by omega) rfl rfl rfl rfl rfl) ?_ | fail)
        refine x_nil ⟨fun v => p_fn (fun w' hw' _ => ?_), fun v w5 hw5 hRv => ?_⟩
        · refine (lacks_calls (hR.ext (hx4.trans hw')) a b hlen).mono ?_
          rintro e w6 ⟨x, rfl, acc, hl6, ha6⟩
          refine ⟨x, rfl, ⟨SlO.freshD hl6 ha6 fun b hb => ?_, ?_⟩, hl6.done⟩
          · refine Nat.lt_of_lt_of_le ?_ (hx4.trans hw').size
            rcases hb with hb | hb
            · exact hown.idlt hb
            · exact hok.xs b hb
          · obtain ⟨x, c, hx⟩ := ha6.shape
            exact ⟨x, _, c, hx⟩
        · obtain ⟨hs5, x, k, c, rfl⟩ := hRv
          refine g_end ?_
          refine x_build (msgC (.slice x k c, msg s a b)) rfl rfl (by kernel_rfl) ?_
          refine x_nil fun w6 hw6 => ?_
          have hx6 : Ext w w6 := hx4.trans (hw5.trans hw6)
          have hl6 := hown.ext hx6
          have hqo6 : Own w6 (qBl (D.qu (a, b))) := NetOK.qOwn hl6 ha hb
          refine a_fn (push_calls (.slice x k c) ⟨rfl, rfl⟩ (m := msg s a b) hqo6 (by rw [hlq]; exact hQ.a) (by rw [hlq]; have := hq a b; omega)) ?_
          rintro v7 w7 ⟨qv, qacc, hl7, ha7⟩
          refine o_nil (hK _ _ ?_)
          clear hK K
          obtain ⟨hl8, hok8⟩ := (hok.ext hx6).queue hl6 ha hb (d' := ⟨(D.qu (a, b)).qb, qv, qacc, (D.qu (a, b)).l ++ [(.slice x k c, msg s a b)]⟩) (ms' := s.q a b ++ [msg s a b]) hl7 rfl (fun l' hl' => ⟨by rw [List.length_append, ← hlq]; exact ha7, by rw [List.map_append, hQ.l]; rfl, fun q hq => by
            rcases List.mem_append.1 hq with hq | hq
            · exact (((hQ.s q hq).ext hx6)).stepX hl'
            · obtain rfl : q = (.slice x k c, msg s a b) := by simpa using hq
              exact (hs5.ext hw6).stepX (X := D.X) hl'⟩)
          repeat' (first | refine a_mov ?_ | refine a_asg ?_ | refine a_binN ?_ | refine a_notd ?_ | refine a_notb ?_ | refine a_nilc ?_ | refine a_fa ?_ | refine a_ext ?_ | refine a_lenv ?_ | refine a_lens ?_ | refine a_pick_t ?_ | refine a_pick_f ?_ | refine a_not ?_ | refine a_nilf ?_ | (refine o_nil (hK _ _ ?_); clear hK K) | refine wk_reg ?_ | refine wk_seq fun K hK => ?_ | (refine wk_skip (hK _ _ ?_); clear hK K) | (refine wk_label (hK _ _ ?_); clear hK K) | refine wk_scope ?_ | refine wk_block ?_ | refine wk_cond_t rfl ?_ | refine wk_cond_f rfl ?_ | (refine wk_exit ?_; (repeat (refine blockK_other rfl ?_)); refine blockK_same ?_; try ((repeat ((fail_if_success (refine hK _ _ ?_)); clear hK K)); refine hK _ _ ?_; clear hK K)) | (refine a_bin ?_ ?_ <;> intro _ <;> try (exfalso; omega)) | refine a_ld hl ?_ | (refine a_st hl ?_; clear hl; intro _ hl) | refine a_ix (fun _ => ?_) | fail)
          refine wk_ret (retQ_tmp1 Try.results15 (by decide) rfl (by conv => lhs; whnf) ?_)
          refine ⟨by rw [hE]; rfl, ?_⟩
          rw [hsd]
          exact After.mk (by rfl) hl8 hok8
  · have hE : sendE s a b = 1 := by unfold sendE; rw [if_pos (by simpa using hp)]
    by_cases hall : [a, b].all (fun i => decide (i < s.n)) = true
    · rw [hall]
      have hab : a = b := by
        simp at hall
        apply Classical.byContradiction
        intro hne
        exact hp (decide_eq_true ⟨hall.1, hall.2, hne⟩)
      subst hab
      repeat' (first | refine a_mov ?_ | refine a_asg ?_ | refine a_binN ?_ | refine a_notd ?_ | refine a_notb ?_ | refine a_nilc ?_ | refine a_fa ?_ | refine a_ext ?_ | refine a_lenv ?_ | refine a_lens ?_ | refine a_pick_t ?_ | refine a_pick_f ?_ | refine a_not ?_ | refine a_nilf ?_ | (refine o_nil (hK _ _ ?_); clear hK K) | refine wk_reg ?_ | refine wk_seq fun K hK => ?_ | (refine wk_skip (hK _ _ ?_); clear hK K) | (refine wk_label (hK _ _ ?_); clear hK K) | refine wk_scope ?_ | refine wk_block ?_ | refine wk_cond_t rfl ?_ | refine wk_cond_f rfl ?_ | (refine wk_exit ?_; (repeat (refine blockK_other rfl ?_)); refine blockK_same ?_; try ((repeat ((fail_if_success (refine hK _ _ ?_)); clear hK K)); refine hK _ _ ?_; clear hK K)) | (refine a_bin ?_ ?_ <;> intro _ <;> try (exfalso; omega)) | refine a_ld hl ?_ | (refine a_st hl ?_; clear hl; intro _ hl) | refine a_ix (fun _ => ?_) | fail)
      refine wk_ret (retQ_tmp1 Try.results15 (by decide) rfl (by conv => lhs; whnf) ?_)
      exact ⟨by rw [hE]; rfl, hsame hx2 (by rw [hE]; decide)⟩
    · rw [Bool.not_eq_true] at hall
      rw [hall]
      repeat' (first | refine a_mov ?_ | refine a_asg ?_ | refine a_binN ?_ | refine a_notd ?_ | refine a_notb ?_ | refine a_nilc ?_ | refine a_fa ?_ | refine a_ext ?_ | refine a_lenv ?_ | refine a_lens ?_ | refine a_pick_t ?_ | refine a_pick_f ?_ | refine a_not ?_ | refine a_nilf ?_ | (refine o_nil (hK _ _ ?_); clear hK K) | refine wk_reg ?_ | refine wk_seq fun K hK => ?_ | (refine wk_skip (hK _ _ ?_); clear hK K) | (refine wk_label (hK _ _ ?_); clear hK K) | refine wk_scope ?_ | refine wk_block ?_ | refine wk_cond_t rfl ?_ | refine wk_cond_f rfl ?_ | (refine wk_exit ?_; (repeat (refine blockK_other rfl ?_)); refine blockK_same ?_; try ((repeat ((fail_if_success (refine hK _ _ ?_)); clear hK K)); refine hK _ _ ?_; clear hK K)) | (refine a_bin ?_ ?_ <;> intro _ <;> try (exfalso; omega)) | refine a_ld hl ?_ | (refine a_st hl ?_; clear hl; intro _ hl) | refine a_ix (fun _ => ?_) | fail)
      refine wk_ret (retQ_tmp1 Try.results15 (by decide) rfl (by conv => lhs; whnf) ?_)
      exact ⟨by rw [hE]; rfl, hsame hx2 (by rw [hE]; decide)⟩
end Go.Proofs
