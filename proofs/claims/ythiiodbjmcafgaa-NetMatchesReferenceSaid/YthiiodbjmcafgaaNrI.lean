/-
  The reference's network: New.
-/
import Derived.Test.YthiiodbjmcafgaaNrH
import Derived.Test.YthiiodbjmcafgaaNeN
set_option linter.unusedVariables false
set_option linter.unusedSimpArgs false
set_option linter.unnecessarySimpa false
set_option maxRecDepth 10000
namespace Go.Proofs
open Go Go.Pd Go.Ne
attribute [local irreducible] OpsL W RetQ OpsQ OpsC
theorem permQ1 {α : Type} (A B C D : List α) : ((A ++ (B ++ C)) ++ D).Perm (((B ++ C) ++ D) ++ A) := by
  rw [show (A ++ (B ++ C)) ++ D = A ++ ((B ++ C) ++ D) by simp only [List.append_assoc]]; exact List.perm_append_comm
theorem permQ2 {α : Type} (A B C D : List α) : (((A ++ B) ++ C) ++ D).Perm ((B ++ C ++ D) ++ A) := by
  rw [show ((A ++ B) ++ C) ++ D = A ++ (B ++ C ++ D) by simp only [List.append_assoc]]; exact List.perm_append_comm
theorem permEnd {α : Type} (top : α) (rows N Q O news : List α) : (news ++ (top :: ((rows ++ N ++ Q) ++ O))).Perm (top :: (N ++ (Q ++ (O ++ (rows ++ news))))) := by
  refine List.perm_append_comm.trans ?_
  show (top :: (((rows ++ N ++ Q) ++ O) ++ news)).Perm _
  refine List.Perm.cons _ ?_
  rw [show ((rows ++ N ++ Q) ++ O) ++ news = (rows ++ (N ++ (Q ++ O))) ++ news by simp only [List.append_assoc], show N ++ (Q ++ (O ++ (rows ++ news))) = ((N ++ (Q ++ O)) ++ rows) ++ news by simp only [List.append_assoc]]
  exact List.perm_append_comm.append_right _
theorem permNews {α : Type} (a b c d e : α) : [e, d, a, b, c].Perm [a, b, c, d, e] := (List.perm_append_comm (l₁ := [e, d]) (l₂ := [a, b, c])).trans (List.Perm.append_left [a, b, c] (List.Perm.swap d e []))
theorem acc_arr {v : Value} {k m : Nat} {E : TypeId} {xs : List Value} {acc : List (Nat × Obj)} (h : Acc v k E m xs acc) (hm : 0 < m) : ∃ b c j, v = arrV b m c ∧ acc = [(b, .cells (xs ++ j).toArray E (0, 0))] := by
  rcases h.2 with ⟨-, h0, -⟩ | ⟨b, cap, cur, h1, h2, -, -, -, h4⟩
  · omega
  · refine ⟨b, cap, cur.toList.drop (m * k), h1, ?_⟩
    rw [h2, ← h4, List.take_append_drop]
theorem newR_bad (z : Int) (hz : z < 1 ∨ 8 < z) (w : World) : Calls Try.prog 12 #[.int .i64 z] w (fun e w' => ∃ v, e = .returned v ∧ v = .tuple #[.pointer none, .int .i64 1] ∧ Ext w w') := by
  refine calls_of Try.func12 rfl Try.ntmps12 rfl ?_
  repeat' (first | refine a_mov ?_ | refine a_asg ?_ | refine a_binN ?_ | refine a_notd ?_ | refine a_notb ?_ | refine a_nilc ?_ | refine a_fa ?_ | refine a_ext ?_ | refine a_lenv ?_ | refine a_lens ?_ | refine a_pick_t ?_ | refine a_pick_f ?_ | refine a_not ?_ | refine a_nilf ?_ | (refine o_nil (hK _ _ ?_); clear hK K) | refine wk_reg ?_ | refine wk_seq fun K hK => ?_ | (refine wk_skip (hK _ _ ?_); clear hK K) | (refine wk_label (hK _ _ ?_); clear hK K) | refine wk_scope ?_ | refine wk_block ?_ | refine wk_cond_t rfl ?_ | refine wk_cond_f rfl ?_ | (refine wk_exit ?_; (repeat (refine blockK_other rfl ?_)); refine blockK_same ?_; try ((repeat ((fail_if_success (refine hK _ _ ?_)); clear hK K)); refine hK _ _ ?_; clear hK K)) | (refine a_bin ?_ ?_ <;> intro _ <;> try (exfalso; omega)) | refine a_ld hl ?_ | (refine a_st hl ?_; clear hl; intro _ hl) | refine a_ix (fun _ => ?_) | fail)
  all_goals (refine wk_ret (retQ_tmp2 Try.results12 (by decide) (by decide) rfl (by conv => lhs; whnf) (by conv => lhs; whnf) ?_))
  all_goals exact ⟨rfl, .refl _ _⟩

set_option maxHeartbeats 4000000 in
theorem newR_calls {Y : Nat → Prop} (n : Nat) (hn : 1 ≤ n ∧ n ≤ 8) (w : World) (hY : ∀ b, Y b → b < w.heap.size) : Calls Try.prog 12 #[.int .i64 (n : Int)] w (fun e w' => ∃ v, e = .returned v ∧ ∃ p, v = .tuple #[.pointer (some ⟨p, 0, none⟩), .int .i64 0] ∧ ∃ bl, LH w (fun _ => False) w' bl ∧ RefR Y (Ne.new n) p bl w') := by
  refine calls_of Try.func12 rfl Try.ntmps12 rfl ?_
  repeat' (first | refine a_mov ?_ | refine a_asg ?_ | refine a_binN ?_ | refine a_notd ?_ | refine a_notb ?_ | refine a_nilc ?_ | refine a_fa ?_ | refine a_ext ?_ | refine a_lenv ?_ | refine a_lens ?_ | refine a_pick_t ?_ | refine a_pick_f ?_ | refine a_not ?_ | refine a_nilf ?_ | (refine o_nil (hK _ _ ?_); clear hK K) | refine wk_reg ?_ | refine wk_seq fun K hK => ?_ | (refine wk_skip (hK _ _ ?_); clear hK K) | (refine wk_label (hK _ _ ?_); clear hK K) | refine wk_scope ?_ | refine wk_block ?_ | refine wk_cond_t rfl ?_ | refine wk_cond_f rfl ?_ | (refine wk_exit ?_; (repeat (refine blockK_other rfl ?_)); refine blockK_same ?_; try ((repeat ((fail_if_success (refine hK _ _ ?_)); clear hK K)); refine hK _ _ ?_; clear hK K)) | (refine a_bin ?_ ?_ <;> intro _ <;> try (exfalso; omega)) | refine a_ld hl ?_ | (refine a_st hl ?_; clear hl; intro _ hl) | refine a_ix (fun _ => ?_) | fail)
  refine o_build [.slice none 0 0, .slice none 0 0, .slice none 0 0, .slice none 0 0] rfl (by kernel_rfl) ?_
  refine o_box (LH.start w (fun _ => False)) [.slice none 0 0, .slice none 0 0, .slice none 0 0, .slice none 0 0] rfl rfl rfl ?_
  intro p w1 hp hl1
  repeat' (first | refine a_mov ?_ | refine a_asg ?_ | refine a_binN ?_ | refine a_notd ?_ | refine a_notb ?_ | refine a_nilc ?_ | refine a_fa ?_ | refine a_ext ?_ | refine a_lenv ?_ | refine a_lens ?_ | refine a_pick_t ?_ | refine a_pick_f ?_ | refine a_not ?_ | refine a_nilf ?_ | (refine o_nil (hK _ _ ?_); clear hK K) | refine wk_reg ?_ | refine wk_seq fun K hK => ?_ | (refine wk_skip (hK _ _ ?_); clear hK K) | (refine wk_label (hK _ _ ?_); clear hK K) | refine wk_scope ?_ | refine wk_block ?_ | refine wk_cond_t rfl ?_ | refine wk_cond_f rfl ?_ | (refine wk_exit ?_; (repeat (refine blockK_other rfl ?_)); refine blockK_same ?_; try ((repeat ((fail_if_success (refine hK _ _ ?_)); clear hK K)); refine hK _ _ ?_; clear hK K)) | (refine a_bin ?_ ?_ <;> intro _ <;> try (exfalso; omega)) | refine a_ld hl ?_ | (refine a_st hl ?_; clear hl; intro _ hl) | refine a_ix (fun _ => ?_) | fail)
  refine wk_loopH [] rfl (fun i : Nat => [(0, .int .i64 (n : Int)), (4, .pointer (some ⟨p, 0, none⟩)), (5, .int .i64 (i : Int))])
    (fun i w' => i ≤ n ∧ ∃ hb kb gb qi oi nv qv ov nacc qacc oacc, LH w (fun _ => False) w' ((p, .cells [nv, qv, ov, .slice none 0 0].toArray 71 (0, 0)) :: (nacc ++ (qacc ++ (oacc ++ rowsL (mkR p hb kb gb qi oi) n i)))) ∧ Acc nv 4 74 i (flt i ((mkR p hb kb gb qi oi).nodeC n)) nacc ∧ Acc qv 1 75 i (flt i fun k => [arrV (qi k) n n]) qacc ∧ Acc ov 1 76 i (flt i fun k => [arrV (oi k) n n]) oacc)
    (fun i => n - i) 0 ⟨rfl, rfl, rfl, trivial⟩ ⟨Nat.zero_le _, fun _ => 0, fun _ => 0, fun _ => 0, fun _ => 0, fun _ => 0, _, _, _, [], [], [], hl1, Acc.nil _ _, Acc.nil _ _, Acc.nil _ _⟩ ?_
  rintro i t2 w2 ⟨hi, hb, kb, gb, qi, oi, nv, qv, ov, nacc, qacc, oacc, hl, hna, hqa, hoa⟩
  by_cases hi1 : i < n
  · obtain ⟨na, nc, rfl⟩ := hna.shape
    obtain ⟨qa, qc, rfl⟩ := hqa.shape
    obtain ⟨oa, oc, rfl⟩ := hoa.shape
    generalize hnv : Value.slice na i nc = nv at *
    generalize hqv : Value.slice qa i qc = qv at *
    generalize hov : Value.slice oa i oc = ov at *
    generalize hrest : qacc ++ (oacc ++ rowsL (mkR p hb kb gb qi oi) n i) = rest at *
    repeat' (first | refine a_mov ?_ | refine a_asg ?_ | refine a_binN ?_ | refine a_notd ?_ | refine a_notb ?_ | refine a_nilc ?_ | refine a_fa ?_ | refine a_ext ?_ | refine a_lenv ?_ | refine a_lens ?_ | refine a_pick_t ?_ | refine a_pick_f ?_ | refine a_not ?_ | refine a_nilf ?_ | (refine o_nil (hK _ _ ?_); clear hK K) | refine wk_reg ?_ | refine wk_seq fun K hK => ?_ | (refine wk_skip (hK _ _ ?_); clear hK K) | (refine wk_label (hK _ _ ?_); clear hK K) | refine wk_scope ?_ | refine wk_block ?_ | refine wk_cond_t rfl ?_ | refine wk_cond_f rfl ?_ | (refine wk_exit ?_; (repeat (refine blockK_other rfl ?_)); refine blockK_same ?_; try ((repeat ((fail_if_success (refine hK _ _ ?_)); clear hK K)); refine hK _ _ ?_; clear hK K)) | (refine a_bin ?_ ?_ <;> intro _ <;> try (exfalso; omega)) | refine a_ld hl ?_ | (refine a_st hl ?_; clear hl; intro _ hl) | refine a_ix (fun _ => ?_) | fail)
    refine wk_cut [] (fun z : Value × Nat × Nat × Nat => [(0, .int .i64 (n : Int)), (4, .pointer (some ⟨p, 0, none⟩)), (5, .int .i64 (i : Int))]) (fun z w' => ∃ nacc', LH w (fun _ => False) w' ((z.2.1, .cells (List.replicate n (.int .i64 0)).toArray 3 (0, 0)) :: (z.2.2.1, .cells (List.replicate n (.int .i64 0)).toArray 3 (0, 0)) :: (z.2.2.2, .cells (List.replicate n (.slice none 0 0)).toArray 39 (0, 0)) :: (p, .cells [z.1, qv, ov, .slice none 0 0].toArray 71 (0, 0)) :: (rest ++ nacc')) ∧ Acc z.1 4 74 (i + 1) (flt i ((mkR p hb kb gb qi oi).nodeC n) ++ [.slice none 0 0, arrV z.2.1 n n, arrV z.2.2.1 n n, arrV z.2.2.2 n n]) nacc' ∧ ∃ x y, z.1 = .slice x (i + 1) y) ?_ ?_
    · refine wk_tree [0, 1, 2, 3, 4, 5, 7, 9, 14, 15] [4] [6, 8, 10, 11, 12, 13, 16] [] [] (fun w' => To w2 w' w2.heap) (fun w' => Row w' p 0 [nv, qv, ov, .slice none 0 0]) rfl (by kernel_rfl) (fun _ _ _ _ h => by first | exact h | (simp only [BlockK, NoGoto, RetQ] at h)) (fun _ h => h) (fun w' h => ((hl.heap h).rowL (vs := [nv, qv, ov, .slice none 0 0]) 0 0 4 rfl)) ?_
      repeat' (first | refine q_mov ?_ | refine q_asg ?_ | refine q_fa ?_ | refine q_ext ?_ | refine q_binN ?_ | refine q_notd ?_ | refine q_notb ?_ | refine q_pick_t ?_ | refine q_pick_f ?_ | refine q_nilc ?_ | refine q_skip ?_ | refine q_lens ?_ | refine q_lenv ?_ | refine q_nil ?_ | refine q_ix (fun _ => ?_) | (refine q_bin ?_ ?_ <;> intro _ <;> try (exfalso; omega)) | refine q_late rfl rfl rfl rfl (fun w' hw' => r_load rfl rfl (hw' 0 _ rfl)) ?_ | fail)
      intro w3 hw3
      have hlh := hl.heap hw3
      clear hw3
      refine opsT_3 (i := 6) (i' := 8) (i'' := 10) (by kernel_rfl) rfl rfl rfl rfl rfl rfl ?_ ?_ ?_
      · skip
        refine o_makeSlice (bytes := 8) (m := n) (z := .int .i64 0) hlh rfl rfl rfl rfl rfl rfl rfl (by omega) (by omega) ?_
        intro b6 w6 _ hl6
        refine o_nil ⟨.inl (hl6.rowL (vs := [nv, qv, ov, .slice none 0 0]) 1 0 4 rfl), ?_⟩
        refine opsT_2 (i := 8) (i' := 10) (by kernel_rfl) rfl rfl rfl rfl ?_ ?_
        · skip
          refine o_makeSlice (bytes := 8) (m := n) (z := .int .i64 0) hl6 rfl rfl rfl rfl rfl rfl rfl (by omega) (by omega) ?_
          intro b8 w8 _ hl8
          refine o_nil ⟨.inl (hl8.rowL (vs := [nv, qv, ov, .slice none 0 0]) 2 0 4 rfl), ?_⟩
          refine opsT_1 (i := 10) (by kernel_rfl) rfl rfl ?_
          refine o_makeSlice (bytes := 24) (m := n) (z := .slice none 0 0) hl8 rfl rfl rfl rfl rfl rfl rfl (by omega) (by omega) ?_
          intro b10 w10 _ hl10
          refine o_nil ⟨.inl (hl10.rowL (vs := [nv, qv, ov, .slice none 0 0]) 3 0 4 rfl), ?_⟩
          have hB := (hl10.perm (p3_zyx _ _ _ _))
          refine opsT_1 (i := 11) (by kernel_rfl) rfl rfl ?_
          refine o_build [.slice none 0 0, arrV b6 n n, arrV b8 n n, arrV b10 n n] rfl (by kernel_rfl) ?_
          refine o_nil ⟨.inl (hB.rowL (vs := [nv, qv, ov, .slice none 0 0]) 3 0 4 rfl), ?_⟩
          refine opsT_1 (i := 12) (by kernel_rfl) rfl rfl ?_
          refine o_buildSlice hB [.slice none 0 0, arrV b6 n n, arrV b8 n n, arrV b10 n n] rfl rfl (by kernel_rfl) ?_
          clear hB
          intro b12 w12 _ hB
          refine o_nil ⟨.inl (hB.rowL (vs := [nv, qv, ov, .slice none 0 0]) 4 0 4 rfl), ?_⟩
          refine opsT_1 (i := 13) (by kernel_rfl) rfl rfl ?_
          have hrow := hB.rowL (vs := [.slice none 0 0, arrV b6 n n, arrV b8 n n, arrV b10 n n]) 0 0 4 rfl
          have hB2 : LH w (fun _ => False) w12 ((b12, .cells [.slice none 0 0, arrV b6 n n, arrV b8 n n, arrV b10 n n].toArray 74 (0, 0)) :: (b6, .cells (List.replicate n (.int .i64 0)).toArray 3 (0, 0)) :: (b8, .cells (List.replicate n (.int .i64 0)).toArray 3 (0, 0)) :: (b10, .cells (List.replicate n (.slice none 0 0)).toArray 39 (0, 0)) :: (p, .cells [nv, qv, ov, .slice none 0 0].toArray 71 (0, 0)) :: (rest ++ nacc)) := hB.perm (List.Perm.append_left [_, _, _, _, _] List.perm_append_comm)
          clear hB
          refine o_append (bl' := (b12, .cells [.slice none 0 0, arrV b6 n n, arrV b8 n n, arrV b10 n n].toArray 74 (0, 0)) :: (b6, .cells (List.replicate n (.int .i64 0)).toArray 3 (0, 0)) :: (b8, .cells (List.replicate n (.int .i64 0)).toArray 3 (0, 0)) :: (b10, .cells (List.replicate n (.slice none 0 0)).toArray 39 (0, 0)) :: (p, .cells [nv, qv, ov, .slice none 0 0].toArray 71 (0, 0)) :: rest) (k := 4) (bytes := 96) (q := 1) (us := [.slice none 0 0, arrV b6 n n, arrV b8 n n, arrV b10 n n]) hB2 hna hrow rfl rfl (by omega) (by omega) (by omega) rfl rfl rfl rfl rfl ?_
          clear hB2 hrow
          intro nv' w13 nacc' hB hna'
          obtain ⟨nx, ny, rfl⟩ := hna'.shape
          refine o_nil ⟨.inr (by kernel_rfl), ?_⟩
          refine opsT_1 (i := 16) (by kernel_rfl) rfl rfl ?_
          refine o_put1 (v := .slice nx (i + 1) ny) hB rfl rfl rfl ⟨rfl, rfl⟩ rfl (.there (.there (.there (.there (.here rfl rfl))))) ?_
          clear hB
          intro w14 hB
          refine o_nil ⟨.inr (by kernel_rfl), ?_⟩
          refine opsT_nil ?_
          unfold PostQ
          refine q_nil ?_
          exact ⟨(.slice nx (i + 1) ny, b6, b8, b10), ⟨rfl, rfl, rfl, trivial⟩, rfl, nacc', (hB.sub (List.sublist_cons_self _ _)), hna', _, _, rfl⟩
        · skip
          refine o_makeSlice (bytes := 24) (m := n) (z := .slice none 0 0) hl6 rfl rfl rfl rfl rfl rfl rfl (by omega) (by omega) ?_
          intro b10 w10 _ hl10
          refine o_nil ⟨.inl (hl10.rowL (vs := [nv, qv, ov, .slice none 0 0]) 2 0 4 rfl), ?_⟩
          refine opsT_1 (i := 8) (by kernel_rfl) rfl rfl ?_
          refine o_makeSlice (bytes := 8) (m := n) (z := .int .i64 0) hl10 rfl rfl rfl rfl rfl rfl rfl (by omega) (by omega) ?_
          intro b8 w8 _ hl8
          refine o_nil ⟨.inl (hl8.rowL (vs := [nv, qv, ov, .slice none 0 0]) 3 0 4 rfl), ?_⟩
          have hB := (hl8.perm (p3_yzx _ _ _ _))
          refine opsT_1 (i := 11) (by kernel_rfl) rfl rfl ?_
          refine o_build [.slice none 0 0, arrV b6 n n, arrV b8 n n, arrV b10 n n] rfl (by kernel_rfl) ?_
          refine o_nil ⟨.inl (hB.rowL (vs := [nv, qv, ov, .slice none 0 0]) 3 0 4 rfl), ?_⟩
          refine opsT_1 (i := 12) (by kernel_rfl) rfl rfl ?_
          refine o_buildSlice hB [.slice none 0 0, arrV b6 n n, arrV b8 n n, arrV b10 n n] rfl rfl (by kernel_rfl) ?_
          clear hB
          intro b12 w12 _ hB
          refine o_nil ⟨.inl (hB.rowL (vs := [nv, qv, ov, .slice none 0 0]) 4 0 4 rfl), ?_⟩
          refine opsT_1 (i := 13) (by kernel_rfl) rfl rfl ?_
          have hrow := hB.rowL (vs := [.slice none 0 0, arrV b6 n n, arrV b8 n n, arrV b10 n n]) 0 0 4 rfl
          have hB2 : LH w (fun _ => False) w12 ((b12, .cells [.slice none 0 0, arrV b6 n n, arrV b8 n n, arrV b10 n n].toArray 74 (0, 0)) :: (b6, .cells (List.replicate n (.int .i64 0)).toArray 3 (0, 0)) :: (b8, .cells (List.replicate n (.int .i64 0)).toArray 3 (0, 0)) :: (b10, .cells (List.replicate n (.slice none 0 0)).toArray 39 (0, 0)) :: (p, .cells [nv, qv, ov, .slice none 0 0].toArray 71 (0, 0)) :: (rest ++ nacc)) := hB.perm (List.Perm.append_left [_, _, _, _, _] List.perm_append_comm)
          clear hB
          refine o_append (bl' := (b12, .cells [.slice none 0 0, arrV b6 n n, arrV b8 n n, arrV b10 n n].toArray 74 (0, 0)) :: (b6, .cells (List.replicate n (.int .i64 0)).toArray 3 (0, 0)) :: (b8, .cells (List.replicate n (.int .i64 0)).toArray 3 (0, 0)) :: (b10, .cells (List.replicate n (.slice none 0 0)).toArray 39 (0, 0)) :: (p, .cells [nv, qv, ov, .slice none 0 0].toArray 71 (0, 0)) :: rest) (k := 4) (bytes := 96) (q := 1) (us := [.slice none 0 0, arrV b6 n n, arrV b8 n n, arrV b10 n n]) hB2 hna hrow rfl rfl (by omega) (by omega) (by omega) rfl rfl rfl rfl rfl ?_
          clear hB2 hrow
          intro nv' w13 nacc' hB hna'
          obtain ⟨nx, ny, rfl⟩ := hna'.shape
          refine o_nil ⟨.inr (by kernel_rfl), ?_⟩
          refine opsT_1 (i := 16) (by kernel_rfl) rfl rfl ?_
          refine o_put1 (v := .slice nx (i + 1) ny) hB rfl rfl rfl ⟨rfl, rfl⟩ rfl (.there (.there (.there (.there (.here rfl rfl))))) ?_
          clear hB
          intro w14 hB
          refine o_nil ⟨.inr (by kernel_rfl), ?_⟩
          refine opsT_nil ?_
          unfold PostQ
          refine q_nil ?_
          exact ⟨(.slice nx (i + 1) ny, b6, b8, b10), ⟨rfl, rfl, rfl, trivial⟩, rfl, nacc', (hB.sub (List.sublist_cons_self _ _)), hna', _, _, rfl⟩
      · skip
        refine o_makeSlice (bytes := 8) (m := n) (z := .int .i64 0) hlh rfl rfl rfl rfl rfl rfl rfl (by omega) (by omega) ?_
        intro b8 w8 _ hl8
        refine o_nil ⟨.inl (hl8.rowL (vs := [nv, qv, ov, .slice none 0 0]) 1 0 4 rfl), ?_⟩
        refine opsT_2 (i := 6) (i' := 10) (by kernel_rfl) rfl rfl rfl rfl ?_ ?_
        · skip
          refine o_makeSlice (bytes := 8) (m := n) (z := .int .i64 0) hl8 rfl rfl rfl rfl rfl rfl rfl (by omega) (by omega) ?_
          intro b6 w6 _ hl6
          refine o_nil ⟨.inl (hl6.rowL (vs := [nv, qv, ov, .slice none 0 0]) 2 0 4 rfl), ?_⟩
          refine opsT_1 (i := 10) (by kernel_rfl) rfl rfl ?_
          refine o_makeSlice (bytes := 24) (m := n) (z := .slice none 0 0) hl6 rfl rfl rfl rfl rfl rfl rfl (by omega) (by omega) ?_
          intro b10 w10 _ hl10
          refine o_nil ⟨.inl (hl10.rowL (vs := [nv, qv, ov, .slice none 0 0]) 3 0 4 rfl), ?_⟩
          have hB := (hl10.perm (p3_zxy _ _ _ _))
          refine opsT_1 (i := 11) (by kernel_rfl) rfl rfl ?_
          refine o_build [.slice none 0 0, arrV b6 n n, arrV b8 n n, arrV b10 n n] rfl (by kernel_rfl) ?_
          refine o_nil ⟨.inl (hB.rowL (vs := [nv, qv, ov, .slice none 0 0]) 3 0 4 rfl), ?_⟩
          refine opsT_1 (i := 12) (by kernel_rfl) rfl rfl ?_
          refine o_buildSlice hB [.slice none 0 0, arrV b6 n n, arrV b8 n n, arrV b10 n n] rfl rfl (by kernel_rfl) ?_
          clear hB
          intro b12 w12 _ hB
          refine o_nil ⟨.inl (hB.rowL (vs := [nv, qv, ov, .slice none 0 0]) 4 0 4 rfl), ?_⟩
          refine opsT_1 (i := 13) (by kernel_rfl) rfl rfl ?_
          have hrow := hB.rowL (vs := [.slice none 0 0, arrV b6 n n, arrV b8 n n, arrV b10 n n]) 0 0 4 rfl
          have hB2 : LH w (fun _ => False) w12 ((b12, .cells [.slice none 0 0, arrV b6 n n, arrV b8 n n, arrV b10 n n].toArray 74 (0, 0)) :: (b6, .cells (List.replicate n (.int .i64 0)).toArray 3 (0, 0)) :: (b8, .cells (List.replicate n (.int .i64 0)).toArray 3 (0, 0)) :: (b10, .cells (List.replicate n (.slice none 0 0)).toArray 39 (0, 0)) :: (p, .cells [nv, qv, ov, .slice none 0 0].toArray 71 (0, 0)) :: (rest ++ nacc)) := hB.perm (List.Perm.append_left [_, _, _, _, _] List.perm_append_comm)
          clear hB
          refine o_append (bl' := (b12, .cells [.slice none 0 0, arrV b6 n n, arrV b8 n n, arrV b10 n n].toArray 74 (0, 0)) :: (b6, .cells (List.replicate n (.int .i64 0)).toArray 3 (0, 0)) :: (b8, .cells (List.replicate n (.int .i64 0)).toArray 3 (0, 0)) :: (b10, .cells (List.replicate n (.slice none 0 0)).toArray 39 (0, 0)) :: (p, .cells [nv, qv, ov, .slice none 0 0].toArray 71 (0, 0)) :: rest) (k := 4) (bytes := 96) (q := 1) (us := [.slice none 0 0, arrV b6 n n, arrV b8 n n, arrV b10 n n]) hB2 hna hrow rfl rfl (by omega) (by omega) (by omega) rfl rfl rfl rfl rfl ?_
          clear hB2 hrow
          intro nv' w13 nacc' hB hna'
          obtain ⟨nx, ny, rfl⟩ := hna'.shape
          refine o_nil ⟨.inr (by kernel_rfl), ?_⟩
          refine opsT_1 (i := 16) (by kernel_rfl) rfl rfl ?_
          refine o_put1 (v := .slice nx (i + 1) ny) hB rfl rfl rfl ⟨rfl, rfl⟩ rfl (.there (.there (.there (.there (.here rfl rfl))))) ?_
          clear hB
          intro w14 hB
          refine o_nil ⟨.inr (by kernel_rfl), ?_⟩
          refine opsT_nil ?_
          unfold PostQ
          refine q_nil ?_
          exact ⟨(.slice nx (i + 1) ny, b6, b8, b10), ⟨rfl, rfl, rfl, trivial⟩, rfl, nacc', (hB.sub (List.sublist_cons_self _ _)), hna', _, _, rfl⟩
        · skip
          refine o_makeSlice (bytes := 24) (m := n) (z := .slice none 0 0) hl8 rfl rfl rfl rfl rfl rfl rfl (by omega) (by omega) ?_
          intro b10 w10 _ hl10
          refine o_nil ⟨.inl (hl10.rowL (vs := [nv, qv, ov, .slice none 0 0]) 2 0 4 rfl), ?_⟩
          refine opsT_1 (i := 6) (by kernel_rfl) rfl rfl ?_
          refine o_makeSlice (bytes := 8) (m := n) (z := .int .i64 0) hl10 rfl rfl rfl rfl rfl rfl rfl (by omega) (by omega) ?_
          intro b6 w6 _ hl6
          refine o_nil ⟨.inl (hl6.rowL (vs := [nv, qv, ov, .slice none 0 0]) 3 0 4 rfl), ?_⟩
          have hB := (hl6.perm (p3_xzy _ _ _ _))
          refine opsT_1 (i := 11) (by kernel_rfl) rfl rfl ?_
          refine o_build [.slice none 0 0, arrV b6 n n, arrV b8 n n, arrV b10 n n] rfl (by kernel_rfl) ?_
          refine o_nil ⟨.inl (hB.rowL (vs := [nv, qv, ov, .slice none 0 0]) 3 0 4 rfl), ?_⟩
          refine opsT_1 (i := 12) (by kernel_rfl) rfl rfl ?_
          refine o_buildSlice hB [.slice none 0 0, arrV b6 n n, arrV b8 n n, arrV b10 n n] rfl rfl (by kernel_rfl) ?_
          clear hB
          intro b12 w12 _ hB
          refine o_nil ⟨.inl (hB.rowL (vs := [nv, qv, ov, .slice none 0 0]) 4 0 4 rfl), ?_⟩
          refine opsT_1 (i := 13) (by kernel_rfl) rfl rfl ?_
          have hrow := hB.rowL (vs := [.slice none 0 0, arrV b6 n n, arrV b8 n n, arrV b10 n n]) 0 0 4 rfl
          have hB2 : LH w (fun _ => False) w12 ((b12, .cells [.slice none 0 0, arrV b6 n n, arrV b8 n n, arrV b10 n n].toArray 74 (0, 0)) :: (b6, .cells (List.replicate n (.int .i64 0)).toArray 3 (0, 0)) :: (b8, .cells (List.replicate n (.int .i64 0)).toArray 3 (0, 0)) :: (b10, .cells (List.replicate n (.slice none 0 0)).toArray 39 (0, 0)) :: (p, .cells [nv, qv, ov, .slice none 0 0].toArray 71 (0, 0)) :: (rest ++ nacc)) := hB.perm (List.Perm.append_left [_, _, _, _, _] List.perm_append_comm)
          clear hB
          refine o_append (bl' := (b12, .cells [.slice none 0 0, arrV b6 n n, arrV b8 n n, arrV b10 n n].toArray 74 (0, 0)) :: (b6, .cells (List.replicate n (.int .i64 0)).toArray 3 (0, 0)) :: (b8, .cells (List.replicate n (.int .i64 0)).toArray 3 (0, 0)) :: (b10, .cells (List.replicate n (.slice none 0 0)).toArray 39 (0, 0)) :: (p, .cells [nv, qv, ov, .slice none 0 0].toArray 71 (0, 0)) :: rest) (k := 4) (bytes := 96) (q := 1) (us := [.slice none 0 0, arrV b6 n n, arrV b8 n n, arrV b10 n n]) hB2 hna hrow rfl rfl (by omega) (by omega) (by omega) rfl rfl rfl rfl rfl ?_
          clear hB2 hrow
          intro nv' w13 nacc' hB hna'
          obtain ⟨nx, ny, rfl⟩ := hna'.shape
          refine o_nil ⟨.inr (by kernel_rfl), ?_⟩
          refine opsT_1 (i := 16) (by kernel_rfl) rfl rfl ?_
          refine o_put1 (v := .slice nx (i + 1) ny) hB rfl rfl rfl ⟨rfl, rfl⟩ rfl (.there (.there (.there (.there (.here rfl rfl))))) ?_
          clear hB
          intro w14 hB
          refine o_nil ⟨.inr (by kernel_rfl), ?_⟩
          refine opsT_nil ?_
          unfold PostQ
          refine q_nil ?_
          exact ⟨(.slice nx (i + 1) ny, b6, b8, b10), ⟨rfl, rfl, rfl, trivial⟩, rfl, nacc', (hB.sub (List.sublist_cons_self _ _)), hna', _, _, rfl⟩
      · skip
        refine o_makeSlice (bytes := 24) (m := n) (z := .slice none 0 0) hlh rfl rfl rfl rfl rfl rfl rfl (by omega) (by omega) ?_
        intro b10 w10 _ hl10
        refine o_nil ⟨.inl (hl10.rowL (vs := [nv, qv, ov, .slice none 0 0]) 1 0 4 rfl), ?_⟩
        refine opsT_2 (i := 6) (i' := 8) (by kernel_rfl) rfl rfl rfl rfl ?_ ?_
        · skip
          refine o_makeSlice (bytes := 8) (m := n) (z := .int .i64 0) hl10 rfl rfl rfl rfl rfl rfl rfl (by omega) (by omega) ?_
          intro b6 w6 _ hl6
          refine o_nil ⟨.inl (hl6.rowL (vs := [nv, qv, ov, .slice none 0 0]) 2 0 4 rfl), ?_⟩
          refine opsT_1 (i := 8) (by kernel_rfl) rfl rfl ?_
          refine o_makeSlice (bytes := 8) (m := n) (z := .int .i64 0) hl6 rfl rfl rfl rfl rfl rfl rfl (by omega) (by omega) ?_
          intro b8 w8 _ hl8
          refine o_nil ⟨.inl (hl8.rowL (vs := [nv, qv, ov, .slice none 0 0]) 3 0 4 rfl), ?_⟩
          have hB := (hl8.perm (p3_yxz _ _ _ _))
          refine opsT_1 (i := 11) (by kernel_rfl) rfl rfl ?_
          refine o_build [.slice none 0 0, arrV b6 n n, arrV b8 n n, arrV b10 n n] rfl (by kernel_rfl) ?_
          refine o_nil ⟨.inl (hB.rowL (vs := [nv, qv, ov, .slice none 0 0]) 3 0 4 rfl), ?_⟩
          refine opsT_1 (i := 12) (by kernel_rfl) rfl rfl ?_
          refine o_buildSlice hB [.slice none 0 0, arrV b6 n n, arrV b8 n n, arrV b10 n n] rfl rfl (by kernel_rfl) ?_
          clear hB
          intro b12 w12 _ hB
          refine o_nil ⟨.inl (hB.rowL (vs := [nv, qv, ov, .slice none 0 0]) 4 0 4 rfl), ?_⟩
          refine opsT_1 (i := 13) (by kernel_rfl) rfl rfl ?_
          have hrow := hB.rowL (vs := [.slice none 0 0, arrV b6 n n, arrV b8 n n, arrV b10 n n]) 0 0 4 rfl
          have hB2 : LH w (fun _ => False) w12 ((b12, .cells [.slice none 0 0, arrV b6 n n, arrV b8 n n, arrV b10 n n].toArray 74 (0, 0)) :: (b6, .cells (List.replicate n (.int .i64 0)).toArray 3 (0, 0)) :: (b8, .cells (List.replicate n (.int .i64 0)).toArray 3 (0, 0)) :: (b10, .cells (List.replicate n (.slice none 0 0)).toArray 39 (0, 0)) :: (p, .cells [nv, qv, ov, .slice none 0 0].toArray 71 (0, 0)) :: (rest ++ nacc)) := hB.perm (List.Perm.append_left [_, _, _, _, _] List.perm_append_comm)
          clear hB
          refine o_append (bl' := (b12, .cells [.slice none 0 0, arrV b6 n n, arrV b8 n n, arrV b10 n n].toArray 74 (0, 0)) :: (b6, .cells (List.replicate n (.int .i64 0)).toArray 3 (0, 0)) :: (b8, .cells (List.replicate n (.int .i64 0)).toArray 3 (0, 0)) :: (b10, .cells (List.replicate n (.slice none 0 0)).toArray 39 (0, 0)) :: (p, .cells [nv, qv, ov, .slice none 0 0].toArray 71 (0, 0)) :: rest) (k := 4) (bytes := 96) (q := 1) (us := [.slice none 0 0, arrV b6 n n, arrV b8 n n, arrV b10 n n]) hB2 hna hrow rfl rfl (by omega) (by omega) (by omega) rfl rfl rfl rfl rfl ?_
          clear hB2 hrow
          intro nv' w13 nacc' hB hna'
          obtain ⟨nx, ny, rfl⟩ := hna'.shape
          refine o_nil ⟨.inr (by kernel_rfl), ?_⟩
          refine opsT_1 (i := 16) (by kernel_rfl) rfl rfl ?_
          refine o_put1 (v := .slice nx (i + 1) ny) hB rfl rfl rfl ⟨rfl, rfl⟩ rfl (.there (.there (.there (.there (.here rfl rfl))))) ?_
          clear hB
          intro w14 hB
          refine o_nil ⟨.inr (by kernel_rfl), ?_⟩
          refine opsT_nil ?_
          unfold PostQ
          refine q_nil ?_
          exact ⟨(.slice nx (i + 1) ny, b6, b8, b10), ⟨rfl, rfl, rfl, trivial⟩, rfl, nacc', (hB.sub (List.sublist_cons_self _ _)), hna', _, _, rfl⟩
        · skip
          refine o_makeSlice (bytes := 8) (m := n) (z := .int .i64 0) hl10 rfl rfl rfl rfl rfl rfl rfl (by omega) (by omega) ?_
          intro b8 w8 _ hl8
          refine o_nil ⟨.inl (hl8.rowL (vs := [nv, qv, ov, .slice none 0 0]) 2 0 4 rfl), ?_⟩
          refine opsT_1 (i := 6) (by kernel_rfl) rfl rfl ?_
          refine o_makeSlice (bytes := 8) (m := n) (z := .int .i64 0) hl8 rfl rfl rfl rfl rfl rfl rfl (by omega) (by omega) ?_
          intro b6 w6 _ hl6
          refine o_nil ⟨.inl (hl6.rowL (vs := [nv, qv, ov, .slice none 0 0]) 3 0 4 rfl), ?_⟩
          have hB := (hl6)
          refine opsT_1 (i := 11) (by kernel_rfl) rfl rfl ?_
          refine o_build [.slice none 0 0, arrV b6 n n, arrV b8 n n, arrV b10 n n] rfl (by kernel_rfl) ?_
          refine o_nil ⟨.inl (hB.rowL (vs := [nv, qv, ov, .slice none 0 0]) 3 0 4 rfl), ?_⟩
          refine opsT_1 (i := 12) (by kernel_rfl) rfl rfl ?_
          refine o_buildSlice hB [.slice none 0 0, arrV b6 n n, arrV b8 n n, arrV b10 n n] rfl rfl (by kernel_rfl) ?_
          clear hB
          intro b12 w12 _ hB
          refine o_nil ⟨.inl (hB.rowL (vs := [nv, qv, ov, .slice none 0 0]) 4 0 4 rfl), ?_⟩
          refine opsT_1 (i := 13) (by kernel_rfl) rfl rfl ?_
          have hrow := hB.rowL (vs := [.slice none 0 0, arrV b6 n n, arrV b8 n n, arrV b10 n n]) 0 0 4 rfl
          have hB2 : LH w (fun _ => False) w12 ((b12, .cells [.slice none 0 0, arrV b6 n n, arrV b8 n n, arrV b10 n n].toArray 74 (0, 0)) :: (b6, .cells (List.replicate n (.int .i64 0)).toArray 3 (0, 0)) :: (b8, .cells (List.replicate n (.int .i64 0)).toArray 3 (0, 0)) :: (b10, .cells (List.replicate n (.slice none 0 0)).toArray 39 (0, 0)) :: (p, .cells [nv, qv, ov, .slice none 0 0].toArray 71 (0, 0)) :: (rest ++ nacc)) := hB.perm (List.Perm.append_left [_, _, _, _, _] List.perm_append_comm)
          clear hB
          refine o_append (bl' := (b12, .cells [.slice none 0 0, arrV b6 n n, arrV b8 n n, arrV b10 n n].toArray 74 (0, 0)) :: (b6, .cells (List.replicate n (.int .i64 0)).toArray 3 (0, 0)) :: (b8, .cells (List.replicate n (.int .i64 0)).toArray 3 (0, 0)) :: (b10, .cells (List.replicate n (.slice none 0 0)).toArray 39 (0, 0)) :: (p, .cells [nv, qv, ov, .slice none 0 0].toArray 71 (0, 0)) :: rest) (k := 4) (bytes := 96) (q := 1) (us := [.slice none 0 0, arrV b6 n n, arrV b8 n n, arrV b10 n n]) hB2 hna hrow rfl rfl (by omega) (by omega) (by omega) rfl rfl rfl rfl rfl ?_
          clear hB2 hrow
          intro nv' w13 nacc' hB hna'
          obtain ⟨nx, ny, rfl⟩ := hna'.shape
          refine o_nil ⟨.inr (by kernel_rfl), ?_⟩
          refine opsT_1 (i := 16) (by kernel_rfl) rfl rfl ?_
          refine o_put1 (v := .slice nx (i + 1) ny) hB rfl rfl rfl ⟨rfl, rfl⟩ rfl (.there (.there (.there (.there (.here rfl rfl))))) ?_
          clear hB
          intro w14 hB
          refine o_nil ⟨.inr (by kernel_rfl), ?_⟩
          refine opsT_nil ?_
          unfold PostQ
          refine q_nil ?_
          exact ⟨(.slice nx (i + 1) ny, b6, b8, b10), ⟨rfl, rfl, rfl, trivial⟩, rfl, nacc', (hB.sub (List.sublist_cons_self _ _)), hna', _, _, rfl⟩
    rintro ⟨nv2, b6, b8, b10⟩ t3 w3 ⟨nacc2, hl3, hna2, nx, ny, hnv2⟩
    dsimp only at hl3 hna2 hnv2 ⊢
    refine hK _ _ ?_
    clear hK K
    subst hrest
    have hl3 : LH w (fun _ => False) w3 ((b6, .cells (List.replicate n (.int .i64 0)).toArray 3 (0, 0)) :: (b8, .cells (List.replicate n (.int .i64 0)).toArray 3 (0, 0)) :: (b10, .cells (List.replicate n (.slice none 0 0)).toArray 39 (0, 0)) :: (p, .cells [nv2, qv, ov, .slice none 0 0].toArray 71 (0, 0)) :: (((oacc ++ rowsL (mkR p hb kb gb qi oi) n i) ++ nacc2) ++ qacc)) := hl3.perm (List.Perm.append_left [_, _, _, _] (permQ1 _ _ _ _))
    have hn1 : n ≤ 8 := hn.2
    repeat' (first | refine a_mov ?_ | refine a_asg ?_ | refine a_binN ?_ | refine a_notd ?_ | refine a_notb ?_ | refine a_nilc ?_ | refine a_fa ?_ | refine a_ext ?_ | refine a_lenv ?_ | refine a_lens ?_ | refine a_pick_t ?_ | refine a_pick_f ?_ | refine a_not ?_ | refine a_nilf ?_ | (refine o_nil (hK _ _ ?_); clear hK K) | refine wk_reg ?_ | refine wk_seq fun K hK => ?_ | (refine wk_skip (hK _ _ ?_); clear hK K) | (refine wk_label (hK _ _ ?_); clear hK K) | refine wk_scope ?_ | refine wk_block ?_ | refine wk_cond_t rfl ?_ | refine wk_cond_f rfl ?_ | (refine wk_exit ?_; (repeat (refine blockK_other rfl ?_)); refine blockK_same ?_; try ((repeat ((fail_if_success (refine hK _ _ ?_)); clear hK K)); refine hK _ _ ?_; clear hK K)) | (refine a_bin ?_ ?_ <;> intro _ <;> try (exfalso; omega)) | refine a_ld hl ?_ | (refine a_st hl ?_; clear hl; intro _ hl) | refine a_ix (fun _ => ?_) | fail)
    refine wk_cut [] (fun z : Value × Nat => [(0, .int .i64 (n : Int)), (4, .pointer (some ⟨p, 0, none⟩)), (5, .int .i64 (i : Int))]) (fun z w' => ∃ qacc', LH w (fun _ => False) w' ((z.2, .cells (List.replicate n (.slice none 0 0)).toArray 85 (0, 0)) :: (b6, .cells (List.replicate n (.int .i64 0)).toArray 3 (0, 0)) :: (b8, .cells (List.replicate n (.int .i64 0)).toArray 3 (0, 0)) :: (b10, .cells (List.replicate n (.slice none 0 0)).toArray 39 (0, 0)) :: (p, .cells [nv2, z.1, ov, .slice none 0 0].toArray 71 (0, 0)) :: (((oacc ++ rowsL (mkR p hb kb gb qi oi) n i) ++ nacc2) ++ qacc')) ∧ Acc z.1 1 75 (i + 1) (flt i (fun k => [arrV (qi k) n n]) ++ [arrV z.2 n n]) qacc' ∧ ∃ x y, z.1 = .slice x (i + 1) y) ?_ ?_
    · refine wk_tree [0, 1, 2, 3, 4, 5, 9, 10] [4] [6, 7, 8, 11] [] [] (fun w' => To w3 w' w3.heap) (fun w' => Row w' p 0 [nv2, qv, ov, .slice none 0 0]) rfl (by kernel_rfl) (fun _ _ _ _ h => by first | exact h | (simp only [BlockK, NoGoto, RetQ] at h)) (fun _ h => h) (fun w' h => ((hl3.heap h).rowL (vs := [nv2, qv, ov, .slice none 0 0]) 3 0 4 rfl)) ?_
      repeat' (first | refine q_mov ?_ | refine q_asg ?_ | refine q_fa ?_ | refine q_ext ?_ | refine q_binN ?_ | refine q_notd ?_ | refine q_notb ?_ | refine q_pick_t ?_ | refine q_pick_f ?_ | refine q_nilc ?_ | refine q_skip ?_ | refine q_lens ?_ | refine q_lenv ?_ | refine q_nil ?_ | refine q_ix (fun _ => ?_) | (refine q_bin ?_ ?_ <;> intro _ <;> try (exfalso; omega)) | refine q_late rfl rfl rfl rfl (fun w' hw' => r_load rfl rfl (hw' 1 _ rfl)) ?_ | fail)
      intro w4 hw4
      have hlh := hl3.heap hw4
      clear hw4 hl3
      refine opsT_1 (i := 6) (by kernel_rfl) rfl rfl ?_
      refine o_makeSlice (bytes := 24) (m := n) (z := .slice none 0 0) hlh rfl rfl rfl rfl rfl rfl rfl (by omega) (by omega) ?_
      clear hlh
      intro bq w5 _ hlh
      refine o_nil ⟨.inl (hlh.rowL (vs := [nv2, qv, ov, .slice none 0 0]) 4 0 4 rfl), ?_⟩
      refine opsT_1 (i := 7) (by kernel_rfl) rfl rfl ?_
      refine o_buildSlice hlh [arrV bq n n] rfl rfl (by kernel_rfl) ?_
      clear hlh
      intro bs w6 _ hlh
      refine o_nil ⟨.inl (hlh.rowL (vs := [nv2, qv, ov, .slice none 0 0]) 5 0 4 rfl), ?_⟩
      refine opsT_1 (i := 8) (by kernel_rfl) rfl rfl ?_
      refine o_append (bl' := (bs, .cells [arrV bq n n].toArray 75 (0, 0)) :: (bq, .cells (List.replicate n (.slice none 0 0)).toArray 85 (0, 0)) :: (b6, .cells (List.replicate n (.int .i64 0)).toArray 3 (0, 0)) :: (b8, .cells (List.replicate n (.int .i64 0)).toArray 3 (0, 0)) :: (b10, .cells (List.replicate n (.slice none 0 0)).toArray 39 (0, 0)) :: (p, .cells [nv2, qv, ov, .slice none 0 0].toArray 71 (0, 0)) :: ((oacc ++ rowsL (mkR p hb kb gb qi oi) n i) ++ nacc2)) (k := 1) (bytes := 24) (q := 1) (us := [arrV bq n n]) hlh hqa (hlh.rowL (vs := [arrV bq n n]) 0 0 1 rfl) rfl rfl (by omega) (by omega) (by omega) rfl rfl rfl rfl rfl ?_
      clear hlh
      intro qv' w7 qacc' hlh hqa'
      obtain ⟨qx, qy, rfl⟩ := hqa'.shape
      refine o_nil ⟨.inr (by kernel_rfl), ?_⟩
      refine opsT_1 (i := 11) (by kernel_rfl) rfl rfl ?_
      refine o_put1 (v := .slice qx (i + 1) qy) hlh rfl rfl rfl ⟨rfl, rfl⟩ rfl (.there (.there (.there (.there (.there (.here rfl rfl)))))) ?_
      clear hlh
      intro w8 hlh
      refine o_nil ⟨.inr (by kernel_rfl), ?_⟩
      refine opsT_nil ?_
      unfold PostQ
      refine q_nil ?_
      exact ⟨(.slice qx (i + 1) qy, bq), ⟨rfl, rfl, rfl, trivial⟩, rfl, qacc', (hlh.sub (List.sublist_cons_self _ _)), hqa', _, _, rfl⟩
    rintro ⟨qv2, bq⟩ t4 w4 ⟨qacc2, hl4, hqa2, qx, qy, hqv2⟩
    dsimp only at hl4 hqa2 hqv2 ⊢
    refine hK _ _ ?_
    clear hK K hl3
    have hl4 : LH w (fun _ => False) w4 ((bq, .cells (List.replicate n (.slice none 0 0)).toArray 85 (0, 0)) :: (b6, .cells (List.replicate n (.int .i64 0)).toArray 3 (0, 0)) :: (b8, .cells (List.replicate n (.int .i64 0)).toArray 3 (0, 0)) :: (b10, .cells (List.replicate n (.slice none 0 0)).toArray 39 (0, 0)) :: (p, .cells [nv2, qv2, ov, .slice none 0 0].toArray 71 (0, 0)) :: ((rowsL (mkR p hb kb gb qi oi) n i ++ nacc2 ++ qacc2) ++ oacc)) := hl4.perm (List.Perm.append_left [_, _, _, _, _] (permQ2 _ _ _ _))
    repeat' (first | refine a_mov ?_ | refine a_asg ?_ | refine a_binN ?_ | refine a_notd ?_ | refine a_notb ?_ | refine a_nilc ?_ | refine a_fa ?_ | refine a_ext ?_ | refine a_lenv ?_ | refine a_lens ?_ | refine a_pick_t ?_ | refine a_pick_f ?_ | refine a_not ?_ | refine a_nilf ?_ | (refine o_nil (hK _ _ ?_); clear hK K) | refine wk_reg ?_ | refine wk_seq fun K hK => ?_ | (refine wk_skip (hK _ _ ?_); clear hK K) | (refine wk_label (hK _ _ ?_); clear hK K) | refine wk_scope ?_ | refine wk_block ?_ | refine wk_cond_t rfl ?_ | refine wk_cond_f rfl ?_ | (refine wk_exit ?_; (repeat (refine blockK_other rfl ?_)); refine blockK_same ?_; try ((repeat ((fail_if_success (refine hK _ _ ?_)); clear hK K)); refine hK _ _ ?_; clear hK K)) | (refine a_bin ?_ ?_ <;> intro _ <;> try (exfalso; omega)) | refine a_ld hl ?_ | (refine a_st hl ?_; clear hl; intro _ hl) | refine a_ix (fun _ => ?_) | fail)
    refine wk_cut [] (fun z : Value × Nat => [(0, .int .i64 (n : Int)), (4, .pointer (some ⟨p, 0, none⟩)), (5, .int .i64 (i : Int))]) (fun z w' => ∃ oacc', LH w (fun _ => False) w' ((z.2, .cells (List.replicate n (.bool false)).toArray 4 (0, 0)) :: (bq, .cells (List.replicate n (.slice none 0 0)).toArray 85 (0, 0)) :: (b6, .cells (List.replicate n (.int .i64 0)).toArray 3 (0, 0)) :: (b8, .cells (List.replicate n (.int .i64 0)).toArray 3 (0, 0)) :: (b10, .cells (List.replicate n (.slice none 0 0)).toArray 39 (0, 0)) :: (p, .cells [nv2, qv2, z.1, .slice none 0 0].toArray 71 (0, 0)) :: ((rowsL (mkR p hb kb gb qi oi) n i ++ nacc2 ++ qacc2) ++ oacc')) ∧ Acc z.1 1 76 (i + 1) (flt i (fun k => [arrV (oi k) n n]) ++ [arrV z.2 n n]) oacc' ∧ ∃ x y, z.1 = .slice x (i + 1) y) ?_ ?_
    · refine wk_tree [0, 1, 2, 3, 4, 5, 9, 10] [4] [6, 7, 8, 11] [] [] (fun w' => To w4 w' w4.heap) (fun w' => Row w' p 0 [nv2, qv2, ov, .slice none 0 0]) rfl (by kernel_rfl) (fun _ _ _ _ h => by first | exact h | (simp only [BlockK, NoGoto, RetQ] at h)) (fun _ h => h) (fun w' h => ((hl4.heap h).rowL (vs := [nv2, qv2, ov, .slice none 0 0]) 4 0 4 rfl)) ?_
      repeat' (first | refine q_mov ?_ | refine q_asg ?_ | refine q_fa ?_ | refine q_ext ?_ | refine q_binN ?_ | refine q_notd ?_ | refine q_notb ?_ | refine q_pick_t ?_ | refine q_pick_f ?_ | refine q_nilc ?_ | refine q_skip ?_ | refine q_lens ?_ | refine q_lenv ?_ | refine q_nil ?_ | refine q_ix (fun _ => ?_) | (refine q_bin ?_ ?_ <;> intro _ <;> try (exfalso; omega)) | refine q_late rfl rfl rfl rfl (fun w' hw' => r_load rfl rfl (hw' 2 _ rfl)) ?_ | fail)
      intro w5 hw5
      have hlh := hl4.heap hw5
      clear hw5 hl4
      refine opsT_1 (i := 6) (by kernel_rfl) rfl rfl ?_
      refine o_makeSlice (bytes := 1) (m := n) (z := .bool false) hlh rfl rfl rfl rfl rfl rfl rfl (by omega) (by omega) ?_
      clear hlh
      intro bo w6 _ hlh
      refine o_nil ⟨.inl (hlh.rowL (vs := [nv2, qv2, ov, .slice none 0 0]) 5 0 4 rfl), ?_⟩
      refine opsT_1 (i := 7) (by kernel_rfl) rfl rfl ?_
      refine o_buildSlice hlh [arrV bo n n] rfl rfl (by kernel_rfl) ?_
      clear hlh
      intro bs w7 _ hlh
      refine o_nil ⟨.inl (hlh.rowL (vs := [nv2, qv2, ov, .slice none 0 0]) 6 0 4 rfl), ?_⟩
      refine opsT_1 (i := 8) (by kernel_rfl) rfl rfl ?_
      refine o_append (bl' := (bs, .cells [arrV bo n n].toArray 76 (0, 0)) :: (bo, .cells (List.replicate n (.bool false)).toArray 4 (0, 0)) :: (bq, .cells (List.replicate n (.slice none 0 0)).toArray 85 (0, 0)) :: (b6, .cells (List.replicate n (.int .i64 0)).toArray 3 (0, 0)) :: (b8, .cells (List.replicate n (.int .i64 0)).toArray 3 (0, 0)) :: (b10, .cells (List.replicate n (.slice none 0 0)).toArray 39 (0, 0)) :: (p, .cells [nv2, qv2, ov, .slice none 0 0].toArray 71 (0, 0)) :: (rowsL (mkR p hb kb gb qi oi) n i ++ nacc2 ++ qacc2)) (k := 1) (bytes := 24) (q := 1) (us := [arrV bo n n]) hlh hoa (hlh.rowL (vs := [arrV bo n n]) 0 0 1 rfl) rfl rfl (by omega) (by omega) (by omega) rfl rfl rfl rfl rfl ?_
      clear hlh
      intro ov' w8 oacc' hlh hoa'
      obtain ⟨ox, oy, rfl⟩ := hoa'.shape
      refine o_nil ⟨.inr (by kernel_rfl), ?_⟩
      refine opsT_1 (i := 11) (by kernel_rfl) rfl rfl ?_
      refine o_put1 (v := .slice ox (i + 1) oy) hlh rfl rfl rfl ⟨rfl, rfl⟩ rfl (.there (.there (.there (.there (.there (.there (.here rfl rfl))))))) ?_
      clear hlh
      intro w9 hlh
      refine o_nil ⟨.inr (by kernel_rfl), ?_⟩
      refine opsT_nil ?_
      unfold PostQ
      refine q_nil ?_
      exact ⟨(.slice ox (i + 1) oy, bo), ⟨rfl, rfl, rfl, trivial⟩, rfl, oacc', (hlh.sub (List.sublist_cons_self _ _)), hoa', _, _, rfl⟩
    rintro ⟨ov2, bo⟩ t5 w5 ⟨oacc2, hl5, hoa2, ox, oy, hov2⟩
    dsimp only at hl5 hoa2 hov2 ⊢
    refine hK _ _ ?_
    clear hK K hl4
    have hrows : [(mkR p (upd hb i b6) (upd kb i b8) (upd gb i b10) (upd qi i bq) (upd oi i bo)).row n i 0, (mkR p (upd hb i b6) (upd kb i b8) (upd gb i b10) (upd qi i bq) (upd oi i bo)).row n i 1, (mkR p (upd hb i b6) (upd kb i b8) (upd gb i b10) (upd qi i bq) (upd oi i bo)).row n i 2, (mkR p (upd hb i b6) (upd kb i b8) (upd gb i b10) (upd qi i bq) (upd oi i bo)).row n i 3, (mkR p (upd hb i b6) (upd kb i b8) (upd gb i b10) (upd qi i bq) (upd oi i bo)).row n i 4] = [(b6, .cells (List.replicate n (.int .i64 0)).toArray 3 (0, 0)), (b8, .cells (List.replicate n (.int .i64 0)).toArray 3 (0, 0)), (b10, .cells (List.replicate n (.slice none 0 0)).toArray 39 (0, 0)), (bq, .cells (List.replicate n (.slice none 0 0)).toArray 85 (0, 0)), (bo, .cells (List.replicate n (.bool false)).toArray 4 (0, 0))] := by
      rw [← flt_const n (.int .i64 0), ← flt_const n (.slice none 0 0), ← flt_const n (.bool false)]
      show [(upd hb i b6 i, _), (upd kb i b8 i, _), (upd gb i b10 i, _), (upd qi i bq i, _), (upd oi i bo i, _)] = _
      rw [upd_same, upd_same, upd_same, upd_same, upd_same]
      rfl
    have hold : rowsL (mkR p (upd hb i b6) (upd kb i b8) (upd gb i b10) (upd qi i bq) (upd oi i bo)) n i = rowsL (mkR p hb kb gb qi oi) n i := rowsL_congr fun k kd hk => by
      have hne : k ≠ i := by omega
      match kd with
      | 0 => show (upd hb i b6 k, _) = (hb k, _); rw [upd_ne _ _ hne]; rfl
      | 1 => show (upd kb i b8 k, _) = (kb k, _); rw [upd_ne _ _ hne]; rfl
      | 2 => show (upd gb i b10 k, _) = (gb k, _); rw [upd_ne _ _ hne]; rfl
      | 3 => show (upd qi i bq k, _) = (qi k, _); rw [upd_ne _ _ hne]; rfl
      | _ + 4 => show (upd oi i bo k, _) = (oi k, _); rw [upd_ne _ _ hne]; rfl
    have hl6 : LH w (fun _ => False) w5 ((p, .cells [nv2, qv2, ov2, .slice none 0 0].toArray 71 (0, 0)) :: (nacc2 ++ (qacc2 ++ (oacc2 ++ rowsL (mkR p (upd hb i b6) (upd kb i b8) (upd gb i b10) (upd qi i bq) (upd oi i bo)) n (i + 1))))) := by
      rw [rowsL_succ, hold, hrows]
      exact hl5.perm (((permNews _ _ _ _ _).append_right _).trans (permEnd _ _ _ _ _ _))
    clear hl5 hrows hold
    repeat' (first | refine a_mov ?_ | refine a_asg ?_ | refine a_binN ?_ | refine a_notd ?_ | refine a_notb ?_ | refine a_nilc ?_ | refine a_fa ?_ | refine a_ext ?_ | refine a_lenv ?_ | refine a_lens ?_ | refine a_pick_t ?_ | refine a_pick_f ?_ | refine a_not ?_ | refine a_nilf ?_ | (refine o_nil (hK _ _ ?_); clear hK K) | refine wk_reg ?_ | refine wk_seq fun K hK => ?_ | (refine wk_skip (hK _ _ ?_); clear hK K) | (refine wk_label (hK _ _ ?_); clear hK K) | refine wk_scope ?_ | refine wk_block ?_ | refine wk_cond_t rfl ?_ | refine wk_cond_f rfl ?_ | (refine wk_exit ?_; (repeat (refine blockK_other rfl ?_)); refine blockK_same ?_; try ((repeat ((fail_if_success (refine hK _ _ ?_)); clear hK K)); refine hK _ _ ?_; clear hK K)) | (refine a_bin ?_ ?_ <;> intro _ <;> try (exfalso; omega)) | refine a_ld hl ?_ | (refine a_st hl ?_; clear hl; intro _ hl) | refine a_ix (fun _ => ?_) | fail)
    refine o_nil ⟨i + 1, ⟨rfl, rfl, rfl, trivial⟩, rfl, ⟨hi1, upd hb i b6, upd kb i b8, upd gb i b10, upd qi i bq, upd oi i bo, nv2, qv2, ov2, nacc2, qacc2, oacc2, hl6, accCast hna2 rfl ?_, accCast hqa2 rfl ?_, accCast hoa2 rfl ?_⟩, by omega⟩
    all_goals rw [flt_succ]
    all_goals congr 1
    · refine flt_congr fun k hk => ?_
      have hne : k ≠ i := by omega
      show [Value.slice none 0 0, arrV (hb k) n n, arrV (kb k) n n, arrV (gb k) n n] = [Value.slice none 0 0, arrV (upd hb i b6 k) n n, arrV (upd kb i b8 k) n n, arrV (upd gb i b10 k) n n]
      rw [upd_ne _ _ hne, upd_ne _ _ hne, upd_ne _ _ hne]
    · show _ = [Value.slice none 0 0, arrV (upd hb i b6 i) n n, arrV (upd kb i b8 i) n n, arrV (upd gb i b10 i) n n]
      rw [upd_same, upd_same, upd_same]
    · refine flt_congr fun k hk => ?_
      rw [upd_ne _ _ (by omega)]
    · rw [upd_same]
    · refine flt_congr fun k hk => ?_
      rw [upd_ne _ _ (by omega)]
    · rw [upd_same]
  · obtain rfl : i = n := by omega
    obtain ⟨nb, nc, nj, rfl, rfl⟩ := acc_arr hna (by omega)
    obtain ⟨qb, qc, qj, rfl, rfl⟩ := acc_arr hqa (by omega)
    obtain ⟨ob, oc, oj, rfl, rfl⟩ := acc_arr hoa (by omega)
    repeat' (first | refine a_mov ?_ | refine a_asg ?_ | refine a_binN ?_ | refine a_notd ?_ | refine a_notb ?_ | refine a_nilc ?_ | refine a_fa ?_ | refine a_ext ?_ | refine a_lenv ?_ | refine a_lens ?_ | refine a_pick_t ?_ | refine a_pick_f ?_ | refine a_not ?_ | refine a_nilf ?_ | (refine o_nil (hK _ _ ?_); clear hK K) | refine wk_reg ?_ | refine wk_seq fun K hK => ?_ | (refine wk_skip (hK _ _ ?_); clear hK K) | (refine wk_label (hK _ _ ?_); clear hK K) | refine wk_scope ?_ | refine wk_block ?_ | refine wk_cond_t rfl ?_ | refine wk_cond_f rfl ?_ | (refine wk_exit ?_; (repeat (refine blockK_other rfl ?_)); refine blockK_same ?_; try ((repeat ((fail_if_success (refine hK _ _ ?_)); clear hK K)); refine hK _ _ ?_; clear hK K)) | (refine a_bin ?_ ?_ <;> intro _ <;> try (exfalso; omega)) | refine a_ld hl ?_ | (refine a_st hl ?_; clear hl; intro _ hl) | refine a_ix (fun _ => ?_) | fail)
    refine wk_ret (retQ_tmp2 Try.results12 (by decide) (by decide) rfl (by conv => lhs; whnf) (by conv => lhs; whnf) ?_)
    have hbl : RefB.bl ⟨p, nb, nc, nj, qb, qc, qj, ob, oc, oj, .slice none 0 0, [], hb, kb, gb, qi, oi, fun _ _ => 0, fun _ _ => 0, fun _ _ => false, fun _ => .slice none 0 0, fun _ _ => .slice none 0 0, fun _ _ => .slice none 0 0, fun _ _ => [], Y⟩ i = (p, .cells [arrV nb i nc, arrV qb i qc, arrV ob i oc, .slice none 0 0].toArray 71 (0, 0)) :: ([(nb, .cells (flt i ((mkR p hb kb gb qi oi).nodeC i) ++ nj).toArray 74 (0, 0))] ++ ([(qb, .cells ((flt i fun k => [arrV (qi k) i i]) ++ qj).toArray 75 (0, 0))] ++ ([(ob, .cells ((flt i fun k => [arrV (oi k) i i]) ++ oj).toArray 76 (0, 0))] ++ rowsL (mkR p hb kb gb qi oi) i i))) := by
      unfold RefB.bl
      rw [idx_rows, List.append_nil]
      rfl
    refine ⟨p, rfl, _, hl, ⟨p, nb, nc, nj, qb, qc, qj, ob, oc, oj, .slice none 0 0, [], hb, kb, gb, qi, oi, fun _ _ => 0, fun _ _ => 0, fun _ _ => false, fun _ => .slice none 0 0, fun _ _ => .slice none 0 0, fun _ _ => .slice none 0 0, fun _ _ => [], Y⟩, rfl, rfl, hbl.symm, ?_, hl.owned⟩
    exact ⟨hn, fun _ _ => ⟨Sl.nil _ _, .inl rfl⟩, fun _ _ _ _ => ⟨Sl.nil _ _, .inl rfl⟩, fun _ _ _ _ => ⟨⟨Sl.nil _ _, .inl rfl⟩, rfl, fun q hq => nomatch hq⟩, Acc.nil _ _, fun _ _ _ _ => rfl, fun _ _ _ _ => rfl, fun _ _ _ _ => rfl, fun b h => Nat.lt_of_lt_of_le (hY b h) hl.done.size⟩
end Go.Proofs
