/-
  The reference's network: Send.
-/
import Derived.Test.YthiiodbjmcafgaaNrD
set_option linter.unusedVariables false
set_option linter.unusedSimpArgs false
set_option linter.unnecessarySimpa false
set_option maxRecDepth 10000
namespace Go.Proofs
open Go Go.Pd Go.Ne
attribute [local irreducible] OpsL W RetQ OpsQ OpsC
abbrev zeroM : List Value := [.slice none 0 0, .int .i64 0, .int .i64 0]

set_option maxHeartbeats 2000000 in
theorem sendR_calls {Y : Nat → Prop} {s : Net} {p : Nat} {bl : List (Nat × Obj)} {w : World} (h : RefR Y s p bl w) (a b : Nat) (hbd : Bd s) (hgl : ∀ a b, ((s.node a).peer b).got.length ≤ 1000000) :
    Calls Try.prog 16 #[.pointer (some ⟨p, 0, none⟩), .int .i64 (a : Int), .int .i64 (b : Int)] w (fun e w' => ∃ v, e = .returned v ∧ v = .int .i64 (sendE s a b : Int) ∧ AftR Y (send s a b) p bl w w') := by
  have hR := h
  obtain ⟨R, rfl, rfl, rfl, hok, hown⟩ := h
  have hsame : ∀ {w'}, Ext w w' → sendE s a b ≠ 0 → AftR R.Y (send s a b) R.p (R.bl s.n) w w' := fun e hne => by
    have : send s a b = s := if_pos hne
    rw [this]; exact AftR.same hR e
  refine calls_of Try.func16 rfl Try.ntmps16 rfl ?_
  repeat' (first | refine a_mov ?_ | refine a_asg ?_ | refine a_binN ?_ | refine a_notd ?_ | refine a_notb ?_ | refine a_nilc ?_ | refine a_fa ?_ | refine a_ext ?_ | refine a_lenv ?_ | refine a_lens ?_ | refine a_pick_t ?_ | refine a_pick_f ?_ | refine a_not ?_ | refine a_nilf ?_ | (refine o_nil (hK _ _ ?_); clear hK K) | refine wk_reg ?_ | refine wk_seq fun K hK => ?_ | (refine wk_skip (hK _ _ ?_); clear hK K) | (refine wk_label (hK _ _ ?_); clear hK K) | refine wk_scope ?_ | refine wk_block ?_ | refine wk_cond_t rfl ?_ | refine wk_cond_f rfl ?_ | (refine wk_exit ?_; (repeat (refine blockK_other rfl ?_)); refine blockK_same ?_; try ((repeat ((fail_if_success (refine hK _ _ ?_)); clear hK K)); refine hK _ _ ?_; clear hK K)) | (refine a_bin ?_ ?_ <;> intro _ <;> try (exfalso; omega)) | refine a_ld hl ?_ | (refine a_st hl ?_; clear hl; intro _ hl) | refine a_ix (fun _ => ?_) | fail)
  refine a_fn (pairR_calls (s := s) (RefB.r0 hown) a b) ?_
  rintro _ w1 ⟨rfl, he1⟩
  cases hp : pair s a b
  · repeat' (first | refine a_mov ?_ | refine a_asg ?_ | refine a_binN ?_ | refine a_notd ?_ | refine a_notb ?_ | refine a_nilc ?_ | refine a_fa ?_ | refine a_ext ?_ | refine a_lenv ?_ | refine a_lens ?_ | refine a_pick_t ?_ | refine a_pick_f ?_ | refine a_not ?_ | refine a_nilf ?_ | (refine o_nil (hK _ _ ?_); clear hK K) | refine wk_reg ?_ | refine wk_seq fun K hK => ?_ | (refine wk_skip (hK _ _ ?_); clear hK K) | (refine wk_label (hK _ _ ?_); clear hK K) | refine wk_scope ?_ | refine wk_block ?_ | refine wk_cond_t rfl ?_ | refine wk_cond_f rfl ?_ | (refine wk_exit ?_; (repeat (refine blockK_other rfl ?_)); refine blockK_same ?_; try ((repeat ((fail_if_success (refine hK _ _ ?_)); clear hK K)); refine hK _ _ ?_; clear hK K)) | (refine a_bin ?_ ?_ <;> intro _ <;> try (exfalso; omega)) | refine a_ld hl ?_ | (refine a_st hl ?_; clear hl; intro _ hl) | refine a_ix (fun _ => ?_) | fail)
    refine wk_ret (retQ_tmp1 Try.results16 (by decide) rfl (by conv => lhs; whnf) ?_)
    have hE : sendE s a b = 1 := if_pos hp
    exact ⟨by rw [hE]; rfl, hsame he1 (by rw [hE]; decide)⟩
  have hp' : ¬ pair s a b = false := by rw [hp]; decide
  obtain ⟨ha, hb, hab⟩ := of_decide_eq_true hp
  have hown1 := hown.ext he1
  have hC := RefB.rC hown1 ha hb
  rw [hok.c a b ha hb] at hC
  repeat' (first | refine a_mov ?_ | refine a_asg ?_ | refine a_binN ?_ | refine a_notd ?_ | refine a_notb ?_ | refine a_nilc ?_ | refine a_fa ?_ | refine a_ext ?_ | refine a_lenv ?_ | refine a_lens ?_ | refine a_pick_t ?_ | refine a_pick_f ?_ | refine a_not ?_ | refine a_nilf ?_ | (refine o_nil (hK _ _ ?_); clear hK K) | refine wk_reg ?_ | refine wk_seq fun K hK => ?_ | (refine wk_skip (hK _ _ ?_); clear hK K) | (refine wk_label (hK _ _ ?_); clear hK K) | refine wk_scope ?_ | refine wk_block ?_ | refine wk_cond_t rfl ?_ | refine wk_cond_f rfl ?_ | (refine wk_exit ?_; (repeat (refine blockK_other rfl ?_)); refine blockK_same ?_; try ((repeat ((fail_if_success (refine hK _ _ ?_)); clear hK K)); refine hK _ _ ?_; clear hK K)) | (refine a_bin ?_ ?_ <;> intro _ <;> try (exfalso; omega)) | refine a_ld hl ?_ | (refine a_st hl ?_; clear hl; intro _ hl) | refine a_ix (fun _ => ?_) | refine a_row (RefB.r0 hown1) ?_ | refine a_idx (c := 1) a rfl ?_ | refine a_idx (c := 1) b rfl ?_ | refine a_row (RefB.rO hown1 ha) ?_ | refine a_row hC ?_ | fail)
  cases hc : cutA s a b
  · have hq := hok.q a b ha hb
    have hql : (R.ql a b).length = (s.q a b).length := by rw [← hq.hl, List.length_map]
    obtain ⟨qa, qc, hqv, -⟩ := hq.hv.1.shape (m := (s.q a b).length) (by rw [← hql]; exact flat_length (f := msgC) (c := 3) (fun _ => rfl) _) (by omega)
    have hI := RefB.rI hown1 ha hb
    rw [hqv] at hI
    repeat' (first | refine a_mov ?_ | refine a_asg ?_ | refine a_binN ?_ | refine a_notd ?_ | refine a_notb ?_ | refine a_nilc ?_ | refine a_fa ?_ | refine a_ext ?_ | refine a_lenv ?_ | refine a_lens ?_ | refine a_pick_t ?_ | refine a_pick_f ?_ | refine a_not ?_ | refine a_nilf ?_ | (refine o_nil (hK _ _ ?_); clear hK K) | refine wk_reg ?_ | refine wk_seq fun K hK => ?_ | (refine wk_skip (hK _ _ ?_); clear hK K) | (refine wk_label (hK _ _ ?_); clear hK K) | refine wk_scope ?_ | refine wk_block ?_ | refine wk_cond_t rfl ?_ | refine wk_cond_f rfl ?_ | (refine wk_exit ?_; (repeat (refine blockK_other rfl ?_)); refine blockK_same ?_; try ((repeat ((fail_if_success (refine hK _ _ ?_)); clear hK K)); refine hK _ _ ?_; clear hK K)) | (refine a_bin ?_ ?_ <;> intro _ <;> try (exfalso; omega)) | refine a_ld hl ?_ | (refine a_st hl ?_; clear hl; intro _ hl) | refine a_ix (fun _ => ?_) | refine a_row (RefB.r0 hown1) ?_ | refine a_idx (c := 1) a rfl ?_ | refine a_idx (c := 1) b rfl ?_ | refine a_row (RefB.rQ hown1 ha) ?_ | refine a_row hI ?_ | fail)
    · refine wk_ret (retQ_tmp1 Try.results16 (by decide) rfl (by conv => lhs; whnf) ?_)
      have hE : sendE s a b = 27 := by unfold sendE; rw [if_neg hp', if_neg (by rw [hc]; decide), if_pos (by omega)]
      exact ⟨by rw [hE]; rfl, hsame he1 (by rw [hE]; decide)⟩
    have hE : sendE s a b = 0 := by unfold sendE; rw [if_neg hp', if_neg (by rw [hc]; decide), if_neg (by omega)]
    have hsd : send s a b = { s with q := upd2 s.q a b (s.q a b ++ [msg s a b]) } := if_neg (by rw [hE]; exact fun h => h rfl)
    have hH := RefB.rH hown1 ha hb
    rw [hok.h a b ha hb] at hH
    obtain ⟨ta, tc, htv, -⟩ := (hok.t a ha).1.shape (strL_len _) (by omega)
    have hrF := RefB.rF hown1 ha
    rw [show R.nodeC s.n a = [.slice ta (texts s a).length tc, arrV (R.hb a) s.n s.n, arrV (R.kb a) s.n s.n, arrV (R.gb a) s.n s.n] by unfold RefB.nodeC; rw [htv]] at hrF
    refine wk_cut [] (fun z : Value × Nat => [(0, .pointer (some ⟨R.p, 0, none⟩)), (1, .int .i64 (a : Int)), (2, .int .i64 (b : Int)), (7, .pointer (some ⟨z.2, 0, none⟩))]) (fun z w' => Ext w w' ∧ SlO (fun b => Go.Pd.In (R.bl s.n) b ∨ R.Y b) w' z.1 1 (strL (lacks s a b)) ∧ (∃ x k c, z.1 = .slice x k c) ∧ Row w' z.2 0 [z.1, .int .i64 ((texts s a).length : Int), .int .i64 (((s.node a).peer b).heard : Int)]) ?_ ?_
    · refine wk_tree [0, 1, 2, 4, 5, 6, 7, 8, 9, 10, 11, 12, 13, 14, 15, 16, 17, 18, 19, 20, 21, 22, 23] [7, 11, 12, 16, 20, 23] [3, 24, 25, 26] [] [] (fun w' => To w1 w' w1.heap) (fun w' => Ext w1 w') rfl (by kernel_rfl) (fun _ _ _ _ h => by first | exact h | (simp only [BlockK, NoGoto, RetQ] at h)) (fun _ h => h) (fun w' h => Upd.of_heap h) ?_
      repeat' (first | refine q_mov ?_ | refine q_asg ?_ | refine q_fa ?_ | refine q_ext ?_ | refine q_binN ?_ | refine q_notd ?_ | refine q_notb ?_ | refine q_pick_t ?_ | refine q_pick_f ?_ | refine q_nilc ?_ | refine q_skip ?_ | refine q_lens ?_ | refine q_lenv ?_ | refine q_nil ?_ | refine q_ix (fun _ => ?_) | (refine q_bin ?_ ?_ <;> intro _ <;> try (exfalso; omega)) | refine q_idx (c := 4) a rfl ?_ | refine q_idx (c := 1) b rfl ?_ | refine q_late rfl rfl rfl rfl (fun w' hw' => r_load rfl rfl (((RefB.r0 hown1).ext hw') 0 _ rfl)) ?_ | refine q_late rfl rfl rfl rfl (fun w' hw' => r_load rfl rfl ((hrF.ext hw') 0 _ rfl)) ?_ | refine q_late rfl rfl rfl rfl (fun w' hw' => r_load rfl rfl ((hrF.ext hw') 1 _ rfl)) ?_ | refine q_late rfl rfl rfl rfl (fun w' hw' => r_load rfl rfl ((hH.ext hw') 0 _ rfl)) ?_ | refine q_late rfl rfl rfl rfl (fun w' hw' => r_lenv rfl rfl) ?_ | fail)
      intro w2 hw2
      have hx12 : Ext w1 w2 := Upd.of_heap hw2
      clear hw2
      refine opsT_2 (i := 3) (i' := 25) (by kernel_rfl) rfl rfl rfl rfl ?_ ?_
      · have hxw := he1.trans hx12
        refine a_fn (lacksR_calls (hR.ext hxw) a b hbd hgl) ?_
        rintro v3 w5 hF
        obtain ⟨acc3, hl3, ha3⟩ := hF
        have hx5 := hxw.trans hl3.done
        have hs3 : SlO (fun b => Go.Pd.In (R.bl s.n) b ∨ R.Y b) w5 v3 1 (strL (lacks s a b)) := SlO.freshD hl3 ha3 fun b hb => Nat.lt_of_lt_of_le (hb.elim (fun h => hown.idlt h) (hok.ys b)) hxw.size
        obtain ⟨x3, y3, rfl⟩ := ha3.shape
        have hx15 := hx12.trans hl3.done
        refine o_nil ⟨.inl hx15, ?_⟩
        refine opsT_2 (i := 24) (i' := 25) (by kernel_rfl) rfl rfl rfl rfl ?_ ?_
        · skip
          refine o_build [.slice x3 (lacks s a b).length y3, .int .i64 ((texts s a).length : Int), .int .i64 (((s.node a).peer b).heard : Int)] rfl (by kernel_rfl) ?_
          refine o_nil ⟨.inl hx15, ?_⟩
          refine opsT_1 (i := 25) (by kernel_rfl) rfl rfl ?_
          refine o_alloc (LH.start w5 (fun _ => False)) zeroM rfl rfl ?_
          intro b7 w7 hb7 hl7
          refine o_nil ⟨.inl (hx15.trans hl7.done), ?_⟩
          refine opsT_1 (i := 26) (by kernel_rfl) rfl rfl ?_
          refine o_putN (us := [.slice x3 (lacks s a b).length y3, .int .i64 ((texts s a).length : Int), .int .i64 (((s.node a).peer b).heard : Int)]) hl7 rfl rfl rfl rfl rfl (.all (vs := zeroM) rfl rfl) ?_
          clear hl7
          intro w9 hl9
          have hx19 := hx15.trans hl9.done
          replace hs3 := hs3.ext hl9.done
          refine o_nil ⟨.inl hx19, ?_⟩
          refine opsT_nil ?_
          unfold PostQ
          refine q_nil ?_
          exact ⟨(.slice x3 (lacks s a b).length y3, b7), ⟨rfl, rfl, rfl, rfl, trivial⟩, rfl, he1.trans hx19, hs3, ⟨x3, _, y3, rfl⟩, hl9.rowL (vs := [.slice x3 (lacks s a b).length y3, .int .i64 ((texts s a).length : Int), .int .i64 (((s.node a).peer b).heard : Int)]) 0 0 3 rfl⟩
        · skip
          refine o_alloc (LH.start w5 (fun _ => False)) zeroM rfl rfl ?_
          intro b7 w7 hb7 hl7
          refine o_nil ⟨.inl (hx15.trans hl7.done), ?_⟩
          refine opsT_1 (i := 24) (by kernel_rfl) rfl rfl ?_
          refine o_build [.slice x3 (lacks s a b).length y3, .int .i64 ((texts s a).length : Int), .int .i64 (((s.node a).peer b).heard : Int)] rfl (by kernel_rfl) ?_
          refine o_nil ⟨.inl (hx15.trans hl7.done), ?_⟩
          refine opsT_1 (i := 26) (by kernel_rfl) rfl rfl ?_
          refine o_putN (us := [.slice x3 (lacks s a b).length y3, .int .i64 ((texts s a).length : Int), .int .i64 (((s.node a).peer b).heard : Int)]) hl7 rfl rfl rfl rfl rfl (.all (vs := zeroM) rfl rfl) ?_
          clear hl7
          intro w9 hl9
          have hx19 := hx15.trans hl9.done
          replace hs3 := hs3.ext hl9.done
          refine o_nil ⟨.inl hx19, ?_⟩
          refine opsT_nil ?_
          unfold PostQ
          refine q_nil ?_
          exact ⟨(.slice x3 (lacks s a b).length y3, b7), ⟨rfl, rfl, rfl, rfl, trivial⟩, rfl, he1.trans hx19, hs3, ⟨x3, _, y3, rfl⟩, hl9.rowL (vs := [.slice x3 (lacks s a b).length y3, .int .i64 ((texts s a).length : Int), .int .i64 (((s.node a).peer b).heard : Int)]) 0 0 3 rfl⟩
      · skip
        refine o_alloc (LH.start w2 (fun _ => False)) zeroM rfl rfl ?_
        intro b7 w7 hb7 hl7
        have hxw := (he1.trans hx12).trans hl7.done
        refine o_nil ⟨.inl (hx12.trans hl7.done), ?_⟩
        refine opsT_1 (i := 3) (by kernel_rfl) rfl rfl ?_
        refine a_fn (lacksR_calls (hR.ext hxw) a b hbd hgl) ?_
        rintro v3 w5 ⟨acc3, hl3, ha3⟩
        have hs3 : SlO (fun b => Go.Pd.In [(b7, Obj.cells zeroM.toArray 87 (0, 0))] b ∨ (Go.Pd.In (R.bl s.n) b ∨ R.Y b)) w5 v3 1 (strL (lacks s a b)) := SlO.freshD hl3 ha3 fun b hb => by
          rcases hb with hb | hb
          · exact hl7.idlt hb
          · exact Nat.lt_of_lt_of_le (hb.elim (fun h => hown.idlt h) (hok.ys b)) hxw.size
        obtain ⟨x3, y3, rfl⟩ := ha3.shape
        replace hl7 := hl7.ext hl3.done
        have hx15 := hx12.trans hl7.done
        refine o_nil ⟨.inl hx15, ?_⟩
        refine opsT_1 (i := 24) (by kernel_rfl) rfl rfl ?_
        refine o_build [.slice x3 (lacks s a b).length y3, .int .i64 ((texts s a).length : Int), .int .i64 (((s.node a).peer b).heard : Int)] rfl (by kernel_rfl) ?_
        refine o_nil ⟨.inl hx15, ?_⟩
        refine opsT_1 (i := 26) (by kernel_rfl) rfl rfl ?_
        refine o_putN (us := [.slice x3 (lacks s a b).length y3, .int .i64 ((texts s a).length : Int), .int .i64 (((s.node a).peer b).heard : Int)]) hl7.owned rfl rfl rfl rfl rfl (.all (vs := zeroM) rfl rfl) ?_
        intro w9 h9
        have hl9 := hl7.bk h9
        have hx19 := hx12.trans hl9.done
        replace hs3 := (hs3.stepX h9).mono fun b hb => .inr hb
        refine o_nil ⟨.inl hx19, ?_⟩
        refine opsT_nil ?_
        unfold PostQ
        refine q_nil ?_
        exact ⟨(.slice x3 (lacks s a b).length y3, b7), ⟨rfl, rfl, rfl, rfl, trivial⟩, rfl, he1.trans hx19, hs3, ⟨x3, _, y3, rfl⟩, hl9.rowL (vs := [.slice x3 (lacks s a b).length y3, .int .i64 ((texts s a).length : Int), .int .i64 (((s.node a).peer b).heard : Int)]) 0 0 3 rfl⟩
    rintro ⟨mv, b7⟩ t3 w9 ⟨hx9, hs9, ⟨x3, k3, y3, hmv⟩, hr9⟩
    dsimp only at hmv hs9 hr9 ⊢
    subst hmv
    obtain ⟨rfl, -, -⟩ : k3 = (lacks s a b).length ∧ True ∧ True := by
      obtain ⟨a', c', h', -⟩ := hs9.1.shape (strL_len _) (by omega)
      injection h' with _ h2 _
      exact ⟨h2, trivial, trivial⟩
    refine hK _ _ ?_
    clear hK K
    have hown9 := hown.ext hx9
    have hok9 := hok.ext hx9
    have hq9 := hok9.q a b ha hb
    have hI9 := RefB.rI hown9 ha hb
    rw [hqv] at hI9
    have hr0 := RefB.r0 hown9
    have hrQ := RefB.rQ hown9 ha
    have hsl : Sl w9 (.slice qa (s.q a b).length qc) 3 ((R.ql a b).flatMap msgC) := by have := hq9.hv.1; rwa [hqv] at this
    have hsll : ((R.ql a b).flatMap msgC).length = (s.q a b).length * 3 := by rw [← hql]; exact flat_length (f := msgC) (c := 3) (fun _ => rfl) _
    have hsone : ((R.ql a b).flatMap msgC).all Value.oneCell' = true := by
      rw [List.all_flatMap]
      refine List.all_eq_true.2 fun q hq => ?_
      obtain ⟨a', c', h', -⟩ := (hq9.hs q hq).1.shape (strL_len _) (by omega)
      show (q.1.oneCell' && _) = true
      rw [h']; rfl
    have hxone : ([.slice x3 (lacks s a b).length y3, .int .i64 ((texts s a).length : Int), .int .i64 (((s.node a).peer b).heard : Int)] : List Value).all Value.oneCell' = true := rfl
    have hqb := hbd.q a b
    have hfin : ∀ (v : Value) (wd w6' : World), Ext w9 wd → LH w (Go.Pd.In (R.bl s.n)) w6' (RefB.bl { R with qv := upd2 R.qv a b v } s.n) → LH wd (Go.Pd.In (R.bl s.n)) w6' (RefB.bl { R with qv := upd2 R.qv a b v } s.n) → SlO (RefB.D { R with qv := upd2 R.qv a b v } s.n) w6' v 3 ((R.ql a b).flatMap msgC ++ [.slice x3 (lacks s a b).length y3, .int .i64 ((texts s a).length : Int), .int .i64 (((s.node a).peer b).heard : Int)]) → AftR R.Y (send s a b) R.p (R.bl s.n) w w6' := fun v wd w6' he hl6 h6 hv => by
      rw [hsd]
      refine AftR.mk (R' := { R with qv := upd2 R.qv a b v, ql := upd2 R.ql a b (R.ql a b ++ [(.slice x3 (lacks s a b).length y3, msg s a b)]) }) rfl hl6 ((hok9.ext he).moved h6 rfl rfl (fun _ _ => .inl ⟨rfl, rfl⟩) (fun _ _ _ _ => .inl ⟨rfl, rfl⟩) (fun i j hi hj => ?_) hok.a (fun i j hi hj => hok.h i j hi hj) (fun i j hi hj => hok.k i j hi hj) (fun i j hi hj => hok.c i j hi hj)) rfl
      by_cases e : i = a ∧ j = b
      · obtain ⟨rfl, rfl⟩ := e
        right
        show QLeaf _ w6' (upd2 R.qv i j v i j) (upd2 R.ql i j _ i j) (upd2 s.q i j _ i j)
        rw [upd2_same, upd2_same, upd2_same]
        refine ⟨?_, by rw [List.map_append, hq9.hl]; rfl, fun q hq => ?_⟩
        · rw [List.flatMap_append, List.flatMap_singleton]
          exact hv
        · rcases List.mem_append.1 hq with hq | hq
          · exact ((hq9.hs q hq).ext he).stepX h6
          · obtain rfl := List.mem_singleton.1 hq
            exact (hs9.ext he).stepX h6
      · left
        exact ⟨upd2_ne _ _ e, upd2_ne _ _ e, upd2_ne _ _ e⟩
    repeat' (first | refine a_mov ?_ | refine a_asg ?_ | refine a_binN ?_ | refine a_notd ?_ | refine a_notb ?_ | refine a_nilc ?_ | refine a_fa ?_ | refine a_ext ?_ | refine a_lenv ?_ | refine a_lens ?_ | refine a_pick_t ?_ | refine a_pick_f ?_ | refine a_not ?_ | refine a_nilf ?_ | (refine o_nil (hK _ _ ?_); clear hK K) | refine wk_reg ?_ | refine wk_seq fun K hK => ?_ | (refine wk_skip (hK _ _ ?_); clear hK K) | (refine wk_label (hK _ _ ?_); clear hK K) | refine wk_scope ?_ | refine wk_block ?_ | refine wk_cond_t rfl ?_ | refine wk_cond_f rfl ?_ | (refine wk_exit ?_; (repeat (refine blockK_other rfl ?_)); refine blockK_same ?_; try ((repeat ((fail_if_success (refine hK _ _ ?_)); clear hK K)); refine hK _ _ ?_; clear hK K)) | (refine a_bin ?_ ?_ <;> intro _ <;> try (exfalso; omega)) | refine a_ld hl ?_ | (refine a_st hl ?_; clear hl; intro _ hl) | refine a_ix (fun _ => ?_) | fail)
    refine wk_cut [] (fun _ : Unit => []) (fun _ w' => AftR R.Y (send s a b) R.p (R.bl s.n) w w') ?_ ?_
    · refine wk_tree [0, 1, 2, 3, 4, 5, 6, 7, 9, 10, 11, 12, 13, 14, 15, 16, 17, 18, 20, 23] [3, 6, 12, 15, 18, 20] [8, 19, 21, 22, 24] [] [] (fun w' => To w9 w' w9.heap) (fun w' => Ext w9 w') rfl (by kernel_rfl) (fun _ _ _ _ h => by first | exact h | (simp only [BlockK, NoGoto, RetQ] at h)) (fun _ h => h) (fun w' h => Upd.of_heap h) ?_
      repeat' (first | refine q_mov ?_ | refine q_asg ?_ | refine q_fa ?_ | refine q_ext ?_ | refine q_binN ?_ | refine q_notd ?_ | refine q_notb ?_ | refine q_pick_t ?_ | refine q_pick_f ?_ | refine q_nilc ?_ | refine q_skip ?_ | refine q_lens ?_ | refine q_lenv ?_ | refine q_nil ?_ | refine q_ix (fun _ => ?_) | (refine q_bin ?_ ?_ <;> intro _ <;> try (exfalso; omega)) | refine q_idx (c := 1) a rfl ?_ | refine q_idx (c := 1) b rfl ?_ | refine q_late rfl rfl rfl rfl (fun w' hw' => r_load rfl rfl ((hr0.ext hw') 1 _ rfl)) ?_ | refine q_late rfl rfl rfl rfl (fun w' hw' => r_load rfl rfl ((hrQ.ext hw') 0 _ rfl)) ?_ | refine q_late rfl rfl rfl rfl (fun w' hw' => r_load rfl rfl ((hI9.ext hw') 0 _ rfl)) ?_ | refine q_late rfl rfl rfl rfl (fun w' hw' => r_loadN (vs := [.slice x3 (lacks s a b).length y3, .int .i64 ((texts s a).length : Int), .int .i64 (((s.node a).peer b).heard : Int)]) rfl rfl rfl (hr9.ext hw')) ?_ | fail)
      intro w10 hw10
      have hlh : LH w9 (fun _ => False) w10 [] := (LH.start w9 _).heap hw10
      clear hw10
      refine opsT_2 (i := 8) (i' := 21) (by kernel_rfl) rfl rfl rfl rfl ?_ ?_
      · refine o_buildSlice0 hlh rfl rfl rfl ?_
        clear hlh
        intro b0 wa hb0 hlh
        refine o_nil ⟨.inl hlh.done, ?_⟩
        refine opsT_2 (i := 19) (i' := 21) (by kernel_rfl) rfl rfl rfl rfl ?_ ?_
        · have hlh : LH _ _ _ ([] ++ [_]) := hlh
          refine o_appendS (k := 3) (bytes := 40) (q := (s.q a b).length) (us := (R.ql a b).flatMap msgC) hlh (Acc.empty 3 87 b0) (hsl.ext hlh.done) hsll (by decide) hsone (by omega) (by omega) rfl rfl rfl rfl rfl rfl ?_
          clear hlh
          intro v1 wb acc hlh hacc
          rw [Nat.zero_add, List.nil_append] at hacc
          obtain ⟨x1, y1, rfl⟩ := hacc.shape
          refine o_nil ⟨.inl hlh.done, ?_⟩
          refine opsT_1 (i := 21) (by kernel_rfl) rfl rfl ?_
          refine o_buildSlice hlh ([.slice x3 (lacks s a b).length y3, .int .i64 ((texts s a).length : Int), .int .i64 (((s.node a).peer b).heard : Int)]) rfl rfl (by kernel_rfl) ?_
          clear hlh
          intro b4 wc hb4 hlh
          refine o_nil ⟨.inl hlh.done, ?_⟩
          have hlh : LH _ _ _ ([_] ++ acc) := hlh
          refine opsT_1 (i := 22) (by kernel_rfl) rfl rfl ?_
          refine o_append (k := 3) (bytes := 40) (m := (s.q a b).length) (q := 1) (us := [.slice x3 (lacks s a b).length y3, .int .i64 ((texts s a).length : Int), .int .i64 (((s.node a).peer b).heard : Int)]) hlh hacc (hlh.rowL (vs := [.slice x3 (lacks s a b).length y3, .int .i64 ((texts s a).length : Int), .int .i64 (((s.node a).peer b).heard : Int)]) 0 0 3 rfl) rfl hxone (by omega) (by omega) (by omega) rfl rfl rfl rfl rfl ?_
          clear hlh hacc
          intro v2 wd acc2 hlh hacc
          obtain ⟨x2, y2, rfl⟩ := hacc.shape
          refine o_nil ⟨.inl hlh.done, ?_⟩
          refine opsT_1 (i := 24) (by kernel_rfl) rfl rfl ?_
          refine o_store (RefB.atRow (hown9.ext hlh.done) (kd := 3) ha (by omega)) 0 [.slice x2 ((s.q a b).length + 1) y2] rfl rfl rfl rfl rfl (flt_len (c := 1) (fun _ => rfl) [] hb) rfl ?_
          intro w8 h6
          have hown6 := RefB.setQv (.slice x2 ((s.q a b).length + 1) y2) ha hb h6 (hown9.ext hlh.done)
          have hself := RefB.setQv (.slice x2 ((s.q a b).length + 1) y2) ha hb h6 (hown9.ext hlh.done).owned
          have hleaf := RefOK.leaf (R := R) (R' := { R with qv := upd2 R.qv a b (.slice x2 ((s.q a b).length + 1) y2) }) hown9.owned hok9.ys hlh hacc rfl hself
          refine o_nil ⟨.inr (by kernel_rfl), ?_⟩
          refine opsT_nil ?_
          unfold PostQ
          refine q_nil ?_
          exact ⟨(), trivial, rfl, hfin _ _ _ hlh.done hown6 hself hleaf⟩
        · skip
          refine o_buildSlice hlh ([.slice x3 (lacks s a b).length y3, .int .i64 ((texts s a).length : Int), .int .i64 (((s.node a).peer b).heard : Int)]) rfl rfl (by kernel_rfl) ?_
          clear hlh
          intro b4 wc hb4 hlh
          refine o_nil ⟨.inl hlh.done, ?_⟩
          have hlh : LH _ _ _ ([_] ++ [_]) := hlh
          refine opsT_1 (i := 19) (by kernel_rfl) rfl rfl ?_
          refine o_appendS (k := 3) (bytes := 40) (q := (s.q a b).length) (us := (R.ql a b).flatMap msgC) hlh (Acc.empty 3 87 b0) (hsl.ext hlh.done) hsll (by decide) hsone (by omega) (by omega) rfl rfl rfl rfl rfl rfl ?_
          clear hlh
          intro v1 wb acc hlh hacc
          rw [Nat.zero_add, List.nil_append] at hacc
          obtain ⟨x1, y1, rfl⟩ := hacc.shape
          refine o_nil ⟨.inl hlh.done, ?_⟩
          refine opsT_1 (i := 22) (by kernel_rfl) rfl rfl ?_
          refine o_append (k := 3) (bytes := 40) (m := (s.q a b).length) (q := 1) (us := [.slice x3 (lacks s a b).length y3, .int .i64 ((texts s a).length : Int), .int .i64 (((s.node a).peer b).heard : Int)]) hlh hacc (hlh.rowL (vs := [.slice x3 (lacks s a b).length y3, .int .i64 ((texts s a).length : Int), .int .i64 (((s.node a).peer b).heard : Int)]) 0 0 3 rfl) rfl hxone (by omega) (by omega) (by omega) rfl rfl rfl rfl rfl ?_
          clear hlh hacc
          intro v2 wd acc2 hlh hacc
          obtain ⟨x2, y2, rfl⟩ := hacc.shape
          refine o_nil ⟨.inl hlh.done, ?_⟩
          refine opsT_1 (i := 24) (by kernel_rfl) rfl rfl ?_
          refine o_store (RefB.atRow (hown9.ext hlh.done) (kd := 3) ha (by omega)) 0 [.slice x2 ((s.q a b).length + 1) y2] rfl rfl rfl rfl rfl (flt_len (c := 1) (fun _ => rfl) [] hb) rfl ?_
          intro w8 h6
          have hown6 := RefB.setQv (.slice x2 ((s.q a b).length + 1) y2) ha hb h6 (hown9.ext hlh.done)
          have hself := RefB.setQv (.slice x2 ((s.q a b).length + 1) y2) ha hb h6 (hown9.ext hlh.done).owned
          have hleaf := RefOK.leaf (R := R) (R' := { R with qv := upd2 R.qv a b (.slice x2 ((s.q a b).length + 1) y2) }) hown9.owned hok9.ys hlh hacc rfl hself
          refine o_nil ⟨.inr (by kernel_rfl), ?_⟩
          refine opsT_nil ?_
          unfold PostQ
          refine q_nil ?_
          exact ⟨(), trivial, rfl, hfin _ _ _ hlh.done hown6 hself hleaf⟩
      · skip
        refine o_buildSlice hlh ([.slice x3 (lacks s a b).length y3, .int .i64 ((texts s a).length : Int), .int .i64 (((s.node a).peer b).heard : Int)]) rfl rfl (by kernel_rfl) ?_
        clear hlh
        intro b4 wc hb4 hlh
        refine o_nil ⟨.inl hlh.done, ?_⟩
        refine opsT_1 (i := 8) (by kernel_rfl) rfl rfl ?_
        refine o_buildSlice0 hlh rfl rfl rfl ?_
        clear hlh
        intro b0 wa hb0 hlh
        refine o_nil ⟨.inl hlh.done, ?_⟩
        replace hlh := hlh.perm (List.Perm.swap _ _ _)
        have hlh : LH _ _ _ ([_] ++ [_]) := hlh
        refine opsT_1 (i := 19) (by kernel_rfl) rfl rfl ?_
        refine o_appendS (k := 3) (bytes := 40) (q := (s.q a b).length) (us := (R.ql a b).flatMap msgC) hlh (Acc.empty 3 87 b0) (hsl.ext hlh.done) hsll (by decide) hsone (by omega) (by omega) rfl rfl rfl rfl rfl rfl ?_
        clear hlh
        intro v1 wb acc hlh hacc
        rw [Nat.zero_add, List.nil_append] at hacc
        obtain ⟨x1, y1, rfl⟩ := hacc.shape
        refine o_nil ⟨.inl hlh.done, ?_⟩
        refine opsT_1 (i := 22) (by kernel_rfl) rfl rfl ?_
        refine o_append (k := 3) (bytes := 40) (m := (s.q a b).length) (q := 1) (us := [.slice x3 (lacks s a b).length y3, .int .i64 ((texts s a).length : Int), .int .i64 (((s.node a).peer b).heard : Int)]) hlh hacc (hlh.rowL (vs := [.slice x3 (lacks s a b).length y3, .int .i64 ((texts s a).length : Int), .int .i64 (((s.node a).peer b).heard : Int)]) 0 0 3 rfl) rfl hxone (by omega) (by omega) (by omega) rfl rfl rfl rfl rfl ?_
        clear hlh hacc
        intro v2 wd acc2 hlh hacc
        obtain ⟨x2, y2, rfl⟩ := hacc.shape
        refine o_nil ⟨.inl hlh.done, ?_⟩
        refine opsT_1 (i := 24) (by kernel_rfl) rfl rfl ?_
        refine o_store (RefB.atRow (hown9.ext hlh.done) (kd := 3) ha (by omega)) 0 [.slice x2 ((s.q a b).length + 1) y2] rfl rfl rfl rfl rfl (flt_len (c := 1) (fun _ => rfl) [] hb) rfl ?_
        intro w8 h6
        have hown6 := RefB.setQv (.slice x2 ((s.q a b).length + 1) y2) ha hb h6 (hown9.ext hlh.done)
        have hself := RefB.setQv (.slice x2 ((s.q a b).length + 1) y2) ha hb h6 (hown9.ext hlh.done).owned
        have hleaf := RefOK.leaf (R := R) (R' := { R with qv := upd2 R.qv a b (.slice x2 ((s.q a b).length + 1) y2) }) hown9.owned hok9.ys hlh hacc rfl hself
        refine o_nil ⟨.inr (by kernel_rfl), ?_⟩
        refine opsT_nil ?_
        unfold PostQ
        refine q_nil ?_
        exact ⟨(), trivial, rfl, hfin _ _ _ hlh.done hown6 hself hleaf⟩
    rintro _ t7 w10 hA
    refine hK _ _ ?_
    clear hK K
    repeat' (first | refine a_mov ?_ | refine a_asg ?_ | refine a_binN ?_ | refine a_notd ?_ | refine a_notb ?_ | refine a_nilc ?_ | refine a_fa ?_ | refine a_ext ?_ | refine a_lenv ?_ | refine a_lens ?_ | refine a_pick_t ?_ | refine a_pick_f ?_ | refine a_not ?_ | refine a_nilf ?_ | (refine o_nil (hK _ _ ?_); clear hK K) | refine wk_reg ?_ | refine wk_seq fun K hK => ?_ | (refine wk_skip (hK _ _ ?_); clear hK K) | (refine wk_label (hK _ _ ?_); clear hK K) | refine wk_scope ?_ | refine wk_block ?_ | refine wk_cond_t rfl ?_ | refine wk_cond_f rfl ?_ | (refine wk_exit ?_; (repeat (refine blockK_other rfl ?_)); refine blockK_same ?_; try ((repeat ((fail_if_success (refine hK _ _ ?_)); clear hK K)); refine hK _ _ ?_; clear hK K)) | (refine a_bin ?_ ?_ <;> intro _ <;> try (exfalso; omega)) | refine a_ld hl ?_ | (refine a_st hl ?_; clear hl; intro _ hl) | refine a_ix (fun _ => ?_) | fail)
    refine wk_ret (retQ_tmp1 Try.results16 (by decide) rfl (by conv => lhs; whnf) ?_)
    exact ⟨by rw [hE]; rfl, hA⟩
  · repeat' (first | refine a_mov ?_ | refine a_asg ?_ | refine a_binN ?_ | refine a_notd ?_ | refine a_notb ?_ | refine a_nilc ?_ | refine a_fa ?_ | refine a_ext ?_ | refine a_lenv ?_ | refine a_lens ?_ | refine a_pick_t ?_ | refine a_pick_f ?_ | refine a_not ?_ | refine a_nilf ?_ | (refine o_nil (hK _ _ ?_); clear hK K) | refine wk_reg ?_ | refine wk_seq fun K hK => ?_ | (refine wk_skip (hK _ _ ?_); clear hK K) | (refine wk_label (hK _ _ ?_); clear hK K) | refine wk_scope ?_ | refine wk_block ?_ | refine wk_cond_t rfl ?_ | refine wk_cond_f rfl ?_ | (refine wk_exit ?_; (repeat (refine blockK_other rfl ?_)); refine blockK_same ?_; try ((repeat ((fail_if_success (refine hK _ _ ?_)); clear hK K)); refine hK _ _ ?_; clear hK K)) | (refine a_bin ?_ ?_ <;> intro _ <;> try (exfalso; omega)) | refine a_ld hl ?_ | (refine a_st hl ?_; clear hl; intro _ hl) | refine a_ix (fun _ => ?_) | fail)
    refine wk_ret (retQ_tmp1 Try.results16 (by decide) rfl (by conv => lhs; whnf) ?_)
    have hE : sendE s a b = 28 := by unfold sendE; rw [if_neg hp', if_pos hc]
    exact ⟨by rw [hE]; rfl, hsame he1 (by rw [hE]; decide)⟩
end Go.Proofs
