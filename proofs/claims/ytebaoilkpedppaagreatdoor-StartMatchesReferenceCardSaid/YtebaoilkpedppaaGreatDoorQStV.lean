/-
  Conditions of commencement: lists of strings compared; the chapter's examples hold.
-/
import Derived.Test.YtebaoilkpedppaaGreatDoorQStU
import Derived.Test.YtebaoilkpedppaaGreatDoorQStQ
import Derived.Test.YtebaoilkpedppaaGreatDoorQStJ
set_option linter.unusedVariables false
set_option linter.unusedSimpArgs false
set_option linter.unnecessarySimpa false
set_option maxRecDepth 10000
namespace Go.Proofs
open Go Go.Pd Go.Sta
attribute [local irreducible] OpsL W RetQ OpsQ OpsC
theorem strL_flat (l : List Tx) : (l.map str).length = l.length * 1 := by simp
theorem sameT_calls {a b : List Tx} {av bv : Value} {w : World} (ha : Sl w av 1 (a.map str)) (hb : Sl w bv 1 (b.map str)) (hn : a.length ≤ 1000000) (hm : b.length ≤ 1000000) : Calls Tryz.prog 22 #[av, bv] w (fun e w' => ∃ v, e = .returned v ∧ v = .bool (decide (a = b)) ∧ Ext w w') := by
  obtain ⟨aa, ac, rfl, -⟩ := ha.shape (strL_flat a) (by omega)
  obtain ⟨ba, bc, rfl, -⟩ := hb.shape (strL_flat b) (by omega)
  refine calls_of Tryz.func22 rfl Tryz.ntmps22 rfl ?_
  refine wk_seq fun K hK => ?_
  refine wk_reg ?_
  refine a_asg ?_
  refine o_nil (hK _ _ ?_)
  clear hK K
  by_cases hlen : a.length = b.length
  · repeat' (first | refine a_mov ?_ | refine a_asg ?_ | refine a_binN ?_ | refine a_notd ?_ | refine a_notb ?_ | refine a_nilc ?_ | refine a_fa ?_ | refine a_ext ?_ | refine a_lenv ?_ | refine a_lens ?_ | refine a_pick_t ?_ | refine a_pick_f ?_ | refine a_not ?_ | refine a_nilf ?_ | (refine o_nil (hK _ _ ?_); clear hK K) | refine wk_reg ?_ | refine wk_seq fun K hK => ?_ | (refine wk_skip (hK _ _ ?_); clear hK K) | (refine wk_label (hK _ _ ?_); clear hK K) | refine wk_scope ?_ | refine wk_block ?_ | refine wk_cond_t rfl ?_ | refine wk_cond_f rfl ?_ | (refine wk_exit ?_; (repeat (refine blockK_other rfl ?_)); refine blockK_same ?_; try ((repeat ((fail_if_success (refine hK _ _ ?_)); clear hK K)); refine hK _ _ ?_; clear hK K)) | (refine a_bin ?_ ?_ <;> intro _ <;> try (exfalso; omega)) | refine a_ld hl ?_ | (refine a_st hl ?_; clear hl; intro _ hl) | refine a_ix (fun _ => ?_) | fail)
    refine wk_loopH [] rfl (fun i : Nat => [(0, .slice aa a.length ac), (1, .slice ba b.length bc), (5, .int .i64 (i : Int))]) (fun i w' => (i ≤ a.length ∧ a.take i = b.take i) ∧ Ext w w') (fun i => a.length - i) 0 ⟨rfl, rfl, rfl, trivial⟩ ⟨⟨Nat.zero_le _, by simp⟩, .refl _ _⟩ ?_
    rintro i t w1 ⟨⟨hi, hpre⟩, hx⟩
    refine wk_seq fun K1 hK1 => ?_
    refine wk_seq fun K2 hK2 => ?_
    refine wk_reg ?_
    by_cases hi1 : i < a.length
    · have hi2 : i < b.length := by omega
      obtain ⟨b1, o1, rfl, hr1⟩ := ha.at (strL_flat a) (by omega) (by omega)
      obtain ⟨b2, o2, rfl, hr2⟩ := hb.at (strL_flat b) (by omega) (by omega)
      have hc1 : Row w b1 (o1 + i * 1) [str a[i]] := fun j v hj => by
        cases j with
        | zero =>
          have := hr1 i (str a[i]) (by simp [hi1])
          simp at hj
          rw [← hj]
          simpa using this
        | succ j => simp at hj
      have hc2 : Row w b2 (o2 + i * 1) [str b[i]] := fun j v hj => by
        cases j with
        | zero =>
          have := hr2 i (str b[i]) (by simp [hi2])
          simp at hj
          rw [← hj]
          simpa using this
        | succ j => simp at hj
      obtain ⟨q, hq⟩ : ∃ q, q = decide (a[i] ≠ b[i]) := ⟨_, rfl⟩
      repeat' (first | refine a_mov ?_ | refine a_asg ?_ | refine a_binN ?_ | refine a_notd ?_ | refine a_notb ?_ | refine a_nilc ?_ | refine a_fa ?_ | refine a_ext ?_ | refine a_lenv ?_ | refine a_lens ?_ | refine a_pick_t ?_ | refine a_pick_f ?_ | refine a_not ?_ | refine a_nilf ?_ | (refine a_bin ?_ ?_ <;> intro _ <;> try (exfalso; omega)) | refine a_ld hl ?_ | (refine a_st hl ?_; clear hl; intro _ hl) | refine a_ix (fun _ => ?_) | fail)
      refine o_nil (hK2 _ _ ?_)
      clear hK2 K2
      refine wk_cond_t rfl ?_
      refine wk_skip (hK1 _ _ ?_)
      clear hK1 K1
      refine wk_seq fun K1 hK1 => ?_
      refine wk_block ?_
      refine wk_seq fun K2 hK2 => ?_
      refine wk_quiet (List.range 9) ?_
      repeat' (first | refine q_mov ?_ | refine q_asg ?_ | refine q_fa ?_ | refine q_ext ?_ | refine q_binN ?_ | refine q_notd ?_ | refine q_notb ?_ | refine q_pick_t ?_ | refine q_pick_f ?_ | refine q_nilc ?_ | refine q_skip ?_ | refine q_lens ?_ | refine q_lenv ?_ | refine q_nil ?_ | refine q_ix (fun _ => ?_) | (refine q_bin ?_ ?_ <;> intro _ <;> try (exfalso; omega)) | refine q_idx (c := 1) i rfl ?_ | refine q_row (fun w_ hw_ => (hc1.ext hx).ext hw_) ?_ | refine q_row (fun w_ hw_ => (hc2.ext hx).ext hw_) ?_ | refine q_pur rfl rfl rfl (fun _ => (r_nes (a := a[i]) (b := b[i]) rfl rfl).trans (by rw [← hq])) ?_)
      intro w2 hx2
      refine hK2 _ _ ?_
      clear hK2 K2
      cases q
      · have heq : a[i] = b[i] := by simpa using hq.symm
        refine wk_cond_f rfl ?_
        refine wk_skip (hK1 _ _ ?_)
        clear hK1 K1
        refine wk_reg ?_
        repeat' (first | refine a_mov ?_ | refine a_asg ?_ | refine a_binN ?_ | refine a_notd ?_ | refine a_notb ?_ | refine a_nilc ?_ | refine a_fa ?_ | refine a_ext ?_ | refine a_lenv ?_ | refine a_lens ?_ | refine a_pick_t ?_ | refine a_pick_f ?_ | refine a_not ?_ | refine a_nilf ?_ | (refine a_bin ?_ ?_ <;> intro _ <;> try (exfalso; omega)) | refine a_ld hl ?_ | (refine a_st hl ?_; clear hl; intro _ hl) | refine a_ix (fun _ => ?_) | fail)
        refine o_nil ⟨i + 1, ⟨rfl, rfl, rfl, trivial⟩, rfl, ⟨⟨hi1, ?_⟩, hx.trans hx2⟩, by omega⟩
        rw [List.take_succ_eq_append_getElem hi1, List.take_succ_eq_append_getElem hi2, hpre, heq]
      · have hne : a[i] ≠ b[i] := by simpa using hq.symm
        repeat' (first | refine a_mov ?_ | refine a_asg ?_ | refine a_binN ?_ | refine a_notd ?_ | refine a_notb ?_ | refine a_nilc ?_ | refine a_fa ?_ | refine a_ext ?_ | refine a_lenv ?_ | refine a_lens ?_ | refine a_pick_t ?_ | refine a_pick_f ?_ | refine a_not ?_ | refine a_nilf ?_ | (refine o_nil (hK _ _ ?_); clear hK K) | refine wk_reg ?_ | refine wk_seq fun K hK => ?_ | (refine wk_skip (hK _ _ ?_); clear hK K) | (refine wk_label (hK _ _ ?_); clear hK K) | refine wk_scope ?_ | refine wk_block ?_ | refine wk_cond_t rfl ?_ | refine wk_cond_f rfl ?_ | (refine wk_exit ?_; (repeat (refine blockK_other rfl ?_)); refine blockK_same ?_; try ((repeat ((fail_if_success (refine hK _ _ ?_)); clear hK K)); refine hK _ _ ?_; clear hK K)) | (refine a_bin ?_ ?_ <;> intro _ <;> try (exfalso; omega)) | refine a_ld hl ?_ | (refine a_st hl ?_; clear hl; intro _ hl) | refine a_ix (fun _ => ?_) | fail)
        refine wk_ret (retQ_tmp1 Tryz.results22 (by decide) rfl (by conv => lhs; whnf) ?_)
        refine ⟨?_, hx.trans hx2⟩
        rw [decide_eq_false (fun e => hne (by subst e; rfl))]
    · obtain rfl : i = a.length := by omega
      repeat' (first | refine a_mov ?_ | refine a_asg ?_ | refine a_binN ?_ | refine a_notd ?_ | refine a_notb ?_ | refine a_nilc ?_ | refine a_fa ?_ | refine a_ext ?_ | refine a_lenv ?_ | refine a_lens ?_ | refine a_pick_t ?_ | refine a_pick_f ?_ | refine a_not ?_ | refine a_nilf ?_ | (refine a_bin ?_ ?_ <;> intro _ <;> try (exfalso; omega)) | refine a_ld hl ?_ | (refine a_st hl ?_; clear hl; intro _ hl) | refine a_ix (fun _ => ?_) | fail)
      refine o_nil (hK2 _ _ ?_)
      clear hK2 K2
      refine wk_cond_f rfl ?_
      refine wk_exit ?_
      refine blockK_same ?_
      refine hK _ _ ?_
      clear hK1 K1
      clear hK K
      repeat' (first | refine a_mov ?_ | refine a_asg ?_ | refine a_binN ?_ | refine a_notd ?_ | refine a_notb ?_ | refine a_nilc ?_ | refine a_fa ?_ | refine a_ext ?_ | refine a_lenv ?_ | refine a_lens ?_ | refine a_pick_t ?_ | refine a_pick_f ?_ | refine a_not ?_ | refine a_nilf ?_ | (refine o_nil (hK _ _ ?_); clear hK K) | refine wk_reg ?_ | refine wk_seq fun K hK => ?_ | (refine wk_skip (hK _ _ ?_); clear hK K) | (refine wk_label (hK _ _ ?_); clear hK K) | refine wk_scope ?_ | refine wk_block ?_ | refine wk_cond_t rfl ?_ | refine wk_cond_f rfl ?_ | (refine wk_exit ?_; (repeat (refine blockK_other rfl ?_)); refine blockK_same ?_; try ((repeat ((fail_if_success (refine hK _ _ ?_)); clear hK K)); refine hK _ _ ?_; clear hK K)) | (refine a_bin ?_ ?_ <;> intro _ <;> try (exfalso; omega)) | refine a_ld hl ?_ | (refine a_st hl ?_; clear hl; intro _ hl) | refine a_ix (fun _ => ?_) | fail)
      refine wk_ret (retQ_tmp1 Tryz.results22 (by decide) rfl (by conv => lhs; whnf) ?_)
      refine ⟨?_, hx⟩
      rw [List.take_length, hlen, List.take_length] at hpre
      rw [decide_eq_true hpre]
  · repeat' (first | refine a_mov ?_ | refine a_asg ?_ | refine a_binN ?_ | refine a_notd ?_ | refine a_notb ?_ | refine a_nilc ?_ | refine a_fa ?_ | refine a_ext ?_ | refine a_lenv ?_ | refine a_lens ?_ | refine a_pick_t ?_ | refine a_pick_f ?_ | refine a_not ?_ | refine a_nilf ?_ | (refine o_nil (hK _ _ ?_); clear hK K) | refine wk_reg ?_ | refine wk_seq fun K hK => ?_ | (refine wk_skip (hK _ _ ?_); clear hK K) | (refine wk_label (hK _ _ ?_); clear hK K) | refine wk_scope ?_ | refine wk_block ?_ | refine wk_cond_t rfl ?_ | refine wk_cond_f rfl ?_ | (refine wk_exit ?_; (repeat (refine blockK_other rfl ?_)); refine blockK_same ?_; try ((repeat ((fail_if_success (refine hK _ _ ?_)); clear hK K)); refine hK _ _ ?_; clear hK K)) | (refine a_bin ?_ ?_ <;> intro _ <;> try (exfalso; omega)) | refine a_ld hl ?_ | (refine a_st hl ?_; clear hl; intro _ hl) | refine a_ix (fun _ => ?_) | fail)
    refine wk_ret (retQ_tmp1 Tryz.results22 (by decide) rfl (by conv => lhs; whnf) ?_)
    refine ⟨?_, .refl _ _⟩
    rw [decide_eq_false (fun e => hlen (by rw [e]))]
set_option maxHeartbeats 4000000 in
theorem head_calls {w : World} (ht : Tabs w) : Calls Tryz.prog 8 #[] w (fun e w' => ∃ v, e = .returned v ∧ v = .bool true ∧ Ext w w') := by
  refine calls_of Tryz.func8 rfl Tryz.ntmps8 rfl ?_
  refine wk_seq fun K hK => ?_
  refine wk_reg ?_
  refine a_asg ?_
  refine o_nil (hK _ _ ?_)
  clear hK K
  refine wk_seq fun K hK => ?_
  refine wk_reg ?_
  refine a_fn (parse_calls xA w) ?_ rfl (fun _ => rfl) (by simp only [xA, str_eq]; rfl)
  rintro v w1 ⟨hx1, hout⟩
  rw [parse_A] at hout
  obtain ⟨ka, rfl, hka⟩ := hout
  refine a_mov ?_
  refine a_ext ?_
  refine a_ext ?_
  refine a_ext ?_
  have hkA : KA w1 sA.kids ka := hka.mono fun b hb => hb.2
  obtain ⟨aA, cA, eA, -⟩ := hkA.shape
  have eA : ka = .slice aA 2 cA := eA
  subst eA
  have hl := LH.start w1 (fun _ => False)
  refine o_alloc hl [.int .i64 0, .string "".toByteArray, .int .i64 0, .slice none 0 0] (by kernel_rfl) rfl ?_
  clear hl
  intro b1 w2 hb1 hl
  refine o_putN (us := snL sA (.slice aA 2 cA)) hl rfl rfl rfl (by simp only [snL, List.all_cons, List.all_nil, oneCell_str]; rfl) rfl (.here rfl rfl) ?_
  clear hl
  intro w3 hl
  have hx13 := hl.done
  have hrA3 : Row w3 b1 0 (snL sA (.slice aA 2 cA)) := hl.rowL (vs := snL sA (.slice aA 2 cA)) 0 0 4 rfl
  clear hl
  refine a_asg ?_
  refine a_asg ?_
  refine o_nil (hK _ _ ?_)
  clear hK K
  refine wk_seq fun K hK => ?_
  refine wk_reg ?_
  refine a_fn (parse_calls xB w3) ?_ rfl (fun _ => rfl) (by simp only [xB, str_eq]; rfl)
  rintro v w4 ⟨hx4, hout⟩
  rw [parse_B] at hout
  obtain ⟨kb, rfl, hkb⟩ := hout
  have hkB : KA w4 sB.kids kb := hkb.mono fun b hb => hb.2
  obtain ⟨aB, cB, eB, -⟩ := hkB.shape
  have eB : kb = .slice aB 2 cB := eB
  subst eB
  have hl := LH.start w4 (fun _ => False)
  refine a_mov ?_
  refine a_ext ?_
  refine a_ext ?_
  refine a_ext ?_
  refine o_alloc hl [.int .i64 0, .string "".toByteArray, .int .i64 0, .slice none 0 0] (by kernel_rfl) rfl ?_
  clear hl
  intro b4 w5 hb4 hl
  refine o_putN (us := snL sB (.slice aB 2 cB)) hl rfl rfl rfl (by simp only [snL, List.all_cons, List.all_nil, oneCell_str]; rfl) rfl (.here rfl rfl) ?_
  clear hl
  intro w6 hl
  have hx46 := hl.done
  have hrB6 : Row w6 b4 0 (snL sB (.slice aB 2 cB)) := hl.rowL (vs := snL sB (.slice aB 2 cB)) 0 0 4 rfl
  clear hl
  refine a_asg ?_
  refine a_asg ?_
  refine o_nil (hK _ _ ?_)
  clear hK K
  refine wk_seq fun K hK => ?_
  refine wk_reg ?_
  refine a_fn (parse_calls xC w6) ?_ rfl (fun _ => rfl) (by simp only [xC, str_eq]; rfl)
  rintro v w7 ⟨hx7, hout⟩
  rw [parse_C] at hout
  obtain rfl := hout
  have hl := LH.start w7 (fun _ => False)
  refine a_mov ?_
  refine a_ext ?_
  refine a_ext ?_
  refine a_ext ?_
  refine o_alloc hl [.int .i64 0, .string "".toByteArray, .int .i64 0, .slice none 0 0] (by kernel_rfl) rfl ?_
  clear hl
  intro b7 w8 hb7 hl
  refine o_putN (us := snL nilS (.slice none 0 0)) hl rfl rfl rfl (by simp only [snL, List.all_cons, List.all_nil, oneCell_str]; rfl) rfl (.here rfl rfl) ?_
  clear hl
  intro w9 hl
  have hx79 := hl.done
  clear hl
  refine a_asg ?_
  refine a_asg ?_
  refine o_nil (hK _ _ ?_)
  clear hK K
  refine wk_seq fun K hK => ?_
  refine wk_reg ?_
  refine a_fn (parse_calls xD w9) ?_ rfl (fun _ => rfl) (by simp only [xD, str_eq]; rfl)
  rintro v w10 ⟨hx10, hout⟩
  rw [parse_D] at hout
  obtain rfl := hout
  have hl := LH.start w10 (fun _ => False)
  refine a_mov ?_
  refine a_ext ?_
  refine a_ext ?_
  refine a_ext ?_
  refine o_alloc hl [.int .i64 0, .string "".toByteArray, .int .i64 0, .slice none 0 0] (by kernel_rfl) rfl ?_
  clear hl
  intro b10 w11 hb10 hl
  refine o_putN (us := snL nilS (.slice none 0 0)) hl rfl rfl rfl (by simp only [snL, List.all_cons, List.all_nil, oneCell_str]; rfl) rfl (.here rfl rfl) ?_
  clear hl
  intro w12 hl
  have hx6c : Ext w6 w12 := (hx7.trans (hx79.trans hx10)).trans hl.done
  have hx4c : Ext w4 w12 := hx46.trans hx6c
  clear hl
  refine a_asg ?_
  refine a_asg ?_
  refine o_nil (hK _ _ ?_)
  clear hK K
  have hx1c : Ext w1 w12 := (hx13.trans hx4).trans hx4c
  have hkA := hkA.ext hx1c
  have hkB := hkB.ext hx4c
  have hrA : Row w12 b1 0 (snL sA (.slice aA 2 cA)) := (hrA3.ext hx4).ext hx4c
  have hrB : Row w12 b4 0 (snL sB (.slice aB 2 cB)) := hrB6.ext hx6c
  have htc := (ht.ext hx1).ext hx1c
  have hxc : Ext w w12 := hx1.trans hx1c
  clear hka hkb hx4c hx46 hx79 hx7 hx10 hx4 hx1c hx1 hx13 hx6c hrA3 hrB6 ht
  refine wk_seq fun K hK => ?_
  refine wk_seq fun K2 hK2 => ?_
  refine wk_reg ?_
  repeat' (first | refine a_mov ?_ | refine a_asg ?_ | refine a_binN ?_ | refine a_notd ?_ | refine a_notb ?_ | refine a_nilc ?_ | refine a_fa ?_ | refine a_ext ?_ | refine a_lenv ?_ | refine a_lens ?_ | refine a_pick_t ?_ | refine a_pick_f ?_ | refine a_not ?_ | refine a_nilf ?_ | (refine a_bin ?_ ?_ <;> intro _ <;> try (exfalso; omega)) | refine a_ld hl ?_ | (refine a_st hl ?_; clear hl; intro _ hl) | refine a_ix (fun _ => ?_) | refine a_row hrA ?_ | refine a_row hrB ?_ | fail)
  refine o_nil (hK2 _ _ ?_)
  clear hK2 K2
  refine wk_cond_f rfl ?_
  refine wk_skip (hK _ _ ?_)
  clear hK K
  have hfA : fitS sA := by simp [sA, sA2, kX, kP, fitS, fitL]
  have hfB : fitS sB := by simp [sB, sB2, kW, fitS, fitL]
  refine wk_seq fun K hK => ?_
  refine wk_reg ?_
  refine a_all hrA ?_
  refine a_fn (Text_calls hkA hfA htc) ?_
  rintro _ w13 ⟨rfl, hx13⟩
  rw [valid_A, text_A, if_pos rfl]
  refine a_mov ?_
  refine a_ext ?_
  refine a_ext ?_
  refine a_asg ?_
  refine a_asg ?_
  refine o_nil (hK _ _ ?_)
  clear hK K
  refine wk_seq fun K hK => ?_
  refine wk_reg ?_
  refine o_build (hapL hX) rfl (by simp only [hapL, hX, kX, str_eq]; kernel_rfl) ?_
  refine o_buildSlice (LH.start w13 (fun _ => False)) (hapL hX) rfl rfl (by kernel_rfl) ?_
  intro bh w14 hbh hl
  have hH : Sl w14 (.slice (some ⟨bh, 0, none⟩) 1 1) 4 ([hX].flatMap hapL) := .mk rfl (by decide) (hl.rowL (vs := hapL hX) 0 0 4 rfl)
  have hx14 := hl.done
  clear hl
  refine a_asg ?_
  refine o_nil (hK _ _ ?_)
  clear hK K
  have hxb := hx13.trans hx14
  replace hrA := hrA.ext hxb
  replace hrB := hrB.ext hxb
  replace hkA := hkA.ext hxb
  replace hkB := hkB.ext hxb
  replace hxc := hxc.trans hxb
  clear hxb hx13 hx14 htc
  obtain ⟨p1, o1, k1, rfl, r1, -⟩ := KR.at hkA (i := 0) (by decide)
  obtain ⟨p2, o2, k2, e2, r2, -⟩ := KR.at hkA (i := 1) (by decide)
  cases e2
  obtain ⟨p3, o3, k3, rfl, r3, -⟩ := KR.at hkB (i := 1) (by decide)
  have r1 : Row w14 p1 (o1 + 0 * 4) (snL (.node 3 [] 5 []) k1) := r1
  have r2 : Row w14 p1 (o1 + 1 * 4) (snL sA2 k2) := r2
  have r3 : Row w14 p3 (o3 + 1 * 4) (snL sB2 k3) := r3
  refine wk_seq fun K hK => ?_
  refine wk_reg ?_
  repeat' (first | (rename_i h_; exact absurd rfl h_) | refine a_mov ?_ | refine a_asg ?_ | refine a_binN ?_ | refine a_notd ?_ | refine a_notb ?_ | refine a_nilc ?_ | refine a_fa ?_ | refine a_ext ?_ | refine a_lenv ?_ | refine a_lens ?_ | refine a_pick_t ?_ | refine a_pick_f ?_ | refine a_not ?_ | refine a_nilf ?_ | (refine a_bin ?_ ?_ <;> intro _ <;> try (exfalso; omega)) | refine a_ld hl ?_ | (refine a_st hl ?_; clear hl; intro _ hl) | refine a_ix (fun _ => ?_) | refine a_row hrA ?_ | refine a_row hrB ?_ | refine a_idx (c := 4) 0 rfl ?_ | refine a_idx (c := 4) 1 rfl ?_ | refine a_row r1 ?_ | refine a_row r2 ?_ | refine a_row r3 ?_ | fail)
  clear r1 r2 r3
  refine o_nil (hK _ _ ?_)
  clear hK K
  refine wk_seq fun K hK => ?_
  refine wk_reg ?_
  repeat' (first | (rename_i h_; exact absurd rfl h_) | refine a_mov ?_ | refine a_asg ?_ | refine a_binN ?_ | refine a_notd ?_ | refine a_notb ?_ | refine a_nilc ?_ | refine a_fa ?_ | refine a_ext ?_ | refine a_lenv ?_ | refine a_lens ?_ | refine a_pick_t ?_ | refine a_pick_f ?_ | refine a_not ?_ | refine a_nilf ?_ | (refine a_bin ?_ ?_ <;> intro _ <;> try (exfalso; omega)) | refine a_ld hl ?_ | (refine a_st hl ?_; clear hl; intro _ hl) | refine a_ix (fun _ => ?_) | fail)
  refine o_eqsT (a := xA) (b := xA) rfl rfl (by simp only [xA, str_eq]; rfl) (fun _ => ?_) (fun h => absurd rfl h)
  repeat' (first | refine a_mov ?_ | refine a_asg ?_ | refine a_binN ?_ | refine a_notd ?_ | refine a_notb ?_ | refine a_nilc ?_ | refine a_fa ?_ | refine a_ext ?_ | refine a_lenv ?_ | refine a_lens ?_ | refine a_pick_t ?_ | refine a_pick_f ?_ | refine a_not ?_ | refine a_nilf ?_ | (refine a_bin ?_ ?_ <;> intro _ <;> try (exfalso; omega)) | refine a_ld hl ?_ | (refine a_st hl ?_; clear hl; intro _ hl) | refine a_ix (fun _ => ?_) | fail)
  refine a_all hrA ?_
  refine a_fn (names_calls hkA hfA) ?_
  rintro v w15 ⟨acc, hl15, hacc⟩
  rw [names_A] at hacc
  have hN : Sl w15 v 1 ([kP].map str) := LH.acc_sl (l := []) hl15 hacc
  have hx15 := hl15.done
  refine o_buildSlice (LH.start w15 (fun _ => False)) [str kP] rfl rfl (by simp only [kP, str_eq]; kernel_rfl) ?_
  intro bp w16 hbp hl
  have hP : Sl w16 (.slice (some ⟨bp, 0, none⟩) 1 1) 1 ([kP].map str) := .mk rfl (by decide) (hl.rowL (vs := [str kP]) 0 0 1 rfl)
  have hx16 := hl.done
  clear hl
  refine a_fn (sameT_calls (hN.ext hx16) hP (by decide) (by decide)) ?_
  rintro _ w17 ⟨rfl, hx17⟩
  have hx17 : Ext w14 w17 := (hx15.trans hx16).trans hx17
  rw [decide_eq_true (rfl : [kP] = [kP])]
  repeat' (first | refine a_mov ?_ | refine a_asg ?_ | refine a_binN ?_ | refine a_notd ?_ | refine a_notb ?_ | refine a_nilc ?_ | refine a_fa ?_ | refine a_ext ?_ | refine a_lenv ?_ | refine a_lens ?_ | refine a_pick_t ?_ | refine a_pick_f ?_ | refine a_not ?_ | refine a_nilf ?_ | (refine a_bin ?_ ?_ <;> intro _ <;> try (exfalso; omega)) | refine a_ld hl ?_ | (refine a_st hl ?_; clear hl; intro _ hl) | refine a_ix (fun _ => ?_) | fail)
  refine a_all (hrB.ext hx17) ?_
  refine a_fn (holds_calls (E := ⟨0, 0, [], []⟩) (hkB.ext hx17) hfB (.nil _ _) (.nil _ _) (by decide) (by decide)) ?_
  rintro _ w18 ⟨rfl, hx18⟩
  rw [holds_B]
  repeat' (first | refine a_mov ?_ | refine a_asg ?_ | refine a_binN ?_ | refine a_notd ?_ | refine a_notb ?_ | refine a_nilc ?_ | refine a_fa ?_ | refine a_ext ?_ | refine a_lenv ?_ | refine a_lens ?_ | refine a_pick_t ?_ | refine a_pick_f ?_ | refine a_not ?_ | refine a_nilf ?_ | (refine a_bin ?_ ?_ <;> intro _ <;> try (exfalso; omega)) | refine a_ld hl ?_ | (refine a_st hl ?_; clear hl; intro _ hl) | refine a_ix (fun _ => ?_) | fail)
  refine o_nil (hK _ _ ?_)
  clear hK K
  have hx18 : Ext w14 w18 := hx17.trans hx18
  refine wk_seq fun K hK => ?_
  refine wk_reg ?_
  repeat' (first | refine a_mov ?_ | refine a_asg ?_ | refine a_binN ?_ | refine a_notd ?_ | refine a_notb ?_ | refine a_nilc ?_ | refine a_fa ?_ | refine a_ext ?_ | refine a_lenv ?_ | refine a_lens ?_ | refine a_pick_t ?_ | refine a_pick_f ?_ | refine a_not ?_ | refine a_nilf ?_ | (refine a_bin ?_ ?_ <;> intro _ <;> try (exfalso; omega)) | refine a_ld hl ?_ | (refine a_st hl ?_; clear hl; intro _ hl) | refine a_ix (fun _ => ?_) | fail)
  refine a_all (hrA.ext hx18) ?_
  repeat' (first | refine a_mov ?_ | refine a_asg ?_ | refine a_binN ?_ | refine a_notd ?_ | refine a_notb ?_ | refine a_nilc ?_ | refine a_fa ?_ | refine a_ext ?_ | refine a_lenv ?_ | refine a_lens ?_ | refine a_pick_t ?_ | refine a_pick_f ?_ | refine a_not ?_ | refine a_nilf ?_ | (refine a_bin ?_ ?_ <;> intro _ <;> try (exfalso; omega)) | refine a_ld hl ?_ | (refine a_st hl ?_; clear hl; intro _ hl) | refine a_ix (fun _ => ?_) | fail)
  refine a_fn (holds_calls (E := ⟨5, 9, [hX], []⟩) (hkA.ext hx18) hfA (hH.ext hx18) (.nil _ _) (by decide) (by decide)) ?_
  rintro _ w19 ⟨rfl, hx19⟩
  have hx19 : Ext w14 w19 := hx18.trans hx19
  rw [holds_A1]
  repeat' (first | refine a_mov ?_ | refine a_asg ?_ | refine a_binN ?_ | refine a_notd ?_ | refine a_notb ?_ | refine a_nilc ?_ | refine a_fa ?_ | refine a_ext ?_ | refine a_lenv ?_ | refine a_lens ?_ | refine a_pick_t ?_ | refine a_pick_f ?_ | refine a_not ?_ | refine a_nilf ?_ | (refine a_bin ?_ ?_ <;> intro _ <;> try (exfalso; omega)) | refine a_ld hl ?_ | (refine a_st hl ?_; clear hl; intro _ hl) | refine a_ix (fun _ => ?_) | fail)
  refine a_all (hrA.ext hx19) ?_
  repeat' (first | refine a_mov ?_ | refine a_asg ?_ | refine a_binN ?_ | refine a_notd ?_ | refine a_notb ?_ | refine a_nilc ?_ | refine a_fa ?_ | refine a_ext ?_ | refine a_lenv ?_ | refine a_lens ?_ | refine a_pick_t ?_ | refine a_pick_f ?_ | refine a_not ?_ | refine a_nilf ?_ | (refine a_bin ?_ ?_ <;> intro _ <;> try (exfalso; omega)) | refine a_ld hl ?_ | (refine a_st hl ?_; clear hl; intro _ hl) | refine a_ix (fun _ => ?_) | fail)
  refine a_fn (holds_calls (E := ⟨4, 9, [hX], []⟩) (hkA.ext hx19) hfA (hH.ext hx19) (.nil _ _) (by decide) (by decide)) ?_
  rintro _ w20 ⟨rfl, hx20⟩
  have hx20 : Ext w14 w20 := hx19.trans hx20
  rw [holds_A2]
  repeat' (first | refine a_mov ?_ | refine a_asg ?_ | refine a_binN ?_ | refine a_notd ?_ | refine a_notb ?_ | refine a_nilc ?_ | refine a_fa ?_ | refine a_ext ?_ | refine a_lenv ?_ | refine a_lens ?_ | refine a_pick_t ?_ | refine a_pick_f ?_ | refine a_not ?_ | refine a_nilf ?_ | (refine a_bin ?_ ?_ <;> intro _ <;> try (exfalso; omega)) | refine a_ld hl ?_ | (refine a_st hl ?_; clear hl; intro _ hl) | refine a_ix (fun _ => ?_) | fail)
  refine a_all (hrA.ext hx20) ?_
  repeat' (first | refine a_mov ?_ | refine a_asg ?_ | refine a_binN ?_ | refine a_notd ?_ | refine a_notb ?_ | refine a_nilc ?_ | refine a_fa ?_ | refine a_ext ?_ | refine a_lenv ?_ | refine a_lens ?_ | refine a_pick_t ?_ | refine a_pick_f ?_ | refine a_not ?_ | refine a_nilf ?_ | (refine a_bin ?_ ?_ <;> intro _ <;> try (exfalso; omega)) | refine a_ld hl ?_ | (refine a_st hl ?_; clear hl; intro _ hl) | refine a_ix (fun _ => ?_) | fail)
  refine a_fn (holds_calls (E := ⟨5, 8, [hX], []⟩) (hkA.ext hx20) hfA (hH.ext hx20) (.nil _ _) (by decide) (by decide)) ?_
  rintro _ w21 ⟨rfl, hx21⟩
  have hx21 : Ext w14 w21 := hx20.trans hx21
  rw [holds_A3]
  repeat' (first | refine a_mov ?_ | refine a_asg ?_ | refine a_binN ?_ | refine a_notd ?_ | refine a_notb ?_ | refine a_nilc ?_ | refine a_fa ?_ | refine a_ext ?_ | refine a_lenv ?_ | refine a_lens ?_ | refine a_pick_t ?_ | refine a_pick_f ?_ | refine a_not ?_ | refine a_nilf ?_ | (refine a_bin ?_ ?_ <;> intro _ <;> try (exfalso; omega)) | refine a_ld hl ?_ | (refine a_st hl ?_; clear hl; intro _ hl) | refine a_ix (fun _ => ?_) | fail)
  refine a_all (hrA.ext hx21) ?_
  refine o_build (stuL uP) rfl (by simp only [stuL, uP, kP, str_eq]; kernel_rfl) ?_
  refine o_buildSlice (LH.start w21 (fun _ => False)) (stuL uP) rfl rfl (by kernel_rfl) ?_
  intro bu w22 hbu hl
  have hU : Sl w22 (.slice (some ⟨bu, 0, none⟩) 1 1) 4 ([uP].flatMap stuL) := .mk rfl (by decide) (hl.rowL (vs := stuL uP) 0 0 4 rfl)
  have hx22 : Ext w14 w22 := hx21.trans hl.done
  clear hl
  refine a_fn (holds_calls (E := ⟨6, 0, [], [uP]⟩) (hkA.ext hx22) hfA (.nil _ _) hU (by decide) (by decide)) ?_
  rintro _ w23 ⟨rfl, hx23⟩
  rw [holds_A4]
  repeat' (first | refine a_mov ?_ | refine a_asg ?_ | refine a_binN ?_ | refine a_notd ?_ | refine a_notb ?_ | refine a_nilc ?_ | refine a_fa ?_ | refine a_ext ?_ | refine a_lenv ?_ | refine a_lens ?_ | refine a_pick_t ?_ | refine a_pick_f ?_ | refine a_not ?_ | refine a_nilf ?_ | (refine a_bin ?_ ?_ <;> intro _ <;> try (exfalso; omega)) | refine a_ld hl ?_ | (refine a_st hl ?_; clear hl; intro _ hl) | refine a_ix (fun _ => ?_) | fail)
  refine o_nil (hK _ _ ?_)
  clear hK K
  refine wk_ret (retQ_tmp1 Tryz.results8 (by decide) rfl (by conv => lhs; whnf) ?_)
  exact ⟨rfl, (hxc.trans hx22).trans hx23⟩
end Go.Proofs
