/-
  The reference's reader: conditions with a word between them.
-/
import Derived.Test.YtebaoilkpedppaaGreatDoorQStRb
import Derived.Test.YtebaoilkpedppaaGreatDoorQSN
set_option linter.unusedVariables false
set_option linter.unusedSimpArgs false
set_option linter.unnecessarySimpa false
set_option maxRecDepth 10000
namespace Go.Proofs
open Go Go.Pd Go.Sta
open Go.Lexs (Tok)
attribute [local irreducible] OpsL W RetQ OpsQ OpsC
def RfV (w : World) (rb : Nat) (tv : Value) (ts : List Tok) (en : Int) (i : Nat) (read : List Tok → Rd Sn) (v : Value) (w' : World) : Prop :=
  ∃ s kv i' er at_, v = .agg (snL s kv).toArray ∧ i ≤ i' ∧ i' ≤ ts.length ∧ LH w (OneB rb) w' [rsB rb tv (i' : Nat) en er at_] ∧ KR w' (Fr w w') s.kids kv ∧ ((er = 0 ∧ at_ = 0 ∧ read (ts.drop i) = .ok s (ts.drop i')) ∨ (er ≠ 0 ∧ read (ts.drop i) = .bad er at_))
def RfC (f : FuncId) (en : Int) (n : Nat) (read : List Tok → Rd Sn) : Prop :=
  ∀ (w : World) (rb : Nat) (tv : Value) (ts : List Tok) (i : Nat), TK w rb tv ts → LH w (OneB rb) w [rsB rb tv i en 0 0] → i ≤ ts.length → ts.length - i ≤ n → Calls Tryz.prog f #[.pointer (some ⟨rb, 0, none⟩)] w (fun e w' => ∃ v, e = .returned v ∧ RfV w rb tv ts en i read v w')
set_option maxHeartbeats 4000000 in
theorem allR_calls {en : Int} {n : Nat} {read : List Tok → Rd Sn} (h1 : RfC 98 en n read) : RfC 71 en n (sev kAnd 8 read) := by
  intro w rb tv ts i0 hT hl hi0 hn
  have hlen := hT.2.2
  refine calls_of Tryz.func71 rfl Tryz.ntmps71 rfl ?_
  refine wk_seq fun K hK => ?_
  refine wk_reg ?_
  refine o_alloc hl [.int .i64 0, .string "".toByteArray, .int .i64 0, .slice none 0 0] (by kernel_rfl) rfl ?_
  clear hl
  intro b2 w1 hb2 hl
  replace hl := hl.perm (List.Perm.swap _ _ [])
  have hu1 := hl.upd
  refine o_nil (hK _ _ ?_)
  clear hK K
  refine wk_seq fun K hK => ?_
  refine wk_reg ?_
  refine a_mov ?_
  refine a_fn (h1 w1 rb tv ts i0 (hT.upd hu1) hl.one hi0 hn) ?_
  rintro _ w2 ⟨s0, kv0, i, er, at_, rfl, hi, hi2, hl2, hk0, hcase⟩
  have hl0 := hl
  replace hl := hl.swap hl2
  obtain ⟨ka, kc, rfl, -⟩ := hk0.shape
  have hk2 : KR w2 (FrN w w2 [rsB rb tv i en er at_, (b2, Obj.cells #[.int .i64 0, .string "".toByteArray, .int .i64 0, .slice none 0 0] 24 (0, 0))]) s0.kids (.slice ka s0.kids.length kc) := KR.newN hl0 hu1.size rfl hk0
  have hone0 := snL_one hk0
  refine o_alloc hl.rb [.int .i64 0, .string "".toByteArray, .int .i64 0, .slice none 0 0] (by kernel_rfl) rfl ?_
  intro b3 w3 hb3 hl3
  replace hl3 := hl3.perm (List.Perm.swap _ _ _)
  have hk3 := KR.grow hl3 hk2
  replace hl := hl.bk hl3
  clear hl3 hk2 hk0 hl2 hl0
  refine o_putN (us := snL s0 (.slice ka s0.kids.length kc)) hl.rb rfl rfl rfl hone0 rfl (.there (.here rfl rfl)) ?_
  intro w4 hl4
  have hk4 := KR.grow hl4 hk3
  replace hl := hl.bk hl4
  clear hl4 hk3
  refine o_nil (hK _ _ ?_)
  clear hK K
  refine wk_seq fun K hK => ?_
  refine wk_seq fun K2 hK2 => ?_
  refine wk_reg ?_
  refine a_mov ?_
  have hT4 := hT.upd hl.upd
  refine a_fn (sees_calls (wd := kAnd) hT4 (hl.rowL (vs := rsL tv i en er at_) 0 0 5 rfl) hi2) ?_ rfl (fun _ => rfl) (by simp only [kAnd, str_eq]; rfl)
  rintro _ w5 ⟨rfl, hx5⟩
  replace hl := hl.ext hx5
  have hk5 := (hk4.ext hx5).mono fun b hb => (⟨hb.1, Nat.lt_of_lt_of_le hb.2.1 hx5.size, hb.2.2⟩ : FrN w w5 _ b)
  clear hk4 hT4
  refine a_notb ?_
  refine o_nil (hK2 _ _ ?_)
  clear hK2 K2
  cases hb : (decide (er = 0) && isT kAnd (ts.drop i))
  · have hfin : (er = 0 ∧ at_ = 0 ∧ sev kAnd 8 read (ts.drop i0) = .ok s0 (ts.drop i)) ∨ (er ≠ 0 ∧ sev kAnd 8 read (ts.drop i0) = .bad er at_) := by
      rcases hcase with ⟨rfl, h2, h3⟩ | ⟨h2, h3⟩
      · refine .inl ⟨rfl, h2, ?_⟩
        unfold sev
        rw [h3]
        simp only
        have hb2 : isT kAnd (ts.drop i) = false := by simpa using hb
        rw [sevTail_no hb2]
        rfl
      · refine .inr ⟨h2, ?_⟩
        unfold sev
        rw [h3]
    refine wk_cond_t rfl ?_
    refine wk_seq fun K2 hK2 => ?_
    refine wk_reg ?_
    refine a_all (hl.rowL (vs := snL s0 (.slice ka s0.kids.length kc)) 1 0 4 rfl) ?_
    refine o_putN (us := snL s0 (.slice ka s0.kids.length kc)) hl.rb rfl rfl rfl hone0 rfl (.there (.there (.here rfl rfl))) ?_
    intro w6 hl6
    have hk6 := KR.grow (l6 := [rsB rb tv i en er at_, (b3, .cells (snL s0 (.slice ka s0.kids.length kc)).toArray 24 (0, 0)), (b2, Obj.cells #[.int .i64 0, .string "".toByteArray, .int .i64 0, .slice none 0 0] 24 (0, 0))]) hl6 hk5
    replace hl := hl.bk hl6
    refine o_nil (hK2 _ _ ?_)
    clear hK2 K2
    refine wk_ret (retQ_res [.agg (snL s0 (.slice ka s0.kids.length kc)).toArray] rfl rfl ⟨by decide, ⟨⟨b2, 0, none⟩, rfl, run_loadVarN rfl rfl (hl.rowL (vs := snL s0 (.slice ka s0.kids.length kc)) 2 0 4 rfl)⟩, trivial⟩ ?_)
    exact ⟨s0, _, i, er, at_, rfl, hi, hi2, hl.sub (List.cons_sublist_cons.2 (List.nil_sublist _)), hk6.mono fun b hb => ⟨hb.1, hb.2.1⟩, hfin⟩
  rw [Bool.and_eq_true, decide_eq_true_eq] at hb
  obtain ⟨rfl, hbt⟩ := hb
  obtain ⟨rfl, hr0⟩ : at_ = 0 ∧ read (ts.drop i0) = .ok s0 (ts.drop i) := by
    rcases hcase with ⟨-, h2, h3⟩ | ⟨h2, h3⟩
    · exact ⟨h2, h3⟩
    · exact absurd rfl h2
  clear hcase
  refine wk_cond_f rfl ?_
  refine wk_skip (hK _ _ ?_)
  clear hK K
  refine wk_seq fun K hK => ?_
  refine wk_reg ?_
  refine a_all (hl.rowL (vs := snL s0 (.slice ka s0.kids.length kc)) 1 0 4 rfl) ?_
  refine o_buildSlice hl.rb (snL s0 (.slice ka s0.kids.length kc)) rfl rfl (by kernel_rfl) ?_
  intro bb w6 hbb hl6
  replace hl6 := hl6.perm (List.perm_append_comm (l₁ := [_]))
  have hk6 := KR.grow hl6 hk5
  replace hl := hl.bk hl6
  clear hl6 hk5
  refine o_build [.int .i64 8, .string ⟨#[]⟩, .int .i64 0, .slice (some ⟨bb, 0, none⟩) 1 1] rfl rfl ?_
  refine o_alloc hl.rb [.int .i64 0, .string "".toByteArray, .int .i64 0, .slice none 0 0] (by kernel_rfl) rfl ?_
  intro b4 w7 hb4 hl7
  replace hl7 := hl7.perm (List.Perm.swap _ _ _)
  have hk7 := KR.grow hl7 hk6
  replace hl := hl.bk hl7
  clear hl7 hk6
  refine o_putN (us := [.int .i64 8, .string ⟨#[]⟩, .int .i64 0, .slice (some ⟨bb, 0, none⟩) 1 1]) hl.rb rfl rfl rfl rfl rfl (.there (.here rfl rfl)) ?_
  intro w8 hl8
  have hk8 := KR.grow hl8 hk7
  replace hl := hl.bk hl8
  clear hl8 hk7
  refine o_nil (hK _ _ ?_)
  clear hK K
  have hl : LH w (OneB rb) w8 (rsB rb tv i en 0 0 :: (b4, Obj.cells #[.int .i64 8, .string ⟨#[]⟩, .int .i64 0, (.slice (some ⟨bb, 0, none⟩) 1 1)] 24 (0, 0)) :: (b2, Obj.cells #[.int .i64 0, .string "".toByteArray, .int .i64 0, .slice none 0 0] 24 (0, 0)) :: [(bb, .cells (snL s0 (.slice ka s0.kids.length kc)).toArray 24 (0, 0))]) := hl.sub (List.cons_sublist_cons.2 (List.cons_sublist_cons.2 (List.sublist_cons_self _ _)))
  have hk8 : KR w8 (FrN w w8 (rsB rb tv i en 0 0 :: (b4, Obj.cells #[.int .i64 8, .string ⟨#[]⟩, .int .i64 0, (.slice (some ⟨bb, 0, none⟩) 1 1)] 24 (0, 0)) :: (b2, Obj.cells #[.int .i64 0, .string "".toByteArray, .int .i64 0, .slice none 0 0] 24 (0, 0)) :: [(bb, .cells (snL s0 (.slice ka s0.kids.length kc)).toArray 24 (0, 0))])) s0.kids (.slice ka s0.kids.length kc) := hk8.mono fun b hb => ⟨hb.1, hb.2.1, fun hm => hb.2.2 (((List.cons_sublist_cons.2 (List.cons_sublist_cons.2 (List.sublist_cons_self _ _))).map _).subset hm)⟩
  have hr0' : ∀ l r, sevTail kAnd read (ts.drop i).length [s0] (ts.drop i) = .ok l r → sev kAnd 8 read (ts.drop i0) = .ok (joinS 8 l) r := fun l r h => by
    unfold sev
    rw [hr0]
    simp only
    rw [h]
  have hr0b : ∀ e a, sevTail kAnd read (ts.drop i).length [s0] (ts.drop i) = .bad e a → sev kAnd 8 read (ts.drop i0) = .bad e a := fun e a h => by
    unfold sev
    rw [hr0]
    simp only
    rw [h]
  generalize hst : sevTail kAnd read (ts.drop i).length [s0] (ts.drop i) = R at hr0' hr0b
  refine wk_seq fun K hK => ?_
  refine wk_block ?_
  refine wk_loopH [] rfl (fun q : List (Sn × Value) × Nat × List (Nat × Obj) × Value × Int × Int => [(0, .pointer (some ⟨rb, 0, none⟩)), (2, .pointer (some ⟨b2, 0, none⟩)), (4, .pointer (some ⟨b4, 0, none⟩))])
    (fun q w' => (i0 ≤ q.2.1 ∧ q.2.1 ≤ ts.length ∧ 1 ≤ q.1.length ∧ q.1.length ≤ q.2.1 + 1 ∧ (2 ≤ q.1.length ∨ isT kAnd (ts.drop q.2.1) = true) ∧ ((q.2.2.2.2.1 = 0 ∧ q.2.2.2.2.2 = 0 ∧ ∃ f, (ts.drop q.2.1).length ≤ f ∧ sevTail kAnd read f (q.1.map (·.1)) (ts.drop q.2.1) = R) ∨ (q.2.2.2.2.1 ≠ 0 ∧ R = .bad q.2.2.2.2.1 q.2.2.2.2.2))) ∧ LH w (OneB rb) w' (rsB rb tv q.2.1 en q.2.2.2.2.1 q.2.2.2.2.2 :: (b4, Obj.cells #[.int .i64 8, .string ⟨#[]⟩, .int .i64 0, q.2.2.2.1] 24 (0, 0)) :: (b2, Obj.cells #[.int .i64 0, .string "".toByteArray, .int .i64 0, .slice none 0 0] 24 (0, 0)) :: q.2.2.1) ∧ Acc q.2.2.2.1 4 24 q.1.length (q.1.flatMap kidS) q.2.2.1 ∧ ∀ p ∈ q.1, KR w' (FrN w w' (rsB rb tv q.2.1 en q.2.2.2.2.1 q.2.2.2.2.2 :: (b4, Obj.cells #[.int .i64 8, .string ⟨#[]⟩, .int .i64 0, q.2.2.2.1] 24 (0, 0)) :: (b2, Obj.cells #[.int .i64 0, .string "".toByteArray, .int .i64 0, .slice none 0 0] 24 (0, 0)) :: q.2.2.1)) p.1.kids p.2)
    (fun q => if q.2.2.2.2.1 = 0 then ts.length - q.2.1 + 1 else 0) ([(s0, .slice ka s0.kids.length kc)], i, [(bb, .cells (snL s0 (.slice ka s0.kids.length kc)).toArray 24 (0, 0))], .slice (some ⟨bb, 0, none⟩) 1 1, 0, 0) ⟨rfl, rfl, rfl, trivial⟩ ⟨⟨hi, hi2, Nat.le_refl _, by simp, .inr hbt, .inl ⟨rfl, rfl, _, Nat.le_refl _, hst⟩⟩, hl, ⟨rfl, .inr ⟨bb, 1, _, rfl, rfl, Nat.le_refl _, by decide, rfl, rfl⟩⟩, fun p hp => by rw [List.mem_singleton.1 hp]; exact hk8⟩ ?_
  clear hl hk8 hst hr0 hbt
  rintro ⟨ps, i, acc, v, er, at_⟩ t w9 ⟨⟨hi, hi2, hp1, hp2, hp3, hcase⟩, hl, ha, hkr⟩
  simp only at hi hi2 hp1 hp2 hp3 hcase hl ha hkr
  have hTw := hT.upd hl.upd
  refine wk_seq fun K1 hK1 => ?_
  refine wk_seq fun K2 hK2 => ?_
  refine wk_reg ?_
  refine a_mov ?_
  refine a_fn (isR_calls (wd := kAnd) hTw hl.one hi2) ?_ rfl (fun _ => rfl) (by simp only [kAnd, str_eq]; rfl)
  rintro _ w10 ⟨rfl, hl10⟩
  have hsw := hl.rb.swap hl10
  have hkr10 : ∀ p ∈ ps, _ := fun p hp => KR.grow hsw (hkr p hp)
  replace hl := hl.swap hl10
  refine o_nil (hK2 _ _ ?_)
  clear hK2 K2 hl10 hsw hkr
  cases hb : (decide (er = 0) && isT kAnd (ts.drop i))
  · rw [hb, if_neg (by decide)] at hl hkr10
    refine wk_cond_f rfl ?_
    refine wk_exit ?_
    refine blockK_same ?_
    refine hK _ _ ?_
    clear hK1 K1
    clear hK K
    obtain ⟨va, vc, rfl⟩ := ha.shape
    refine wk_seq fun K hK => ?_
    refine wk_reg ?_
    refine a_all (hl.rowL (vs := [.int .i64 8, .string ⟨#[]⟩, .int .i64 0, .slice va ps.length vc]) 1 0 4 rfl) ?_
    refine o_putN (us := [.int .i64 8, .string ⟨#[]⟩, .int .i64 0, .slice va ps.length vc]) hl.rb rfl rfl rfl rfl rfl (.there (.there (.here rfl rfl))) ?_
    intro w11 hl11
    have hkr11 : ∀ p ∈ ps, _ := fun p hp => KR.grow (l6 := (rsB rb tv i en er at_ :: (b4, Obj.cells #[.int .i64 8, .string ⟨#[]⟩, .int .i64 0, (.slice va ps.length vc)] 24 (0, 0)) :: (b2, Obj.cells #[.int .i64 0, .string "".toByteArray, .int .i64 0, .slice none 0 0] 24 (0, 0)) :: acc)) hl11 (hkr10 p hp)
    replace hl := hl.bk hl11
    refine o_nil (hK _ _ ?_)
    clear hK K
    refine wk_ret (retQ_res [.agg (snL (.node 8 [] 0 (ps.map (·.1))) (.slice va ps.length vc)).toArray] rfl rfl ⟨by decide, ⟨⟨b2, 0, none⟩, rfl, run_loadVarN rfl rfl (hl.rowL (vs := snL (.node 8 [] 0 (ps.map (·.1))) (.slice va ps.length vc)) 2 0 4 (by simp only [snL, Sn.op, Sn.name, Sn.day, str_nil]; rfl))⟩, trivial⟩ ?_)
    refine ⟨_, _, i, er, at_, rfl, hi, hi2, hl.sub (List.cons_sublist_cons.2 (List.nil_sublist _)), ?_, ?_⟩
    · exact KR.of_accS (l := [rsB rb tv i en er at_, (b4, _), (b2, _)]) hl ha rfl (fun b hb => hl.rest (List.mem_cons_of_mem _ (List.mem_cons_of_mem _ hb))) (fun p hp => (hkr11 p hp).mono fun b hb => ⟨hb.1, hb.2.1⟩)
    · rcases hcase with ⟨rfl, h2, f, hf, hst⟩ | ⟨h2, h3⟩
      · have hbt : isT kAnd (ts.drop i) = false := by simpa using hb
        have hp4 : 2 ≤ ps.length := hp3.resolve_right (by rw [hbt]; decide)
        rw [sevTail_no hbt] at hst
        refine .inl ⟨rfl, h2, ?_⟩
        rw [hr0' _ _ hst.symm]
        match ps, hp4 with
        | x :: y :: l, _ => rfl
      · exact .inr ⟨h2, hr0b _ _ h3⟩
  · rw [hb, if_pos rfl] at hl hkr10
    rw [Bool.and_eq_true, decide_eq_true_eq] at hb
    obtain ⟨rfl, hbt⟩ := hb
    obtain ⟨rfl, f, hf, hst⟩ : at_ = 0 ∧ ∃ f, (ts.drop i).length ≤ f ∧ sevTail kAnd read f (ps.map (·.1)) (ts.drop i) = R := by
      rcases hcase with ⟨-, h2, h3⟩ | ⟨h2, h3⟩
      · exact ⟨h2, h3⟩
      · exact absurd rfl h2
    clear hcase
    obtain ⟨g, rfl, hst2⟩ := sevTail_yes (read := read) (acc := ps.map (·.1)) hbt hf
    have hlt : i < ts.length := by
      obtain ⟨t0, r0, h1⟩ := isT_ne hbt
      have := congrArg List.length h1
      simp at this
      omega
    rw [drop_tail] at hst2
    rw [hst2] at hst
    clear hst2
    refine wk_cond_t rfl ?_
    refine wk_skip (hK1 _ _ ?_)
    clear hK1 K1
    refine wk_block ?_
    refine wk_drawP [0, 1, 2, 6] [1] [3, 4, 5, 7] [] [] (fun w' => To w10 w' w10.heap) (fun w' => w'.heap[b4]? = some (Obj.cells #[.int .i64 8, .string ⟨#[]⟩, .int .i64 0, v] 24 (0, 0))) rfl (by kernel_rfl) (fun _ _ _ _ h => by first | exact h | (simp only [BlockK, NoGoto, RetQ] at h)) (fun _ h => h) (fun w' h => (hl.heap h).get 1 rfl) ?_
    repeat' (first | refine q_mov ?_ | refine q_asg ?_ | refine q_fa ?_ | refine q_ext ?_ | refine q_binN ?_ | refine q_notd ?_ | refine q_notb ?_ | refine q_pick_t ?_ | refine q_pick_f ?_ | refine q_nilc ?_ | refine q_skip ?_ | refine q_lens ?_ | refine q_lenv ?_ | refine q_nil ?_ | refine q_ix (fun _ => ?_) | (refine q_bin ?_ ?_ <;> intro _ <;> try (exfalso; omega)) | refine q_late rfl rfl rfl rfl (fun w' hw' => r_load rfl rfl (cell_of_block hw' rfl)) ?_)
    intro w11 hw11
    replace hl := hl.heap hw11
    have hkr11 : ∀ p ∈ ps, KR w11 (FrN w w11 (rsB rb tv (i + 1 : Nat) en 0 0 :: (b4, Obj.cells #[.int .i64 8, .string ⟨#[]⟩, .int .i64 0, v] 24 (0, 0)) :: (b2, Obj.cells #[.int .i64 0, .string "".toByteArray, .int .i64 0, .slice none 0 0] 24 (0, 0)) :: acc)) p.1.kids p.2 := fun p hp => ((hkr10 p hp).heap hw11).mono fun b hb => ⟨hb.1, Nat.lt_of_lt_of_le hb.2.1 (show Ext w10 w11 from Upd.of_heap hw11).size, hb.2.2⟩
    clear hkr10
    have hT11 := hT.upd hl.upd
    refine opsD_tail rfl rfl ?_
    refine a_fn (h1 w11 rb tv ts (i + 1) hT11 hl.one hlt (by omega)) ?_
    rintro _ w12 ⟨s1, kv1, j, er1, at1, rfl, hj1, hj2, hl12, hk1, hcase1⟩
    have hsw := hl.rb.swap hl12
    have hkr12 : ∀ p ∈ ps, _ := fun p hp => KR.grow hsw (hkr11 p hp)
    have hk12 : KR w12 (FrN w w12 (rsB rb tv j en er1 at1 :: (b4, Obj.cells #[.int .i64 8, .string ⟨#[]⟩, .int .i64 0, v] 24 (0, 0)) :: (b2, Obj.cells #[.int .i64 0, .string "".toByteArray, .int .i64 0, .slice none 0 0] 24 (0, 0)) :: acc)) s1.kids kv1 := KR.newN hl hl.upd.size rfl hk1
    have hl12s := hl.bk hsw
    clear hsw hl12 hkr11
    obtain ⟨ka1, kc1, rfl, -⟩ := hk1.shape
    have hone := snL_one hk1
    refine o_nil ⟨.inl (hl12s.get 1 rfl), ?_⟩
    refine opsD_tail rfl rfl ?_
    refine o_buildSlice hl12s.rb (snL s1 (.slice ka1 s1.kids.length kc1)) rfl rfl (by kernel_rfl) ?_
    intro bq w13 hbq hl13
    have hdrop : ∀ b, FrN w w13 ((bq, Obj.cells (snL s1 (.slice ka1 s1.kids.length kc1)).toArray 24 (0, 0)) :: (rsB rb tv j en er1 at1 :: (b4, Obj.cells #[.int .i64 8, .string ⟨#[]⟩, .int .i64 0, v] 24 (0, 0)) :: (b2, Obj.cells #[.int .i64 0, .string "".toByteArray, .int .i64 0, .slice none 0 0] 24 (0, 0)) :: acc)) b → FrN w w13 (rsB rb tv j en er1 at1 :: (b4, Obj.cells #[.int .i64 8, .string ⟨#[]⟩, .int .i64 0, v] 24 (0, 0)) :: (b2, Obj.cells #[.int .i64 0, .string "".toByteArray, .int .i64 0, .slice none 0 0] 24 (0, 0)) :: acc) b := fun b hb => ⟨hb.1, hb.2.1, fun hm => hb.2.2 (List.mem_cons_of_mem _ hm)⟩
    have hkr13 : ∀ p ∈ ps, _ := fun p hp => (KR.grow hl13 (hkr12 p hp)).mono hdrop
    have hk13 := (KR.grow hl13 hk12).mono hdrop
    have hl14 := hl12s.bk hl13
    have hrow : Row w13 bq 0 (snL s1 (.slice ka1 s1.kids.length kc1)) := hl14.rowL (vs := snL s1 (.slice ka1 s1.kids.length kc1)) 0 0 4 rfl
    have hl15 := hl14.sub (List.sublist_cons_self _ _)
    clear hkr12 hk12 hl12s hl13
    refine o_nil ⟨.inl (hl14.get 2 rfl), ?_⟩
    clear hl14
    refine opsD_tail rfl rfl ?_
    refine o_append (bl' := [rsB rb tv j en er1 at1, (b4, Obj.cells #[.int .i64 8, .string ⟨#[]⟩, .int .i64 0, v] 24 (0, 0)), (b2, Obj.cells #[.int .i64 0, .string "".toByteArray, .int .i64 0, .slice none 0 0] 24 (0, 0))]) (bytes := 56) (q := 1) hl15.rb ha hrow rfl hone (by decide) (by omega) (by omega) rfl rfl (by kernel_rfl) rfl rfl ?_
    intro v' w16 acc' hl16 ha'
    have hkr16 : ∀ p ∈ ps, _ := fun p hp => KR.grow (l6 := (rsB rb tv j en er1 at1 :: (b4, Obj.cells #[.int .i64 8, .string ⟨#[]⟩, .int .i64 0, v] 24 (0, 0)) :: (b2, Obj.cells #[.int .i64 0, .string "".toByteArray, .int .i64 0, .slice none 0 0] 24 (0, 0)) :: acc)) hl16 (hkr13 p hp)
    have hk16 := KR.grow (l6 := (rsB rb tv j en er1 at1 :: (b4, Obj.cells #[.int .i64 8, .string ⟨#[]⟩, .int .i64 0, v] 24 (0, 0)) :: (b2, Obj.cells #[.int .i64 0, .string "".toByteArray, .int .i64 0, .slice none 0 0] 24 (0, 0)) :: acc)) hl16 hk13
    have hl17 := hl15.bk hl16
    clear hkr13 hk13 hl15 hl16
    obtain ⟨va, vc, rfl⟩ := ha'.shape
    refine o_nil ⟨.inr (by kernel_rfl), ?_⟩
    refine opsD_tail rfl rfl ?_
    refine o_put1 (b := b4) (o := 3) (v := .slice va (ps.length + 1) vc) hl17.rb rfl rfl rfl ⟨rfl, rfl⟩ rfl (.there (.here rfl rfl)) ?_
    intro w18 hl18
    have hkr18 : ∀ p ∈ ps, _ := fun p hp => KR.grow (l6 := (rsB rb tv j en er1 at1 :: (b4, Obj.cells #[.int .i64 8, .string ⟨#[]⟩, .int .i64 0, v] 24 (0, 0)) :: (b2, Obj.cells #[.int .i64 0, .string "".toByteArray, .int .i64 0, .slice none 0 0] 24 (0, 0)) :: acc')) hl18 (hkr16 p hp)
    have hk18 := KR.grow (l6 := (rsB rb tv j en er1 at1 :: (b4, Obj.cells #[.int .i64 8, .string ⟨#[]⟩, .int .i64 0, v] 24 (0, 0)) :: (b2, Obj.cells #[.int .i64 0, .string "".toByteArray, .int .i64 0, .slice none 0 0] 24 (0, 0)) :: acc')) hl18 hk16
    have hl19 : LH w (OneB rb) w18 (rsB rb tv j en er1 at1 :: (b4, Obj.cells #[.int .i64 8, .string ⟨#[]⟩, .int .i64 0, (.slice va (ps.length + 1) vc)] 24 (0, 0)) :: (b2, Obj.cells #[.int .i64 0, .string "".toByteArray, .int .i64 0, .slice none 0 0] 24 (0, 0)) :: acc') := hl17.bk hl18
    refine o_nil ⟨.inr (by kernel_rfl), ?_⟩
    refine opsD_nil ?_
    unfold PostQ
    refine q_nil ?_
    refine ⟨(ps ++ [(s1, .slice ka1 s1.kids.length kc1)], j, acc', .slice va (ps.length + 1) vc, er1, at1), ⟨rfl, rfl, rfl, trivial⟩, rfl, ⟨⟨by simp only; omega, hj2, by simp, by simp; omega, .inl (by simp; omega), ?_⟩, hl19, ?_, ?_⟩, ?_⟩
    · rcases hcase1 with ⟨rfl, h2, h3⟩ | ⟨h2, h3⟩
      · refine .inl ⟨rfl, h2, g, ?_, ?_⟩
        · simp only [List.length_drop] at hf ⊢
          omega
        · rw [h3] at hst
          simp only [List.map_append, List.map_cons, List.map_nil]
          exact hst
      · refine .inr ⟨h2, ?_⟩
        rw [h3] at hst
        exact hst.symm
    · simp only [List.length_append, List.length_cons, List.length_nil, List.flatMap_append, List.flatMap_cons, List.flatMap_nil, List.append_nil]
      exact ha'
    · intro p hp
      rcases List.mem_append.1 hp with hp | hp
      · exact hkr18 p hp
      · rw [List.mem_singleton.1 hp]; exact hk18
    · simp only
      split <;> simp <;> omega
set_option maxHeartbeats 4000000 in
theorem startR_calls {en : Int} {n : Nat} {read : List Tok → Rd Sn} (h1 : RfC 71 en n read) : RfC 37 en n (sev kOr 9 read) := by
  intro w rb tv ts i0 hT hl hi0 hn
  have hlen := hT.2.2
  refine calls_of Tryz.func37 rfl Tryz.ntmps37 rfl ?_
  refine wk_seq fun K hK => ?_
  refine wk_reg ?_
  refine o_alloc hl [.int .i64 0, .string "".toByteArray, .int .i64 0, .slice none 0 0] (by kernel_rfl) rfl ?_
  clear hl
  intro b2 w1 hb2 hl
  replace hl := hl.perm (List.Perm.swap _ _ [])
  have hu1 := hl.upd
  refine o_nil (hK _ _ ?_)
  clear hK K
  refine wk_seq fun K hK => ?_
  refine wk_reg ?_
  refine a_mov ?_
  refine a_fn (h1 w1 rb tv ts i0 (hT.upd hu1) hl.one hi0 hn) ?_
  rintro _ w2 ⟨s0, kv0, i, er, at_, rfl, hi, hi2, hl2, hk0, hcase⟩
  have hl0 := hl
  replace hl := hl.swap hl2
  obtain ⟨ka, kc, rfl, -⟩ := hk0.shape
  have hk2 : KR w2 (FrN w w2 [rsB rb tv i en er at_, (b2, Obj.cells #[.int .i64 0, .string "".toByteArray, .int .i64 0, .slice none 0 0] 24 (0, 0))]) s0.kids (.slice ka s0.kids.length kc) := KR.newN hl0 hu1.size rfl hk0
  have hone0 := snL_one hk0
  refine o_alloc hl.rb [.int .i64 0, .string "".toByteArray, .int .i64 0, .slice none 0 0] (by kernel_rfl) rfl ?_
  intro b3 w3 hb3 hl3
  replace hl3 := hl3.perm (List.Perm.swap _ _ _)
  have hk3 := KR.grow hl3 hk2
  replace hl := hl.bk hl3
  clear hl3 hk2 hk0 hl2 hl0
  refine o_putN (us := snL s0 (.slice ka s0.kids.length kc)) hl.rb rfl rfl rfl hone0 rfl (.there (.here rfl rfl)) ?_
  intro w4 hl4
  have hk4 := KR.grow hl4 hk3
  replace hl := hl.bk hl4
  clear hl4 hk3
  refine o_nil (hK _ _ ?_)
  clear hK K
  refine wk_seq fun K hK => ?_
  refine wk_seq fun K2 hK2 => ?_
  refine wk_reg ?_
  refine a_mov ?_
  have hT4 := hT.upd hl.upd
  refine a_fn (sees_calls (wd := kOr) hT4 (hl.rowL (vs := rsL tv i en er at_) 0 0 5 rfl) hi2) ?_ rfl (fun _ => rfl) (by simp only [kOr, str_eq]; rfl)
  rintro _ w5 ⟨rfl, hx5⟩
  replace hl := hl.ext hx5
  have hk5 := (hk4.ext hx5).mono fun b hb => (⟨hb.1, Nat.lt_of_lt_of_le hb.2.1 hx5.size, hb.2.2⟩ : FrN w w5 _ b)
  clear hk4 hT4
  refine a_notb ?_
  refine o_nil (hK2 _ _ ?_)
  clear hK2 K2
  cases hb : (decide (er = 0) && isT kOr (ts.drop i))
  · have hfin : (er = 0 ∧ at_ = 0 ∧ sev kOr 9 read (ts.drop i0) = .ok s0 (ts.drop i)) ∨ (er ≠ 0 ∧ sev kOr 9 read (ts.drop i0) = .bad er at_) := by
      rcases hcase with ⟨rfl, h2, h3⟩ | ⟨h2, h3⟩
      · refine .inl ⟨rfl, h2, ?_⟩
        unfold sev
        rw [h3]
        simp only
        have hb2 : isT kOr (ts.drop i) = false := by simpa using hb
        rw [sevTail_no hb2]
        rfl
      · refine .inr ⟨h2, ?_⟩
        unfold sev
        rw [h3]
    refine wk_cond_t rfl ?_
    refine wk_seq fun K2 hK2 => ?_
    refine wk_reg ?_
    refine a_all (hl.rowL (vs := snL s0 (.slice ka s0.kids.length kc)) 1 0 4 rfl) ?_
    refine o_putN (us := snL s0 (.slice ka s0.kids.length kc)) hl.rb rfl rfl rfl hone0 rfl (.there (.there (.here rfl rfl))) ?_
    intro w6 hl6
    have hk6 := KR.grow (l6 := [rsB rb tv i en er at_, (b3, .cells (snL s0 (.slice ka s0.kids.length kc)).toArray 24 (0, 0)), (b2, Obj.cells #[.int .i64 0, .string "".toByteArray, .int .i64 0, .slice none 0 0] 24 (0, 0))]) hl6 hk5
    replace hl := hl.bk hl6
    refine o_nil (hK2 _ _ ?_)
    clear hK2 K2
    refine wk_ret (retQ_res [.agg (snL s0 (.slice ka s0.kids.length kc)).toArray] rfl rfl ⟨by decide, ⟨⟨b2, 0, none⟩, rfl, run_loadVarN rfl rfl (hl.rowL (vs := snL s0 (.slice ka s0.kids.length kc)) 2 0 4 rfl)⟩, trivial⟩ ?_)
    exact ⟨s0, _, i, er, at_, rfl, hi, hi2, hl.sub (List.cons_sublist_cons.2 (List.nil_sublist _)), hk6.mono fun b hb => ⟨hb.1, hb.2.1⟩, hfin⟩
  rw [Bool.and_eq_true, decide_eq_true_eq] at hb
  obtain ⟨rfl, hbt⟩ := hb
  obtain ⟨rfl, hr0⟩ : at_ = 0 ∧ read (ts.drop i0) = .ok s0 (ts.drop i) := by
    rcases hcase with ⟨-, h2, h3⟩ | ⟨h2, h3⟩
    · exact ⟨h2, h3⟩
    · exact absurd rfl h2
  clear hcase
  refine wk_cond_f rfl ?_
  refine wk_skip (hK _ _ ?_)
  clear hK K
  refine wk_seq fun K hK => ?_
  refine wk_reg ?_
  refine a_all (hl.rowL (vs := snL s0 (.slice ka s0.kids.length kc)) 1 0 4 rfl) ?_
  refine o_buildSlice hl.rb (snL s0 (.slice ka s0.kids.length kc)) rfl rfl (by kernel_rfl) ?_
  intro bb w6 hbb hl6
  replace hl6 := hl6.perm (List.perm_append_comm (l₁ := [_]))
  have hk6 := KR.grow hl6 hk5
  replace hl := hl.bk hl6
  clear hl6 hk5
  refine o_build [.int .i64 9, .string ⟨#[]⟩, .int .i64 0, .slice (some ⟨bb, 0, none⟩) 1 1] rfl rfl ?_
  refine o_alloc hl.rb [.int .i64 0, .string "".toByteArray, .int .i64 0, .slice none 0 0] (by kernel_rfl) rfl ?_
  intro b4 w7 hb4 hl7
  replace hl7 := hl7.perm (List.Perm.swap _ _ _)
  have hk7 := KR.grow hl7 hk6
  replace hl := hl.bk hl7
  clear hl7 hk6
  refine o_putN (us := [.int .i64 9, .string ⟨#[]⟩, .int .i64 0, .slice (some ⟨bb, 0, none⟩) 1 1]) hl.rb rfl rfl rfl rfl rfl (.there (.here rfl rfl)) ?_
  intro w8 hl8
  have hk8 := KR.grow hl8 hk7
  replace hl := hl.bk hl8
  clear hl8 hk7
  refine o_nil (hK _ _ ?_)
  clear hK K
  have hl : LH w (OneB rb) w8 (rsB rb tv i en 0 0 :: (b4, Obj.cells #[.int .i64 9, .string ⟨#[]⟩, .int .i64 0, (.slice (some ⟨bb, 0, none⟩) 1 1)] 24 (0, 0)) :: (b2, Obj.cells #[.int .i64 0, .string "".toByteArray, .int .i64 0, .slice none 0 0] 24 (0, 0)) :: [(bb, .cells (snL s0 (.slice ka s0.kids.length kc)).toArray 24 (0, 0))]) := hl.sub (List.cons_sublist_cons.2 (List.cons_sublist_cons.2 (List.sublist_cons_self _ _)))
  have hk8 : KR w8 (FrN w w8 (rsB rb tv i en 0 0 :: (b4, Obj.cells #[.int .i64 9, .string ⟨#[]⟩, .int .i64 0, (.slice (some ⟨bb, 0, none⟩) 1 1)] 24 (0, 0)) :: (b2, Obj.cells #[.int .i64 0, .string "".toByteArray, .int .i64 0, .slice none 0 0] 24 (0, 0)) :: [(bb, .cells (snL s0 (.slice ka s0.kids.length kc)).toArray 24 (0, 0))])) s0.kids (.slice ka s0.kids.length kc) := hk8.mono fun b hb => ⟨hb.1, hb.2.1, fun hm => hb.2.2 (((List.cons_sublist_cons.2 (List.cons_sublist_cons.2 (List.sublist_cons_self _ _))).map _).subset hm)⟩
  have hr0' : ∀ l r, sevTail kOr read (ts.drop i).length [s0] (ts.drop i) = .ok l r → sev kOr 9 read (ts.drop i0) = .ok (joinS 9 l) r := fun l r h => by
    unfold sev
    rw [hr0]
    simp only
    rw [h]
  have hr0b : ∀ e a, sevTail kOr read (ts.drop i).length [s0] (ts.drop i) = .bad e a → sev kOr 9 read (ts.drop i0) = .bad e a := fun e a h => by
    unfold sev
    rw [hr0]
    simp only
    rw [h]
  generalize hst : sevTail kOr read (ts.drop i).length [s0] (ts.drop i) = R at hr0' hr0b
  refine wk_seq fun K hK => ?_
  refine wk_block ?_
  refine wk_loopH [] rfl (fun q : List (Sn × Value) × Nat × List (Nat × Obj) × Value × Int × Int => [(0, .pointer (some ⟨rb, 0, none⟩)), (2, .pointer (some ⟨b2, 0, none⟩)), (4, .pointer (some ⟨b4, 0, none⟩))])
    (fun q w' => (i0 ≤ q.2.1 ∧ q.2.1 ≤ ts.length ∧ 1 ≤ q.1.length ∧ q.1.length ≤ q.2.1 + 1 ∧ (2 ≤ q.1.length ∨ isT kOr (ts.drop q.2.1) = true) ∧ ((q.2.2.2.2.1 = 0 ∧ q.2.2.2.2.2 = 0 ∧ ∃ f, (ts.drop q.2.1).length ≤ f ∧ sevTail kOr read f (q.1.map (·.1)) (ts.drop q.2.1) = R) ∨ (q.2.2.2.2.1 ≠ 0 ∧ R = .bad q.2.2.2.2.1 q.2.2.2.2.2))) ∧ LH w (OneB rb) w' (rsB rb tv q.2.1 en q.2.2.2.2.1 q.2.2.2.2.2 :: (b4, Obj.cells #[.int .i64 9, .string ⟨#[]⟩, .int .i64 0, q.2.2.2.1] 24 (0, 0)) :: (b2, Obj.cells #[.int .i64 0, .string "".toByteArray, .int .i64 0, .slice none 0 0] 24 (0, 0)) :: q.2.2.1) ∧ Acc q.2.2.2.1 4 24 q.1.length (q.1.flatMap kidS) q.2.2.1 ∧ ∀ p ∈ q.1, KR w' (FrN w w' (rsB rb tv q.2.1 en q.2.2.2.2.1 q.2.2.2.2.2 :: (b4, Obj.cells #[.int .i64 9, .string ⟨#[]⟩, .int .i64 0, q.2.2.2.1] 24 (0, 0)) :: (b2, Obj.cells #[.int .i64 0, .string "".toByteArray, .int .i64 0, .slice none 0 0] 24 (0, 0)) :: q.2.2.1)) p.1.kids p.2)
    (fun q => if q.2.2.2.2.1 = 0 then ts.length - q.2.1 + 1 else 0) ([(s0, .slice ka s0.kids.length kc)], i, [(bb, .cells (snL s0 (.slice ka s0.kids.length kc)).toArray 24 (0, 0))], .slice (some ⟨bb, 0, none⟩) 1 1, 0, 0) ⟨rfl, rfl, rfl, trivial⟩ ⟨⟨hi, hi2, Nat.le_refl _, by simp, .inr hbt, .inl ⟨rfl, rfl, _, Nat.le_refl _, hst⟩⟩, hl, ⟨rfl, .inr ⟨bb, 1, _, rfl, rfl, Nat.le_refl _, by decide, rfl, rfl⟩⟩, fun p hp => by rw [List.mem_singleton.1 hp]; exact hk8⟩ ?_
  clear hl hk8 hst hr0 hbt
  rintro ⟨ps, i, acc, v, er, at_⟩ t w9 ⟨⟨hi, hi2, hp1, hp2, hp3, hcase⟩, hl, ha, hkr⟩
  simp only at hi hi2 hp1 hp2 hp3 hcase hl ha hkr
  have hTw := hT.upd hl.upd
  refine wk_seq fun K1 hK1 => ?_
  refine wk_seq fun K2 hK2 => ?_
  refine wk_reg ?_
  refine a_mov ?_
  refine a_fn (isR_calls (wd := kOr) hTw hl.one hi2) ?_ rfl (fun _ => rfl) (by simp only [kOr, str_eq]; rfl)
  rintro _ w10 ⟨rfl, hl10⟩
  have hsw := hl.rb.swap hl10
  have hkr10 : ∀ p ∈ ps, _ := fun p hp => KR.grow hsw (hkr p hp)
  replace hl := hl.swap hl10
  refine o_nil (hK2 _ _ ?_)
  clear hK2 K2 hl10 hsw hkr
  cases hb : (decide (er = 0) && isT kOr (ts.drop i))
  · rw [hb, if_neg (by decide)] at hl hkr10
    refine wk_cond_f rfl ?_
    refine wk_exit ?_
    refine blockK_same ?_
    refine hK _ _ ?_
    clear hK1 K1
    clear hK K
    obtain ⟨va, vc, rfl⟩ := ha.shape
    refine wk_seq fun K hK => ?_
    refine wk_reg ?_
    refine a_all (hl.rowL (vs := [.int .i64 9, .string ⟨#[]⟩, .int .i64 0, .slice va ps.length vc]) 1 0 4 rfl) ?_
    refine o_putN (us := [.int .i64 9, .string ⟨#[]⟩, .int .i64 0, .slice va ps.length vc]) hl.rb rfl rfl rfl rfl rfl (.there (.there (.here rfl rfl))) ?_
    intro w11 hl11
    have hkr11 : ∀ p ∈ ps, _ := fun p hp => KR.grow (l6 := (rsB rb tv i en er at_ :: (b4, Obj.cells #[.int .i64 9, .string ⟨#[]⟩, .int .i64 0, (.slice va ps.length vc)] 24 (0, 0)) :: (b2, Obj.cells #[.int .i64 0, .string "".toByteArray, .int .i64 0, .slice none 0 0] 24 (0, 0)) :: acc)) hl11 (hkr10 p hp)
    replace hl := hl.bk hl11
    refine o_nil (hK _ _ ?_)
    clear hK K
    refine wk_ret (retQ_res [.agg (snL (.node 9 [] 0 (ps.map (·.1))) (.slice va ps.length vc)).toArray] rfl rfl ⟨by decide, ⟨⟨b2, 0, none⟩, rfl, run_loadVarN rfl rfl (hl.rowL (vs := snL (.node 9 [] 0 (ps.map (·.1))) (.slice va ps.length vc)) 2 0 4 (by simp only [snL, Sn.op, Sn.name, Sn.day, str_nil]; rfl))⟩, trivial⟩ ?_)
    refine ⟨_, _, i, er, at_, rfl, hi, hi2, hl.sub (List.cons_sublist_cons.2 (List.nil_sublist _)), ?_, ?_⟩
    · exact KR.of_accS (l := [rsB rb tv i en er at_, (b4, _), (b2, _)]) hl ha rfl (fun b hb => hl.rest (List.mem_cons_of_mem _ (List.mem_cons_of_mem _ hb))) (fun p hp => (hkr11 p hp).mono fun b hb => ⟨hb.1, hb.2.1⟩)
    · rcases hcase with ⟨rfl, h2, f, hf, hst⟩ | ⟨h2, h3⟩
      · have hbt : isT kOr (ts.drop i) = false := by simpa using hb
        have hp4 : 2 ≤ ps.length := hp3.resolve_right (by rw [hbt]; decide)
        rw [sevTail_no hbt] at hst
        refine .inl ⟨rfl, h2, ?_⟩
        rw [hr0' _ _ hst.symm]
        match ps, hp4 with
        | x :: y :: l, _ => rfl
      · exact .inr ⟨h2, hr0b _ _ h3⟩
  · rw [hb, if_pos rfl] at hl hkr10
    rw [Bool.and_eq_true, decide_eq_true_eq] at hb
    obtain ⟨rfl, hbt⟩ := hb
    obtain ⟨rfl, f, hf, hst⟩ : at_ = 0 ∧ ∃ f, (ts.drop i).length ≤ f ∧ sevTail kOr read f (ps.map (·.1)) (ts.drop i) = R := by
      rcases hcase with ⟨-, h2, h3⟩ | ⟨h2, h3⟩
      · exact ⟨h2, h3⟩
      · exact absurd rfl h2
    clear hcase
    obtain ⟨g, rfl, hst2⟩ := sevTail_yes (read := read) (acc := ps.map (·.1)) hbt hf
    have hlt : i < ts.length := by
      obtain ⟨t0, r0, h1⟩ := isT_ne hbt
      have := congrArg List.length h1
      simp at this
      omega
    rw [drop_tail] at hst2
    rw [hst2] at hst
    clear hst2
    refine wk_cond_t rfl ?_
    refine wk_skip (hK1 _ _ ?_)
    clear hK1 K1
    refine wk_block ?_
    refine wk_drawP [0, 1, 2, 6] [1] [3, 4, 5, 7] [] [] (fun w' => To w10 w' w10.heap) (fun w' => w'.heap[b4]? = some (Obj.cells #[.int .i64 9, .string ⟨#[]⟩, .int .i64 0, v] 24 (0, 0))) rfl (by kernel_rfl) (fun _ _ _ _ h => by first | exact h | (simp only [BlockK, NoGoto, RetQ] at h)) (fun _ h => h) (fun w' h => (hl.heap h).get 1 rfl) ?_
    repeat' (first | refine q_mov ?_ | refine q_asg ?_ | refine q_fa ?_ | refine q_ext ?_ | refine q_binN ?_ | refine q_notd ?_ | refine q_notb ?_ | refine q_pick_t ?_ | refine q_pick_f ?_ | refine q_nilc ?_ | refine q_skip ?_ | refine q_lens ?_ | refine q_lenv ?_ | refine q_nil ?_ | refine q_ix (fun _ => ?_) | (refine q_bin ?_ ?_ <;> intro _ <;> try (exfalso; omega)) | refine q_late rfl rfl rfl rfl (fun w' hw' => r_load rfl rfl (cell_of_block hw' rfl)) ?_)
    intro w11 hw11
    replace hl := hl.heap hw11
    have hkr11 : ∀ p ∈ ps, KR w11 (FrN w w11 (rsB rb tv (i + 1 : Nat) en 0 0 :: (b4, Obj.cells #[.int .i64 9, .string ⟨#[]⟩, .int .i64 0, v] 24 (0, 0)) :: (b2, Obj.cells #[.int .i64 0, .string "".toByteArray, .int .i64 0, .slice none 0 0] 24 (0, 0)) :: acc)) p.1.kids p.2 := fun p hp => ((hkr10 p hp).heap hw11).mono fun b hb => ⟨hb.1, Nat.lt_of_lt_of_le hb.2.1 (show Ext w10 w11 from Upd.of_heap hw11).size, hb.2.2⟩
    clear hkr10
    have hT11 := hT.upd hl.upd
    refine opsD_tail rfl rfl ?_
    refine a_fn (h1 w11 rb tv ts (i + 1) hT11 hl.one hlt (by omega)) ?_
    rintro _ w12 ⟨s1, kv1, j, er1, at1, rfl, hj1, hj2, hl12, hk1, hcase1⟩
    have hsw := hl.rb.swap hl12
    have hkr12 : ∀ p ∈ ps, _ := fun p hp => KR.grow hsw (hkr11 p hp)
    have hk12 : KR w12 (FrN w w12 (rsB rb tv j en er1 at1 :: (b4, Obj.cells #[.int .i64 9, .string ⟨#[]⟩, .int .i64 0, v] 24 (0, 0)) :: (b2, Obj.cells #[.int .i64 0, .string "".toByteArray, .int .i64 0, .slice none 0 0] 24 (0, 0)) :: acc)) s1.kids kv1 := KR.newN hl hl.upd.size rfl hk1
    have hl12s := hl.bk hsw
    clear hsw hl12 hkr11
    obtain ⟨ka1, kc1, rfl, -⟩ := hk1.shape
    have hone := snL_one hk1
    refine o_nil ⟨.inl (hl12s.get 1 rfl), ?_⟩
    refine opsD_tail rfl rfl ?_
    refine o_buildSlice hl12s.rb (snL s1 (.slice ka1 s1.kids.length kc1)) rfl rfl (by kernel_rfl) ?_
    intro bq w13 hbq hl13
    have hdrop : ∀ b, FrN w w13 ((bq, Obj.cells (snL s1 (.slice ka1 s1.kids.length kc1)).toArray 24 (0, 0)) :: (rsB rb tv j en er1 at1 :: (b4, Obj.cells #[.int .i64 9, .string ⟨#[]⟩, .int .i64 0, v] 24 (0, 0)) :: (b2, Obj.cells #[.int .i64 0, .string "".toByteArray, .int .i64 0, .slice none 0 0] 24 (0, 0)) :: acc)) b → FrN w w13 (rsB rb tv j en er1 at1 :: (b4, Obj.cells #[.int .i64 9, .string ⟨#[]⟩, .int .i64 0, v] 24 (0, 0)) :: (b2, Obj.cells #[.int .i64 0, .string "".toByteArray, .int .i64 0, .slice none 0 0] 24 (0, 0)) :: acc) b := fun b hb => ⟨hb.1, hb.2.1, fun hm => hb.2.2 (List.mem_cons_of_mem _ hm)⟩
    have hkr13 : ∀ p ∈ ps, _ := fun p hp => (KR.grow hl13 (hkr12 p hp)).mono hdrop
    have hk13 := (KR.grow hl13 hk12).mono hdrop
    have hl14 := hl12s.bk hl13
    have hrow : Row w13 bq 0 (snL s1 (.slice ka1 s1.kids.length kc1)) := hl14.rowL (vs := snL s1 (.slice ka1 s1.kids.length kc1)) 0 0 4 rfl
    have hl15 := hl14.sub (List.sublist_cons_self _ _)
    clear hkr12 hk12 hl12s hl13
    refine o_nil ⟨.inl (hl14.get 2 rfl), ?_⟩
    clear hl14
    refine opsD_tail rfl rfl ?_
    refine o_append (bl' := [rsB rb tv j en er1 at1, (b4, Obj.cells #[.int .i64 9, .string ⟨#[]⟩, .int .i64 0, v] 24 (0, 0)), (b2, Obj.cells #[.int .i64 0, .string "".toByteArray, .int .i64 0, .slice none 0 0] 24 (0, 0))]) (bytes := 56) (q := 1) hl15.rb ha hrow rfl hone (by decide) (by omega) (by omega) rfl rfl (by kernel_rfl) rfl rfl ?_
    intro v' w16 acc' hl16 ha'
    have hkr16 : ∀ p ∈ ps, _ := fun p hp => KR.grow (l6 := (rsB rb tv j en er1 at1 :: (b4, Obj.cells #[.int .i64 9, .string ⟨#[]⟩, .int .i64 0, v] 24 (0, 0)) :: (b2, Obj.cells #[.int .i64 0, .string "".toByteArray, .int .i64 0, .slice none 0 0] 24 (0, 0)) :: acc)) hl16 (hkr13 p hp)
    have hk16 := KR.grow (l6 := (rsB rb tv j en er1 at1 :: (b4, Obj.cells #[.int .i64 9, .string ⟨#[]⟩, .int .i64 0, v] 24 (0, 0)) :: (b2, Obj.cells #[.int .i64 0, .string "".toByteArray, .int .i64 0, .slice none 0 0] 24 (0, 0)) :: acc)) hl16 hk13
    have hl17 := hl15.bk hl16
    clear hkr13 hk13 hl15 hl16
    obtain ⟨va, vc, rfl⟩ := ha'.shape
    refine o_nil ⟨.inr (by kernel_rfl), ?_⟩
    refine opsD_tail rfl rfl ?_
    refine o_put1 (b := b4) (o := 3) (v := .slice va (ps.length + 1) vc) hl17.rb rfl rfl rfl ⟨rfl, rfl⟩ rfl (.there (.here rfl rfl)) ?_
    intro w18 hl18
    have hkr18 : ∀ p ∈ ps, _ := fun p hp => KR.grow (l6 := (rsB rb tv j en er1 at1 :: (b4, Obj.cells #[.int .i64 9, .string ⟨#[]⟩, .int .i64 0, v] 24 (0, 0)) :: (b2, Obj.cells #[.int .i64 0, .string "".toByteArray, .int .i64 0, .slice none 0 0] 24 (0, 0)) :: acc')) hl18 (hkr16 p hp)
    have hk18 := KR.grow (l6 := (rsB rb tv j en er1 at1 :: (b4, Obj.cells #[.int .i64 9, .string ⟨#[]⟩, .int .i64 0, v] 24 (0, 0)) :: (b2, Obj.cells #[.int .i64 0, .string "".toByteArray, .int .i64 0, .slice none 0 0] 24 (0, 0)) :: acc')) hl18 hk16
    have hl19 : LH w (OneB rb) w18 (rsB rb tv j en er1 at1 :: (b4, Obj.cells #[.int .i64 9, .string ⟨#[]⟩, .int .i64 0, (.slice va (ps.length + 1) vc)] 24 (0, 0)) :: (b2, Obj.cells #[.int .i64 0, .string "".toByteArray, .int .i64 0, .slice none 0 0] 24 (0, 0)) :: acc') := hl17.bk hl18
    refine o_nil ⟨.inr (by kernel_rfl), ?_⟩
    refine opsD_nil ?_
    unfold PostQ
    refine q_nil ?_
    refine ⟨(ps ++ [(s1, .slice ka1 s1.kids.length kc1)], j, acc', .slice va (ps.length + 1) vc, er1, at1), ⟨rfl, rfl, rfl, trivial⟩, rfl, ⟨⟨by simp only; omega, hj2, by simp, by simp; omega, .inl (by simp; omega), ?_⟩, hl19, ?_, ?_⟩, ?_⟩
    · rcases hcase1 with ⟨rfl, h2, h3⟩ | ⟨h2, h3⟩
      · refine .inl ⟨rfl, h2, g, ?_, ?_⟩
        · simp only [List.length_drop] at hf ⊢
          omega
        · rw [h3] at hst
          simp only [List.map_append, List.map_cons, List.map_nil]
          exact hst
      · refine .inr ⟨h2, ?_⟩
        rw [h3] at hst
        exact hst.symm
    · simp only [List.length_append, List.length_cons, List.length_nil, List.flatMap_append, List.flatMap_cons, List.flatMap_nil, List.append_nil]
      exact ha'
    · intro p hp
      rcases List.mem_append.1 hp with hp | hp
      · exact hkr18 p hp
      · rw [List.mem_singleton.1 hp]; exact hk18
    · simp only
      split <;> simp <;> omega
end Go.Proofs
