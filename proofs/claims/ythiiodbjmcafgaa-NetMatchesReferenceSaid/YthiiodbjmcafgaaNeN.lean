/-
  A network: all that can be seen of it, as one list.
-/
import Derived.Test.YthiiodbjmcafgaaNeE
import Derived.Test.YthiiodbjmcafgaaNeK
set_option linter.unusedVariables false
set_option linter.unusedSimpArgs false
set_option linter.unnecessarySimpa false
set_option maxRecDepth 10000
namespace Go.Ne
open Go Go.Pd
def sNode : Tx := [110, 111, 100, 101]
def sLacks : Tx := [108, 97, 99, 107, 115]
def vLacks (s : Net) (a m : Nat) : List Tx := (List.range m).flatMap fun b => sLacks :: lacks s a b
def vRow (s : Net) (a : Nat) : List Tx := sNode :: has s a ++ vLacks s a s.n
def vAll (s : Net) (m : Nat) : List Tx := (List.range m).flatMap (vRow s)
theorem vLacks_succ (s : Net) (a m : Nat) : vLacks s a (m + 1) = vLacks s a m ++ (sLacks :: lacks s a m) := by simp [vLacks, List.range_succ]
theorem vAll_succ (s : Net) (m : Nat) : vAll s (m + 1) = vAll s m ++ vRow s m := by simp [vAll, List.range_succ]
theorem lacks_len (s : Net) (a b : Nat) : (lacks s a b).length ≤ (texts s a).length := (lacks_sub s a b).length_le
theorem has_len (s : Net) (a : Nat) : (has s a).length ≤ (texts s a).length := by
  unfold has texts
  split
  · exact Nat.le_refl _
  · exact Nat.zero_le _
theorem vLacks_len (s : Net) (a : Nat) (h : ∀ a, (texts s a).length ≤ 100000) : ∀ m, (vLacks s a m).length ≤ m * 100001
  | 0 => by simp [vLacks]
  | m + 1 => by
    rw [vLacks_succ, List.length_append, List.length_cons]
    have h1 := vLacks_len s a h m
    have h2 := lacks_len s a m
    have h3 := h a
    omega
theorem vAll_len (s : Net) (h : ∀ a, (texts s a).length ≤ 100000) (hn : s.n ≤ 8) : ∀ m, (vAll s m).length ≤ m * 900009
  | 0 => by simp [vAll]
  | m + 1 => by
    rw [vAll_succ, List.length_append]
    have h1 := vAll_len s h hn m
    have h2 := vLacks_len s m h s.n
    have h3 := has_len s m
    have h4 := h m
    unfold vRow
    rw [List.length_append, List.length_cons]
    have : s.n * 100001 ≤ 8 * 100001 := Nat.mul_le_mul_right _ hn
    omega
end Go.Ne
namespace Go.Proofs
open Go Go.Pd Go.Ne
attribute [local irreducible] OpsL W RetQ OpsQ OpsC

theorem accCast {v : Value} {k : Nat} {E : TypeId} {m m' : Nat} {xs ys : List Value} {acc : List (Nat × Obj)} (h : Acc v k E m xs acc) (hm : m = m') (hx : xs = ys) : Acc v k E m' ys acc := by
  subst hm hx; exact h
set_option maxHeartbeats 1000000 in
theorem views_calls {X : Nat → Prop} {s : Net} {p : Nat} {bl : List (Nat × Obj)} {w : World} (h : NetR X s p bl w) (ht : ∀ a, (texts s a).length ≤ 100000) :
    Calls Try.prog 30 #[.pointer (some ⟨p, 0, none⟩), .int .i64 (s.n : Int)] w (fun e w' => ∃ v, e = .returned v ∧ Fresh w w' v (vAll s s.n)) := by
  have hn : 1 ≤ s.n ∧ s.n ≤ 8 := by
    obtain ⟨D, -, -, -, hok, -⟩ := h
    exact hok.np
  have hlen : ∀ a, (texts s a).length ≤ 1000000 := fun a => Nat.le_trans (ht a) (by omega)
  refine calls_of Try.func30 rfl Try.ntmps30 rfl ?_
  repeat' (first | refine a_mov ?_ | refine a_asg ?_ | refine a_binN ?_ | refine a_notd ?_ | refine a_notb ?_ | refine a_nilc ?_ | refine a_fa ?_ | refine a_ext ?_ | refine a_lenv ?_ | refine a_lens ?_ | refine a_pick_t ?_ | refine a_pick_f ?_ | refine a_not ?_ | refine a_nilf ?_ | (refine o_nil (hK _ _ ?_); clear hK K) | refine wk_reg ?_ | refine wk_seq fun K hK => ?_ | (refine wk_skip (hK _ _ ?_); clear hK K) | (refine wk_label (hK _ _ ?_); clear hK K) | refine wk_scope ?_ | refine wk_block ?_ | refine wk_cond_t rfl ?_ | refine wk_cond_f rfl ?_ | (refine wk_exit ?_; (repeat (refine blockK_other rfl ?_)); refine blockK_same ?_; try ((repeat ((fail_if_success (refine hK _ _ ?_)); clear hK K)); refine hK _ _ ?_; clear hK K)) | (refine a_bin ?_ ?_ <;> intro _ <;> try (exfalso; omega)) | refine a_ld hl ?_ | (refine a_st hl ?_; clear hl; intro _ hl) | refine a_ix (fun _ => ?_) | fail)
  refine wk_loopH [] rfl (fun z : Nat × Value => [(0, .pointer (some ⟨p, 0, none⟩)), (1, .int .i64 (s.n : Int)), (5, z.2), (6, .int .i64 (z.1 : Int))]) (fun z w' => z.1 ≤ s.n ∧ Fresh w w' z.2 (vAll s z.1)) (fun z => s.n - z.1) (0, .slice none 0 0) ⟨rfl, rfl, rfl, rfl, trivial⟩ ⟨Nat.zero_le _, [], LH.start w _, Acc.nil _ _⟩ ?_
  rintro ⟨a, v⟩ t1 w1 ⟨ha, acc1, hl1, hc1⟩
  dsimp only at ha hl1 hc1 ⊢
  have hb1 := vAll_len s ht hn.2 a
  have hb1' : a * 900009 ≤ 8 * 900009 := Nat.mul_le_mul_right _ (by omega)
  by_cases ha1 : a < s.n
  · have hb2 := has_len s a
    have hb3 := ht a
    repeat' (first | refine a_mov ?_ | refine a_asg ?_ | refine a_binN ?_ | refine a_notd ?_ | refine a_notb ?_ | refine a_nilc ?_ | refine a_fa ?_ | refine a_ext ?_ | refine a_lenv ?_ | refine a_lens ?_ | refine a_pick_t ?_ | refine a_pick_f ?_ | refine a_not ?_ | refine a_nilf ?_ | (refine o_nil (hK _ _ ?_); clear hK K) | refine wk_reg ?_ | refine wk_seq fun K hK => ?_ | (refine wk_skip (hK _ _ ?_); clear hK K) | (refine wk_label (hK _ _ ?_); clear hK K) | refine wk_scope ?_ | refine wk_block ?_ | refine wk_cond_t rfl ?_ | refine wk_cond_f rfl ?_ | (refine wk_exit ?_; (repeat (refine blockK_other rfl ?_)); refine blockK_same ?_; try ((repeat ((fail_if_success (refine hK _ _ ?_)); clear hK K)); refine hK _ _ ?_; clear hK K)) | (refine a_bin ?_ ?_ <;> intro _ <;> try (exfalso; omega)) | refine a_ld hl ?_ | (refine a_st hl ?_; clear hl; intro _ hl) | refine a_ix (fun _ => ?_) | fail)
    refine o_buildSlice (bl := acc1) hl1 [str sNode] rfl rfl (by simp only [sNode, str_eq]; kernel_rfl) ?_
    intro b2 w2 hb2' hl2
    refine o_append (bl' := [(b2, .cells #[str sNode] 9 (0, 0))]) (k := 1) (bytes := 16) (q := 1) (us := [str sNode]) hl2 hc1 (hl2.rowL (vs := [str sNode]) 0 0 1 rfl) rfl (by simp [oneCell_str]) (by omega) (by omega) (by omega) rfl rfl rfl rfl rfl ?_
    intro v3 w3 acc3 hl3 hc3
    repeat' (first | refine a_mov ?_ | refine a_asg ?_ | refine a_binN ?_ | refine a_notd ?_ | refine a_notb ?_ | refine a_nilc ?_ | refine a_fa ?_ | refine a_ext ?_ | refine a_lenv ?_ | refine a_lens ?_ | refine a_pick_t ?_ | refine a_pick_f ?_ | refine a_not ?_ | refine a_nilf ?_ | (refine o_nil (hK _ _ ?_); clear hK K) | refine wk_reg ?_ | refine wk_seq fun K hK => ?_ | (refine wk_skip (hK _ _ ?_); clear hK K) | (refine wk_label (hK _ _ ?_); clear hK K) | refine wk_scope ?_ | refine wk_block ?_ | refine wk_cond_t rfl ?_ | refine wk_cond_f rfl ?_ | (refine wk_exit ?_; (repeat (refine blockK_other rfl ?_)); refine blockK_same ?_; try ((repeat ((fail_if_success (refine hK _ _ ?_)); clear hK K)); refine hK _ _ ?_; clear hK K)) | (refine a_bin ?_ ?_ <;> intro _ <;> try (exfalso; omega)) | refine a_ld hl ?_ | (refine a_st hl ?_; clear hl; intro _ hl) | refine a_ix (fun _ => ?_) | fail)
    refine a_fn (has_calls (h.ext hl3.done) a hlen) ?_
    rintro v4 w4 ⟨acc4, hl4, hc4⟩
    have hl4' := hl3.ext hl4.done
    refine o_appendS (bl' := [(b2, .cells #[str sNode] 9 (0, 0))]) (k := 1) (bytes := 16) (q := (has s a).length) (us := strL (has s a)) hl4' hc3 (LH.acc_sl (l := []) hl4 hc4) (strL_len _) (by decide) (strL_one _) (by omega) (by omega) rfl rfl rfl rfl rfl rfl ?_
    intro v5 w5 acc5 hl5 hc5
    have hf5 : Fresh w w5 v5 (vAll s a ++ (sNode :: has s a ++ vLacks s a 0)) := ⟨acc5, hl5.sub (List.sublist_cons_self _ _), accCast hc5 (by simp [vLacks]; omega) (by simp [vLacks, strL])⟩
    repeat' (first | refine a_mov ?_ | refine a_asg ?_ | refine a_binN ?_ | refine a_notd ?_ | refine a_notb ?_ | refine a_nilc ?_ | refine a_fa ?_ | refine a_ext ?_ | refine a_lenv ?_ | refine a_lens ?_ | refine a_pick_t ?_ | refine a_pick_f ?_ | refine a_not ?_ | refine a_nilf ?_ | (refine o_nil (hK _ _ ?_); clear hK K) | refine wk_reg ?_ | refine wk_seq fun K hK => ?_ | (refine wk_skip (hK _ _ ?_); clear hK K) | (refine wk_label (hK _ _ ?_); clear hK K) | refine wk_scope ?_ | refine wk_block ?_ | refine wk_cond_t rfl ?_ | refine wk_cond_f rfl ?_ | (refine wk_exit ?_; (repeat (refine blockK_other rfl ?_)); refine blockK_same ?_; try ((repeat ((fail_if_success (refine hK _ _ ?_)); clear hK K)); refine hK _ _ ?_; clear hK K)) | (refine a_bin ?_ ?_ <;> intro _ <;> try (exfalso; omega)) | refine a_ld hl ?_ | (refine a_st hl ?_; clear hl; intro _ hl) | refine a_ix (fun _ => ?_) | fail)
    refine wk_loopH [] rfl (fun z : Nat × Value => [(0, .pointer (some ⟨p, 0, none⟩)), (1, .int .i64 (s.n : Int)), (5, z.2), (6, .int .i64 (a : Int)), (7, .int .i64 (z.1 : Int))]) (fun z w' => z.1 ≤ s.n ∧ Fresh w w' z.2 (vAll s a ++ (sNode :: has s a ++ vLacks s a z.1))) (fun z => s.n - z.1) (0, v5) ⟨rfl, rfl, rfl, rfl, rfl, trivial⟩ ⟨Nat.zero_le _, hf5⟩ ?_
    rintro ⟨b, v6⟩ t6 w6 ⟨hb, acc6, hl6, hc6⟩
    dsimp only at hb hl6 hc6 ⊢
    have hv1 := vLacks_len s a ht b
    have hv2 := lacks_len s a b
    have hv3 : b * 100001 ≤ 8 * 100001 := Nat.mul_le_mul_right _ (by omega)
    have hv4 : (vAll s a ++ (sNode :: has s a ++ vLacks s a b)).length ≤ 10000000 := by
      rw [List.length_append, List.length_append, List.length_cons]
      omega
    by_cases hbn : b < s.n
    · repeat' (first | refine a_mov ?_ | refine a_asg ?_ | refine a_binN ?_ | refine a_notd ?_ | refine a_notb ?_ | refine a_nilc ?_ | refine a_fa ?_ | refine a_ext ?_ | refine a_lenv ?_ | refine a_lens ?_ | refine a_pick_t ?_ | refine a_pick_f ?_ | refine a_not ?_ | refine a_nilf ?_ | (refine o_nil (hK _ _ ?_); clear hK K) | refine wk_reg ?_ | refine wk_seq fun K hK => ?_ | (refine wk_skip (hK _ _ ?_); clear hK K) | (refine wk_label (hK _ _ ?_); clear hK K) | refine wk_scope ?_ | refine wk_block ?_ | refine wk_cond_t rfl ?_ | refine wk_cond_f rfl ?_ | (refine wk_exit ?_; (repeat (refine blockK_other rfl ?_)); refine blockK_same ?_; try ((repeat ((fail_if_success (refine hK _ _ ?_)); clear hK K)); refine hK _ _ ?_; clear hK K)) | (refine a_bin ?_ ?_ <;> intro _ <;> try (exfalso; omega)) | refine a_ld hl ?_ | (refine a_st hl ?_; clear hl; intro _ hl) | refine a_ix (fun _ => ?_) | fail)
      refine o_buildSlice (bl := acc6) hl6 [str sLacks] rfl rfl (by simp only [sLacks, str_eq]; kernel_rfl) ?_
      intro b7 w7 hb7 hl7
      refine o_append (bl' := [(b7, .cells #[str sLacks] 9 (0, 0))]) (k := 1) (bytes := 16) (q := 1) (us := [str sLacks]) hl7 hc6 (hl7.rowL (vs := [str sLacks]) 0 0 1 rfl) rfl (by simp [oneCell_str]) (by omega) (by omega) (by omega) rfl rfl rfl rfl rfl ?_
      intro v8 w8 acc8 hl8 hc8
      repeat' (first | refine a_mov ?_ | refine a_asg ?_ | refine a_binN ?_ | refine a_notd ?_ | refine a_notb ?_ | refine a_nilc ?_ | refine a_fa ?_ | refine a_ext ?_ | refine a_lenv ?_ | refine a_lens ?_ | refine a_pick_t ?_ | refine a_pick_f ?_ | refine a_not ?_ | refine a_nilf ?_ | (refine o_nil (hK _ _ ?_); clear hK K) | refine wk_reg ?_ | refine wk_seq fun K hK => ?_ | (refine wk_skip (hK _ _ ?_); clear hK K) | (refine wk_label (hK _ _ ?_); clear hK K) | refine wk_scope ?_ | refine wk_block ?_ | refine wk_cond_t rfl ?_ | refine wk_cond_f rfl ?_ | (refine wk_exit ?_; (repeat (refine blockK_other rfl ?_)); refine blockK_same ?_; try ((repeat ((fail_if_success (refine hK _ _ ?_)); clear hK K)); refine hK _ _ ?_; clear hK K)) | (refine a_bin ?_ ?_ <;> intro _ <;> try (exfalso; omega)) | refine a_ld hl ?_ | (refine a_st hl ?_; clear hl; intro _ hl) | refine a_ix (fun _ => ?_) | fail)
      refine a_fn (lacks_calls (h.ext hl8.done) a b hlen) ?_
      rintro v9 w9 ⟨acc9, hl9, hc9⟩
      have hl9' := hl8.ext hl9.done
      refine o_appendS (bl' := [(b7, .cells #[str sLacks] 9 (0, 0))]) (k := 1) (bytes := 16) (q := (lacks s a b).length) (us := strL (lacks s a b)) hl9' hc8 (LH.acc_sl (l := []) hl9 hc9) (strL_len _) (by decide) (strL_one _) (by omega) (by omega) rfl rfl rfl rfl rfl rfl ?_
      intro v10 w10 acc10 hl10 hc10
      repeat' (first | refine a_mov ?_ | refine a_asg ?_ | refine a_binN ?_ | refine a_notd ?_ | refine a_notb ?_ | refine a_nilc ?_ | refine a_fa ?_ | refine a_ext ?_ | refine a_lenv ?_ | refine a_lens ?_ | refine a_pick_t ?_ | refine a_pick_f ?_ | refine a_not ?_ | refine a_nilf ?_ | (refine o_nil (hK _ _ ?_); clear hK K) | refine wk_reg ?_ | refine wk_seq fun K hK => ?_ | (refine wk_skip (hK _ _ ?_); clear hK K) | (refine wk_label (hK _ _ ?_); clear hK K) | refine wk_scope ?_ | refine wk_block ?_ | refine wk_cond_t rfl ?_ | refine wk_cond_f rfl ?_ | (refine wk_exit ?_; (repeat (refine blockK_other rfl ?_)); refine blockK_same ?_; try ((repeat ((fail_if_success (refine hK _ _ ?_)); clear hK K)); refine hK _ _ ?_; clear hK K)) | (refine a_bin ?_ ?_ <;> intro _ <;> try (exfalso; omega)) | refine a_ld hl ?_ | (refine a_st hl ?_; clear hl; intro _ hl) | refine a_ix (fun _ => ?_) | fail)
      refine o_nil ⟨(b + 1, v10), ⟨rfl, rfl, rfl, rfl, rfl, trivial⟩, rfl, ⟨hbn, acc10, hl10.sub (List.sublist_cons_self _ _), accCast hc10 (by rw [vLacks_succ]; simp; omega) (by rw [vLacks_succ]; simp [strL])⟩, ?_⟩
      show s.n - (b + 1) < s.n - b; omega
    · obtain rfl : b = s.n := by omega
      repeat' (first | refine a_mov ?_ | refine a_asg ?_ | refine a_binN ?_ | refine a_notd ?_ | refine a_notb ?_ | refine a_nilc ?_ | refine a_fa ?_ | refine a_ext ?_ | refine a_lenv ?_ | refine a_lens ?_ | refine a_pick_t ?_ | refine a_pick_f ?_ | refine a_not ?_ | refine a_nilf ?_ | (refine o_nil (hK _ _ ?_); clear hK K) | refine wk_reg ?_ | refine wk_seq fun K hK => ?_ | (refine wk_skip (hK _ _ ?_); clear hK K) | (refine wk_label (hK _ _ ?_); clear hK K) | refine wk_scope ?_ | refine wk_block ?_ | refine wk_cond_t rfl ?_ | refine wk_cond_f rfl ?_ | (refine wk_exit ?_; (repeat (refine blockK_other rfl ?_)); refine blockK_same ?_; try ((repeat ((fail_if_success (refine hK _ _ ?_)); clear hK K)); refine hK _ _ ?_; clear hK K)) | (refine a_bin ?_ ?_ <;> intro _ <;> try (exfalso; omega)) | refine a_ld hl ?_ | (refine a_st hl ?_; clear hl; intro _ hl) | refine a_ix (fun _ => ?_) | fail)
      refine o_nil ⟨(a + 1, v6), ⟨rfl, rfl, rfl, rfl, trivial⟩, rfl, ⟨ha1, acc6, hl6, accCast hc6 (by rw [vAll_succ]; rfl) (by rw [vAll_succ]; rfl)⟩, ?_⟩
      show s.n - (a + 1) < s.n - a; omega
  · obtain rfl : a = s.n := by omega
    repeat' (first | refine a_mov ?_ | refine a_asg ?_ | refine a_binN ?_ | refine a_notd ?_ | refine a_notb ?_ | refine a_nilc ?_ | refine a_fa ?_ | refine a_ext ?_ | refine a_lenv ?_ | refine a_lens ?_ | refine a_pick_t ?_ | refine a_pick_f ?_ | refine a_not ?_ | refine a_nilf ?_ | (refine o_nil (hK _ _ ?_); clear hK K) | refine wk_reg ?_ | refine wk_seq fun K hK => ?_ | (refine wk_skip (hK _ _ ?_); clear hK K) | (refine wk_label (hK _ _ ?_); clear hK K) | refine wk_scope ?_ | refine wk_block ?_ | refine wk_cond_t rfl ?_ | refine wk_cond_f rfl ?_ | (refine wk_exit ?_; (repeat (refine blockK_other rfl ?_)); refine blockK_same ?_; try ((repeat ((fail_if_success (refine hK _ _ ?_)); clear hK K)); refine hK _ _ ?_; clear hK K)) | (refine a_bin ?_ ?_ <;> intro _ <;> try (exfalso; omega)) | refine a_ld hl ?_ | (refine a_st hl ?_; clear hl; intro _ hl) | refine a_ix (fun _ => ?_) | fail)
    refine wk_ret (retQ_tmp1 Try.results30 (by decide) rfl (by conv => lhs; whnf) ?_)
    exact ⟨acc1, hl1, hc1⟩
end Go.Proofs
