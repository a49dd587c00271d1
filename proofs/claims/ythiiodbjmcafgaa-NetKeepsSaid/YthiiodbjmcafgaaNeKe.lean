/-
  A network: the law NetKeeps.
-/
import Derived.Test.YthiiodbjmcafgaaNeX
set_option linter.unusedVariables false
set_option linter.unusedSimpArgs false
set_option linter.unnecessarySimpa false
set_option maxRecDepth 10000
namespace Go.Proofs
open Go Go.Pd Go.Ne
attribute [local irreducible] OpsL W RetQ OpsQ OpsC
theorem Sl.vals {w : World} {v : Value} {vs : List Value} (hv : Sl w v 1 vs) : ∃ a c, v = .slice a vs.length c ∧ ∀ k (hk : k < vs.length), ∃ b o, a = some ⟨b, o, none⟩ ∧ Row w b (o + k * 1) [vs[k]] := by
  obtain ⟨pa, ca, rfl, -⟩ := hv.shape (show vs.length = vs.length * 1 by omega) (by omega)
  refine ⟨pa, ca, rfl, fun k hk => ?_⟩
  obtain ⟨b, o, h1, h2⟩ := hv.at (show vs.length = vs.length * 1 by omega) (by omega) (by omega)
  refine ⟨b, o, h1, ?_⟩
  intro j v hj
  cases j with
  | zero =>
    simp at hj
    subst hj
    exact h2 (k * 1) _ (by simp [hk])
  | succ j => simp at hj
theorem shortB_txt {l : List Opn} {m : Nat} (h : shortB l m = true) : ∀ o ∈ l, o.text.length ≤ 100 := fun o ho => by
  unfold shortB at h
  rw [Bool.and_eq_true] at h
  exact of_decide_eq_true (List.all_eq_true.1 h.2 o ho)
section
variable {w0 : World} {s : Net} {p : Nat} {ks : List (Value × List Value)} {mb : Nat} {l : List Tx} {w : World}
theorem HasM.hasF (h : HasM w0 s p ks mb l w) (i : Nat) : Calls Try.prog 22 #[.pointer (some ⟨p, 0, none⟩), .int .i64 (i : Int)] w (fun e w' => ∃ v, e = .returned v ∧ Fresh w w' v (Ne.has s i)) := by
  obtain ⟨h0, bl, es, c, h1, h2, hm, h3⟩ := h
  exact has_calls h2 i (fun a => Nat.le_trans (h0.len a) (by omega))
/-- Slices in memory made since are kept. -/
theorem HasM.keeps {w' : World} (h : HasM w0 s p [] mb l w) (e : Ext w w') (hk : ∀ q ∈ ks, ∃ acc E m, LH w (fun _ => False) w' acc ∧ Acc q.1 1 E m q.2 acc) : HasM w0 s p ks mb l w' := by
  obtain ⟨h0, bl, es, c, h1, h2, h3, h4⟩ := h
  refine ⟨h0, bl, es, c, h1.ext e, h2.ext e, h3, fun q hq => ?_⟩
  obtain ⟨acc, E, m, hl, ha⟩ := hk q hq
  exact SlO.fresh hl ha fun z hz => h1.lt (List.mem_append_left _ hz)
end
/-- The lists that were, so far. -/
def Was (s : Net) (w : World) (wv : Value) (k : Nat) (vf : Nat → Value) (w' : World) : Prop := ∃ acc kb, LH w (fun _ => False) w' (kb ++ acc) ∧ Acc wv 1 39 k ((List.range k).map vf) acc ∧ ∀ j, j < k → ∃ a, a.Sublist kb ∧ Acc (vf j) 1 9 (has s j).length (strL (has s j)) a
def wasK (s : Net) (wv : Value) (n : Nat) (vf : Nat → Value) : List (Value × List Value) := (wv, (List.range n).map vf) :: (List.range n).map fun j => (vf j, strL (has s j))
theorem Was.keeps {w0 : World} {s : Net} {p mb : Nat} {l : List Tx} {w w' : World} {wv : Value} {n : Nat} {vf : Nat → Value} (h : HasM w0 s p [] mb l w) (hw : Was s w wv n vf w') : HasM w0 s p (wasK s wv n vf) mb l w' := by
  obtain ⟨acc, kb, hl, ha, hj⟩ := hw
  refine h.keeps hl.done fun q hq => ?_
  rcases List.mem_cons.1 hq with rfl | hq
  · exact ⟨acc, _, _, hl.sub (List.sublist_append_right _ _), ha⟩
  · obtain ⟨j, hjm, rfl⟩ := List.mem_map.1 hq
    obtain ⟨a, h1, h2⟩ := hj j (List.mem_range.1 hjm)
    exact ⟨a, _, _, hl.sub (h1.trans (List.sublist_append_left _ _)), h2⟩

set_option maxHeartbeats 1000000 in
theorem keeps_calls {raw : Nat} (hr : raw < 256) {l : List Opn} {v : Value} {w : World} (hv : Sl w v 6 (opsC l)) (hlen : l.length ≤ 9223372036854775806) (hok : ∀ o ∈ l, OpOK o) :
    Calls Try.prog 4 #[.int .u8 (raw : Int), v] w (fun e w' => ∃ u, e = .returned u ∧ u = .bool true ∧ Ext w w') := by
  obtain ⟨pa, ca, rfl, -⟩ := hv.shape (opsC_len l) (by omega)
  refine calls_of Try.func4 rfl Try.ntmps4 rfl ?_
  repeat' (first | refine a_mov ?_ | refine a_asg ?_ | refine a_binN ?_ | refine a_notd ?_ | refine a_notb ?_ | refine a_nilc ?_ | refine a_fa ?_ | refine a_ext ?_ | refine a_lenv ?_ | refine a_lens ?_ | refine a_pick_t ?_ | refine a_pick_f ?_ | refine a_not ?_ | refine a_nilf ?_ | (refine o_nil (hK _ _ ?_); clear hK K) | refine wk_reg ?_ | refine wk_seq fun K hK => ?_ | (refine wk_skip (hK _ _ ?_); clear hK K) | (refine wk_label (hK _ _ ?_); clear hK K) | refine wk_scope ?_ | refine wk_block ?_ | refine wk_cond_t rfl ?_ | refine wk_cond_f rfl ?_ | (refine wk_exit ?_; (repeat (refine blockK_other rfl ?_)); refine blockK_same ?_; try ((repeat ((fail_if_success (refine hK _ _ ?_)); clear hK K)); refine hK _ _ ?_; clear hK K)) | (refine a_bin ?_ ?_ <;> intro _ <;> try (exfalso; omega)) | refine a_ld hl ?_ | (refine a_st hl ?_; clear hl; intro _ hl) | refine a_ix (fun _ => ?_) | fail)
  refine a_fn (head_calls w) ?_
  rintro _ w1 ⟨rfl, he1⟩
  repeat' (first | refine a_mov ?_ | refine a_asg ?_ | refine a_binN ?_ | refine a_notd ?_ | refine a_notb ?_ | refine a_nilc ?_ | refine a_fa ?_ | refine a_ext ?_ | refine a_lenv ?_ | refine a_lens ?_ | refine a_pick_t ?_ | refine a_pick_f ?_ | refine a_not ?_ | refine a_nilf ?_ | (refine o_nil (hK _ _ ?_); clear hK K) | refine wk_reg ?_ | refine wk_seq fun K hK => ?_ | (refine wk_skip (hK _ _ ?_); clear hK K) | (refine wk_label (hK _ _ ?_); clear hK K) | refine wk_scope ?_ | refine wk_block ?_ | refine wk_cond_t rfl ?_ | refine wk_cond_f rfl ?_ | (refine wk_exit ?_; (repeat (refine blockK_other rfl ?_)); refine blockK_same ?_; try ((repeat ((fail_if_success (refine hK _ _ ?_)); clear hK K)); refine hK _ _ ?_; clear hK K)) | (refine a_bin ?_ ?_ <;> intro _ <;> try (exfalso; omega)) | refine a_ld hl ?_ | (refine a_st hl ?_; clear hl; intro _ hl) | refine a_ix (fun _ => ?_) | fail)
  refine a_fn (short_calls 80 (hv.ext he1) hlen (by omega)) ?_
  rintro _ w2 ⟨rfl, he2⟩
  cases hsh : shortB l 80
  · repeat' (first | refine a_mov ?_ | refine a_asg ?_ | refine a_binN ?_ | refine a_notd ?_ | refine a_notb ?_ | refine a_nilc ?_ | refine a_fa ?_ | refine a_ext ?_ | refine a_lenv ?_ | refine a_lens ?_ | refine a_pick_t ?_ | refine a_pick_f ?_ | refine a_not ?_ | refine a_nilf ?_ | (refine o_nil (hK _ _ ?_); clear hK K) | refine wk_reg ?_ | refine wk_seq fun K hK => ?_ | (refine wk_skip (hK _ _ ?_); clear hK K) | (refine wk_label (hK _ _ ?_); clear hK K) | refine wk_scope ?_ | refine wk_block ?_ | refine wk_cond_t rfl ?_ | refine wk_cond_f rfl ?_ | (refine wk_exit ?_; (repeat (refine blockK_other rfl ?_)); refine blockK_same ?_; try ((repeat ((fail_if_success (refine hK _ _ ?_)); clear hK K)); refine hK _ _ ?_; clear hK K)) | (refine a_bin ?_ ?_ <;> intro _ <;> try (exfalso; omega)) | refine a_ld hl ?_ | (refine a_st hl ?_; clear hl; intro _ hl) | refine a_ix (fun _ => ?_) | fail)
    refine wk_ret (retQ_tmp1 Try.results4 (by decide) rfl (by conv => lhs; whnf) ?_)
    exact ⟨rfl, he1.trans he2⟩
  have hl80 := shortB_iff hsh
  have htx : ∀ o ∈ l, o.text.length ≤ 100 := shortB_txt hsh
  repeat' (first | refine a_mov ?_ | refine a_asg ?_ | refine a_binN ?_ | refine a_notd ?_ | refine a_notb ?_ | refine a_nilc ?_ | refine a_fa ?_ | refine a_ext ?_ | refine a_lenv ?_ | refine a_lens ?_ | refine a_pick_t ?_ | refine a_pick_f ?_ | refine a_not ?_ | refine a_nilf ?_ | (refine o_nil (hK _ _ ?_); clear hK K) | refine wk_reg ?_ | refine wk_seq fun K hK => ?_ | (refine wk_skip (hK _ _ ?_); clear hK K) | (refine wk_label (hK _ _ ?_); clear hK K) | refine wk_scope ?_ | refine wk_block ?_ | refine wk_cond_t rfl ?_ | refine wk_cond_f rfl ?_ | (refine wk_exit ?_; (repeat (refine blockK_other rfl ?_)); refine blockK_same ?_; try ((repeat ((fail_if_success (refine hK _ _ ?_)); clear hK K)); refine hK _ _ ?_; clear hK K)) | (refine a_bin ?_ ?_ <;> intro _ <;> try (exfalso; omega)) | refine a_ld hl ?_ | (refine a_st hl ?_; clear hl; intro _ hl) | refine a_ix (fun _ => ?_) | fail)
  refine a_fn (sizeN_calls hr w2) ?_
  rintro _ w3 ⟨rfl, he3⟩
  generalize hnn : 1 + raw % 8 = n
  have hn : 1 ≤ n ∧ n ≤ 8 := by omega
  repeat' (first | refine a_mov ?_ | refine a_asg ?_ | refine a_binN ?_ | refine a_notd ?_ | refine a_notb ?_ | refine a_nilc ?_ | refine a_fa ?_ | refine a_ext ?_ | refine a_lenv ?_ | refine a_lens ?_ | refine a_pick_t ?_ | refine a_pick_f ?_ | refine a_not ?_ | refine a_nilf ?_ | (refine o_nil (hK _ _ ?_); clear hK K) | refine wk_reg ?_ | refine wk_seq fun K hK => ?_ | (refine wk_skip (hK _ _ ?_); clear hK K) | (refine wk_label (hK _ _ ?_); clear hK K) | refine wk_scope ?_ | refine wk_block ?_ | refine wk_cond_t rfl ?_ | refine wk_cond_f rfl ?_ | (refine wk_exit ?_; (repeat (refine blockK_other rfl ?_)); refine blockK_same ?_; try ((repeat ((fail_if_success (refine hK _ _ ?_)); clear hK K)); refine hK _ _ ?_; clear hK K)) | (refine a_bin ?_ ?_ <;> intro _ <;> try (exfalso; omega)) | refine a_ld hl ?_ | (refine a_st hl ?_; clear hl; intro _ hl) | refine a_ix (fun _ => ?_) | fail)
  refine a_fn (new1_calls n hn w3) ?_
  rintro _ w4 ⟨p, rfl, hN⟩
  have hx3 : Ext w w3 := he1.trans (he2.trans he3)
  repeat' (first | refine a_mov ?_ | refine a_asg ?_ | refine a_binN ?_ | refine a_notd ?_ | refine a_notb ?_ | refine a_nilc ?_ | refine a_fa ?_ | refine a_ext ?_ | refine a_lenv ?_ | refine a_lens ?_ | refine a_pick_t ?_ | refine a_pick_f ?_ | refine a_not ?_ | refine a_nilf ?_ | (refine o_nil (hK _ _ ?_); clear hK K) | refine wk_reg ?_ | refine wk_seq fun K hK => ?_ | (refine wk_skip (hK _ _ ?_); clear hK K) | (refine wk_label (hK _ _ ?_); clear hK K) | refine wk_scope ?_ | refine wk_block ?_ | refine wk_cond_t rfl ?_ | refine wk_cond_f rfl ?_ | (refine wk_exit ?_; (repeat (refine blockK_other rfl ?_)); refine blockK_same ?_; try ((repeat ((fail_if_success (refine hK _ _ ?_)); clear hK K)); refine hK _ _ ?_; clear hK K)) | (refine a_bin ?_ ?_ <;> intro _ <;> try (exfalso; omega)) | refine a_ld hl ?_ | (refine a_st hl ?_; clear hl; intro _ hl) | refine a_ix (fun _ => ?_) | fail)
  refine o_makeMap (LH.start w4 (fun _ => False)) rfl ?_
  rintro mb w5 - hl5
  have hM := HasM.mk hN.k hl5
  clear hN hl5
  repeat' (first | refine a_mov ?_ | refine a_asg ?_ | refine a_binN ?_ | refine a_notd ?_ | refine a_notb ?_ | refine a_nilc ?_ | refine a_fa ?_ | refine a_ext ?_ | refine a_lenv ?_ | refine a_lens ?_ | refine a_pick_t ?_ | refine a_pick_f ?_ | refine a_not ?_ | refine a_nilf ?_ | (refine o_nil (hK _ _ ?_); clear hK K) | refine wk_reg ?_ | refine wk_seq fun K hK => ?_ | (refine wk_skip (hK _ _ ?_); clear hK K) | (refine wk_label (hK _ _ ?_); clear hK K) | refine wk_scope ?_ | refine wk_block ?_ | refine wk_cond_t rfl ?_ | refine wk_cond_f rfl ?_ | (refine wk_exit ?_; (repeat (refine blockK_other rfl ?_)); refine blockK_same ?_; try ((repeat ((fail_if_success (refine hK _ _ ?_)); clear hK K)); refine hK _ _ ?_; clear hK K)) | (refine a_bin ?_ ?_ <;> intro _ <;> try (exfalso; omega)) | refine a_ld hl ?_ | (refine a_st hl ?_; clear hl; intro _ hl) | refine a_ix (fun _ => ?_) | fail)
  refine wk_loopH [] rfl (fun k : Nat => [(1, .slice pa l.length ca), (5, .bool true), (6, .int .i64 (n : Int)), (7, .pointer (some ⟨p, 0, none⟩)), (9, .map (some mb)), (10, .int .i64 (k : Int))]) (fun k w' => k ≤ l.length ∧ Held (doAll (Ne.new n) (l.take k)) k ∧ HasM w3 (doAll (Ne.new n) (l.take k)) p [] mb (doAll (Ne.new n) (l.take k)).all w') (fun k => l.length - k) 0 ⟨rfl, rfl, rfl, rfl, rfl, rfl, trivial⟩ ⟨Nat.zero_le _, Held.new n, hM⟩ ?_
  clear hM
  rintro k t5 w6 ⟨hk, hH, hM⟩
  have hnN : n = (doAll (Ne.new n) (l.take k)).n := by rw [n_doAll]; rfl
  by_cases hk1 : k < l.length
  · have hox := hok _ (List.getElem_mem hk1)
    have htt := htx _ (List.getElem_mem hk1)
    have hal := all_doOp hH (by omega) (by omega) l[k] (by omega)
    have hH' := hH.doOp (by omega) (by omega) l[k] (by omega)
    have hgr := doOp_grows (doAll (Ne.new n) (l.take k)) l[k]
    rw [← doAll_succ _ _ hk1] at hal hH' hgr
    have hnN' : n = (doAll (Ne.new n) (l.take (k + 1))).n := by rw [n_doAll]; rfl
    have hsuc := doAll_succ (Ne.new n) _ hk1
    generalize hs1 : doAll (Ne.new n) (l.take (k + 1)) = s1 at hal hH' hgr hnN' hsuc
    generalize doAll (Ne.new n) (l.take k) = s at hM hH hnN hal hgr hsuc
    repeat' (first | refine a_mov ?_ | refine a_asg ?_ | refine a_binN ?_ | refine a_notd ?_ | refine a_notb ?_ | refine a_nilc ?_ | refine a_fa ?_ | refine a_ext ?_ | refine a_lenv ?_ | refine a_lens ?_ | refine a_pick_t ?_ | refine a_pick_f ?_ | refine a_not ?_ | refine a_nilf ?_ | (refine o_nil (hK _ _ ?_); clear hK K) | refine wk_reg ?_ | refine wk_seq fun K hK => ?_ | (refine wk_skip (hK _ _ ?_); clear hK K) | (refine wk_label (hK _ _ ?_); clear hK K) | refine wk_scope ?_ | refine wk_block ?_ | refine wk_cond_t rfl ?_ | refine wk_cond_f rfl ?_ | (refine wk_exit ?_; (repeat (refine blockK_other rfl ?_)); refine blockK_same ?_; try ((repeat ((fail_if_success (refine hK _ _ ?_)); clear hK K)); refine hK _ _ ?_; clear hK K)) | (refine a_bin ?_ ?_ <;> intro _ <;> try (exfalso; omega)) | refine a_ld hl ?_ | (refine a_st hl ?_; clear hl; intro _ hl) | refine a_ix (fun _ => ?_) | fail)
    have hKK := hK
    clear hK
    refine wk_loopH [] rfl (fun z : Nat × Value => [(1, .slice pa l.length ca), (5, .bool true), (6, .int .i64 (n : Int)), (7, .pointer (some ⟨p, 0, none⟩)), (9, .map (some mb)), (10, .int .i64 (k : Int)), (11, z.2), (12, .int .i64 (z.1 : Int))]) (fun z w' => z.1 ≤ n ∧ ∃ vf, Was s w6 z.2 z.1 vf w') (fun z => n - z.1) (0, .slice none 0 0) ⟨rfl, rfl, rfl, rfl, rfl, rfl, rfl, rfl, trivial⟩ ⟨Nat.zero_le _, fun _ => .bool true, [], [], LH.start w6 _, Acc.nil _ _, fun j h => absurd h (Nat.not_lt_zero j)⟩ ?_
    rintro ⟨c, wv⟩ t7 w7 ⟨hc, vf, hW⟩
    dsimp only at hc hW ⊢
    obtain ⟨pw, cw, rfl⟩ : ∃ a c', wv = .slice a c c' := by
      obtain ⟨acc, kb, hl7, ha7, hj7⟩ := hW
      exact ha7.shape
    by_cases hc1 : c < n
    · obtain ⟨acc, kb, hl7, ha7, hj7⟩ := hW
      repeat' (first | refine a_mov ?_ | refine a_asg ?_ | refine a_binN ?_ | refine a_notd ?_ | refine a_notb ?_ | refine a_nilc ?_ | refine a_fa ?_ | refine a_ext ?_ | refine a_lenv ?_ | refine a_lens ?_ | refine a_pick_t ?_ | refine a_pick_f ?_ | refine a_not ?_ | refine a_nilf ?_ | (refine o_nil (hK _ _ ?_); clear hK K) | refine wk_reg ?_ | refine wk_seq fun K hK => ?_ | (refine wk_skip (hK _ _ ?_); clear hK K) | (refine wk_label (hK _ _ ?_); clear hK K) | refine wk_scope ?_ | refine wk_block ?_ | refine wk_cond_t rfl ?_ | refine wk_cond_f rfl ?_ | (refine wk_exit ?_; (repeat (refine blockK_other rfl ?_)); refine blockK_same ?_; try ((repeat ((fail_if_success (refine hK _ _ ?_)); clear hK K)); refine hK _ _ ?_; clear hK K)) | (refine a_bin ?_ ?_ <;> intro _ <;> try (exfalso; omega)) | refine a_ld hl ?_ | (refine a_st hl ?_; clear hl; intro _ hl) | refine a_ix (fun _ => ?_) | fail)
      refine o_buildSlice0 (bl := kb ++ acc) hl7 rfl rfl rfl ?_
      intro b8 w8 hb8 hl8
      repeat' (first | refine a_mov ?_ | refine a_asg ?_ | refine a_binN ?_ | refine a_notd ?_ | refine a_notb ?_ | refine a_nilc ?_ | refine a_fa ?_ | refine a_ext ?_ | refine a_lenv ?_ | refine a_lens ?_ | refine a_pick_t ?_ | refine a_pick_f ?_ | refine a_not ?_ | refine a_nilf ?_ | (refine o_nil (hK _ _ ?_); clear hK K) | refine wk_reg ?_ | refine wk_seq fun K hK => ?_ | (refine wk_skip (hK _ _ ?_); clear hK K) | (refine wk_label (hK _ _ ?_); clear hK K) | refine wk_scope ?_ | refine wk_block ?_ | refine wk_cond_t rfl ?_ | refine wk_cond_f rfl ?_ | (refine wk_exit ?_; (repeat (refine blockK_other rfl ?_)); refine blockK_same ?_; try ((repeat ((fail_if_success (refine hK _ _ ?_)); clear hK K)); refine hK _ _ ?_; clear hK K)) | (refine a_bin ?_ ?_ <;> intro _ <;> try (exfalso; omega)) | refine a_ld hl ?_ | (refine a_st hl ?_; clear hl; intro _ hl) | refine a_ix (fun _ => ?_) | fail)
      refine a_fn ((hM.ext hl8.done).hasF c) ?_
      rintro v9 w9 hF9
      obtain ⟨hs9, he9⟩ := hF9.sl
      have hlh : (has s c).length ≤ 1000 := Nat.le_trans (has_len s c) (hM.1.len c)
      refine o_appendS (bl' := kb ++ acc) (acc := [(b8, .cells #[] 9 (0, 0))]) (k := 1) (bytes := 16) (q := (has s c).length) (us := strL (has s c)) ((hl8.ext he9).perm (List.perm_append_comm (l₁ := [(b8, Obj.cells #[] 9 (0, 0))]) (l₂ := kb ++ acc))) (Acc.empty 1 9 b8) hs9 (strL_len _) (by decide) (strL_one _) (by omega) (by omega) rfl rfl rfl rfl rfl rfl ?_
      intro v10 w10 acc10 hl10 ha10
      rw [Nat.zero_add, List.nil_append] at ha10
      obtain ⟨p10, c10, hv10⟩ := ha10.shape
      repeat' (first | refine a_mov ?_ | refine a_asg ?_ | refine a_binN ?_ | refine a_notd ?_ | refine a_notb ?_ | refine a_nilc ?_ | refine a_fa ?_ | refine a_ext ?_ | refine a_lenv ?_ | refine a_lens ?_ | refine a_pick_t ?_ | refine a_pick_f ?_ | refine a_not ?_ | refine a_nilf ?_ | (refine o_nil (hK _ _ ?_); clear hK K) | refine wk_reg ?_ | refine wk_seq fun K hK => ?_ | (refine wk_skip (hK _ _ ?_); clear hK K) | (refine wk_label (hK _ _ ?_); clear hK K) | refine wk_scope ?_ | refine wk_block ?_ | refine wk_cond_t rfl ?_ | refine wk_cond_f rfl ?_ | (refine wk_exit ?_; (repeat (refine blockK_other rfl ?_)); refine blockK_same ?_; try ((repeat ((fail_if_success (refine hK _ _ ?_)); clear hK K)); refine hK _ _ ?_; clear hK K)) | (refine a_bin ?_ ?_ <;> intro _ <;> try (exfalso; omega)) | refine a_ld hl ?_ | (refine a_st hl ?_; clear hl; intro _ hl) | refine a_ix (fun _ => ?_) | fail)
      refine o_buildSlice (bl := kb ++ acc ++ acc10) hl10 [v10] rfl rfl (by rw [hv10]; kernel_rfl) ?_
      intro b11 w11 hb11 hl11
      have hrow := hl11.rowL (vs := [v10]) 0 0 1 rfl
      have hl12 := (hl11.sub (List.sublist_cons_self _ _)).perm (show (kb ++ acc ++ acc10).Perm (acc10 ++ kb ++ acc) from List.perm_append_comm.trans (by rw [List.append_assoc]))
      refine o_append (bl' := acc10 ++ kb) (acc := acc) (k := 1) (bytes := 24) (q := 1) (us := [v10]) hl12 ha7 hrow rfl (by rw [hv10]; rfl) (by omega) (by omega) (by omega) rfl rfl rfl rfl rfl ?_
      intro v13 w13 acc13 hl13 ha13
      repeat' (first | refine a_mov ?_ | refine a_asg ?_ | refine a_binN ?_ | refine a_notd ?_ | refine a_notb ?_ | refine a_nilc ?_ | refine a_fa ?_ | refine a_ext ?_ | refine a_lenv ?_ | refine a_lens ?_ | refine a_pick_t ?_ | refine a_pick_f ?_ | refine a_not ?_ | refine a_nilf ?_ | (refine o_nil (hK _ _ ?_); clear hK K) | refine wk_reg ?_ | refine wk_seq fun K hK => ?_ | (refine wk_skip (hK _ _ ?_); clear hK K) | (refine wk_label (hK _ _ ?_); clear hK K) | refine wk_scope ?_ | refine wk_block ?_ | refine wk_cond_t rfl ?_ | refine wk_cond_f rfl ?_ | (refine wk_exit ?_; (repeat (refine blockK_other rfl ?_)); refine blockK_same ?_; try ((repeat ((fail_if_success (refine hK _ _ ?_)); clear hK K)); refine hK _ _ ?_; clear hK K)) | (refine a_bin ?_ ?_ <;> intro _ <;> try (exfalso; omega)) | refine a_ld hl ?_ | (refine a_st hl ?_; clear hl; intro _ hl) | refine a_ix (fun _ => ?_) | fail)
      refine o_nil ⟨(c + 1, v13), ⟨rfl, rfl, rfl, rfl, rfl, rfl, rfl, rfl, trivial⟩, rfl, ⟨hc1, upd vf c v10, acc13, acc10 ++ kb, hl13, ?_, fun j hj => ?_⟩, ?_⟩
      · refine accCast ha13 rfl ?_
        rw [List.range_succ, List.map_append]
        congr 1
        · exact List.map_congr_left fun j hj => by rw [upd_ne _ _ (by have := List.mem_range.1 hj; omega)]
        · simp only [List.map_cons, List.map_nil, upd_same]
      · by_cases e : j = c
        · subst e
          rw [upd_same]
          exact ⟨acc10, List.sublist_append_left _ _, ha10⟩
        · obtain ⟨a, h1, h2⟩ := hj7 j (by omega)
          rw [upd_ne _ _ e]
          exact ⟨a, h1.trans (List.sublist_append_right _ _), h2⟩
      · show n - (c + 1) < n - c; omega
    · have hcn : c = n := by omega
      replace hM := hW.keeps hM
      clear hW
      replace hM : HasM w3 s p (wasK s (.slice pw c cw) n vf) mb s.all w7 := by rw [hcn] at hM ⊢; exact hM
      obtain ⟨b, o, hpp, hr⟩ := Sl.op (hv.ext (hx3.trans hM.done)) rfl hk1
      have hox' := hox
      obtain ⟨ho1, ho2, ho3, -⟩ := hox
      have hbeg : ∀ j, j < n → (has s j).length ≤ (has s1 j).length ∧ (has s1 j).take (has s j).length = has s j := fun j hj => by
        obtain ⟨e, he⟩ := hgr j
        have e1 : has s j = texts s j := if_pos (by omega)
        have e2 : has s1 j = texts s1 j := if_pos (by omega)
        rw [e1, e2, he]
        exact ⟨by rw [List.length_append]; omega, by rw [List.take_left]⟩
      repeat' (first | refine a_mov ?_ | refine a_asg ?_ | refine a_binN ?_ | refine a_notd ?_ | refine a_notb ?_ | refine a_nilc ?_ | refine a_fa ?_ | refine a_ext ?_ | refine a_lenv ?_ | refine a_lens ?_ | refine a_pick_t ?_ | refine a_pick_f ?_ | refine a_not ?_ | refine a_nilf ?_ | (refine o_nil (hK _ _ ?_); clear hK K) | refine wk_reg ?_ | refine wk_seq fun K hK => ?_ | (refine wk_skip (hK _ _ ?_); clear hK K) | (refine wk_label (hK _ _ ?_); clear hK K) | refine wk_scope ?_ | refine wk_block ?_ | refine wk_cond_t rfl ?_ | refine wk_cond_f rfl ?_ | (refine wk_exit ?_; (repeat (refine blockK_other rfl ?_)); refine blockK_same ?_; try ((repeat ((fail_if_success (refine hK _ _ ?_)); clear hK K)); refine hK _ _ ?_; clear hK K)) | (refine a_bin ?_ ?_ <;> intro _ <;> try (exfalso; omega)) | refine a_ld hl ?_ | (refine a_st hl ?_; clear hl; intro _ hl) | refine a_ix (fun _ => ?_) | fail)
      refine hKK _ _ ?_
      clear hKK
      refine wk_seq fun K hK => ?_
      refine wk_cut [] (fun _ : Unit => [(1, .slice pa l.length ca), (5, .bool true), (6, .int .i64 (n : Int)), (7, .pointer (some ⟨p, 0, none⟩)), (9, .map (some mb)), (10, .int .i64 (k : Int)), (11, .slice pw c cw)]) (fun _ w' => HasM w3 s p (wasK s (.slice pw c cw) n vf) mb s1.all w') ?_ ?_
      · clear hK K
        repeat' (first | refine a_mov ?_ | refine a_asg ?_ | refine a_binN ?_ | refine a_notd ?_ | refine a_notb ?_ | refine a_nilc ?_ | refine a_fa ?_ | refine a_ext ?_ | refine a_lenv ?_ | refine a_lens ?_ | refine a_pick_t ?_ | refine a_pick_f ?_ | refine a_not ?_ | refine a_nilf ?_ | (refine o_nil (hK _ _ ?_); clear hK K) | refine wk_reg ?_ | refine wk_seq fun K hK => ?_ | (refine wk_skip (hK _ _ ?_); clear hK K) | (refine wk_label (hK _ _ ?_); clear hK K) | refine wk_scope ?_ | refine wk_block ?_ | refine wk_cond_t rfl ?_ | refine wk_cond_f rfl ?_ | (refine wk_exit ?_; (repeat (refine blockK_other rfl ?_)); refine blockK_same ?_; try ((repeat ((fail_if_success (refine hK _ _ ?_)); clear hK K)); refine hK _ _ ?_; clear hK K)) | (refine a_bin ?_ ?_ <;> intro _ <;> try (exfalso; omega)) | refine a_ld hl ?_ | (refine a_st hl ?_; clear hl; intro _ hl) | refine a_ix (fun _ => ?_) | refine a_idx (c := 6) k hpp ?_ | refine a_row hr ?_ | fail)
        refine o_remN (b := 4) rfl rfl rfl (by omega) ?_
        by_cases h0 : l[k].kind % 4 = 0
        · rw [if_pos h0] at hal
          repeat' (first | refine a_mov ?_ | refine a_asg ?_ | refine a_binN ?_ | refine a_notd ?_ | refine a_notb ?_ | refine a_nilc ?_ | refine a_fa ?_ | refine a_ext ?_ | refine a_lenv ?_ | refine a_lens ?_ | refine a_pick_t ?_ | refine a_pick_f ?_ | refine a_not ?_ | refine a_nilf ?_ | (refine o_nil (hK _ _ ?_); clear hK K) | refine wk_reg ?_ | refine wk_seq fun K hK => ?_ | (refine wk_skip (hK _ _ ?_); clear hK K) | (refine wk_label (hK _ _ ?_); clear hK K) | refine wk_scope ?_ | refine wk_block ?_ | refine wk_cond_t rfl ?_ | refine wk_cond_f rfl ?_ | (refine wk_exit ?_; (repeat (refine blockK_other rfl ?_)); refine blockK_same ?_; try ((repeat ((fail_if_success (refine hK _ _ ?_)); clear hK K)); refine hK _ _ ?_; clear hK K)) | (refine a_bin ?_ ?_ <;> intro _ <;> try (exfalso; omega)) | refine a_ld hl ?_ | (refine a_st hl ?_; clear hl; intro _ hl) | refine a_ix (fun _ => ?_) | refine a_idx (c := 6) k hpp ?_ | refine a_row hr ?_ | fail)
          obtain ⟨es, cc, hmb, hmr, hown, hmk⟩ := hM.map
          refine o_mapUpdate (v := .bool true) l[k].text hown 0 rfl hmr (key_str rfl) rfl rfl rfl rfl rfl ?_
          intro w8 es8 c8 hm8 hl8
          rw [boolM_ins, ← hal] at hm8
          exact o_nil ⟨(), ⟨rfl, rfl, rfl, rfl, rfl, rfl, rfl, trivial⟩, rfl, hmk w8 es8 c8 _ hl8 hm8⟩
        · rw [if_neg h0] at hal
          rw [← hal] at hM
          repeat' (first | refine a_mov ?_ | refine a_asg ?_ | refine a_binN ?_ | refine a_notd ?_ | refine a_notb ?_ | refine a_nilc ?_ | refine a_fa ?_ | refine a_ext ?_ | refine a_lenv ?_ | refine a_lens ?_ | refine a_pick_t ?_ | refine a_pick_f ?_ | refine a_not ?_ | refine a_nilf ?_ | (refine o_nil (hK _ _ ?_); clear hK K) | refine wk_reg ?_ | refine wk_seq fun K hK => ?_ | (refine wk_skip (hK _ _ ?_); clear hK K) | (refine wk_label (hK _ _ ?_); clear hK K) | refine wk_scope ?_ | refine wk_block ?_ | refine wk_cond_t rfl ?_ | refine wk_cond_f rfl ?_ | (refine wk_exit ?_; (repeat (refine blockK_other rfl ?_)); refine blockK_same ?_; try ((repeat ((fail_if_success (refine hK _ _ ?_)); clear hK K)); refine hK _ _ ?_; clear hK K)) | (refine a_bin ?_ ?_ <;> intro _ <;> try (exfalso; omega)) | refine a_ld hl ?_ | (refine a_st hl ?_; clear hl; intro _ hl) | refine a_ix (fun _ => ?_) | fail)
          exact wk_skip ⟨(), ⟨rfl, rfl, rfl, rfl, rfl, rfl, rfl, trivial⟩, rfl, hM⟩
      clear hM hpp hr
      rintro _ t8 w8 hM
      refine hK _ _ ?_
      clear hK K
      obtain ⟨b, o, hpp, hr⟩ := Sl.op (hv.ext (hx3.trans hM.done)) rfl hk1
      repeat' (first | refine a_mov ?_ | refine a_asg ?_ | refine a_binN ?_ | refine a_notd ?_ | refine a_notb ?_ | refine a_nilc ?_ | refine a_fa ?_ | refine a_ext ?_ | refine a_lenv ?_ | refine a_lens ?_ | refine a_pick_t ?_ | refine a_pick_f ?_ | refine a_not ?_ | refine a_nilf ?_ | (refine o_nil (hK _ _ ?_); clear hK K) | refine wk_reg ?_ | refine wk_seq fun K hK => ?_ | (refine wk_skip (hK _ _ ?_); clear hK K) | (refine wk_label (hK _ _ ?_); clear hK K) | refine wk_scope ?_ | refine wk_block ?_ | refine wk_cond_t rfl ?_ | refine wk_cond_f rfl ?_ | (refine wk_exit ?_; (repeat (refine blockK_other rfl ?_)); refine blockK_same ?_; try ((repeat ((fail_if_success (refine hK _ _ ?_)); clear hK K)); refine hK _ _ ?_; clear hK K)) | (refine a_bin ?_ ?_ <;> intro _ <;> try (exfalso; omega)) | refine a_ld hl ?_ | (refine a_st hl ?_; clear hl; intro _ hl) | refine a_ix (fun _ => ?_) | refine a_idx (c := 6) k hpp ?_ | refine a_all hr ?_ | fail)
      refine a_fn (hM.doOp l[k] hox' hnN) ?_
      clear hM
      rintro _ w9 hM
      rw [← hsuc] at hM
      repeat' (first | refine a_mov ?_ | refine a_asg ?_ | refine a_binN ?_ | refine a_notd ?_ | refine a_notb ?_ | refine a_nilc ?_ | refine a_fa ?_ | refine a_ext ?_ | refine a_lenv ?_ | refine a_lens ?_ | refine a_pick_t ?_ | refine a_pick_f ?_ | refine a_not ?_ | refine a_nilf ?_ | (refine o_nil (hK _ _ ?_); clear hK K) | refine wk_reg ?_ | refine wk_seq fun K hK => ?_ | (refine wk_skip (hK _ _ ?_); clear hK K) | (refine wk_label (hK _ _ ?_); clear hK K) | refine wk_scope ?_ | refine wk_block ?_ | refine wk_cond_t rfl ?_ | refine wk_cond_f rfl ?_ | (refine wk_exit ?_; (repeat (refine blockK_other rfl ?_)); refine blockK_same ?_; try ((repeat ((fail_if_success (refine hK _ _ ?_)); clear hK K)); refine hK _ _ ?_; clear hK K)) | (refine a_bin ?_ ?_ <;> intro _ <;> try (exfalso; omega)) | refine a_ld hl ?_ | (refine a_st hl ?_; clear hl; intro _ hl) | refine a_ix (fun _ => ?_) | fail)
      refine wk_loopH [] rfl (fun d : Nat => [(1, .slice pa l.length ca), (5, .bool true), (6, .int .i64 (n : Int)), (7, .pointer (some ⟨p, 0, none⟩)), (9, .map (some mb)), (10, .int .i64 (k : Int)), (11, .slice pw c cw), (13, .int .i64 (d : Int))]) (fun d w' => d ≤ n ∧ HasM w3 s1 p (wasK s (.slice pw c cw) n vf) mb s1.all w') (fun d => n - d) 0 ⟨rfl, rfl, rfl, rfl, rfl, rfl, rfl, rfl, trivial⟩ ⟨Nat.zero_le _, hM⟩ ?_
      clear hM
      rintro d t10 w10 ⟨hd, hM⟩
      by_cases hd1 : d < n
      · repeat' (first | refine a_mov ?_ | refine a_asg ?_ | refine a_binN ?_ | refine a_notd ?_ | refine a_notb ?_ | refine a_nilc ?_ | refine a_fa ?_ | refine a_ext ?_ | refine a_lenv ?_ | refine a_lens ?_ | refine a_pick_t ?_ | refine a_pick_f ?_ | refine a_not ?_ | refine a_nilf ?_ | (refine o_nil (hK _ _ ?_); clear hK K) | refine wk_reg ?_ | refine wk_seq fun K hK => ?_ | (refine wk_skip (hK _ _ ?_); clear hK K) | (refine wk_label (hK _ _ ?_); clear hK K) | refine wk_scope ?_ | refine wk_block ?_ | refine wk_cond_t rfl ?_ | refine wk_cond_f rfl ?_ | (refine wk_exit ?_; (repeat (refine blockK_other rfl ?_)); refine blockK_same ?_; try ((repeat ((fail_if_success (refine hK _ _ ?_)); clear hK K)); refine hK _ _ ?_; clear hK K)) | (refine a_bin ?_ ?_ <;> intro _ <;> try (exfalso; omega)) | refine a_ld hl ?_ | (refine a_st hl ?_; clear hl; intro _ hl) | refine a_ix (fun _ => ?_) | fail)
        refine a_fn (hM.has d) ?_
        clear hM
        rintro v11 w11 hM
        have ht1 : has s1 d = texts s1 d := if_pos (by omega)
        obtain ⟨hb1, hb2⟩ := hbeg d hd1
        have kw : Sl w11 (.slice pw c cw) 1 ((List.range n).map vf) := hM.sl (q := (.slice pw c cw, (List.range n).map vf)) (by simp [wasK])
        have kd : Sl w11 (vf d) 1 (strL (has s d)) := hM.sl (q := (vf d, strL (has s d))) (by simp only [wasK, List.mem_cons, List.mem_map, List.mem_range]; exact .inr (.inr ⟨d, hd1, rfl⟩))
        have k11 : Sl w11 v11 1 (strL (has s1 d)) := hM.sl (q := (v11, strL (has s1 d))) (by simp)
        have hlx := hM.1.len d
        have hnd := hM.1.inv.nd d
        have hon := hM.1.on d
        have hls : (has s d).length ≤ 1000 := by rw [ht1] at hb1; omega
        rw [ht1] at hb1 hb2 k11 hM
        generalize texts s1 d = tn at hb1 hb2 k11 hM hlx hnd hon
        obtain ⟨pw', cw', hwv, hrw⟩ := Sl.vals kw
        have hwl : ((List.range n).map vf).length = n := by simp
        obtain ⟨bq, oq, hpq, hrq⟩ := hrw d (by rw [hwl]; exact hd1)
        rw [show ((List.range n).map vf)[d]'(by rw [hwl]; exact hd1) = vf d by simp] at hrq
        injection hwv with hwv _ _
        rw [← hwv] at hpq
        repeat' (first | refine a_mov ?_ | refine a_asg ?_ | refine a_binN ?_ | refine a_notd ?_ | refine a_notb ?_ | refine a_nilc ?_ | refine a_fa ?_ | refine a_ext ?_ | refine a_lenv ?_ | refine a_lens ?_ | refine a_pick_t ?_ | refine a_pick_f ?_ | refine a_not ?_ | refine a_nilf ?_ | (refine o_nil (hK _ _ ?_); clear hK K) | refine wk_reg ?_ | refine wk_seq fun K hK => ?_ | (refine wk_skip (hK _ _ ?_); clear hK K) | (refine wk_label (hK _ _ ?_); clear hK K) | refine wk_scope ?_ | refine wk_block ?_ | refine wk_cond_t rfl ?_ | refine wk_cond_f rfl ?_ | (refine wk_exit ?_; (repeat (refine blockK_other rfl ?_)); refine blockK_same ?_; try ((repeat ((fail_if_success (refine hK _ _ ?_)); clear hK K)); refine hK _ _ ?_; clear hK K)) | (refine a_bin ?_ ?_ <;> intro _ <;> try (exfalso; omega)) | refine a_ld hl ?_ | (refine a_st hl ?_; clear hl; intro _ hl) | refine a_ix (fun _ => ?_) | refine a_idx (c := 1) d hpq ?_ | refine a_row hrq ?_ | fail)
        refine a_fn (begins_calls k11 kd (by omega) (by omega)) ?_
        rintro _ w12 ⟨rfl, he12⟩
        rw [decide_eq_true ⟨hb1, hb2⟩]
        replace hM := hM.ext he12
        obtain ⟨pn, cn, rfl⟩ : ∃ a c, v11 = .slice a tn.length c := by
          obtain ⟨a, c, h, -⟩ := k11.shape (strL_len tn) (by omega)
          exact ⟨a, c, h⟩
        clear kd kw k11 hrq hrw
        repeat' (first | refine a_mov ?_ | refine a_asg ?_ | refine a_binN ?_ | refine a_notd ?_ | refine a_notb ?_ | refine a_nilc ?_ | refine a_fa ?_ | refine a_ext ?_ | refine a_lenv ?_ | refine a_lens ?_ | refine a_pick_t ?_ | refine a_pick_f ?_ | refine a_not ?_ | refine a_nilf ?_ | (refine o_nil (hK _ _ ?_); clear hK K) | refine wk_reg ?_ | refine wk_seq fun K hK => ?_ | (refine wk_skip (hK _ _ ?_); clear hK K) | (refine wk_label (hK _ _ ?_); clear hK K) | refine wk_scope ?_ | refine wk_block ?_ | refine wk_cond_t rfl ?_ | refine wk_cond_f rfl ?_ | (refine wk_exit ?_; (repeat (refine blockK_other rfl ?_)); refine blockK_same ?_; try ((repeat ((fail_if_success (refine hK _ _ ?_)); clear hK K)); refine hK _ _ ?_; clear hK K)) | (refine a_bin ?_ ?_ <;> intro _ <;> try (exfalso; omega)) | refine a_ld hl ?_ | (refine a_st hl ?_; clear hl; intro _ hl) | refine a_ix (fun _ => ?_) | fail)
        refine wk_loopH [] rfl (fun m : Nat => [(1, .slice pa l.length ca), (5, .bool true), (6, .int .i64 (n : Int)), (7, .pointer (some ⟨p, 0, none⟩)), (9, .map (some mb)), (10, .int .i64 (k : Int)), (11, .slice pw c cw), (13, .int .i64 (d : Int)), (14, .slice pn tn.length cn), (15, .int .i64 (m : Int))]) (fun m w' => m ≤ tn.length ∧ HasM w3 s1 p ((.slice pn tn.length cn, strL tn) :: wasK s (.slice pw c cw) n vf) mb s1.all w') (fun m => tn.length - m) 0 ⟨rfl, rfl, rfl, rfl, rfl, rfl, rfl, rfl, rfl, rfl, trivial⟩ ⟨Nat.zero_le _, hM⟩ ?_
        clear hM
        rintro m t13 w13 ⟨hm, hM⟩
        have k13 : Sl w13 (.slice pn tn.length cn) 1 (strL tn) := hM.sl (q := (.slice pn tn.length cn, strL tn)) (by simp)
        by_cases hm1 : m < tn.length
        · obtain ⟨bm, om, hpm, hrm⟩ := Sl.tx k13 rfl hm1
          obtain ⟨es, cc, hmb, hmr, hown, -⟩ := hM.map
          have hmb' : ∀ w', Ext w13 w' → w'.heap[mb]? = some (.map es cc) := fun w' e => (hown.ext e).get 0 rfl
          have hget : get (boolM s1.all) tn[m] = some (.bool true) := by rw [boolM_get, if_pos (hon _ (List.getElem_mem hm1))]
          have hni : tn[m] ∉ tn.take m := fun h => by
            obtain ⟨j, hj, he⟩ := List.mem_iff_getElem.1 h
            rw [List.getElem_take] at he
            rw [List.length_take] at hj
            have := (List.getElem_inj hnd).1 he
            omega
          repeat' (first | refine a_mov ?_ | refine a_asg ?_ | refine a_binN ?_ | refine a_notd ?_ | refine a_notb ?_ | refine a_nilc ?_ | refine a_fa ?_ | refine a_ext ?_ | refine a_lenv ?_ | refine a_lens ?_ | refine a_pick_t ?_ | refine a_pick_f ?_ | refine a_not ?_ | refine a_nilf ?_ | (refine o_nil (hK _ _ ?_); clear hK K) | refine wk_reg ?_ | refine wk_seq fun K hK => ?_ | (refine wk_skip (hK _ _ ?_); clear hK K) | (refine wk_label (hK _ _ ?_); clear hK K) | refine wk_scope ?_ | refine wk_block ?_ | refine wk_cond_t rfl ?_ | refine wk_cond_f rfl ?_ | (refine wk_exit ?_; (repeat (refine blockK_other rfl ?_)); refine blockK_same ?_; try ((repeat ((fail_if_success (refine hK _ _ ?_)); clear hK K)); refine hK _ _ ?_; clear hK K)) | (refine a_bin ?_ ?_ <;> intro _ <;> try (exfalso; omega)) | refine a_ld hl ?_ | (refine a_st hl ?_; clear hl; intro _ hl) | refine a_ix (fun _ => ?_) | fail)
          refine wk_quiet [0, 1, 2, 3, 4, 5, 6, 7, 8, 9, 10, 11, 12, 13, 14, 15, 16] ?_
          repeat' (first | refine q_mov ?_ | refine q_asg ?_ | refine q_fa ?_ | refine q_ext ?_ | refine q_binN ?_ | refine q_notd ?_ | refine q_notb ?_ | refine q_pick_t ?_ | refine q_pick_f ?_ | refine q_nilc ?_ | refine q_skip ?_ | refine q_lens ?_ | refine q_lenv ?_ | refine q_nil ?_ | refine q_ix (fun _ => ?_) | (refine q_bin ?_ ?_ <;> intro _ <;> try (exfalso; omega)) | refine q_idx (c := 1) m hpm ?_ | refine q_row (fun w_ hw_ => hrm.ext hw_) ?_ | (refine q_val rfl rfl rfl rfl (fun w_ hw_ => r_lookup (z := .bool false) tn[m] rfl (key_str rfl) hmr rfl rfl rfl (hmb' w_ hw_)) ?_; rw [hget]))
          refine q_cutvH (k := 1) m k13 (strL_len tn) (by omega) (by omega) rfl rfl rfl rfl rfl rfl rfl ?_
          intro v14 hv14
          rw [Nat.mul_one, strL, ← List.map_take] at hv14
          repeat' (first | refine q_mov ?_ | refine q_asg ?_ | refine q_fa ?_ | refine q_ext ?_ | refine q_binN ?_ | refine q_notd ?_ | refine q_notb ?_ | refine q_pick_t ?_ | refine q_pick_f ?_ | refine q_nilc ?_ | refine q_skip ?_ | refine q_lens ?_ | refine q_lenv ?_ | refine q_nil ?_ | refine q_ix (fun _ => ?_) | (refine q_bin ?_ ?_ <;> intro _ <;> try (exfalso; omega)) | refine q_idx (c := 1) m hpm ?_ | refine q_row (fun w_ hw_ => hrm.ext hw_) ?_)
          have hlt : (tn.take m).length ≤ 1000000 := by rw [List.length_take]; omega
          have hin : ∀ w', Ext w13 w' → Calls Try.prog 29 #[v14, str tn[m]] w' (fun e w'' => ∃ x, e = .returned x ∧ x = .bool false ∧ Ext w' w'') := fun w' hw' => by
            have h := in_calls (l := tn.take m) tn[m] (hv14 w' (k13.ext hw')) hlt
            rw [decide_eq_false hni] at h
            exact h
          refine q_fn hin ?_
          repeat' (first | refine q_mov ?_ | refine q_asg ?_ | refine q_fa ?_ | refine q_ext ?_ | refine q_binN ?_ | refine q_notd ?_ | refine q_notb ?_ | refine q_pick_t ?_ | refine q_pick_f ?_ | refine q_nilc ?_ | refine q_skip ?_ | refine q_lens ?_ | refine q_lenv ?_ | refine q_nil ?_ | refine q_ix (fun _ => ?_) | (refine q_bin ?_ ?_ <;> intro _ <;> try (exfalso; omega)) | fail)
          intro w15 hw15
          refine hK _ _ ?_
          clear hK K
          replace hM := hM.ext hw15
          clear hmb hmr hown hmb'
          repeat' (first | refine a_mov ?_ | refine a_asg ?_ | refine a_binN ?_ | refine a_notd ?_ | refine a_notb ?_ | refine a_nilc ?_ | refine a_fa ?_ | refine a_ext ?_ | refine a_lenv ?_ | refine a_lens ?_ | refine a_pick_t ?_ | refine a_pick_f ?_ | refine a_not ?_ | refine a_nilf ?_ | (refine o_nil (hK _ _ ?_); clear hK K) | refine wk_reg ?_ | refine wk_seq fun K hK => ?_ | (refine wk_skip (hK _ _ ?_); clear hK K) | (refine wk_label (hK _ _ ?_); clear hK K) | refine wk_scope ?_ | refine wk_block ?_ | refine wk_cond_t rfl ?_ | refine wk_cond_f rfl ?_ | (refine wk_exit ?_; (repeat (refine blockK_other rfl ?_)); refine blockK_same ?_; try ((repeat ((fail_if_success (refine hK _ _ ?_)); clear hK K)); refine hK _ _ ?_; clear hK K)) | (refine a_bin ?_ ?_ <;> intro _ <;> try (exfalso; omega)) | refine a_ld hl ?_ | (refine a_st hl ?_; clear hl; intro _ hl) | refine a_ix (fun _ => ?_) | fail)
          refine o_nil ⟨m + 1, ⟨rfl, rfl, rfl, rfl, rfl, rfl, rfl, rfl, rfl, rfl, trivial⟩, rfl, ⟨hm1, hM⟩, by omega⟩
        · replace hM := hM.drop (ks' := wasK s (.slice pw c cw) n vf) (fun q h => List.mem_cons_of_mem _ h)
          repeat' (first | refine a_mov ?_ | refine a_asg ?_ | refine a_binN ?_ | refine a_notd ?_ | refine a_notb ?_ | refine a_nilc ?_ | refine a_fa ?_ | refine a_ext ?_ | refine a_lenv ?_ | refine a_lens ?_ | refine a_pick_t ?_ | refine a_pick_f ?_ | refine a_not ?_ | refine a_nilf ?_ | (refine o_nil (hK _ _ ?_); clear hK K) | refine wk_reg ?_ | refine wk_seq fun K hK => ?_ | (refine wk_skip (hK _ _ ?_); clear hK K) | (refine wk_label (hK _ _ ?_); clear hK K) | refine wk_scope ?_ | refine wk_block ?_ | refine wk_cond_t rfl ?_ | refine wk_cond_f rfl ?_ | (refine wk_exit ?_; (repeat (refine blockK_other rfl ?_)); refine blockK_same ?_; try ((repeat ((fail_if_success (refine hK _ _ ?_)); clear hK K)); refine hK _ _ ?_; clear hK K)) | (refine a_bin ?_ ?_ <;> intro _ <;> try (exfalso; omega)) | refine a_ld hl ?_ | (refine a_st hl ?_; clear hl; intro _ hl) | refine a_ix (fun _ => ?_) | fail)
          refine o_nil ⟨d + 1, ⟨rfl, rfl, rfl, rfl, rfl, rfl, rfl, rfl, trivial⟩, rfl, ⟨hd1, hM⟩, by omega⟩
      · replace hM := hM.drop (ks' := []) (fun _ h => nomatch h)
        repeat' (first | refine a_mov ?_ | refine a_asg ?_ | refine a_binN ?_ | refine a_notd ?_ | refine a_notb ?_ | refine a_nilc ?_ | refine a_fa ?_ | refine a_ext ?_ | refine a_lenv ?_ | refine a_lens ?_ | refine a_pick_t ?_ | refine a_pick_f ?_ | refine a_not ?_ | refine a_nilf ?_ | (refine o_nil (hK _ _ ?_); clear hK K) | refine wk_reg ?_ | refine wk_seq fun K hK => ?_ | (refine wk_skip (hK _ _ ?_); clear hK K) | (refine wk_label (hK _ _ ?_); clear hK K) | refine wk_scope ?_ | refine wk_block ?_ | refine wk_cond_t rfl ?_ | refine wk_cond_f rfl ?_ | (refine wk_exit ?_; (repeat (refine blockK_other rfl ?_)); refine blockK_same ?_; try ((repeat ((fail_if_success (refine hK _ _ ?_)); clear hK K)); refine hK _ _ ?_; clear hK K)) | (refine a_bin ?_ ?_ <;> intro _ <;> try (exfalso; omega)) | refine a_ld hl ?_ | (refine a_st hl ?_; clear hl; intro _ hl) | refine a_ix (fun _ => ?_) | fail)
        refine o_nil ⟨k + 1, ⟨rfl, rfl, rfl, rfl, rfl, rfl, trivial⟩, rfl, ⟨hk1, by rw [hs1]; exact hH', by rw [hs1]; exact hM⟩, by omega⟩
  · obtain rfl : k = l.length := by omega
    repeat' (first | refine a_mov ?_ | refine a_asg ?_ | refine a_binN ?_ | refine a_notd ?_ | refine a_notb ?_ | refine a_nilc ?_ | refine a_fa ?_ | refine a_ext ?_ | refine a_lenv ?_ | refine a_lens ?_ | refine a_pick_t ?_ | refine a_pick_f ?_ | refine a_not ?_ | refine a_nilf ?_ | (refine o_nil (hK _ _ ?_); clear hK K) | refine wk_reg ?_ | refine wk_seq fun K hK => ?_ | (refine wk_skip (hK _ _ ?_); clear hK K) | (refine wk_label (hK _ _ ?_); clear hK K) | refine wk_scope ?_ | refine wk_block ?_ | refine wk_cond_t rfl ?_ | refine wk_cond_f rfl ?_ | (refine wk_exit ?_; (repeat (refine blockK_other rfl ?_)); refine blockK_same ?_; try ((repeat ((fail_if_success (refine hK _ _ ?_)); clear hK K)); refine hK _ _ ?_; clear hK K)) | (refine a_bin ?_ ?_ <;> intro _ <;> try (exfalso; omega)) | refine a_ld hl ?_ | (refine a_st hl ?_; clear hl; intro _ hl) | refine a_ix (fun _ => ?_) | fail)
    refine wk_ret (retQ_tmp1 Try.results4 (by decide) rfl (by conv => lhs; whnf) ?_)
    exact ⟨rfl, hx3.trans hM.done⟩
end Go.Proofs
