/-
  The reference's network: nodes, pairs, Has, Lacks, Cut.
-/
import Derived.Test.YthiiodbjmcafgaaNrA
import Derived.Test.YthiiodbjmcafgaaNeK
import Derived.Test.YthiiodbjmcafgaaNeY
set_option linter.unusedVariables false
set_option linter.unusedSimpArgs false
set_option linter.unnecessarySimpa false
set_option maxRecDepth 10000
namespace Go.Ne
open Go Go.Pd
theorem flt_put {n c : Nat} {f : Nat → List Value} (hf : ∀ t, (f t).length = c) {us : List Value} (hu : us.length ≤ c) (junk : List Value) {j : Nat} (hj : j < n) : putL (flt n f ++ junk) (0 + j * c) us = flt n (upd f j (us ++ (f j).drop us.length)) ++ junk := by
  rw [Nat.zero_add]
  exact putL_upd hf hu junk (List.range n) j j List.nodup_range (by simp [hj])
theorem flt_congr {n : Nat} {f g : Nat → List Value} (h : ∀ i, i < n → f i = g i) : flt n f = flt n g := by
  unfold flt
  rw [List.flatMap_def, List.flatMap_def, List.map_congr_left fun x hx => h x (List.mem_range.1 hx)]
theorem flt_len {n c : Nat} {f : Nat → List Value} (hf : ∀ t, (f t).length = c) (junk : List Value) {j : Nat} (hj : j < n) : 0 + j * c + c ≤ (flt n f ++ junk).length := by
  have h1 : (flt n f).length = n * c := by
    have := flat_length hf (List.range n)
    rwa [List.length_range] at this
  rw [List.length_append, h1]
  have : (j + 1) * c ≤ n * c := Nat.mul_le_mul_right _ hj
  rw [Nat.add_mul] at this
  omega
section
variable {R R' : RefB} {s s' : Net} {n : Nat} {w w' w0 : World} {M : Nat → Prop}
theorem RefB.atRow (h : LH w0 M w (R.bl n)) {i kd : Nat} (hi : i < n) (hk : kd < 5) : Own w [R.row n i kd] := by
  have := RefB.at h (row_mem hk hi)
  rwa [F_row _ _ _ hk] at this
theorem RefB.atTop (h : LH w0 M w (R.bl n)) {t : Nat} (ht : t < 4) : Own w [R.top n t] := by
  have := RefB.at h (top_mem ht)
  rwa [F_top _ _ ht] at this
theorem RefB.stepRow {i kd : Nat} (hi : i < n) (hk : kd < 5) (ha : R'.aacc = R.aacc) (h1 : ∀ t, t < 4 → R'.top n t = R.top n t) (h3 : ∀ i' kd', i' < n → kd' < 5 → ¬ (i' = i ∧ kd' = kd) → R'.row n i' kd' = R.row n i' kd') (h2 : LH w (Go.Pd.In [R.row n i kd]) w' [R'.row n i kd]) : ∀ {w0 : World} {M : Nat → Prop}, LH w0 M w (R.bl n) → LH w0 M w' (R'.bl n) := fun h => by
  refine RefB.step (k := 4 + (i * 5 + kd)) (row_mem hk hi) ha (F_agree (fun t ht _ => h1 t ht) fun i' kd' hi' hk' hne => h3 i' kd' hi' hk' fun e => hne (by rw [e.1, e.2])) ?_ h
  rw [F_row _ _ _ hk, F_row _ _ _ hk]; exact h2
theorem RefB.stepTop {t : Nat} (ht : t < 4) (ha : R'.aacc = R.aacc) (h1 : ∀ t', t' < 4 → t' ≠ t → R'.top n t' = R.top n t') (h3 : ∀ i' kd', i' < n → kd' < 5 → R'.row n i' kd' = R.row n i' kd') (h2 : LH w (Go.Pd.In [R.top n t]) w' [R'.top n t]) : ∀ {w0 : World} {M : Nat → Prop}, LH w0 M w (R.bl n) → LH w0 M w' (R'.bl n) := fun h => by
  refine RefB.step (k := t) (top_mem ht) ha (F_agree (fun t' ht' hne => h1 t' ht' hne) fun i' kd' hi' hk' _ => h3 i' kd' hi' hk') ?_ h
  rw [F_top _ _ ht, F_top _ _ ht]; exact h2
/-- What lies elsewhere stays as it was. -/
theorem RefOK.moved (h : RefOK R s w) (hl : LH w (Go.Pd.In (R.bl s.n)) w' (R'.bl s.n)) (hY : R'.Y = R.Y) (hn : s'.n = s.n) (ht : ∀ i, i < s.n → (R'.tv i = R.tv i ∧ texts s' i = texts s i) ∨ SlO (R'.D s.n) w' (R'.tv i) 1 (sLs (texts s' i))) (hg : ∀ i j, i < s.n → j < s.n → (R'.gv i j = R.gv i j ∧ ((s'.node i).peer j).got = ((s.node i).peer j).got) ∨ SlO (R'.D s.n) w' (R'.gv i j) 1 (sLs ((s'.node i).peer j).got))
    (hq : ∀ i j, i < s.n → j < s.n → (R'.qv i j = R.qv i j ∧ R'.ql i j = R.ql i j ∧ s'.q i j = s.q i j) ∨ QLeaf (R'.D s.n) w' (R'.qv i j) (R'.ql i j) (s'.q i j)) (ha : Acc R'.av 1 9 s'.all.length (sLs s'.all) R'.aacc)
    (hh : ∀ i j, i < s.n → j < s.n → R'.hd i j = ((s'.node i).peer j).heard) (hk : ∀ i j, i < s.n → j < s.n → R'.kn i j = ((s'.node i).peer j).known) (hc : ∀ i j, i < s.n → j < s.n → R'.co i j = cutA s' i j) : RefOK R' s' w' := by
  have hD : R'.D s.n = fun b => Go.Pd.In (R'.bl s.n) b ∨ R.Y b := by unfold RefB.D; rw [hY]
  refine ⟨by rw [hn]; exact h.np, fun i hi => ?_, fun i j hi hj => ?_, fun i j hi hj => ?_, ha, fun i j hi hj => ?_, fun i j hi hj => ?_, fun i j hi hj => ?_, fun b hb => ?_⟩
  all_goals (try rw [hn] at hi)
  all_goals (try rw [hn] at hj)
  all_goals (try rw [hn])
  · rcases ht i hi with ⟨e1, e2⟩ | h1
    · rw [e1, e2, hD]; exact (h.t i hi).stepX hl
    · exact h1
  · rcases hg i j hi hj with ⟨e1, e2⟩ | h1
    · rw [e1, e2, hD]; exact (h.g i j hi hj).stepX hl
    · exact h1
  · rcases hq i j hi hj with ⟨e1, e2, e3⟩ | h1
    · rw [e1, e2, e3, hD]; exact (h.q i j hi hj).step hl
    · exact h1
  · exact hh i j hi hj
  · exact hk i j hi hj
  · exact hc i j hi hj
  · rw [hY] at hb
    exact Nat.lt_of_lt_of_le (h.ys b hb) hl.upd.size
end
end Go.Ne
namespace Go.Proofs
open Go Go.Pd Go.Ne
attribute [local irreducible] OpsL W RetQ OpsQ OpsC
theorem RefB.rF {R : RefB} {n : Nat} {w w0 : World} {M : Nat → Prop} (h : LH w0 M w (R.bl n)) {i : Nat} (hi : i < n) : Row w R.nb (i * 4) (R.nodeC n i) := by
  have := RefB.rN h hi
  rwa [Nat.zero_add] at this
theorem nodeR_calls {p nb n nc : Nat} {x y z : Value} {w : World} (h : Row w p 0 [arrV nb n nc, x, y, z]) (i : Nat) :
    Calls Try.prog 33 #[.pointer (some ⟨p, 0, none⟩), .int .i64 (i : Int)] w (fun e w' => ∃ v, e = .returned v ∧ v = .bool (decide (i < n)) ∧ Ext w w') := by
  refine calls_of Try.func33 rfl Try.ntmps33 rfl ?_
  repeat' (first | refine a_mov ?_ | refine a_asg ?_ | refine a_binN ?_ | refine a_notd ?_ | refine a_notb ?_ | refine a_nilc ?_ | refine a_fa ?_ | refine a_ext ?_ | refine a_lenv ?_ | refine a_lens ?_ | refine a_pick_t ?_ | refine a_pick_f ?_ | refine a_not ?_ | refine a_nilf ?_ | (refine o_nil (hK _ _ ?_); clear hK K) | refine wk_reg ?_ | refine wk_seq fun K hK => ?_ | (refine wk_skip (hK _ _ ?_); clear hK K) | (refine wk_label (hK _ _ ?_); clear hK K) | refine wk_scope ?_ | refine wk_block ?_ | refine wk_cond_t rfl ?_ | refine wk_cond_f rfl ?_ | (refine wk_exit ?_; (repeat (refine blockK_other rfl ?_)); refine blockK_same ?_; try ((repeat ((fail_if_success (refine hK _ _ ?_)); clear hK K)); refine hK _ _ ?_; clear hK K)) | (refine a_bin ?_ ?_ <;> intro _ <;> try (exfalso; omega)) | refine a_ld hl ?_ | (refine a_st hl ?_; clear hl; intro _ hl) | refine a_ix (fun _ => ?_) | refine a_pne ?_ | refine a_row h ?_ | fail)
  · refine wk_ret (retQ_tmp1 Try.results33 (by decide) rfl (by conv => lhs; whnf) ?_)
    exact ⟨by rw [decide_eq_true (by omega)], .refl _ _⟩
  · refine wk_ret (retQ_tmp1 Try.results33 (by decide) rfl (by conv => lhs; whnf) ?_)
    exact ⟨by rw [decide_eq_false (by omega)], .refl _ _⟩
theorem pairR_calls {s : Net} {p nb nc : Nat} {x y z : Value} {w : World} (h : Row w p 0 [arrV nb s.n nc, x, y, z]) (a b : Nat) :
    Calls Try.prog 36 #[.pointer (some ⟨p, 0, none⟩), .int .i64 (a : Int), .int .i64 (b : Int)] w (fun e w' => ∃ v, e = .returned v ∧ v = .bool (pair s a b) ∧ Ext w w') := by
  refine calls_of Try.func36 rfl Try.ntmps36 rfl ?_
  repeat' (first | refine a_mov ?_ | refine a_asg ?_ | refine a_binN ?_ | refine a_notd ?_ | refine a_notb ?_ | refine a_nilc ?_ | refine a_fa ?_ | refine a_ext ?_ | refine a_lenv ?_ | refine a_lens ?_ | refine a_pick_t ?_ | refine a_pick_f ?_ | refine a_not ?_ | refine a_nilf ?_ | (refine o_nil (hK _ _ ?_); clear hK K) | refine wk_reg ?_ | refine wk_seq fun K hK => ?_ | (refine wk_skip (hK _ _ ?_); clear hK K) | (refine wk_label (hK _ _ ?_); clear hK K) | refine wk_scope ?_ | refine wk_block ?_ | refine wk_cond_t rfl ?_ | refine wk_cond_f rfl ?_ | (refine wk_exit ?_; (repeat (refine blockK_other rfl ?_)); refine blockK_same ?_; try ((repeat ((fail_if_success (refine hK _ _ ?_)); clear hK K)); refine hK _ _ ?_; clear hK K)) | (refine a_bin ?_ ?_ <;> intro _ <;> try (exfalso; omega)) | refine a_ld hl ?_ | (refine a_st hl ?_; clear hl; intro _ hl) | refine a_ix (fun _ => ?_) | fail)
  refine a_fn (nodeR_calls h a) ?_
  rintro _ w1 ⟨rfl, he1⟩
  by_cases ha : a < s.n
  · rw [decide_eq_true ha]
    repeat' (first | refine a_mov ?_ | refine a_asg ?_ | refine a_binN ?_ | refine a_notd ?_ | refine a_notb ?_ | refine a_nilc ?_ | refine a_fa ?_ | refine a_ext ?_ | refine a_lenv ?_ | refine a_lens ?_ | refine a_pick_t ?_ | refine a_pick_f ?_ | refine a_not ?_ | refine a_nilf ?_ | (refine o_nil (hK _ _ ?_); clear hK K) | refine wk_reg ?_ | refine wk_seq fun K hK => ?_ | (refine wk_skip (hK _ _ ?_); clear hK K) | (refine wk_label (hK _ _ ?_); clear hK K) | refine wk_scope ?_ | refine wk_block ?_ | refine wk_cond_t rfl ?_ | refine wk_cond_f rfl ?_ | (refine wk_exit ?_; (repeat (refine blockK_other rfl ?_)); refine blockK_same ?_; try ((repeat ((fail_if_success (refine hK _ _ ?_)); clear hK K)); refine hK _ _ ?_; clear hK K)) | (refine a_bin ?_ ?_ <;> intro _ <;> try (exfalso; omega)) | refine a_ld hl ?_ | (refine a_st hl ?_; clear hl; intro _ hl) | refine a_ix (fun _ => ?_) | fail)
    refine a_fn (nodeR_calls (h.ext he1) b) ?_
    rintro _ w2 ⟨rfl, he2⟩
    by_cases hb : b < s.n
    · rw [decide_eq_true hb]
      repeat' (first | refine a_mov ?_ | refine a_asg ?_ | refine a_binN ?_ | refine a_notd ?_ | refine a_notb ?_ | refine a_nilc ?_ | refine a_fa ?_ | refine a_ext ?_ | refine a_lenv ?_ | refine a_lens ?_ | refine a_pick_t ?_ | refine a_pick_f ?_ | refine a_not ?_ | refine a_nilf ?_ | (refine o_nil (hK _ _ ?_); clear hK K) | refine wk_reg ?_ | refine wk_seq fun K hK => ?_ | (refine wk_skip (hK _ _ ?_); clear hK K) | (refine wk_label (hK _ _ ?_); clear hK K) | refine wk_scope ?_ | refine wk_block ?_ | refine wk_cond_t rfl ?_ | refine wk_cond_f rfl ?_ | (refine wk_exit ?_; (repeat (refine blockK_other rfl ?_)); refine blockK_same ?_; try ((repeat ((fail_if_success (refine hK _ _ ?_)); clear hK K)); refine hK _ _ ?_; clear hK K)) | (refine a_bin ?_ ?_ <;> intro _ <;> try (exfalso; omega)) | refine a_ld hl ?_ | (refine a_st hl ?_; clear hl; intro _ hl) | refine a_ix (fun _ => ?_) | fail)
      · refine wk_ret (retQ_tmp1 Try.results36 (by decide) rfl (by conv => lhs; whnf) ?_)
        exact ⟨by rw [show pair s a b = true from decide_eq_true ⟨ha, hb, by omega⟩], he1.trans he2⟩
      · refine wk_ret (retQ_tmp1 Try.results36 (by decide) rfl (by conv => lhs; whnf) ?_)
        exact ⟨by rw [show pair s a b = false from decide_eq_false fun h => by have := h.2.2; omega], he1.trans he2⟩
    · rw [decide_eq_false hb]
      repeat' (first | refine a_mov ?_ | refine a_asg ?_ | refine a_binN ?_ | refine a_notd ?_ | refine a_notb ?_ | refine a_nilc ?_ | refine a_fa ?_ | refine a_ext ?_ | refine a_lenv ?_ | refine a_lens ?_ | refine a_pick_t ?_ | refine a_pick_f ?_ | refine a_not ?_ | refine a_nilf ?_ | (refine o_nil (hK _ _ ?_); clear hK K) | refine wk_reg ?_ | refine wk_seq fun K hK => ?_ | (refine wk_skip (hK _ _ ?_); clear hK K) | (refine wk_label (hK _ _ ?_); clear hK K) | refine wk_scope ?_ | refine wk_block ?_ | refine wk_cond_t rfl ?_ | refine wk_cond_f rfl ?_ | (refine wk_exit ?_; (repeat (refine blockK_other rfl ?_)); refine blockK_same ?_; try ((repeat ((fail_if_success (refine hK _ _ ?_)); clear hK K)); refine hK _ _ ?_; clear hK K)) | (refine a_bin ?_ ?_ <;> intro _ <;> try (exfalso; omega)) | refine a_ld hl ?_ | (refine a_st hl ?_; clear hl; intro _ hl) | refine a_ix (fun _ => ?_) | fail)
      refine wk_ret (retQ_tmp1 Try.results36 (by decide) rfl (by conv => lhs; whnf) ?_)
      exact ⟨by rw [show pair s a b = false from decide_eq_false fun h => hb h.2.1], he1.trans he2⟩
  · rw [decide_eq_false ha]
    repeat' (first | refine a_mov ?_ | refine a_asg ?_ | refine a_binN ?_ | refine a_notd ?_ | refine a_notb ?_ | refine a_nilc ?_ | refine a_fa ?_ | refine a_ext ?_ | refine a_lenv ?_ | refine a_lens ?_ | refine a_pick_t ?_ | refine a_pick_f ?_ | refine a_not ?_ | refine a_nilf ?_ | (refine o_nil (hK _ _ ?_); clear hK K) | refine wk_reg ?_ | refine wk_seq fun K hK => ?_ | (refine wk_skip (hK _ _ ?_); clear hK K) | (refine wk_label (hK _ _ ?_); clear hK K) | refine wk_scope ?_ | refine wk_block ?_ | refine wk_cond_t rfl ?_ | refine wk_cond_f rfl ?_ | (refine wk_exit ?_; (repeat (refine blockK_other rfl ?_)); refine blockK_same ?_; try ((repeat ((fail_if_success (refine hK _ _ ?_)); clear hK K)); refine hK _ _ ?_; clear hK K)) | (refine a_bin ?_ ?_ <;> intro _ <;> try (exfalso; omega)) | refine a_ld hl ?_ | (refine a_st hl ?_; clear hl; intro _ hl) | refine a_ix (fun _ => ?_) | fail)
    refine wk_ret (retQ_tmp1 Try.results36 (by decide) rfl (by conv => lhs; whnf) ?_)
    exact ⟨by rw [show pair s a b = false from decide_eq_false fun h => ha h.1], he1⟩
theorem hasR_calls {Y : Nat → Prop} {s : Net} {p : Nat} {bl : List (Nat × Obj)} {w : World} (h : RefR Y s p bl w) (i : Nat) :
    Calls Try.prog 23 #[.pointer (some ⟨p, 0, none⟩), .int .i64 (i : Int)] w (fun e w' => ∃ v, e = .returned v ∧ SlO (fun b => Go.Pd.In bl b ∨ Y b) w' v 1 (sLs (has s i)) ∧ Ext w w') := by
  obtain ⟨R, rfl, rfl, rfl, hok, hown⟩ := h
  refine calls_of Try.func23 rfl Try.ntmps23 rfl ?_
  repeat' (first | refine a_mov ?_ | refine a_asg ?_ | refine a_binN ?_ | refine a_notd ?_ | refine a_notb ?_ | refine a_nilc ?_ | refine a_fa ?_ | refine a_ext ?_ | refine a_lenv ?_ | refine a_lens ?_ | refine a_pick_t ?_ | refine a_pick_f ?_ | refine a_not ?_ | refine a_nilf ?_ | (refine o_nil (hK _ _ ?_); clear hK K) | refine wk_reg ?_ | refine wk_seq fun K hK => ?_ | (refine wk_skip (hK _ _ ?_); clear hK K) | (refine wk_label (hK _ _ ?_); clear hK K) | refine wk_scope ?_ | refine wk_block ?_ | refine wk_cond_t rfl ?_ | refine wk_cond_f rfl ?_ | (refine wk_exit ?_; (repeat (refine blockK_other rfl ?_)); refine blockK_same ?_; try ((repeat ((fail_if_success (refine hK _ _ ?_)); clear hK K)); refine hK _ _ ?_; clear hK K)) | (refine a_bin ?_ ?_ <;> intro _ <;> try (exfalso; omega)) | refine a_ld hl ?_ | (refine a_st hl ?_; clear hl; intro _ hl) | refine a_ix (fun _ => ?_) | fail)
  refine a_fn (nodeR_calls (RefB.r0 hown) i) ?_
  rintro _ w1 ⟨rfl, he1⟩
  by_cases hi : i < s.n
  · rw [decide_eq_true hi]
    have hown1 := hown.ext he1
    repeat' (first | refine a_mov ?_ | refine a_asg ?_ | refine a_binN ?_ | refine a_notd ?_ | refine a_notb ?_ | refine a_nilc ?_ | refine a_fa ?_ | refine a_ext ?_ | refine a_lenv ?_ | refine a_lens ?_ | refine a_pick_t ?_ | refine a_pick_f ?_ | refine a_not ?_ | refine a_nilf ?_ | (refine o_nil (hK _ _ ?_); clear hK K) | refine wk_reg ?_ | refine wk_seq fun K hK => ?_ | (refine wk_skip (hK _ _ ?_); clear hK K) | (refine wk_label (hK _ _ ?_); clear hK K) | refine wk_scope ?_ | refine wk_block ?_ | refine wk_cond_t rfl ?_ | refine wk_cond_f rfl ?_ | (refine wk_exit ?_; (repeat (refine blockK_other rfl ?_)); refine blockK_same ?_; try ((repeat ((fail_if_success (refine hK _ _ ?_)); clear hK K)); refine hK _ _ ?_; clear hK K)) | (refine a_bin ?_ ?_ <;> intro _ <;> try (exfalso; omega)) | refine a_ld hl ?_ | (refine a_st hl ?_; clear hl; intro _ hl) | refine a_ix (fun _ => ?_) | refine a_row (RefB.r0 hown1) ?_ | refine a_idx (c := 4) i rfl ?_ | refine a_row (RefB.rF hown1 hi) ?_ | fail)
    refine wk_ret (retQ_tmp1 Try.results23 (by decide) rfl (by conv => lhs; whnf) ?_)
    rw [show has s i = texts s i from if_pos hi]
    exact ⟨(hok.t i hi).ext he1, he1⟩
  · rw [decide_eq_false hi]
    repeat' (first | refine a_mov ?_ | refine a_asg ?_ | refine a_binN ?_ | refine a_notd ?_ | refine a_notb ?_ | refine a_nilc ?_ | refine a_fa ?_ | refine a_ext ?_ | refine a_lenv ?_ | refine a_lens ?_ | refine a_pick_t ?_ | refine a_pick_f ?_ | refine a_not ?_ | refine a_nilf ?_ | (refine o_nil (hK _ _ ?_); clear hK K) | refine wk_reg ?_ | refine wk_seq fun K hK => ?_ | (refine wk_skip (hK _ _ ?_); clear hK K) | (refine wk_label (hK _ _ ?_); clear hK K) | refine wk_scope ?_ | refine wk_block ?_ | refine wk_cond_t rfl ?_ | refine wk_cond_f rfl ?_ | (refine wk_exit ?_; (repeat (refine blockK_other rfl ?_)); refine blockK_same ?_; try ((repeat ((fail_if_success (refine hK _ _ ?_)); clear hK K)); refine hK _ _ ?_; clear hK K)) | (refine a_bin ?_ ?_ <;> intro _ <;> try (exfalso; omega)) | refine a_ld hl ?_ | (refine a_st hl ?_; clear hl; intro _ hl) | refine a_ix (fun _ => ?_) | fail)
    refine wk_ret (retQ_tmp1 Try.results23 (by decide) rfl (by conv => lhs; whnf) ?_)
    rw [show has s i = [] from if_neg hi]
    exact ⟨⟨Sl.nil _ _, .inl rfl⟩, he1⟩

theorem Sl.txsR {w : World} {v : Value} {l : List Tx} (hv : Sl w v 1 (strL l)) : ∃ a c, v = .slice a l.length c ∧ ∀ k (hk : k < l.length), ∃ b o, a = some ⟨b, o, none⟩ ∧ Row w b (o + k * 1) [str l[k]] := by
  obtain ⟨pa, ca, rfl, -⟩ := hv.shape (strL_len l) (by omega)
  exact ⟨pa, ca, rfl, fun k hk => Sl.tx hv rfl hk⟩
theorem LH.earlier {w w1 w2 : World} {l : List (Nat × Obj)} (e : Ext w w1) (h : LH w1 (fun _ => False) w2 l) : LH w (fun _ => False) w2 l := ⟨e.trans h.upd, h.own, fun p hp => .inl ((h.fresh p hp).elim (Nat.le_trans e.size) False.elim), h.nd⟩
theorem filter_snoc {l : List Tx} {g : List Tx} {k m : Nat} (hk : k ≤ m) (hm : m < l.length) : ((l.take (m + 1)).drop k).filter (fun t => decide (t ∉ g)) = ((l.take m).drop k).filter (fun t => decide (t ∉ g)) ++ if l[m] ∈ g then [] else [l[m]] := by
  rw [List.take_succ_eq_append_getElem hm, List.drop_append_of_le_length (by rw [List.length_take]; omega), List.filter_append]
  congr 1
  by_cases h : l[m] ∈ g
  · rw [if_pos h, List.filter_cons_of_neg (by simpa using h)]; rfl
  · rw [if_neg h, List.filter_cons_of_pos (by simpa using h)]; rfl

set_option maxHeartbeats 1000000 in
theorem lacksR_calls {Y : Nat → Prop} {s : Net} {p : Nat} {bl : List (Nat × Obj)} {w : World} (h : RefR Y s p bl w) (a b : Nat) (hb : Bd s) (hgl : ∀ a b, ((s.node a).peer b).got.length ≤ 1000000) :
    Calls Try.prog 25 #[.pointer (some ⟨p, 0, none⟩), .int .i64 (a : Int), .int .i64 (b : Int)] w (fun e w' => ∃ v, e = .returned v ∧ Fresh w w' v (lacks s a b)) := by
  obtain ⟨R, rfl, rfl, rfl, hok, hown⟩ := h
  refine calls_of Try.func25 rfl Try.ntmps25 rfl ?_
  repeat' (first | refine a_mov ?_ | refine a_asg ?_ | refine a_binN ?_ | refine a_notd ?_ | refine a_notb ?_ | refine a_nilc ?_ | refine a_fa ?_ | refine a_ext ?_ | refine a_lenv ?_ | refine a_lens ?_ | refine a_pick_t ?_ | refine a_pick_f ?_ | refine a_not ?_ | refine a_nilf ?_ | (refine o_nil (hK _ _ ?_); clear hK K) | refine wk_reg ?_ | refine wk_seq fun K hK => ?_ | (refine wk_skip (hK _ _ ?_); clear hK K) | (refine wk_label (hK _ _ ?_); clear hK K) | refine wk_scope ?_ | refine wk_block ?_ | refine wk_cond_t rfl ?_ | refine wk_cond_f rfl ?_ | (refine wk_exit ?_; (repeat (refine blockK_other rfl ?_)); refine blockK_same ?_; try ((repeat ((fail_if_success (refine hK _ _ ?_)); clear hK K)); refine hK _ _ ?_; clear hK K)) | (refine a_bin ?_ ?_ <;> intro _ <;> try (exfalso; omega)) | refine a_ld hl ?_ | (refine a_st hl ?_; clear hl; intro _ hl) | refine a_ix (fun _ => ?_) | fail)
  refine a_fn (pairR_calls (s := s) (RefB.r0 hown) a b) ?_
  rintro _ w1 ⟨rfl, he1⟩
  cases hp : pair s a b
  · repeat' (first | refine a_mov ?_ | refine a_asg ?_ | refine a_binN ?_ | refine a_notd ?_ | refine a_notb ?_ | refine a_nilc ?_ | refine a_fa ?_ | refine a_ext ?_ | refine a_lenv ?_ | refine a_lens ?_ | refine a_pick_t ?_ | refine a_pick_f ?_ | refine a_not ?_ | refine a_nilf ?_ | (refine o_nil (hK _ _ ?_); clear hK K) | refine wk_reg ?_ | refine wk_seq fun K hK => ?_ | (refine wk_skip (hK _ _ ?_); clear hK K) | (refine wk_label (hK _ _ ?_); clear hK K) | refine wk_scope ?_ | refine wk_block ?_ | refine wk_cond_t rfl ?_ | refine wk_cond_f rfl ?_ | (refine wk_exit ?_; (repeat (refine blockK_other rfl ?_)); refine blockK_same ?_; try ((repeat ((fail_if_success (refine hK _ _ ?_)); clear hK K)); refine hK _ _ ?_; clear hK K)) | (refine a_bin ?_ ?_ <;> intro _ <;> try (exfalso; omega)) | refine a_ld hl ?_ | (refine a_st hl ?_; clear hl; intro _ hl) | refine a_ix (fun _ => ?_) | fail)
    refine wk_ret (retQ_tmp1 Try.results25 (by decide) rfl (by conv => lhs; whnf) ?_)
    rw [show lacks s a b = [] from if_neg (by rw [hp]; decide)]
    exact ⟨[], (LH.start w _).ext he1, Acc.nil _ _⟩
  · obtain ⟨ha, hbn, hab⟩ := of_decide_eq_true hp
    have hown1 := hown.ext he1
    have hlk : lacks s a b = ((texts s a).drop ((s.node a).peer b).known).filter fun t => decide (t ∉ ((s.node a).peer b).got) := if_pos hp
    have hkn := hb.inv.kn a b
    have htl := hb.len a
    have hgl1 := hgl a b
    have hK1 := RefB.rK hown1 ha hbn
    rw [hok.k a b ha hbn] at hK1
    have hG1 := RefB.rG hown1 ha hbn
    have hg1 : Sl w1 (R.gv a b) 1 (sLs ((s.node a).peer b).got) := (hok.g a b ha hbn).1.ext he1
    obtain ⟨ta, tc, htv, htr⟩ := Sl.txsR ((hok.t a ha).1.ext he1)
    have hN1 := RefB.rN hown1 ha
    rw [show R.nodeC s.n a = [.slice ta (texts s a).length tc, arrV (R.hb a) s.n s.n, arrV (R.kb a) s.n s.n, arrV (R.gb a) s.n s.n] by unfold RefB.nodeC; rw [htv]] at hN1
    clear htv
    generalize texts s a = tl at *
    generalize ((s.node a).peer b).got = gl at *
    generalize ((s.node a).peer b).known = kn at *
    repeat' (first | refine a_mov ?_ | refine a_asg ?_ | refine a_binN ?_ | refine a_notd ?_ | refine a_notb ?_ | refine a_nilc ?_ | refine a_fa ?_ | refine a_ext ?_ | refine a_lenv ?_ | refine a_lens ?_ | refine a_pick_t ?_ | refine a_pick_f ?_ | refine a_not ?_ | refine a_nilf ?_ | (refine o_nil (hK _ _ ?_); clear hK K) | refine wk_reg ?_ | refine wk_seq fun K hK => ?_ | (refine wk_skip (hK _ _ ?_); clear hK K) | (refine wk_label (hK _ _ ?_); clear hK K) | refine wk_scope ?_ | refine wk_block ?_ | refine wk_cond_t rfl ?_ | refine wk_cond_f rfl ?_ | (refine wk_exit ?_; (repeat (refine blockK_other rfl ?_)); refine blockK_same ?_; try ((repeat ((fail_if_success (refine hK _ _ ?_)); clear hK K)); refine hK _ _ ?_; clear hK K)) | (refine a_bin ?_ ?_ <;> intro _ <;> try (exfalso; omega)) | refine a_ld hl ?_ | (refine a_st hl ?_; clear hl; intro _ hl) | refine a_ix (fun _ => ?_) | refine a_row (RefB.r0 hown1) ?_ | refine a_idx (c := 4) a rfl ?_ | refine a_all hN1 ?_ | fail)
    refine o_alloc (LH.start w1 (fun _ => False)) [.slice none 0 0, .slice none 0 0, .slice none 0 0, .slice none 0 0] rfl rfl ?_
    intro b8 w2 hb8 hl
    refine o_putN (us := [.slice ta tl.length tc, arrV (R.hb a) s.n s.n, arrV (R.kb a) s.n s.n, arrV (R.gb a) s.n s.n]) hl rfl rfl rfl rfl rfl (.all rfl rfl) ?_
    clear hl
    intro w2 hl
    have hx2 : Ext w1 w2 := hl.done
    repeat' (first | refine a_mov ?_ | refine a_asg ?_ | refine a_binN ?_ | refine a_notd ?_ | refine a_notb ?_ | refine a_nilc ?_ | refine a_fa ?_ | refine a_ext ?_ | refine a_lenv ?_ | refine a_lens ?_ | refine a_pick_t ?_ | refine a_pick_f ?_ | refine a_not ?_ | refine a_nilf ?_ | (refine o_nil (hK _ _ ?_); clear hK K) | refine wk_reg ?_ | refine wk_seq fun K hK => ?_ | (refine wk_skip (hK _ _ ?_); clear hK K) | (refine wk_label (hK _ _ ?_); clear hK K) | refine wk_scope ?_ | refine wk_block ?_ | refine wk_cond_t rfl ?_ | refine wk_cond_f rfl ?_ | (refine wk_exit ?_; (repeat (refine blockK_other rfl ?_)); refine blockK_same ?_; try ((repeat ((fail_if_success (refine hK _ _ ?_)); clear hK K)); refine hK _ _ ?_; clear hK K)) | (refine a_bin ?_ ?_ <;> intro _ <;> try (exfalso; omega)) | refine a_ld hl ?_ | (refine a_st hl ?_; clear hl; intro _ hl) | refine a_ix (fun _ => ?_) | refine a_idx (c := 1) b rfl ?_ | refine a_row (hK1.ext hx2) ?_ | fail)
    clear hx2
    have hl : LH w1 (fun _ => False) w2 ([(b8, .cells #[.slice ta tl.length tc, arrV (R.hb a) s.n s.n, arrV (R.kb a) s.n s.n, arrV (R.gb a) s.n s.n] 74 (0, 0))] ++ []) := hl
    refine wk_loopH [] rfl (fun z : Nat × Value => [(2, .int .i64 (b : Int)), (7, z.2), (8, .pointer (some ⟨b8, 0, none⟩)), (9, .int .i64 (z.1 : Int))])
      (fun z w' => (kn ≤ z.1 ∧ z.1 ≤ tl.length) ∧ ∃ acc, LH w1 (fun _ => False) w' ([(b8, .cells #[.slice ta tl.length tc, arrV (R.hb a) s.n s.n, arrV (R.kb a) s.n s.n, arrV (R.gb a) s.n s.n] 74 (0, 0))] ++ acc) ∧ Acc z.2 1 9 (((tl.take z.1).drop kn).filter fun t => decide (t ∉ gl)).length (strL (((tl.take z.1).drop kn).filter fun t => decide (t ∉ gl))) acc) (fun z => tl.length - z.1) (kn, .slice none 0 0) ⟨rfl, rfl, rfl, rfl, trivial⟩
      ⟨⟨Nat.le_refl _, hkn⟩, [], hl, by rw [List.drop_of_length_le (by rw [List.length_take]; omega)]; exact Acc.nil _ _⟩ ?_
    clear hl
    rintro ⟨m, ov⟩ t3 w3 ⟨⟨hkm, hml⟩, acc, hl, hacc⟩
    dsimp only at hkm hml hl hacc ⊢
    have hx3 : Ext w1 w3 := hl.done
    by_cases hm : m < tl.length
    · obtain ⟨bm, om, hpm, hrm⟩ := htr m hm
      have hsn := filter_snoc (g := gl) hkm hm
      have hcl : (((tl.take m).drop kn).filter fun t => decide (t ∉ gl)).length ≤ tl.length := Nat.le_trans (List.length_filter_le _ _) (by rw [List.length_drop, List.length_take]; omega)
      generalize ((tl.take m).drop kn).filter (fun t => decide (t ∉ gl)) = cl at *
      obtain ⟨bb, hbb⟩ : ∃ bb, bb = decide (tl[m] ∈ gl) := ⟨_, rfl⟩
      have hcall : ∀ w', Ext w3 w' → Calls Try.prog 29 #[R.gv a b, str tl[m]] w' (fun e w'' => ∃ x, e = .returned x ∧ x = .bool bb ∧ Ext w' w'') := fun w' hw' => by
        rw [hbb]
        exact in_calls (l := gl) tl[m] (hg1.ext (hx3.trans hw')) hgl1
      repeat' (first | refine a_mov ?_ | refine a_asg ?_ | refine a_binN ?_ | refine a_notd ?_ | refine a_notb ?_ | refine a_nilc ?_ | refine a_fa ?_ | refine a_ext ?_ | refine a_lenv ?_ | refine a_lens ?_ | refine a_pick_t ?_ | refine a_pick_f ?_ | refine a_not ?_ | refine a_nilf ?_ | (refine o_nil (hK _ _ ?_); clear hK K) | refine wk_reg ?_ | refine wk_seq fun K hK => ?_ | (refine wk_skip (hK _ _ ?_); clear hK K) | (refine wk_label (hK _ _ ?_); clear hK K) | refine wk_scope ?_ | refine wk_block ?_ | refine wk_cond_t rfl ?_ | refine wk_cond_f rfl ?_ | (refine wk_exit ?_; (repeat (refine blockK_other rfl ?_)); refine blockK_same ?_; try ((repeat ((fail_if_success (refine hK _ _ ?_)); clear hK K)); refine hK _ _ ?_; clear hK K)) | (refine a_bin ?_ ?_ <;> intro _ <;> try (exfalso; omega)) | refine a_ld hl ?_ | (refine a_st hl ?_; clear hl; intro _ hl) | refine a_ix (fun _ => ?_) | fail)
      refine wk_quiet [0, 1, 2, 3, 4, 5, 6, 7, 8, 9, 10, 11] ?_
      repeat' (first | refine q_mov ?_ | refine q_asg ?_ | refine q_fa ?_ | refine q_ext ?_ | refine q_binN ?_ | refine q_notd ?_ | refine q_notb ?_ | refine q_pick_t ?_ | refine q_pick_f ?_ | refine q_nilc ?_ | refine q_skip ?_ | refine q_lens ?_ | refine q_lenv ?_ | refine q_nil ?_ | refine q_ix (fun _ => ?_) | (refine q_bin ?_ ?_ <;> intro _ <;> try (exfalso; omega)) | refine q_ld (fun w_ hw_ => hl.ext hw_) ?_ | refine q_idx (c := 1) b rfl ?_ | refine q_idx (c := 1) m hpm ?_ | refine q_row (fun w_ hw_ => hG1.ext (hx3.trans hw_)) ?_ | refine q_row (fun w_ hw_ => hrm.ext (hx3.trans hw_)) ?_ | refine q_fn hcall ?_)
      intro w4 hw4
      refine hK _ _ ?_
      clear hK K
      replace hl := hl.ext hw4
      have hx4 : Ext w1 w4 := hl.done
      by_cases hin : tl[m] ∈ gl
      · rw [if_pos hin, List.append_nil] at hsn
        rw [hbb, decide_eq_true hin]
        repeat' (first | refine a_mov ?_ | refine a_asg ?_ | refine a_binN ?_ | refine a_notd ?_ | refine a_notb ?_ | refine a_nilc ?_ | refine a_fa ?_ | refine a_ext ?_ | refine a_lenv ?_ | refine a_lens ?_ | refine a_pick_t ?_ | refine a_pick_f ?_ | refine a_not ?_ | refine a_nilf ?_ | (refine o_nil (hK _ _ ?_); clear hK K) | refine wk_reg ?_ | refine wk_seq fun K hK => ?_ | (refine wk_skip (hK _ _ ?_); clear hK K) | (refine wk_label (hK _ _ ?_); clear hK K) | refine wk_scope ?_ | refine wk_block ?_ | refine wk_cond_t rfl ?_ | refine wk_cond_f rfl ?_ | (refine wk_exit ?_; (repeat (refine blockK_other rfl ?_)); refine blockK_same ?_; try ((repeat ((fail_if_success (refine hK _ _ ?_)); clear hK K)); refine hK _ _ ?_; clear hK K)) | (refine a_bin ?_ ?_ <;> intro _ <;> try (exfalso; omega)) | refine a_ld hl ?_ | (refine a_st hl ?_; clear hl; intro _ hl) | refine a_ix (fun _ => ?_) | fail)
        refine o_nil ⟨(m + 1, ov), ⟨rfl, rfl, rfl, rfl, trivial⟩, rfl, ⟨⟨by omega, hm⟩, acc, hl, by dsimp only; rw [hsn]; exact hacc⟩, ?_⟩
        show tl.length - (m + 1) < tl.length - m; omega
      · rw [if_neg hin] at hsn
        rw [hbb, decide_eq_false hin]
        repeat' (first | refine a_mov ?_ | refine a_asg ?_ | refine a_binN ?_ | refine a_notd ?_ | refine a_notb ?_ | refine a_nilc ?_ | refine a_fa ?_ | refine a_ext ?_ | refine a_lenv ?_ | refine a_lens ?_ | refine a_pick_t ?_ | refine a_pick_f ?_ | refine a_not ?_ | refine a_nilf ?_ | (refine o_nil (hK _ _ ?_); clear hK K) | refine wk_reg ?_ | refine wk_seq fun K hK => ?_ | (refine wk_skip (hK _ _ ?_); clear hK K) | (refine wk_label (hK _ _ ?_); clear hK K) | refine wk_scope ?_ | refine wk_block ?_ | refine wk_cond_t rfl ?_ | refine wk_cond_f rfl ?_ | (refine wk_exit ?_; (repeat (refine blockK_other rfl ?_)); refine blockK_same ?_; try ((repeat ((fail_if_success (refine hK _ _ ?_)); clear hK K)); refine hK _ _ ?_; clear hK K)) | (refine a_bin ?_ ?_ <;> intro _ <;> try (exfalso; omega)) | refine a_ld hl ?_ | (refine a_st hl ?_; clear hl; intro _ hl) | refine a_ix (fun _ => ?_) | refine a_idx (c := 1) m hpm ?_ | refine a_row (hrm.ext hx4) ?_ | fail)
        refine o_buildSlice hl [str tl[m]] rfl rfl (by simp only [str_eq]; kernel_rfl) ?_
        intro b5 w5 hb5 hl5
        refine o_append (bl' := [(b5, .cells #[str tl[m]] 9 (0, 0)), (b8, .cells #[.slice ta tl.length tc, arrV (R.hb a) s.n s.n, arrV (R.kb a) s.n s.n, arrV (R.gb a) s.n s.n] 74 (0, 0))]) (k := 1) (bytes := 16) (q := 1) (us := [str tl[m]]) hl5 hacc (hl5.rowL (vs := [str tl[m]]) 0 0 1 rfl) rfl (by simp [oneCell_str]) (by omega) (by omega) (by omega) rfl rfl rfl rfl rfl ?_
        intro v6 w6 acc6 hl6 hacc6
        repeat' (first | refine a_mov ?_ | refine a_asg ?_ | refine a_binN ?_ | refine a_notd ?_ | refine a_notb ?_ | refine a_nilc ?_ | refine a_fa ?_ | refine a_ext ?_ | refine a_lenv ?_ | refine a_lens ?_ | refine a_pick_t ?_ | refine a_pick_f ?_ | refine a_not ?_ | refine a_nilf ?_ | (refine o_nil (hK _ _ ?_); clear hK K) | refine wk_reg ?_ | refine wk_seq fun K hK => ?_ | (refine wk_skip (hK _ _ ?_); clear hK K) | (refine wk_label (hK _ _ ?_); clear hK K) | refine wk_scope ?_ | refine wk_block ?_ | refine wk_cond_t rfl ?_ | refine wk_cond_f rfl ?_ | (refine wk_exit ?_; (repeat (refine blockK_other rfl ?_)); refine blockK_same ?_; try ((repeat ((fail_if_success (refine hK _ _ ?_)); clear hK K)); refine hK _ _ ?_; clear hK K)) | (refine a_bin ?_ ?_ <;> intro _ <;> try (exfalso; omega)) | refine a_ld hl ?_ | (refine a_st hl ?_; clear hl; intro _ hl) | refine a_ix (fun _ => ?_) | fail)
        refine o_nil ⟨(m + 1, v6), ⟨rfl, rfl, rfl, rfl, trivial⟩, rfl, ⟨⟨by omega, hm⟩, acc6, hl6.sub (List.sublist_cons_self _ _), by dsimp only; rw [hsn, List.length_append, strL, List.map_append]; exact hacc6⟩, ?_⟩
        show tl.length - (m + 1) < tl.length - m; omega
    · obtain rfl : m = tl.length := by omega
      rw [List.take_length] at hacc
      repeat' (first | refine a_mov ?_ | refine a_asg ?_ | refine a_binN ?_ | refine a_notd ?_ | refine a_notb ?_ | refine a_nilc ?_ | refine a_fa ?_ | refine a_ext ?_ | refine a_lenv ?_ | refine a_lens ?_ | refine a_pick_t ?_ | refine a_pick_f ?_ | refine a_not ?_ | refine a_nilf ?_ | (refine o_nil (hK _ _ ?_); clear hK K) | refine wk_reg ?_ | refine wk_seq fun K hK => ?_ | (refine wk_skip (hK _ _ ?_); clear hK K) | (refine wk_label (hK _ _ ?_); clear hK K) | refine wk_scope ?_ | refine wk_block ?_ | refine wk_cond_t rfl ?_ | refine wk_cond_f rfl ?_ | (refine wk_exit ?_; (repeat (refine blockK_other rfl ?_)); refine blockK_same ?_; try ((repeat ((fail_if_success (refine hK _ _ ?_)); clear hK K)); refine hK _ _ ?_; clear hK K)) | (refine a_bin ?_ ?_ <;> intro _ <;> try (exfalso; omega)) | refine a_ld hl ?_ | (refine a_st hl ?_; clear hl; intro _ hl) | refine a_ix (fun _ => ?_) | fail)
      refine wk_ret (retQ_tmp1 Try.results25 (by decide) rfl (by conv => lhs; whnf) ?_)
      exact ⟨acc, LH.earlier he1 (hl.sub (List.sublist_append_right _ _)), by rw [hlk]; exact hacc⟩
end Go.Proofs
