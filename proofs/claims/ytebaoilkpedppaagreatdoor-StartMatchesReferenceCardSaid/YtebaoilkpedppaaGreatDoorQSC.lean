/-
  Conditions of commencement: Valid, Names.
-/
import Derived.Test.YtebaoilkpedppaaGreatDoorQSB
set_option linter.unusedVariables false
set_option linter.unusedSimpArgs false
set_option linter.unnecessarySimpa false
set_option maxRecDepth 10000
namespace Go.Proofs
open Go Go.Pd Go.Sta
attribute [local irreducible] OpsL W RetQ OpsQ OpsC
theorem valid_calls {s : Sn} {w : World} {kv : Value} (hk : KA w s.kids kv) (hfit : fitS s) : Calls Tryz.prog 11 #[.agg (snL s kv).toArray] w (fun e w' => ∃ v, e = .returned v ∧ v = .bool (validB s) ∧ Ext w w') := by
  refine calls_of Tryz.func11 rfl Tryz.ntmps11 rfl ?_
  refine wk_seq fun K hK => ?_
  refine wk_reg ?_
  refine o_box (LH.start w (fun _ => False)) (snL s kv) rfl rfl rfl ?_
  intro b1 w1 hb1 hl1
  repeat' (first | refine a_mov ?_ | refine a_asg ?_ | refine a_binN ?_ | refine a_notd ?_ | refine a_notb ?_ | refine a_nilc ?_ | refine a_fa ?_ | refine a_ext ?_ | refine a_lenv ?_ | refine a_lens ?_ | refine a_pick_t ?_ | refine a_pick_f ?_ | refine a_not ?_ | refine a_nilf ?_ | (refine a_bin ?_ ?_ <;> intro _ <;> try (exfalso; omega)) | refine a_ld hl ?_ | (refine a_st hl ?_; clear hl; intro _ hl) | refine a_ix (fun _ => ?_) | fail)
  refine o_nil (hK _ _ ?_)
  clear hK K
  refine wk_seq fun K hK => ?_
  refine wk_reg ?_
  refine o_alloc hl1 [.int .i64 0] rfl rfl ?_
  clear hl1
  intro b3 w3 hb3 hl
  repeat' (first | refine a_mov ?_ | refine a_asg ?_ | refine a_binN ?_ | refine a_notd ?_ | refine a_notb ?_ | refine a_nilc ?_ | refine a_fa ?_ | refine a_ext ?_ | refine a_lenv ?_ | refine a_lens ?_ | refine a_pick_t ?_ | refine a_pick_f ?_ | refine a_not ?_ | refine a_nilf ?_ | (refine a_bin ?_ ?_ <;> intro _ <;> try (exfalso; omega)) | refine a_ld hl ?_ | (refine a_st hl ?_; clear hl; intro _ hl) | refine a_ix (fun _ => ?_) | fail)
  refine o_nil (hK _ _ ?_)
  clear hK K
  rename_i w4
  have hl : LH w (fun _ => False) w4 [leftB b3 200, (b1, .cells (snL s kv).toArray 24 (0, 0))] := hl
  have hr1 : Row w4 b1 0 (snL s kv) := hl.rowL (vs := snL s kv) 1 0 4 rfl
  have hown : LH w (fun _ => False) w4 [leftB b3 200] := hl.sub (by simp)
  have hkr : KR w4 (fun b => b ≠ b3) s.kids kv := (KR.ext hk hl.done).mono fun b hb => by
    have : b < w.heap.size := hb
    intro e
    omega
  repeat' (first | refine a_mov ?_ | refine a_asg ?_ | refine a_binN ?_ | refine a_notd ?_ | refine a_notb ?_ | refine a_nilc ?_ | refine a_fa ?_ | refine a_ext ?_ | refine a_lenv ?_ | refine a_lens ?_ | refine a_pick_t ?_ | refine a_pick_f ?_ | refine a_not ?_ | refine a_nilf ?_ | (refine o_nil (hK _ _ ?_); clear hK K) | refine wk_reg ?_ | refine wk_seq fun K hK => ?_ | (refine wk_skip (hK _ _ ?_); clear hK K) | (refine wk_label (hK _ _ ?_); clear hK K) | refine wk_scope ?_ | refine wk_block ?_ | refine wk_cond_t rfl ?_ | refine wk_cond_f rfl ?_ | (refine wk_exit ?_; (repeat (refine blockK_other rfl ?_)); refine blockK_same ?_; try ((repeat ((fail_if_success (refine hK _ _ ?_)); clear hK K)); refine hK _ _ ?_; clear hK K)) | (refine a_bin ?_ ?_ <;> intro _ <;> try (exfalso; omega)) | refine a_ld hl ?_ | (refine a_st hl ?_; clear hl; intro _ hl) | refine a_ix (fun _ => ?_) | refine a_all hr1 ?_ | fail)
  refine a_fn (proper_calls s w4 kv 20 b3 200 hkr hown.rb hfit (by omega) (by omega) (by omega)) ?_
  rintro _ w5 ⟨b, left', rfl, hl5, -, -, h4, h5⟩
  repeat' (first | refine a_mov ?_ | refine a_asg ?_ | refine a_binN ?_ | refine a_notd ?_ | refine a_notb ?_ | refine a_nilc ?_ | refine a_fa ?_ | refine a_ext ?_ | refine a_lenv ?_ | refine a_lens ?_ | refine a_pick_t ?_ | refine a_pick_f ?_ | refine a_not ?_ | refine a_nilf ?_ | (refine o_nil (hK _ _ ?_); clear hK K) | refine wk_reg ?_ | refine wk_seq fun K hK => ?_ | (refine wk_skip (hK _ _ ?_); clear hK K) | (refine wk_label (hK _ _ ?_); clear hK K) | refine wk_scope ?_ | refine wk_block ?_ | refine wk_cond_t rfl ?_ | refine wk_cond_f rfl ?_ | (refine wk_exit ?_; (repeat (refine blockK_other rfl ?_)); refine blockK_same ?_; try ((repeat ((fail_if_success (refine hK _ _ ?_)); clear hK K)); refine hK _ _ ?_; clear hK K)) | (refine a_bin ?_ ?_ <;> intro _ <;> try (exfalso; omega)) | refine a_ld hl ?_ | (refine a_st hl ?_; clear hl; intro _ hl) | refine a_ix (fun _ => ?_) | fail)
  refine wk_ret (retQ_tmp1 Tryz.results11 (by decide) rfl (by conv => lhs; whnf) ?_)
  refine ⟨?_, (hown.bk hl5).done⟩
  unfold validB
  cases b
  · rw [decide_eq_false (show ¬ Valid s from h5 rfl)]
  · rw [decide_eq_true (show Valid s from (h4 rfl).1)]

/-! ### Texts -/
abbrev strL (l : List Tx) : List Value := l.map str
theorem strL_len (l : List Tx) : (strL l).length = l.length * 1 := by simp
theorem Sl.tx {w : World} {a : Option Addr} {m c : Nat} {l : List Tx} (hv : Sl w (.slice a m c) 1 (strL l)) (hm : m = l.length) {k : Nat} (hk : k < l.length) : ∃ b o, a = some ⟨b, o, none⟩ ∧ Row w b (o + k * 1) [str l[k]] := by
  subst hm
  obtain ⟨b, o, hp, hr⟩ := hv.at (strL_len l) (by omega) (by omega)
  refine ⟨b, o, hp, ?_⟩
  intro j v hj
  cases j with
  | zero =>
    simp at hj
    subst hj
    exact hr (k * 1) _ (by simp [hk])
  | succ j => simp at hj
theorem idxStr_calls {l : List Tx} {v : Value} (t : Tx) {w : World} (hv : Sl w v 1 (strL l)) (hlen : l.length ≤ 140737488351232) :
    Calls Tryz.prog 67 #[v, str t] w (fun e w' => ∃ x, e = .returned x ∧ (∃ z : Int, x = .int .i64 z ∧ (t ∈ l → 0 ≤ z) ∧ (t ∉ l → z = -1)) ∧ w' = w) := by
  obtain ⟨pa, ca, rfl, -⟩ := hv.shape (strL_len l) (by omega)
  refine calls_of Tryz.func67 rfl Tryz.ntmps67 rfl ?_
  repeat' (first | refine a_mov ?_ | refine a_asg ?_ | refine a_binN ?_ | refine a_notd ?_ | refine a_notb ?_ | refine a_nilc ?_ | refine a_fa ?_ | refine a_ext ?_ | refine a_lenv ?_ | refine a_lens ?_ | refine a_pick_t ?_ | refine a_pick_f ?_ | refine a_not ?_ | refine a_nilf ?_ | (refine o_nil (hK _ _ ?_); clear hK K) | refine wk_reg ?_ | refine wk_seq fun K hK => ?_ | (refine wk_skip (hK _ _ ?_); clear hK K) | (refine wk_label (hK _ _ ?_); clear hK K) | refine wk_scope ?_ | refine wk_block ?_ | refine wk_cond_t rfl ?_ | refine wk_cond_f rfl ?_ | (refine wk_exit ?_; (repeat (refine blockK_other rfl ?_)); refine blockK_same ?_; try ((repeat ((fail_if_success (refine hK _ _ ?_)); clear hK K)); refine hK _ _ ?_; clear hK K)) | (refine a_bin ?_ ?_ <;> intro _ <;> try (exfalso; omega)) | refine a_ld hl ?_ | (refine a_st hl ?_; clear hl; intro _ hl) | refine a_ix (fun _ => ?_) | fail)
  refine wk_loopH [] rfl (fun i : Nat => [(0, .slice pa l.length ca), (1, str t), (7, .int .i64 (l.length : Int)), (8, .int .i64 (i : Int))]) (fun i w' => (i ≤ l.length ∧ ∀ j (h : j < l.length), j < i → l[j] ≠ t) ∧ w' = w) (fun i => l.length - i) 0 ⟨rfl, rfl, rfl, rfl, trivial⟩ ⟨⟨Nat.zero_le _, fun j _ h => absurd h (Nat.not_lt_zero j)⟩, rfl⟩ ?_
  rintro i t1 w1 ⟨⟨hi, hpre⟩, rfl⟩
  by_cases hi1 : i < l.length
  · obtain ⟨b, o, hpp, hr⟩ := Sl.tx hv rfl hi1
    repeat' (first | refine a_mov ?_ | refine a_asg ?_ | refine a_binN ?_ | refine a_notd ?_ | refine a_notb ?_ | refine a_nilc ?_ | refine a_fa ?_ | refine a_ext ?_ | refine a_lenv ?_ | refine a_lens ?_ | refine a_pick_t ?_ | refine a_pick_f ?_ | refine a_not ?_ | refine a_nilf ?_ | (refine o_nil (hK _ _ ?_); clear hK K) | refine wk_reg ?_ | refine wk_seq fun K hK => ?_ | (refine wk_skip (hK _ _ ?_); clear hK K) | (refine wk_label (hK _ _ ?_); clear hK K) | refine wk_scope ?_ | refine wk_block ?_ | refine wk_cond_t rfl ?_ | refine wk_cond_f rfl ?_ | (refine wk_exit ?_; (repeat (refine blockK_other rfl ?_)); refine blockK_same ?_; try ((repeat ((fail_if_success (refine hK _ _ ?_)); clear hK K)); refine hK _ _ ?_; clear hK K)) | (refine a_bin ?_ ?_ <;> intro _ <;> try (exfalso; omega)) | refine a_ld hl ?_ | (refine a_st hl ?_; clear hl; intro _ hl) | refine a_ix (fun _ => ?_) | refine a_idx (c := 1) i hpp ?_ | refine a_row hr ?_ | fail)
    refine o_eqsT (a := t) (b := l[i]) rfl rfl rfl ?_ ?_ <;> intro he
    · repeat' (first | refine a_mov ?_ | refine a_asg ?_ | refine a_binN ?_ | refine a_notd ?_ | refine a_notb ?_ | refine a_nilc ?_ | refine a_fa ?_ | refine a_ext ?_ | refine a_lenv ?_ | refine a_lens ?_ | refine a_pick_t ?_ | refine a_pick_f ?_ | refine a_not ?_ | refine a_nilf ?_ | (refine o_nil (hK _ _ ?_); clear hK K) | refine wk_reg ?_ | refine wk_seq fun K hK => ?_ | (refine wk_skip (hK _ _ ?_); clear hK K) | (refine wk_label (hK _ _ ?_); clear hK K) | refine wk_scope ?_ | refine wk_block ?_ | refine wk_cond_t rfl ?_ | refine wk_cond_f rfl ?_ | (refine wk_exit ?_; (repeat (refine blockK_other rfl ?_)); refine blockK_same ?_; try ((repeat ((fail_if_success (refine hK _ _ ?_)); clear hK K)); refine hK _ _ ?_; clear hK K)) | (refine a_bin ?_ ?_ <;> intro _ <;> try (exfalso; omega)) | refine a_ld hl ?_ | (refine a_st hl ?_; clear hl; intro _ hl) | refine a_ix (fun _ => ?_) | fail)
      refine wk_ret (retQ_tmp1 Tryz.results67 (by decide) rfl (by conv => lhs; whnf) ?_)
      exact ⟨⟨(i : Int), rfl, fun _ => by omega, fun h => absurd (he ▸ List.getElem_mem hi1) h⟩, rfl⟩
    · repeat' (first | refine a_mov ?_ | refine a_asg ?_ | refine a_binN ?_ | refine a_notd ?_ | refine a_notb ?_ | refine a_nilc ?_ | refine a_fa ?_ | refine a_ext ?_ | refine a_lenv ?_ | refine a_lens ?_ | refine a_pick_t ?_ | refine a_pick_f ?_ | refine a_not ?_ | refine a_nilf ?_ | (refine o_nil (hK _ _ ?_); clear hK K) | refine wk_reg ?_ | refine wk_seq fun K hK => ?_ | (refine wk_skip (hK _ _ ?_); clear hK K) | (refine wk_label (hK _ _ ?_); clear hK K) | refine wk_scope ?_ | refine wk_block ?_ | refine wk_cond_t rfl ?_ | refine wk_cond_f rfl ?_ | (refine wk_exit ?_; (repeat (refine blockK_other rfl ?_)); refine blockK_same ?_; try ((repeat ((fail_if_success (refine hK _ _ ?_)); clear hK K)); refine hK _ _ ?_; clear hK K)) | (refine a_bin ?_ ?_ <;> intro _ <;> try (exfalso; omega)) | refine a_ld hl ?_ | (refine a_st hl ?_; clear hl; intro _ hl) | refine a_ix (fun _ => ?_) | fail)
      exact o_nil ⟨i + 1, ⟨rfl, rfl, rfl, rfl, trivial⟩, rfl, ⟨⟨hi1, fun j hj hji => by
        by_cases e : j = i
        · subst e; exact fun h => he h.symm
        · exact hpre j hj (by omega)⟩, rfl⟩, by omega⟩
  · repeat' (first | refine a_mov ?_ | refine a_asg ?_ | refine a_binN ?_ | refine a_notd ?_ | refine a_notb ?_ | refine a_nilc ?_ | refine a_fa ?_ | refine a_ext ?_ | refine a_lenv ?_ | refine a_lens ?_ | refine a_pick_t ?_ | refine a_pick_f ?_ | refine a_not ?_ | refine a_nilf ?_ | (refine o_nil (hK _ _ ?_); clear hK K) | refine wk_reg ?_ | refine wk_seq fun K hK => ?_ | (refine wk_skip (hK _ _ ?_); clear hK K) | (refine wk_label (hK _ _ ?_); clear hK K) | refine wk_scope ?_ | refine wk_block ?_ | refine wk_cond_t rfl ?_ | refine wk_cond_f rfl ?_ | (refine wk_exit ?_; (repeat (refine blockK_other rfl ?_)); refine blockK_same ?_; try ((repeat ((fail_if_success (refine hK _ _ ?_)); clear hK K)); refine hK _ _ ?_; clear hK K)) | (refine a_bin ?_ ?_ <;> intro _ <;> try (exfalso; omega)) | refine a_ld hl ?_ | (refine a_st hl ?_; clear hl; intro _ hl) | refine a_ix (fun _ => ?_) | fail)
    refine wk_ret (retQ_tmp1 Tryz.results67 (by decide) rfl (by conv => lhs; whnf) ?_)
    refine ⟨⟨-1, rfl, fun h => ?_, fun _ => rfl⟩, rfl⟩
    obtain ⟨j, hj, he⟩ := List.mem_iff_getElem.1 h
    exact absurd he (hpre j hj (by omega))
theorem hasStr_calls {l : List Tx} {v : Value} (t : Tx) {w : World} (hv : Sl w v 1 (strL l)) (hlen : l.length ≤ 140737488351232) :
    Calls Tryz.prog 34 #[v, str t] w (fun e w' => ∃ x, e = .returned x ∧ x = .bool (decide (t ∈ l)) ∧ w' = w) := by
  refine calls_of Tryz.func34 rfl Tryz.ntmps34 rfl ?_
  repeat' (first | refine a_mov ?_ | refine a_asg ?_ | refine a_binN ?_ | refine a_notd ?_ | refine a_notb ?_ | refine a_nilc ?_ | refine a_fa ?_ | refine a_ext ?_ | refine a_lenv ?_ | refine a_lens ?_ | refine a_pick_t ?_ | refine a_pick_f ?_ | refine a_not ?_ | refine a_nilf ?_ | (refine o_nil (hK _ _ ?_); clear hK K) | refine wk_reg ?_ | refine wk_seq fun K hK => ?_ | (refine wk_skip (hK _ _ ?_); clear hK K) | (refine wk_label (hK _ _ ?_); clear hK K) | refine wk_scope ?_ | refine wk_block ?_ | refine wk_cond_t rfl ?_ | refine wk_cond_f rfl ?_ | (refine wk_exit ?_; (repeat (refine blockK_other rfl ?_)); refine blockK_same ?_; try ((repeat ((fail_if_success (refine hK _ _ ?_)); clear hK K)); refine hK _ _ ?_; clear hK K)) | (refine a_bin ?_ ?_ <;> intro _ <;> try (exfalso; omega)) | refine a_ld hl ?_ | (refine a_st hl ?_; clear hl; intro _ hl) | refine a_ix (fun _ => ?_) | fail)
  refine a_fn (idxStr_calls t hv hlen) ?_
  rintro _ w1 ⟨⟨z, rfl, h1, h2⟩, rfl⟩
  by_cases h : t ∈ l
  · have := h1 h
    repeat' (first | refine a_mov ?_ | refine a_asg ?_ | refine a_binN ?_ | refine a_notd ?_ | refine a_notb ?_ | refine a_nilc ?_ | refine a_fa ?_ | refine a_ext ?_ | refine a_lenv ?_ | refine a_lens ?_ | refine a_pick_t ?_ | refine a_pick_f ?_ | refine a_not ?_ | refine a_nilf ?_ | (refine o_nil (hK _ _ ?_); clear hK K) | refine wk_reg ?_ | refine wk_seq fun K hK => ?_ | (refine wk_skip (hK _ _ ?_); clear hK K) | (refine wk_label (hK _ _ ?_); clear hK K) | refine wk_scope ?_ | refine wk_block ?_ | refine wk_cond_t rfl ?_ | refine wk_cond_f rfl ?_ | (refine wk_exit ?_; (repeat (refine blockK_other rfl ?_)); refine blockK_same ?_; try ((repeat ((fail_if_success (refine hK _ _ ?_)); clear hK K)); refine hK _ _ ?_; clear hK K)) | (refine a_bin ?_ ?_ <;> intro _ <;> try (exfalso; omega)) | refine a_ld hl ?_ | (refine a_st hl ?_; clear hl; intro _ hl) | refine a_ix (fun _ => ?_) | fail)
    refine wk_ret (retQ_tmp1 Tryz.results34 (by decide) rfl (by conv => lhs; whnf) ?_)
    exact ⟨by rw [decide_eq_true h], rfl⟩
  · have := h2 h
    repeat' (first | refine a_mov ?_ | refine a_asg ?_ | refine a_binN ?_ | refine a_notd ?_ | refine a_notb ?_ | refine a_nilc ?_ | refine a_fa ?_ | refine a_ext ?_ | refine a_lenv ?_ | refine a_lens ?_ | refine a_pick_t ?_ | refine a_pick_f ?_ | refine a_not ?_ | refine a_nilf ?_ | (refine o_nil (hK _ _ ?_); clear hK K) | refine wk_reg ?_ | refine wk_seq fun K hK => ?_ | (refine wk_skip (hK _ _ ?_); clear hK K) | (refine wk_label (hK _ _ ?_); clear hK K) | refine wk_scope ?_ | refine wk_block ?_ | refine wk_cond_t rfl ?_ | refine wk_cond_f rfl ?_ | (refine wk_exit ?_; (repeat (refine blockK_other rfl ?_)); refine blockK_same ?_; try ((repeat ((fail_if_success (refine hK _ _ ?_)); clear hK K)); refine hK _ _ ?_; clear hK K)) | (refine a_bin ?_ ?_ <;> intro _ <;> try (exfalso; omega)) | refine a_ld hl ?_ | (refine a_st hl ?_; clear hl; intro _ hl) | refine a_ix (fun _ => ?_) | fail)
    refine wk_ret (retQ_tmp1 Tryz.results34 (by decide) rfl (by conv => lhs; whnf) ?_)
    exact ⟨by rw [decide_eq_false h], rfl⟩

/-! ### Names -/
def clo (ob wb : Nat) : Value := .func (.func 33) #[] #[.pointer (some ⟨ob, 0, none⟩), .pointer (some ⟨wb, 0, none⟩)]
def outL (ob wb : Nat) (ov : Value) (acc : List (Nat × Obj)) : List (Nat × Obj) := (ob, .cells [ov].toArray 43 (0, 0)) :: (wb, .cells [clo ob wb].toArray 68 (0, 0)) :: acc
def WalkC (s : Sn) : Prop := ∀ (w0 w : World) (kv : Value) (ob wb : Nat) (ov : Value) (acc : List (Nat × Obj)) (l : List Tx), KA w0 s.kids kv → LH w0 (fun _ => False) w (outL ob wb ov acc) → Acc ov 1 9 l.length (strL l) acc → fitS s → l.length + cnt s ≤ 1000000 →
    Calls Tryz.prog 33 #[.agg (snL s kv).toArray, .pointer (some ⟨ob, 0, none⟩), .pointer (some ⟨wb, 0, none⟩)] w (fun e w' => ∃ v, e = .returned v ∧ ∃ ov' acc', LH w0 (fun _ => False) w' (outL ob wb ov' acc') ∧ Acc ov' 1 9 (nms s l).length (strL (nms s l)) acc')
end Go.Proofs

set_option linter.unusedVariables false
set_option linter.unusedSimpArgs false
set_option linter.unnecessarySimpa false
set_option maxRecDepth 10000
namespace Go.Sta
theorem addT_len (l : List Tx) (t : Tx) : (addT l t).length ≤ l.length + 1 := by
  unfold addT
  split
  · omega
  · simp
mutual
theorem nms_len : ∀ (s : Sn) (l : List Tx), (nms s l).length ≤ l.length + cnt s
  | .node o t d ks, l => by
    simp only [nms, cnt]
    have h1 := nmsL_len ks (if o = 6 ∨ o = 7 then addT l t else l)
    have h2 : (if o = 6 ∨ o = 7 then addT l t else l).length ≤ l.length + 1 := by
      split
      · exact addT_len _ _
      · omega
    omega
theorem nmsL_len : ∀ (ks : List Sn) (l : List Tx), (nmsL ks l).length ≤ l.length + cntL ks
  | [], l => by simp [nmsL, cntL]
  | k :: ks, l => by
    simp only [nmsL, cntL]
    have h1 := nmsL_len ks (nms k l)
    have h2 := nms_len k l
    omega
end
end Go.Sta
namespace Go.Proofs
open Go Go.Pd Go.Sta
attribute [local irreducible] OpsL W RetQ OpsQ OpsC
set_option maxHeartbeats 2000000 in
theorem walk_calls : ∀ s : Sn, WalkC s := Sn.ind fun s ih => by
  intro w0 w kv ob wb ov acc l hk hl0 hacc hfit hcnt
  obtain ⟨ka, kc, rfl, -⟩ := hk.shape
  obtain ⟨hf1, hf2, hf3⟩ := (fitS_eq s).1 hfit
  have hce := cnt_eq s
  obtain ⟨oa, oc, rfl⟩ := hacc.shape
  refine calls_of Tryz.func33 rfl Tryz.ntmps33 rfl ?_
  refine wk_seq fun K hK => ?_
  refine wk_reg ?_
  refine o_box hl0 (snL s (.slice ka s.kids.length kc)) rfl rfl rfl ?_
  intro b3 w3 hb3 hl
  have hl : LH w0 (fun _ => False) w3 ((b3, .cells (snL s (.slice ka s.kids.length kc)).toArray 24 (0, 0)) :: (ob, .cells [.slice oa l.length oc].toArray 43 (0, 0)) :: (wb, .cells [clo ob wb].toArray 68 (0, 0)) :: acc) := hl
  refine o_nil (hK _ _ ?_)
  clear hK K
  refine wk_seq fun K hK => ?_
  refine wk_cut [] (fun z : Value => [(1, .pointer (some ⟨ob, 0, none⟩)), (2, .pointer (some ⟨wb, 0, none⟩)), (3, .pointer (some ⟨b3, 0, none⟩))]) (fun z w' => ∃ acc', LH w0 (fun _ => False) w' ((b3, .cells (snL s (.slice ka s.kids.length kc)).toArray 24 (0, 0)) :: outL ob wb z acc') ∧ Acc z 1 9 (if s.op = 6 ∨ s.op = 7 then addT l s.name else l).length (strL (if s.op = 6 ∨ s.op = 7 then addT l s.name else l)) acc') ?_ ?_
  · clear hK K
    by_cases hop : s.op = 6 ∨ s.op = 7
    · rw [if_pos hop]
      have hsl : Sl w3 (.slice oa l.length oc) 1 (strL l) := LH.acc_sl (l := [_, _, _]) hl hacc
      repeat' (first | refine a_mov ?_ | refine a_asg ?_ | refine a_binN ?_ | refine a_notd ?_ | refine a_notb ?_ | refine a_nilc ?_ | refine a_fa ?_ | refine a_ext ?_ | refine a_lenv ?_ | refine a_lens ?_ | refine a_pick_t ?_ | refine a_pick_f ?_ | refine a_not ?_ | refine a_nilf ?_ | (refine o_nil (hK _ _ ?_); clear hK K) | refine wk_reg ?_ | refine wk_seq fun K hK => ?_ | (refine wk_skip (hK _ _ ?_); clear hK K) | (refine wk_label (hK _ _ ?_); clear hK K) | refine wk_scope ?_ | refine wk_block ?_ | refine wk_cond_t rfl ?_ | refine wk_cond_f rfl ?_ | (refine wk_exit ?_; (repeat (refine blockK_other rfl ?_)); refine blockK_same ?_; try ((repeat ((fail_if_success (refine hK _ _ ?_)); clear hK K)); refine hK _ _ ?_; clear hK K)) | (refine a_bin ?_ ?_ <;> intro _ <;> try (exfalso; omega)) | refine a_ld hl ?_ | (refine a_st hl ?_; clear hl; intro _ hl) | refine a_ix (fun _ => ?_) | fail)
      all_goals
        refine a_fn (hasStr_calls s.name hsl (by omega)) ?_
        rintro _ w4 ⟨rfl, rfl⟩
        by_cases hin : s.name ∈ l
        · rw [decide_eq_true hin]
          repeat' (first | refine a_mov ?_ | refine a_asg ?_ | refine a_binN ?_ | refine a_notd ?_ | refine a_notb ?_ | refine a_nilc ?_ | refine a_fa ?_ | refine a_ext ?_ | refine a_lenv ?_ | refine a_lens ?_ | refine a_pick_t ?_ | refine a_pick_f ?_ | refine a_not ?_ | refine a_nilf ?_ | (refine o_nil (hK _ _ ?_); clear hK K) | refine wk_reg ?_ | refine wk_seq fun K hK => ?_ | (refine wk_skip (hK _ _ ?_); clear hK K) | (refine wk_label (hK _ _ ?_); clear hK K) | refine wk_scope ?_ | refine wk_block ?_ | refine wk_cond_t rfl ?_ | refine wk_cond_f rfl ?_ | (refine wk_exit ?_; (repeat (refine blockK_other rfl ?_)); refine blockK_same ?_; try ((repeat ((fail_if_success (refine hK _ _ ?_)); clear hK K)); refine hK _ _ ?_; clear hK K)) | (refine a_bin ?_ ?_ <;> intro _ <;> try (exfalso; omega)) | refine a_ld hl ?_ | (refine a_st hl ?_; clear hl; intro _ hl) | refine a_ix (fun _ => ?_) | fail)
          exact wk_skip ⟨_, ⟨rfl, rfl, rfl, trivial⟩, rfl, acc, hl, by rw [show addT l s.name = l from if_pos hin]; exact hacc⟩
        · rw [decide_eq_false hin]
          repeat' (first | refine a_mov ?_ | refine a_asg ?_ | refine a_binN ?_ | refine a_notd ?_ | refine a_notb ?_ | refine a_nilc ?_ | refine a_fa ?_ | refine a_ext ?_ | refine a_lenv ?_ | refine a_lens ?_ | refine a_pick_t ?_ | refine a_pick_f ?_ | refine a_not ?_ | refine a_nilf ?_ | (refine o_nil (hK _ _ ?_); clear hK K) | refine wk_reg ?_ | refine wk_seq fun K hK => ?_ | (refine wk_skip (hK _ _ ?_); clear hK K) | (refine wk_label (hK _ _ ?_); clear hK K) | refine wk_scope ?_ | refine wk_block ?_ | refine wk_cond_t rfl ?_ | refine wk_cond_f rfl ?_ | (refine wk_exit ?_; (repeat (refine blockK_other rfl ?_)); refine blockK_same ?_; try ((repeat ((fail_if_success (refine hK _ _ ?_)); clear hK K)); refine hK _ _ ?_; clear hK K)) | (refine a_bin ?_ ?_ <;> intro _ <;> try (exfalso; omega)) | refine a_ld hl ?_ | (refine a_st hl ?_; clear hl; intro _ hl) | refine a_ix (fun _ => ?_) | fail)
          refine o_buildSlice hl [str s.name] rfl rfl (by simp only [str_eq]; kernel_rfl) ?_
          intro b6 w6 hb6 hl6
          refine o_append (bl' := (b6, .cells [str s.name].toArray 9 (0, 0)) :: (b3, .cells (snL s (.slice ka s.kids.length kc)).toArray 24 (0, 0)) :: (ob, .cells [.slice oa l.length oc].toArray 43 (0, 0)) :: (wb, .cells [clo ob wb].toArray 68 (0, 0)) :: []) (k := 1) (bytes := 16) (q := 1) (us := [str s.name]) hl6 hacc (hl6.rowL (vs := [str s.name]) 0 0 1 rfl) rfl (by simp [oneCell_str]) (by omega) (by omega) (by omega) rfl rfl rfl rfl rfl ?_
          clear hl6
          intro ov' w7 acc' hl7 hacc'
          obtain ⟨xa, xc, rfl⟩ := hacc'.shape
          refine o_put1 (v := .slice xa (l.length + 1) xc) hl7 rfl rfl rfl ⟨rfl, rfl⟩ rfl (.there (.there (.here rfl rfl))) ?_
          clear hl7
          intro w8 hl8
          refine o_nil ⟨.slice xa (l.length + 1) xc, ⟨rfl, rfl, rfl, trivial⟩, rfl, acc', hl8.sub (List.sublist_cons_self _ _), ?_⟩
          rw [show addT l s.name = l ++ [s.name] from if_neg hin, List.length_append, strL, List.map_append]
          exact hacc'
    · rw [if_neg hop]
      repeat' (first | refine a_mov ?_ | refine a_asg ?_ | refine a_binN ?_ | refine a_notd ?_ | refine a_notb ?_ | refine a_nilc ?_ | refine a_fa ?_ | refine a_ext ?_ | refine a_lenv ?_ | refine a_lens ?_ | refine a_pick_t ?_ | refine a_pick_f ?_ | refine a_not ?_ | refine a_nilf ?_ | (refine o_nil (hK _ _ ?_); clear hK K) | refine wk_reg ?_ | refine wk_seq fun K hK => ?_ | (refine wk_skip (hK _ _ ?_); clear hK K) | (refine wk_label (hK _ _ ?_); clear hK K) | refine wk_scope ?_ | refine wk_block ?_ | refine wk_cond_t rfl ?_ | refine wk_cond_f rfl ?_ | (refine wk_exit ?_; (repeat (refine blockK_other rfl ?_)); refine blockK_same ?_; try ((repeat ((fail_if_success (refine hK _ _ ?_)); clear hK K)); refine hK _ _ ?_; clear hK K)) | (refine a_bin ?_ ?_ <;> intro _ <;> try (exfalso; omega)) | refine a_ld hl ?_ | (refine a_st hl ?_; clear hl; intro _ hl) | refine a_ix (fun _ => ?_) | fail)
      exact wk_skip ⟨_, ⟨rfl, rfl, rfl, trivial⟩, rfl, acc, hl, hacc⟩
  clear hl hl0 hacc
  rintro ov2 t4 w4 ⟨acc2, hl, hacc⟩
  refine hK _ _ ?_
  clear hK K
  have hl1 : (if s.op = 6 ∨ s.op = 7 then addT l s.name else l).length ≤ l.length + 1 := by
    split
    · exact addT_len _ _
    · omega
  have hnm := nms_eq s l
  generalize (if s.op = 6 ∨ s.op = 7 then addT l s.name else l) = l1 at *
  have hl : LH w0 (fun _ => False) w4 ((b3, .cells (snL s (.slice ka s.kids.length kc)).toArray 24 (0, 0)) :: (ob, .cells [ov2].toArray 43 (0, 0)) :: (wb, .cells [clo ob wb].toArray 68 (0, 0)) :: acc2) := hl
  repeat' (first | refine a_mov ?_ | refine a_asg ?_ | refine a_binN ?_ | refine a_notd ?_ | refine a_notb ?_ | refine a_nilc ?_ | refine a_fa ?_ | refine a_ext ?_ | refine a_lenv ?_ | refine a_lens ?_ | refine a_pick_t ?_ | refine a_pick_f ?_ | refine a_not ?_ | refine a_nilf ?_ | (refine o_nil (hK _ _ ?_); clear hK K) | refine wk_reg ?_ | refine wk_seq fun K hK => ?_ | (refine wk_skip (hK _ _ ?_); clear hK K) | (refine wk_label (hK _ _ ?_); clear hK K) | refine wk_scope ?_ | refine wk_block ?_ | refine wk_cond_t rfl ?_ | refine wk_cond_f rfl ?_ | (refine wk_exit ?_; (repeat (refine blockK_other rfl ?_)); refine blockK_same ?_; try ((repeat ((fail_if_success (refine hK _ _ ?_)); clear hK K)); refine hK _ _ ?_; clear hK K)) | (refine a_bin ?_ ?_ <;> intro _ <;> try (exfalso; omega)) | refine a_ld hl ?_ | (refine a_st hl ?_; clear hl; intro _ hl) | refine a_ix (fun _ => ?_) | fail)
  refine wk_loopH [] rfl (fun i : Nat => [(1, .pointer (some ⟨ob, 0, none⟩)), (2, .pointer (some ⟨wb, 0, none⟩)), (27, .slice ka s.kids.length kc), (28, .int .i64 (s.kids.length : Int)), (29, .int .i64 (i : Int))]) (fun i w' => i ≤ s.kids.length ∧ ∃ ov' acc', LH w0 (fun _ => False) w' (outL ob wb ov' acc') ∧ Acc ov' 1 9 (nmsL (s.kids.take i) l1).length (strL (nmsL (s.kids.take i) l1)) acc') (fun i => s.kids.length - i) 0 ⟨rfl, rfl, rfl, rfl, rfl, trivial⟩ ⟨Nat.zero_le _, ov2, acc2, hl.sub (List.sublist_cons_self _ _), hacc⟩ ?_
  clear hl hacc
  rintro i t5 w5 ⟨hi, ov5, acc5, hl, hacc⟩
  by_cases hi1 : i < s.kids.length
  · obtain ⟨b, o, kv1, hpp, hr, hk1⟩ := (KR.ext hk hl.done).at hi1
    have hkk : KA w0 s.kids[i].kids kv1 := by
      obtain ⟨b', o', kv', hpp', hr', hk'⟩ := KR.at hk hi1
      have e1 : kv' = kv1 := by
        rw [hpp'] at hpp
        injection hpp with h
        injection h with h1 h2
        subst h1
        subst h2
        have a1 := (hr'.ext hl.done) 3 kv' rfl
        have a2 := hr 3 kv1 rfl
        rw [a1] at a2
        injection a2
      rw [← e1]; exact hk'
    have hmem := List.getElem_mem hi1
    have hc1 := cnt_le_of_mem hmem
    have hc2 := nmsL_len (s.kids.take i) l1
    have hc3 := cntL_take_le s.kids (i + 1)
    have hc4 := cntL_take_succ hi1
    repeat' (first | refine a_mov ?_ | refine a_asg ?_ | refine a_binN ?_ | refine a_notd ?_ | refine a_notb ?_ | refine a_nilc ?_ | refine a_fa ?_ | refine a_ext ?_ | refine a_lenv ?_ | refine a_lens ?_ | refine a_pick_t ?_ | refine a_pick_f ?_ | refine a_not ?_ | refine a_nilf ?_ | (refine o_nil (hK _ _ ?_); clear hK K) | refine wk_reg ?_ | refine wk_seq fun K hK => ?_ | (refine wk_skip (hK _ _ ?_); clear hK K) | (refine wk_label (hK _ _ ?_); clear hK K) | refine wk_scope ?_ | refine wk_block ?_ | refine wk_cond_t rfl ?_ | refine wk_cond_f rfl ?_ | (refine wk_exit ?_; (repeat (refine blockK_other rfl ?_)); refine blockK_same ?_; try ((repeat ((fail_if_success (refine hK _ _ ?_)); clear hK K)); refine hK _ _ ?_; clear hK K)) | (refine a_bin ?_ ?_ <;> intro _ <;> try (exfalso; omega)) | refine a_ld hl ?_ | (refine a_st hl ?_; clear hl; intro _ hl) | refine a_ix (fun _ => ?_) | refine a_idx (c := 4) i hpp ?_ | refine a_all hr ?_ | fail)
    refine o_alloc hl [.int .i64 0, .string "".toByteArray, .int .i64 0, .slice none 0 0] (by kernel_rfl) rfl ?_
    intro b6 w6 hb6 hl6
    refine o_putN (us := snL s.kids[i] kv1) hl6 rfl rfl rfl (snL_one hk1) rfl (.here rfl rfl) ?_
    clear hl6 hl
    intro w7 hl
    have hl : LH w0 (fun _ => False) w7 ((b6, .cells (snL s.kids[i] kv1).toArray 24 (0, 0)) :: (ob, .cells [ov5].toArray 43 (0, 0)) :: (wb, .cells [clo ob wb].toArray 68 (0, 0)) :: acc5) := hl
    have hr6 : Row w7 b6 0 (snL s.kids[i] kv1) := hl.rowL (vs := snL s.kids[i] kv1) 0 0 4 rfl
    repeat' (first | refine a_mov ?_ | refine a_asg ?_ | refine a_binN ?_ | refine a_notd ?_ | refine a_notb ?_ | refine a_nilc ?_ | refine a_fa ?_ | refine a_ext ?_ | refine a_lenv ?_ | refine a_lens ?_ | refine a_pick_t ?_ | refine a_pick_f ?_ | refine a_not ?_ | refine a_nilf ?_ | (refine o_nil (hK _ _ ?_); clear hK K) | refine wk_reg ?_ | refine wk_seq fun K hK => ?_ | (refine wk_skip (hK _ _ ?_); clear hK K) | (refine wk_label (hK _ _ ?_); clear hK K) | refine wk_scope ?_ | refine wk_block ?_ | refine wk_cond_t rfl ?_ | refine wk_cond_f rfl ?_ | (refine wk_exit ?_; (repeat (refine blockK_other rfl ?_)); refine blockK_same ?_; try ((repeat ((fail_if_success (refine hK _ _ ?_)); clear hK K)); refine hK _ _ ?_; clear hK K)) | (refine a_bin ?_ ?_ <;> intro _ <;> try (exfalso; omega)) | refine a_ld hl ?_ | (refine a_st hl ?_; clear hl; intro _ hl) | refine a_ix (fun _ => ?_) | refine a_all hr6 ?_ | fail)
    have hl8 : LH w0 (fun _ => False) w7 (outL ob wb ov5 acc5) := hl.sub (List.sublist_cons_self _ _)
    refine a_fc #[.agg (snL s.kids[i] kv1).toArray] #[.pointer (some ⟨ob, 0, none⟩), .pointer (some ⟨wb, 0, none⟩)] _ rfl (ih _ hmem w0 _ kv1 ob wb ov5 acc5 _ hkk hl8 hacc (fitL_mem hf3 _ hmem) (by omega)) ?_
    rintro v8 w8 ⟨ov9, acc9, hl9, hacc9⟩
    repeat' (first | refine a_mov ?_ | refine a_asg ?_ | refine a_binN ?_ | refine a_notd ?_ | refine a_notb ?_ | refine a_nilc ?_ | refine a_fa ?_ | refine a_ext ?_ | refine a_lenv ?_ | refine a_lens ?_ | refine a_pick_t ?_ | refine a_pick_f ?_ | refine a_not ?_ | refine a_nilf ?_ | (refine o_nil (hK _ _ ?_); clear hK K) | refine wk_reg ?_ | refine wk_seq fun K hK => ?_ | (refine wk_skip (hK _ _ ?_); clear hK K) | (refine wk_label (hK _ _ ?_); clear hK K) | refine wk_scope ?_ | refine wk_block ?_ | refine wk_cond_t rfl ?_ | refine wk_cond_f rfl ?_ | (refine wk_exit ?_; (repeat (refine blockK_other rfl ?_)); refine blockK_same ?_; try ((repeat ((fail_if_success (refine hK _ _ ?_)); clear hK K)); refine hK _ _ ?_; clear hK K)) | (refine a_bin ?_ ?_ <;> intro _ <;> try (exfalso; omega)) | refine a_ld hl ?_ | (refine a_st hl ?_; clear hl; intro _ hl) | refine a_ix (fun _ => ?_) | fail)
    refine o_nil ⟨i + 1, ⟨rfl, rfl, rfl, rfl, rfl, trivial⟩, rfl, ⟨hi1, ov9, acc9, hl9, ?_⟩, by omega⟩
    rw [nmsL_take_succ _ _ hi1]
    exact hacc9
  · obtain rfl : i = s.kids.length := by omega
    rw [List.take_length] at hacc
    rw [hnm]
    repeat' (first | refine a_mov ?_ | refine a_asg ?_ | refine a_binN ?_ | refine a_notd ?_ | refine a_notb ?_ | refine a_nilc ?_ | refine a_fa ?_ | refine a_ext ?_ | refine a_lenv ?_ | refine a_lens ?_ | refine a_pick_t ?_ | refine a_pick_f ?_ | refine a_not ?_ | refine a_nilf ?_ | (refine o_nil (hK _ _ ?_); clear hK K) | refine wk_reg ?_ | refine wk_seq fun K hK => ?_ | (refine wk_skip (hK _ _ ?_); clear hK K) | (refine wk_label (hK _ _ ?_); clear hK K) | refine wk_scope ?_ | refine wk_block ?_ | refine wk_cond_t rfl ?_ | refine wk_cond_f rfl ?_ | (refine wk_exit ?_; (repeat (refine blockK_other rfl ?_)); refine blockK_same ?_; try ((repeat ((fail_if_success (refine hK _ _ ?_)); clear hK K)); refine hK _ _ ?_; clear hK K)) | (refine a_bin ?_ ?_ <;> intro _ <;> try (exfalso; omega)) | refine a_ld hl ?_ | (refine a_st hl ?_; clear hl; intro _ hl) | refine a_ix (fun _ => ?_) | fail)
    exact retQ_tmp0 rfl rfl ⟨ov5, acc5, hl, hacc⟩
end Go.Proofs

set_option linter.unusedVariables false
set_option linter.unusedSimpArgs false
set_option linter.unnecessarySimpa false
set_option maxRecDepth 10000
namespace Go.Proofs
open Go Go.Pd Go.Sta
attribute [local irreducible] OpsL W RetQ OpsQ OpsC
set_option maxHeartbeats 2000000 in
theorem names_calls {s : Sn} {w : World} {kv : Value} (hk : KA w s.kids kv) (hfit : fitS s) : Calls Tryz.prog 15 #[.agg (snL s kv).toArray] w (fun e w' => ∃ v, e = .returned v ∧ ∃ acc, LH w (fun _ => False) w' acc ∧ Acc v 1 9 (names s).length (strL (names s)) acc) := by
  refine calls_of Tryz.func15 rfl Tryz.ntmps15 rfl ?_
  refine wk_seq fun K hK => ?_
  refine wk_reg ?_
  refine o_box (LH.start w (fun _ => False)) (snL s kv) rfl rfl rfl ?_
  intro b1 w1 hb1 hl1
  repeat' (first | refine a_mov ?_ | refine a_asg ?_ | refine a_binN ?_ | refine a_notd ?_ | refine a_notb ?_ | refine a_nilc ?_ | refine a_fa ?_ | refine a_ext ?_ | refine a_lenv ?_ | refine a_lens ?_ | refine a_pick_t ?_ | refine a_pick_f ?_ | refine a_not ?_ | refine a_nilf ?_ | (refine a_bin ?_ ?_ <;> intro _ <;> try (exfalso; omega)) | refine a_ld hl ?_ | (refine a_st hl ?_; clear hl; intro _ hl) | refine a_ix (fun _ => ?_) | fail)
  refine o_nil (hK _ _ ?_)
  clear hK K
  have hl : LH w (fun _ => False) w1 [(b1, .cells (snL s kv).toArray 24 (0, 0))] := hl1
  have hr1 : Row w1 b1 0 (snL s kv) := hl.rowL (vs := snL s kv) 0 0 4 rfl
  repeat' (first | refine a_mov ?_ | refine a_asg ?_ | refine a_binN ?_ | refine a_notd ?_ | refine a_notb ?_ | refine a_nilc ?_ | refine a_fa ?_ | refine a_ext ?_ | refine a_lenv ?_ | refine a_lens ?_ | refine a_pick_t ?_ | refine a_pick_f ?_ | refine a_not ?_ | refine a_nilf ?_ | (refine o_nil (hK _ _ ?_); clear hK K) | refine wk_reg ?_ | refine wk_seq fun K hK => ?_ | (refine wk_skip (hK _ _ ?_); clear hK K) | (refine wk_label (hK _ _ ?_); clear hK K) | refine wk_scope ?_ | refine wk_block ?_ | refine wk_cond_t rfl ?_ | refine wk_cond_f rfl ?_ | (refine wk_exit ?_; (repeat (refine blockK_other rfl ?_)); refine blockK_same ?_; try ((repeat ((fail_if_success (refine hK _ _ ?_)); clear hK K)); refine hK _ _ ?_; clear hK K)) | (refine a_bin ?_ ?_ <;> intro _ <;> try (exfalso; omega)) | refine a_ld hl ?_ | (refine a_st hl ?_; clear hl; intro _ hl) | refine a_ix (fun _ => ?_) | refine a_all hr1 ?_ | fail)
  refine a_fn (valid_calls (hk.ext hl.done) hfit) ?_
  rintro _ w3 ⟨rfl, hx3⟩
  have hl3 := hl.ext hx3
  have hr3 := hr1.ext hx3
  clear hl hl1 hr1
  have hns : names s = if validB s then nms s [] else [] := rfl
  cases hv : validB s
  · rw [hv] at hns
    repeat' (first | refine a_mov ?_ | refine a_asg ?_ | refine a_binN ?_ | refine a_notd ?_ | refine a_notb ?_ | refine a_nilc ?_ | refine a_fa ?_ | refine a_ext ?_ | refine a_lenv ?_ | refine a_lens ?_ | refine a_pick_t ?_ | refine a_pick_f ?_ | refine a_not ?_ | refine a_nilf ?_ | (refine o_nil (hK _ _ ?_); clear hK K) | refine wk_reg ?_ | refine wk_seq fun K hK => ?_ | (refine wk_skip (hK _ _ ?_); clear hK K) | (refine wk_label (hK _ _ ?_); clear hK K) | refine wk_scope ?_ | refine wk_block ?_ | refine wk_cond_t rfl ?_ | refine wk_cond_f rfl ?_ | (refine wk_exit ?_; (repeat (refine blockK_other rfl ?_)); refine blockK_same ?_; try ((repeat ((fail_if_success (refine hK _ _ ?_)); clear hK K)); refine hK _ _ ?_; clear hK K)) | (refine a_bin ?_ ?_ <;> intro _ <;> try (exfalso; omega)) | refine a_ld hl ?_ | (refine a_st hl ?_; clear hl; intro _ hl) | refine a_ix (fun _ => ?_) | fail)
    refine wk_ret (retQ_tmp1 Tryz.results15 (by decide) rfl (by conv => lhs; whnf) ?_)
    rw [hns]
    exact ⟨[], hl3.sub (List.nil_sublist _), Acc.nil 1 _⟩
  · rw [hv] at hns
    have hcnt : cnt s ≤ 200 := by
      have h : Valid s := of_decide_eq_true hv
      have := h.1
      omega
    repeat' (first | refine a_mov ?_ | refine a_asg ?_ | refine a_binN ?_ | refine a_notd ?_ | refine a_notb ?_ | refine a_nilc ?_ | refine a_fa ?_ | refine a_ext ?_ | refine a_lenv ?_ | refine a_lens ?_ | refine a_pick_t ?_ | refine a_pick_f ?_ | refine a_not ?_ | refine a_nilf ?_ | (refine o_nil (hK _ _ ?_); clear hK K) | refine wk_reg ?_ | refine wk_seq fun K hK => ?_ | (refine wk_skip (hK _ _ ?_); clear hK K) | (refine wk_label (hK _ _ ?_); clear hK K) | refine wk_scope ?_ | refine wk_block ?_ | refine wk_cond_t rfl ?_ | refine wk_cond_f rfl ?_ | (refine wk_exit ?_; (repeat (refine blockK_other rfl ?_)); refine blockK_same ?_; try ((repeat ((fail_if_success (refine hK _ _ ?_)); clear hK K)); refine hK _ _ ?_; clear hK K)) | (refine a_bin ?_ ?_ <;> intro _ <;> try (exfalso; omega)) | refine a_ld hl ?_ | (refine a_st hl ?_; clear hl; intro _ hl) | refine a_ix (fun _ => ?_) | fail)
    refine o_alloc hl3 [.slice none 0 0] (by kernel_rfl) rfl ?_
    intro b4 w4 hb4 hl4
    clear hl3
    repeat' (first | refine a_mov ?_ | refine a_asg ?_ | refine a_binN ?_ | refine a_notd ?_ | refine a_notb ?_ | refine a_nilc ?_ | refine a_fa ?_ | refine a_ext ?_ | refine a_lenv ?_ | refine a_lens ?_ | refine a_pick_t ?_ | refine a_pick_f ?_ | refine a_not ?_ | refine a_nilf ?_ | (refine o_nil (hK _ _ ?_); clear hK K) | refine wk_reg ?_ | refine wk_seq fun K hK => ?_ | (refine wk_skip (hK _ _ ?_); clear hK K) | (refine wk_label (hK _ _ ?_); clear hK K) | refine wk_scope ?_ | refine wk_block ?_ | refine wk_cond_t rfl ?_ | refine wk_cond_f rfl ?_ | (refine wk_exit ?_; (repeat (refine blockK_other rfl ?_)); refine blockK_same ?_; try ((repeat ((fail_if_success (refine hK _ _ ?_)); clear hK K)); refine hK _ _ ?_; clear hK K)) | (refine a_bin ?_ ?_ <;> intro _ <;> try (exfalso; omega)) | refine a_ld hl ?_ | (refine a_st hl ?_; clear hl; intro _ hl) | refine a_ix (fun _ => ?_) | fail)
    refine o_alloc hl4 [.nilFunc] (by kernel_rfl) rfl ?_
    intro b5 w5 hb5 hl5
    clear hl4
    repeat' (first | refine a_mov ?_ | refine a_asg ?_ | refine a_binN ?_ | refine a_notd ?_ | refine a_notb ?_ | refine a_nilc ?_ | refine a_fa ?_ | refine a_ext ?_ | refine a_lenv ?_ | refine a_lens ?_ | refine a_pick_t ?_ | refine a_pick_f ?_ | refine a_not ?_ | refine a_nilf ?_ | (refine o_nil (hK _ _ ?_); clear hK K) | refine wk_reg ?_ | refine wk_seq fun K hK => ?_ | (refine wk_skip (hK _ _ ?_); clear hK K) | (refine wk_label (hK _ _ ?_); clear hK K) | refine wk_scope ?_ | refine wk_block ?_ | refine wk_cond_t rfl ?_ | refine wk_cond_f rfl ?_ | (refine wk_exit ?_; (repeat (refine blockK_other rfl ?_)); refine blockK_same ?_; try ((repeat ((fail_if_success (refine hK _ _ ?_)); clear hK K)); refine hK _ _ ?_; clear hK K)) | (refine a_bin ?_ ?_ <;> intro _ <;> try (exfalso; omega)) | refine a_ld hl ?_ | (refine a_st hl ?_; clear hl; intro _ hl) | refine a_ix (fun _ => ?_) | fail)
    refine o_mf [] [.pointer (some ⟨b4, 0, none⟩), .pointer (some ⟨b5, 0, none⟩)] rfl rfl rfl ?_
    refine o_put1 (v := clo b4 b5) (b := b5) (o := 0) hl5 rfl rfl rfl ⟨rfl, rfl⟩ rfl (.here rfl rfl) ?_
    clear hl5
    intro w6 hl
    have hr6 : Row w6 b1 0 (snL s kv) := hl.rowL (vs := snL s kv) 2 0 4 rfl
    repeat' (first | refine a_mov ?_ | refine a_asg ?_ | refine a_binN ?_ | refine a_notd ?_ | refine a_notb ?_ | refine a_nilc ?_ | refine a_fa ?_ | refine a_ext ?_ | refine a_lenv ?_ | refine a_lens ?_ | refine a_pick_t ?_ | refine a_pick_f ?_ | refine a_not ?_ | refine a_nilf ?_ | (refine o_nil (hK _ _ ?_); clear hK K) | refine wk_reg ?_ | refine wk_seq fun K hK => ?_ | (refine wk_skip (hK _ _ ?_); clear hK K) | (refine wk_label (hK _ _ ?_); clear hK K) | refine wk_scope ?_ | refine wk_block ?_ | refine wk_cond_t rfl ?_ | refine wk_cond_f rfl ?_ | (refine wk_exit ?_; (repeat (refine blockK_other rfl ?_)); refine blockK_same ?_; try ((repeat ((fail_if_success (refine hK _ _ ?_)); clear hK K)); refine hK _ _ ?_; clear hK K)) | (refine a_bin ?_ ?_ <;> intro _ <;> try (exfalso; omega)) | refine a_ld hl ?_ | (refine a_st hl ?_; clear hl; intro _ hl) | refine a_ix (fun _ => ?_) | refine a_all hr6 ?_ | fail)
    have hl8 : LH w (fun _ => False) w6 (outL b4 b5 (.slice none 0 0) []) := (hl.perm (.swap _ _ _)).sub (by simp [outL])
    refine a_fc #[.agg (snL s kv).toArray] #[.pointer (some ⟨b4, 0, none⟩), .pointer (some ⟨b5, 0, none⟩)] _ rfl (walk_calls s w w6 kv b4 b5 (.slice none 0 0) [] [] hk hl8 (Acc.nil 1 _) hfit (by simp; omega)) ?_
    clear hl
    rintro v8 w8 ⟨ov9, acc9, hl, hacc9⟩
    have hl : LH w (fun _ => False) w8 ((b4, .cells [ov9].toArray 43 (0, 0)) :: (b5, .cells [clo b4 b5].toArray 68 (0, 0)) :: acc9) := hl
    repeat' (first | refine a_mov ?_ | refine a_asg ?_ | refine a_binN ?_ | refine a_notd ?_ | refine a_notb ?_ | refine a_nilc ?_ | refine a_fa ?_ | refine a_ext ?_ | refine a_lenv ?_ | refine a_lens ?_ | refine a_pick_t ?_ | refine a_pick_f ?_ | refine a_not ?_ | refine a_nilf ?_ | (refine o_nil (hK _ _ ?_); clear hK K) | refine wk_reg ?_ | refine wk_seq fun K hK => ?_ | (refine wk_skip (hK _ _ ?_); clear hK K) | (refine wk_label (hK _ _ ?_); clear hK K) | refine wk_scope ?_ | refine wk_block ?_ | refine wk_cond_t rfl ?_ | refine wk_cond_f rfl ?_ | (refine wk_exit ?_; (repeat (refine blockK_other rfl ?_)); refine blockK_same ?_; try ((repeat ((fail_if_success (refine hK _ _ ?_)); clear hK K)); refine hK _ _ ?_; clear hK K)) | (refine a_bin ?_ ?_ <;> intro _ <;> try (exfalso; omega)) | refine a_ld hl ?_ | (refine a_st hl ?_; clear hl; intro _ hl) | refine a_ix (fun _ => ?_) | fail)
    refine wk_ret (retQ_tmp1 Tryz.results15 (by decide) rfl (by conv => lhs; whnf) ?_)
    rw [hns]
    exact ⟨acc9, hl.sub ((List.sublist_cons_self _ _).trans (List.sublist_cons_self _ _)), hacc9⟩
end Go.Proofs
