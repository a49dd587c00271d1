/-
  Conditions of commencement: Names.
-/
import Derived.Test.YtebaoilkpedppaaDoorStC
set_option linter.unusedVariables false
set_option linter.unusedSimpArgs false
set_option linter.unnecessarySimpa false
set_option maxRecDepth 10000
namespace Go.Sta
theorem addT_len (l : List Tx) (t : Tx) : (addT l t).length ≤ l.length + 1 := by
  unfold addT
  split
  · omega
  · simp
mutual
theorem nms_len : ∀ (s : Sn) (l : List Tx), (nms s l).length ≤ l.length + cnt s
  | .node o t d ks, l => by
    simp only [nms, cnt]
    have h1 := nmsL_len ks (if o = 6 ∨ o = 7 then addT l t else l)
    have h2 : (if o = 6 ∨ o = 7 then addT l t else l).length ≤ l.length + 1 := by
      split
      · exact addT_len _ _
      · omega
    omega
theorem nmsL_len : ∀ (ks : List Sn) (l : List Tx), (nmsL ks l).length ≤ l.length + cntL ks
  | [], l => by simp [nmsL, cntL]
  | k :: ks, l => by
    simp only [nmsL, cntL]
    have h1 := nmsL_len ks (nms k l)
    have h2 := nms_len k l
    omega
end
end Go.Sta
namespace Go.Proofs
open Go Go.Pd Go.Sta
attribute [local irreducible] OpsL W RetQ OpsQ OpsC
set_option maxHeartbeats 2000000 in
theorem walk_calls : ∀ s : Sn, WalkC s := Sn.ind fun s ih => by
  intro w0 w kv ob wb ov acc l hk hl0 hacc hfit hcnt
  obtain ⟨ka, kc, rfl, -⟩ := hk.shape
  obtain ⟨hf1, hf2, hf3⟩ := (fitS_eq s).1 hfit
  have hce := cnt_eq s
  obtain ⟨oa, oc, rfl⟩ := hacc.shape
  refine calls_of Tryd.func18 rfl Tryd.ntmps18 rfl ?_
  refine wk_seq fun K hK => ?_
  refine wk_reg ?_
  refine o_box hl0 (snL s (.slice ka s.kids.length kc)) rfl rfl rfl ?_
  intro b3 w3 hb3 hl
  have hl : LH w0 (fun _ => False) w3 ((b3, .cells (snL s (.slice ka s.kids.length kc)).toArray 29 (0, 0)) :: (ob, .cells [.slice oa l.length oc].toArray 42 (0, 0)) :: (wb, .cells [clo ob wb].toArray 61 (0, 0)) :: acc) := hl
  refine o_nil (hK _ _ ?_)
  clear hK K
  refine wk_seq fun K hK => ?_
  refine wk_cut [] (fun z : Value => [(1, .pointer (some ⟨ob, 0, none⟩)), (2, .pointer (some ⟨wb, 0, none⟩)), (3, .pointer (some ⟨b3, 0, none⟩))]) (fun z w' => ∃ acc', LH w0 (fun _ => False) w' ((b3, .cells (snL s (.slice ka s.kids.length kc)).toArray 29 (0, 0)) :: outL ob wb z acc') ∧ Acc z 1 9 (if s.op = 6 ∨ s.op = 7 then addT l s.name else l).length (strL (if s.op = 6 ∨ s.op = 7 then addT l s.name else l)) acc') ?_ ?_
  · clear hK K
    by_cases hop : s.op = 6 ∨ s.op = 7
    · rw [if_pos hop]
      have hsl : Sl w3 (.slice oa l.length oc) 1 (strL l) := LH.acc_sl (l := [_, _, _]) hl hacc
      repeat' (first | refine a_mov ?_ | refine a_asg ?_ | refine a_binN ?_ | refine a_notd ?_ | refine a_notb ?_ | refine a_nilc ?_ | refine a_fa ?_ | refine a_ext ?_ | refine a_lenv ?_ | refine a_lens ?_ | refine a_pick_t ?_ | refine a_pick_f ?_ | refine a_not ?_ | refine a_nilf ?_ | (refine o_nil (hK _ _ ?_); clear hK K) | refine wk_reg ?_ | refine wk_seq fun K hK => ?_ | (refine wk_skip (hK _ _ ?_); clear hK K) | (refine wk_label (hK _ _ ?_); clear hK K) | refine wk_scope ?_ | refine wk_block ?_ | refine wk_cond_t rfl ?_ | refine wk_cond_f rfl ?_ | (refine wk_exit ?_; (repeat (refine blockK_other rfl ?_)); refine blockK_same ?_; try ((repeat ((fail_if_success (refine hK _ _ ?_)); clear hK K)); refine hK _ _ ?_; clear hK K)) | (refine a_bin ?_ ?_ <;> intro _ <;> try (exfalso; omega)) | refine a_ld hl ?_ | (refine a_st hl ?_; clear hl; intro _ hl) | refine a_ix (fun _ => ?_) | fail)
      all_goals
        refine a_fn (hasStr_calls s.name hsl (by omega)) ?_
        rintro _ w4 ⟨rfl, rfl⟩
        by_cases hin : s.name ∈ l
        · rw [decide_eq_true hin]
          repeat' (first | refine a_mov ?_ | refine a_asg ?_ | refine a_binN ?_ | refine a_notd ?_ | refine a_notb ?_ | refine a_nilc ?_ | refine a_fa ?_ | refine a_ext ?_ | refine a_lenv ?_ | refine a_lens ?_ | refine a_pick_t ?_ | refine a_pick_f ?_ | refine a_not ?_ | refine a_nilf ?_ | (refine o_nil (hK _ _ ?_); clear hK K) | refine wk_reg ?_ | refine wk_seq fun K hK => ?_ | (refine wk_skip (hK _ _ ?_); clear hK K) | (refine wk_label (hK _ _ ?_); clear hK K) | refine wk_scope ?_ | refine wk_block ?_ | refine wk_cond_t rfl ?_ | refine wk_cond_f rfl ?_ | (refine wk_exit ?_; (repeat (refine blockK_other rfl ?_)); refine blockK_same ?_; try ((repeat ((fail_if_success (refine hK _ _ ?_)); clear hK K)); refine hK _ _ ?_; clear hK K)) | (refine a_bin ?_ ?_ <;> intro _ <;> try (exfalso; omega)) | refine a_ld hl ?_ | (refine a_st hl ?_; clear hl; intro _ hl) | refine a_ix (fun _ => ?_) | fail)
          exact wk_skip ⟨_, ⟨rfl, rfl, rfl, trivial⟩, rfl, acc, hl, by rw [show addT l s.name = l from if_pos hin]; exact hacc⟩
        · rw [decide_eq_false hin]
          repeat' (first | refine a_mov ?_ | refine a_asg ?_ | refine a_binN ?_ | refine a_notd ?_ | refine a_notb ?_ | refine a_nilc ?_ | refine a_fa ?_ | refine a_ext ?_ | refine a_lenv ?_ | refine a_lens ?_ | refine a_pick_t ?_ | refine a_pick_f ?_ | refine a_not ?_ | refine a_nilf ?_ | (refine o_nil (hK _ _ ?_); clear hK K) | refine wk_reg ?_ | refine wk_seq fun K hK => ?_ | (refine wk_skip (hK _ _ ?_); clear hK K) | (refine wk_label (hK _ _ ?_); clear hK K) | refine wk_scope ?_ | refine wk_block ?_ | refine wk_cond_t rfl ?_ | refine wk_cond_f rfl ?_ | (refine wk_exit ?_; (repeat (refine blockK_other rfl ?_)); refine blockK_same ?_; try ((repeat ((fail_if_success (refine hK _ _ ?_)); clear hK K)); refine hK _ _ ?_; clear hK K)) | (refine a_bin ?_ ?_ <;> intro _ <;> try (exfalso; omega)) | refine a_ld hl ?_ | (refine a_st hl ?_; clear hl; intro _ hl) | refine a_ix (fun _ => ?_) | fail)
          refine o_buildSlice hl [str s.name] rfl rfl (by simp only [str_eq]; kernel_rfl) ?_
          intro b6 w6 hb6 hl6
          refine o_append (bl' := (b6, .cells [str s.name].toArray 9 (0, 0)) :: (b3, .cells (snL s (.slice ka s.kids.length kc)).toArray 29 (0, 0)) :: (ob, .cells [.slice oa l.length oc].toArray 42 (0, 0)) :: (wb, .cells [clo ob wb].toArray 61 (0, 0)) :: []) (k := 1) (bytes := 16) (q := 1) (us := [str s.name]) hl6 hacc (hl6.rowL (vs := [str s.name]) 0 0 1 rfl) rfl (by simp [oneCell_str]) (by omega) (by omega) (by omega) rfl rfl rfl rfl rfl ?_
          clear hl6
          intro ov' w7 acc' hl7 hacc'
          obtain ⟨xa, xc, rfl⟩ := hacc'.shape
          refine o_put1 (v := .slice xa (l.length + 1) xc) hl7 rfl rfl rfl ⟨rfl, rfl⟩ rfl (.there (.there (.here rfl rfl))) ?_
          clear hl7
          intro w8 hl8
          refine o_nil ⟨.slice xa (l.length + 1) xc, ⟨rfl, rfl, rfl, trivial⟩, rfl, acc', hl8.sub (List.sublist_cons_self _ _), ?_⟩
          rw [show addT l s.name = l ++ [s.name] from if_neg hin, List.length_append, strL, List.map_append]
          exact hacc'
    · rw [if_neg hop]
      repeat' (first | refine a_mov ?_ | refine a_asg ?_ | refine a_binN ?_ | refine a_notd ?_ | refine a_notb ?_ | refine a_nilc ?_ | refine a_fa ?_ | refine a_ext ?_ | refine a_lenv ?_ | refine a_lens ?_ | refine a_pick_t ?_ | refine a_pick_f ?_ | refine a_not ?_ | refine a_nilf ?_ | (refine o_nil (hK _ _ ?_); clear hK K) | refine wk_reg ?_ | refine wk_seq fun K hK => ?_ | (refine wk_skip (hK _ _ ?_); clear hK K) | (refine wk_label (hK _ _ ?_); clear hK K) | refine wk_scope ?_ | refine wk_block ?_ | refine wk_cond_t rfl ?_ | refine wk_cond_f rfl ?_ | (refine wk_exit ?_; (repeat (refine blockK_other rfl ?_)); refine blockK_same ?_; try ((repeat ((fail_if_success (refine hK _ _ ?_)); clear hK K)); refine hK _ _ ?_; clear hK K)) | (refine a_bin ?_ ?_ <;> intro _ <;> try (exfalso; omega)) | refine a_ld hl ?_ | (refine a_st hl ?_; clear hl; intro _ hl) | refine a_ix (fun _ => ?_) | fail)
      exact wk_skip ⟨_, ⟨rfl, rfl, rfl, trivial⟩, rfl, acc, hl, hacc⟩
  clear hl hl0 hacc
  rintro ov2 t4 w4 ⟨acc2, hl, hacc⟩
  refine hK _ _ ?_
  clear hK K
  have hl1 : (if s.op = 6 ∨ s.op = 7 then addT l s.name else l).length ≤ l.length + 1 := by
    split
    · exact addT_len _ _
    · omega
  have hnm := nms_eq s l
  generalize (if s.op = 6 ∨ s.op = 7 then addT l s.name else l) = l1 at *
  have hl : LH w0 (fun _ => False) w4 ((b3, .cells (snL s (.slice ka s.kids.length kc)).toArray 29 (0, 0)) :: (ob, .cells [ov2].toArray 42 (0, 0)) :: (wb, .cells [clo ob wb].toArray 61 (0, 0)) :: acc2) := hl
  repeat' (first | refine a_mov ?_ | refine a_asg ?_ | refine a_binN ?_ | refine a_notd ?_ | refine a_notb ?_ | refine a_nilc ?_ | refine a_fa ?_ | refine a_ext ?_ | refine a_lenv ?_ | refine a_lens ?_ | refine a_pick_t ?_ | refine a_pick_f ?_ | refine a_not ?_ | refine a_nilf ?_ | (refine o_nil (hK _ _ ?_); clear hK K) | refine wk_reg ?_ | refine wk_seq fun K hK => ?_ | (refine wk_skip (hK _ _ ?_); clear hK K) | (refine wk_label (hK _ _ ?_); clear hK K) | refine wk_scope ?_ | refine wk_block ?_ | refine wk_cond_t rfl ?_ | refine wk_cond_f rfl ?_ | (refine wk_exit ?_; (repeat (refine blockK_other rfl ?_)); refine blockK_same ?_; try ((repeat ((fail_if_success (refine hK _ _ ?_)); clear hK K)); refine hK _ _ ?_; clear hK K)) | (refine a_bin ?_ ?_ <;> intro _ <;> try (exfalso; omega)) | refine a_ld hl ?_ | (refine a_st hl ?_; clear hl; intro _ hl) | refine a_ix (fun _ => ?_) | fail)
  refine wk_loopH [] rfl (fun i : Nat => [(1, .pointer (some ⟨ob, 0, none⟩)), (2, .pointer (some ⟨wb, 0, none⟩)), (27, .slice ka s.kids.length kc), (28, .int .i64 (s.kids.length : Int)), (29, .int .i64 (i : Int))]) (fun i w' => i ≤ s.kids.length ∧ ∃ ov' acc', LH w0 (fun _ => False) w' (outL ob wb ov' acc') ∧ Acc ov' 1 9 (nmsL (s.kids.take i) l1).length (strL (nmsL (s.kids.take i) l1)) acc') (fun i => s.kids.length - i) 0 ⟨rfl, rfl, rfl, rfl, rfl, trivial⟩ ⟨Nat.zero_le _, ov2, acc2, hl.sub (List.sublist_cons_self _ _), hacc⟩ ?_
  clear hl hacc
  rintro i t5 w5 ⟨hi, ov5, acc5, hl, hacc⟩
  by_cases hi1 : i < s.kids.length
  · obtain ⟨b, o, kv1, hpp, hr, hk1⟩ := (KR.ext hk hl.done).at hi1
    have hkk : KA w0 s.kids[i].kids kv1 := by
      obtain ⟨b', o', kv', hpp', hr', hk'⟩ := KR.at hk hi1
      have e1 : kv' = kv1 := by
        rw [hpp'] at hpp
        injection hpp with h
        injection h with h1 h2
        subst h1
        subst h2
        have a1 := (hr'.ext hl.done) 3 kv' rfl
        have a2 := hr 3 kv1 rfl
        rw [a1] at a2
        injection a2
      rw [← e1]; exact hk'
    have hmem := List.getElem_mem hi1
    have hc1 := cnt_le_of_mem hmem
    have hc2 := nmsL_len (s.kids.take i) l1
    have hc3 := cntL_take_le s.kids (i + 1)
    have hc4 := cntL_take_succ hi1
    repeat' (first | refine a_mov ?_ | refine a_asg ?_ | refine a_binN ?_ | refine a_notd ?_ | refine a_notb ?_ | refine a_nilc ?_ | refine a_fa ?_ | refine a_ext ?_ | refine a_lenv ?_ | refine a_lens ?_ | refine a_pick_t ?_ | refine a_pick_f ?_ | refine a_not ?_ | refine a_nilf ?_ | (refine o_nil (hK _ _ ?_); clear hK K) | refine wk_reg ?_ | refine wk_seq fun K hK => ?_ | (refine wk_skip (hK _ _ ?_); clear hK K) | (refine wk_label (hK _ _ ?_); clear hK K) | refine wk_scope ?_ | refine wk_block ?_ | refine wk_cond_t rfl ?_ | refine wk_cond_f rfl ?_ | (refine wk_exit ?_; (repeat (refine blockK_other rfl ?_)); refine blockK_same ?_; try ((repeat ((fail_if_success (refine hK _ _ ?_)); clear hK K)); refine hK _ _ ?_; clear hK K)) | (refine a_bin ?_ ?_ <;> intro _ <;> try (exfalso; omega)) | refine a_ld hl ?_ | (refine a_st hl ?_; clear hl; intro _ hl) | refine a_ix (fun _ => ?_) | refine a_idx (c := 4) i hpp ?_ | refine a_all hr ?_ | fail)
    refine o_alloc hl [.int .i64 0, .string "".toByteArray, .int .i64 0, .slice none 0 0] (by kernel_rfl) rfl ?_
    intro b6 w6 hb6 hl6
    refine o_putN (us := snL s.kids[i] kv1) hl6 rfl rfl rfl (snL_one hk1) rfl (.here rfl rfl) ?_
    clear hl6 hl
    intro w7 hl
    have hl : LH w0 (fun _ => False) w7 ((b6, .cells (snL s.kids[i] kv1).toArray 29 (0, 0)) :: (ob, .cells [ov5].toArray 42 (0, 0)) :: (wb, .cells [clo ob wb].toArray 61 (0, 0)) :: acc5) := hl
    have hr6 : Row w7 b6 0 (snL s.kids[i] kv1) := hl.rowL (vs := snL s.kids[i] kv1) 0 0 4 rfl
    repeat' (first | refine a_mov ?_ | refine a_asg ?_ | refine a_binN ?_ | refine a_notd ?_ | refine a_notb ?_ | refine a_nilc ?_ | refine a_fa ?_ | refine a_ext ?_ | refine a_lenv ?_ | refine a_lens ?_ | refine a_pick_t ?_ | refine a_pick_f ?_ | refine a_not ?_ | refine a_nilf ?_ | (refine o_nil (hK _ _ ?_); clear hK K) | refine wk_reg ?_ | refine wk_seq fun K hK => ?_ | (refine wk_skip (hK _ _ ?_); clear hK K) | (refine wk_label (hK _ _ ?_); clear hK K) | refine wk_scope ?_ | refine wk_block ?_ | refine wk_cond_t rfl ?_ | refine wk_cond_f rfl ?_ | (refine wk_exit ?_; (repeat (refine blockK_other rfl ?_)); refine blockK_same ?_; try ((repeat ((fail_if_success (refine hK _ _ ?_)); clear hK K)); refine hK _ _ ?_; clear hK K)) | (refine a_bin ?_ ?_ <;> intro _ <;> try (exfalso; omega)) | refine a_ld hl ?_ | (refine a_st hl ?_; clear hl; intro _ hl) | refine a_ix (fun _ => ?_) | refine a_all hr6 ?_ | fail)
    have hl8 : LH w0 (fun _ => False) w7 (outL ob wb ov5 acc5) := hl.sub (List.sublist_cons_self _ _)
    refine a_fc #[.agg (snL s.kids[i] kv1).toArray] #[.pointer (some ⟨ob, 0, none⟩), .pointer (some ⟨wb, 0, none⟩)] _ rfl (ih _ hmem w0 _ kv1 ob wb ov5 acc5 _ hkk hl8 hacc (fitL_mem hf3 _ hmem) (by omega)) ?_
    rintro v8 w8 ⟨ov9, acc9, hl9, hacc9⟩
    repeat' (first | refine a_mov ?_ | refine a_asg ?_ | refine a_binN ?_ | refine a_notd ?_ | refine a_notb ?_ | refine a_nilc ?_ | refine a_fa ?_ | refine a_ext ?_ | refine a_lenv ?_ | refine a_lens ?_ | refine a_pick_t ?_ | refine a_pick_f ?_ | refine a_not ?_ | refine a_nilf ?_ | (refine o_nil (hK _ _ ?_); clear hK K) | refine wk_reg ?_ | refine wk_seq fun K hK => ?_ | (refine wk_skip (hK _ _ ?_); clear hK K) | (refine wk_label (hK _ _ ?_); clear hK K) | refine wk_scope ?_ | refine wk_block ?_ | refine wk_cond_t rfl ?_ | refine wk_cond_f rfl ?_ | (refine wk_exit ?_; (repeat (refine blockK_other rfl ?_)); refine blockK_same ?_; try ((repeat ((fail_if_success (refine hK _ _ ?_)); clear hK K)); refine hK _ _ ?_; clear hK K)) | (refine a_bin ?_ ?_ <;> intro _ <;> try (exfalso; omega)) | refine a_ld hl ?_ | (refine a_st hl ?_; clear hl; intro _ hl) | refine a_ix (fun _ => ?_) | fail)
    refine o_nil ⟨i + 1, ⟨rfl, rfl, rfl, rfl, rfl, trivial⟩, rfl, ⟨hi1, ov9, acc9, hl9, ?_⟩, by omega⟩
    rw [nmsL_take_succ _ _ hi1]
    exact hacc9
  · obtain rfl : i = s.kids.length := by omega
    rw [List.take_length] at hacc
    rw [hnm]
    repeat' (first | refine a_mov ?_ | refine a_asg ?_ | refine a_binN ?_ | refine a_notd ?_ | refine a_notb ?_ | refine a_nilc ?_ | refine a_fa ?_ | refine a_ext ?_ | refine a_lenv ?_ | refine a_lens ?_ | refine a_pick_t ?_ | refine a_pick_f ?_ | refine a_not ?_ | refine a_nilf ?_ | (refine o_nil (hK _ _ ?_); clear hK K) | refine wk_reg ?_ | refine wk_seq fun K hK => ?_ | (refine wk_skip (hK _ _ ?_); clear hK K) | (refine wk_label (hK _ _ ?_); clear hK K) | refine wk_scope ?_ | refine wk_block ?_ | refine wk_cond_t rfl ?_ | refine wk_cond_f rfl ?_ | (refine wk_exit ?_; (repeat (refine blockK_other rfl ?_)); refine blockK_same ?_; try ((repeat ((fail_if_success (refine hK _ _ ?_)); clear hK K)); refine hK _ _ ?_; clear hK K)) | (refine a_bin ?_ ?_ <;> intro _ <;> try (exfalso; omega)) | refine a_ld hl ?_ | (refine a_st hl ?_; clear hl; intro _ hl) | refine a_ix (fun _ => ?_) | fail)
    exact retQ_tmp0 rfl rfl ⟨ov5, acc5, hl, hacc⟩
end Go.Proofs
