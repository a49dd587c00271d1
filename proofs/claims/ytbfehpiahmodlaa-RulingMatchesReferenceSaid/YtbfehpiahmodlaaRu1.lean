/-
  The statement RulingMatchesReference, walked.
-/
import Derived.Test.YtbfehpiahmodlaaQl
import Derived.Test.YtbfehpiahmodlaaQj
import Derived.Test.YtbfehpiahmodlaaQd
import Derived.Test.YtbfehpiahmodlaaRu0
set_option linter.unusedVariables false
set_option linter.unusedSimpArgs false
set_option linter.unnecessarySimpa false
set_option maxRecDepth 10000
namespace Go.Proofs
open Go Go.Pd Go.Lexs Go.Fin Go.Fo
attribute [local irreducible] OpsL W RetQ OpsQ OpsC

set_option maxHeartbeats 8000000 in
theorem ruMatches_calls {w : World} {l : List Rul.Rul} {lv : Value} {s : List Rul.Spn} {sv : Value} {r : Rul.Rul} {rv : Value} (hl : RulsIn w l lv) (known : Int) (hs : SpnsIn w s sv) (hr : RulIn w r rv) :
    Calls Try.prog 3 #[lv, .int .i64 known, sv, .agg (rulC r rv).toArray] w (fun e w' => ∃ x, e = .returned x ∧ x = .bool true ∧ Ext w w') := by
  obtain ⟨la, lc, rfl, -⟩ := hl.at_.shape
  obtain ⟨sa, sc, rfl, -⟩ := hs.at_.shape
  have hll := hl.len
  have hsl := hs.len
  have L := hl.at_
  have S := hs.at_
  have hkr := hr.f.k
  have hrone := rulC_one hkr
  refine calls_of Try.func3 rfl Try.ntmps3 rfl ?_
  refine wk_seq fun K hK => ?_
  refine wk_reg ?_
  refine o_box (LH.start w (fun _ => False)) [str (r).id, str (r).tgt, .int .i64 (r).kind, .int .i64 (r).fro, .int .i64 (r).til, .int .i64 (r).read.op, str (r).read.name, .int .i64 (r).read.cmp, .int .i64 (r).read.num, rv, .int .i64 (r).known, .bool (r).fin, str (r).lifts] rfl rfl rfl ?_
  intro b7 w1 hb7 hl1
  repeat' (first | refine a_mov ?_ | refine a_asg ?_ | refine a_binN ?_ | refine a_notd ?_ | refine a_notb ?_ | refine a_nilc ?_ | refine a_fa ?_ | refine a_ext ?_ | refine a_lenv ?_ | refine a_lens ?_ | refine a_pick_t ?_ | refine a_pick_f ?_ | refine a_not ?_ | refine a_nilf ?_ | (refine o_nil (hK _ _ ?_); clear hK K) | refine wk_reg ?_ | refine wk_seq fun K hK => ?_ | (refine wk_skip (hK _ _ ?_); clear hK K) | (refine wk_label (hK _ _ ?_); clear hK K) | refine wk_scope ?_ | refine wk_block ?_ | refine wk_cond_t rfl ?_ | refine wk_cond_f rfl ?_ | (refine wk_exit ?_; (repeat (refine blockK_other rfl ?_)); refine blockK_same ?_; try ((repeat ((fail_if_success (refine hK _ _ ?_)); clear hK K)); refine hK _ _ ?_; clear hK K)) | (refine a_bin ?_ ?_ <;> intro _ <;> try (exfalso; omega)) | refine a_ld hl ?_ | (refine a_st hl ?_; clear hl; intro _ hl) | refine a_ix (fun _ => ?_) | fail)
  refine a_fn (ruHead_calls w1) ?_
  rintro _ w2 ⟨rfl, hx⟩
  replace hl1 := hl1.ext hx
  clear hx
  have rr : Row w2 b7 0 [str (r).id, str (r).tgt, .int .i64 (r).kind, .int .i64 (r).fro, .int .i64 (r).til, .int .i64 (r).read.op, str (r).read.name, .int .i64 (r).read.cmp, .int .i64 (r).read.num, rv, .int .i64 (r).known, .bool (r).fin, str (r).lifts] := hl1.rowL (vs := [str (r).id, str (r).tgt, .int .i64 (r).kind, .int .i64 (r).fro, .int .i64 (r).til, .int .i64 (r).read.op, str (r).read.name, .int .i64 (r).read.cmp, .int .i64 (r).read.num, rv, .int .i64 (r).known, .bool (r).fin, str (r).lifts]) 0 0 13 rfl
  have he := hl1.done
  clear hl1
  replace L := L.ext he
  replace S := S.ext he
  replace hkr := hkr.ext he
  repeat' (first | refine a_mov ?_ | refine a_asg ?_ | refine a_binN ?_ | refine a_notd ?_ | refine a_notb ?_ | refine a_nilc ?_ | refine a_fa ?_ | refine a_ext ?_ | refine a_lenv ?_ | refine a_lens ?_ | refine a_pick_t ?_ | refine a_pick_f ?_ | refine a_not ?_ | refine a_nilf ?_ | (refine o_nil (hK _ _ ?_); clear hK K) | refine wk_reg ?_ | refine wk_seq fun K hK => ?_ | (refine wk_skip (hK _ _ ?_); clear hK K) | (refine wk_label (hK _ _ ?_); clear hK K) | refine wk_scope ?_ | refine wk_block ?_ | refine wk_cond_t rfl ?_ | refine wk_cond_f rfl ?_ | (refine wk_exit ?_; (repeat (refine blockK_other rfl ?_)); refine blockK_same ?_; try ((repeat ((fail_if_success (refine hK _ _ ?_)); clear hK K)); refine hK _ _ ?_; clear hK K)) | (refine a_bin ?_ ?_ <;> intro _ <;> try (exfalso; omega)) | refine a_ld hl ?_ | (refine a_st hl ?_; clear hl; intro _ hl) | refine a_ix (fun _ => ?_) | fail)
  refine a_fn (ruFew_calls l _ 14 w2 L (by omega) (fun r hr => (hl.ok r hr).f)) ?_
  rintro _ w3 ⟨rfl, hx⟩
  replace L := L.ext hx
  replace S := S.ext hx
  replace hkr := hkr.ext hx
  replace rr := rr.ext hx
  replace he := he.trans hx
  clear hx
  cases hf1 : Rul.fewB l 14
  · repeat' (first | refine a_mov ?_ | refine a_asg ?_ | refine a_binN ?_ | refine a_notd ?_ | refine a_notb ?_ | refine a_nilc ?_ | refine a_fa ?_ | refine a_ext ?_ | refine a_lenv ?_ | refine a_lens ?_ | refine a_pick_t ?_ | refine a_pick_f ?_ | refine a_not ?_ | refine a_nilf ?_ | (refine o_nil (hK _ _ ?_); clear hK K) | refine wk_reg ?_ | refine wk_seq fun K hK => ?_ | (refine wk_skip (hK _ _ ?_); clear hK K) | (refine wk_label (hK _ _ ?_); clear hK K) | refine wk_scope ?_ | refine wk_block ?_ | refine wk_cond_t rfl ?_ | refine wk_cond_f rfl ?_ | (refine wk_exit ?_; (repeat (refine blockK_other rfl ?_)); refine blockK_same ?_; try ((repeat ((fail_if_success (refine hK _ _ ?_)); clear hK K)); refine hK _ _ ?_; clear hK K)) | (refine a_bin ?_ ?_ <;> intro _ <;> try (exfalso; omega)) | refine a_ld hl ?_ | (refine a_st hl ?_; clear hl; intro _ hl) | refine a_ix (fun _ => ?_) | fail)
    refine wk_ret (retQ_tmp1 Try.results3 (by decide) rfl (by conv => lhs; whnf) ?_)
    exact ⟨rfl, he⟩
  repeat' (first | refine a_mov ?_ | refine a_asg ?_ | refine a_binN ?_ | refine a_notd ?_ | refine a_notb ?_ | refine a_nilc ?_ | refine a_fa ?_ | refine a_ext ?_ | refine a_lenv ?_ | refine a_lens ?_ | refine a_pick_t ?_ | refine a_pick_f ?_ | refine a_not ?_ | refine a_nilf ?_ | (refine o_nil (hK _ _ ?_); clear hK K) | refine wk_reg ?_ | refine wk_seq fun K hK => ?_ | (refine wk_skip (hK _ _ ?_); clear hK K) | (refine wk_label (hK _ _ ?_); clear hK K) | refine wk_scope ?_ | refine wk_block ?_ | refine wk_cond_t rfl ?_ | refine wk_cond_f rfl ?_ | (refine wk_exit ?_; (repeat (refine blockK_other rfl ?_)); refine blockK_same ?_; try ((repeat ((fail_if_success (refine hK _ _ ?_)); clear hK K)); refine hK _ _ ?_; clear hK K)) | (refine a_bin ?_ ?_ <;> intro _ <;> try (exfalso; omega)) | refine a_ld hl ?_ | (refine a_st hl ?_; clear hl; intro _ hl) | refine a_ix (fun _ => ?_) | refine a_all rr ?_)
  refine o_buildSlice (LH.start w3 (fun _ => False)) [str (r).id, str (r).tgt, .int .i64 (r).kind, .int .i64 (r).fro, .int .i64 (r).til, .int .i64 (r).read.op, str (r).read.name, .int .i64 (r).read.cmp, .int .i64 (r).read.num, rv, .int .i64 (r).known, .bool (r).fin, str (r).lifts] rfl rfl (by kernel_rfl) ?_
  intro b9 w4 hb9 hl1
  have L1 : RulsAt w4 [r] (.slice (some ⟨b9, 0, none⟩) 1 1) := RulsAt.of [(r, rv)] (hl1.rowL (vs := [str (r).id, str (r).tgt, .int .i64 (r).kind, .int .i64 (r).fro, .int .i64 (r).til, .int .i64 (r).read.op, str (r).read.name, .int .i64 (r).read.cmp, .int .i64 (r).read.num, rv, .int .i64 (r).known, .bool (r).fin, str (r).lifts]) 0 0 13 rfl) (Nat.le_refl _) (fun p hp => by rw [List.mem_singleton.1 hp]; exact hkr.ext hl1.done)
  have hx := hl1.done
  clear hl1
  refine a_fn (ruFew_calls [r] _ 1 w4 L1 (by simp) (fun x hx => by rw [List.mem_singleton.1 hx]; exact hr.ok.f)) ?_
  rintro _ w5 ⟨rfl, hy⟩
  replace hx := hx.trans hy
  clear hy L1
  replace L := L.ext hx
  replace S := S.ext hx
  replace hkr := hkr.ext hx
  replace rr := rr.ext hx
  replace he := he.trans hx
  clear hx
  cases hf2 : Rul.fewB [r] 1
  · repeat' (first | refine a_mov ?_ | refine a_asg ?_ | refine a_binN ?_ | refine a_notd ?_ | refine a_notb ?_ | refine a_nilc ?_ | refine a_fa ?_ | refine a_ext ?_ | refine a_lenv ?_ | refine a_lens ?_ | refine a_pick_t ?_ | refine a_pick_f ?_ | refine a_not ?_ | refine a_nilf ?_ | (refine o_nil (hK _ _ ?_); clear hK K) | refine wk_reg ?_ | refine wk_seq fun K hK => ?_ | (refine wk_skip (hK _ _ ?_); clear hK K) | (refine wk_label (hK _ _ ?_); clear hK K) | refine wk_scope ?_ | refine wk_block ?_ | refine wk_cond_t rfl ?_ | refine wk_cond_f rfl ?_ | (refine wk_exit ?_; (repeat (refine blockK_other rfl ?_)); refine blockK_same ?_; try ((repeat ((fail_if_success (refine hK _ _ ?_)); clear hK K)); refine hK _ _ ?_; clear hK K)) | (refine a_bin ?_ ?_ <;> intro _ <;> try (exfalso; omega)) | refine a_ld hl ?_ | (refine a_st hl ?_; clear hl; intro _ hl) | refine a_ix (fun _ => ?_) | fail)
    refine wk_ret (retQ_tmp1 Try.results3 (by decide) rfl (by conv => lhs; whnf) ?_)
    exact ⟨rfl, he⟩
  repeat' (first | refine a_mov ?_ | refine a_asg ?_ | refine a_binN ?_ | refine a_notd ?_ | refine a_notb ?_ | refine a_nilc ?_ | refine a_fa ?_ | refine a_ext ?_ | refine a_lenv ?_ | refine a_lens ?_ | refine a_pick_t ?_ | refine a_pick_f ?_ | refine a_not ?_ | refine a_nilf ?_ | (refine o_nil (hK _ _ ?_); clear hK K) | refine wk_reg ?_ | refine wk_seq fun K hK => ?_ | (refine wk_skip (hK _ _ ?_); clear hK K) | (refine wk_label (hK _ _ ?_); clear hK K) | refine wk_scope ?_ | refine wk_block ?_ | refine wk_cond_t rfl ?_ | refine wk_cond_f rfl ?_ | (refine wk_exit ?_; (repeat (refine blockK_other rfl ?_)); refine blockK_same ?_; try ((repeat ((fail_if_success (refine hK _ _ ?_)); clear hK K)); refine hK _ _ ?_; clear hK K)) | (refine a_bin ?_ ?_ <;> intro _ <;> try (exfalso; omega)) | refine a_ld hl ?_ | (refine a_st hl ?_; clear hl; intro _ hl) | refine a_ix (fun _ => ?_) | fail)
  refine a_fn (ruShort_calls s _ 20 w5 S (by omega) hs.ok) ?_
  rintro _ w6 ⟨rfl, hx⟩
  replace L := L.ext hx
  replace S := S.ext hx
  replace hkr := hkr.ext hx
  replace rr := rr.ext hx
  replace he := he.trans hx
  clear hx
  cases hf3 : Rul.shortB s 20
  · repeat' (first | refine a_mov ?_ | refine a_asg ?_ | refine a_binN ?_ | refine a_notd ?_ | refine a_notb ?_ | refine a_nilc ?_ | refine a_fa ?_ | refine a_ext ?_ | refine a_lenv ?_ | refine a_lens ?_ | refine a_pick_t ?_ | refine a_pick_f ?_ | refine a_not ?_ | refine a_nilf ?_ | (refine o_nil (hK _ _ ?_); clear hK K) | refine wk_reg ?_ | refine wk_seq fun K hK => ?_ | (refine wk_skip (hK _ _ ?_); clear hK K) | (refine wk_label (hK _ _ ?_); clear hK K) | refine wk_scope ?_ | refine wk_block ?_ | refine wk_cond_t rfl ?_ | refine wk_cond_f rfl ?_ | (refine wk_exit ?_; (repeat (refine blockK_other rfl ?_)); refine blockK_same ?_; try ((repeat ((fail_if_success (refine hK _ _ ?_)); clear hK K)); refine hK _ _ ?_; clear hK K)) | (refine a_bin ?_ ?_ <;> intro _ <;> try (exfalso; omega)) | refine a_ld hl ?_ | (refine a_st hl ?_; clear hl; intro _ hl) | refine a_ix (fun _ => ?_) | fail)
    refine wk_ret (retQ_tmp1 Try.results3 (by decide) rfl (by conv => lhs; whnf) ?_)
    exact ⟨rfl, he⟩
  have q1 := Rul.few_iff.1 hf1
  have q2 := (Rul.few_iff.1 hf2).2 r List.mem_cons_self
  have q3 := Rul.short_iff.1 hf3
  have hok : ∀ r ∈ l, cnt r.read ≤ 1000000 ∧ RuLen r := fun r hr => ⟨Rul.few_ok hf1 r hr, (hl.ok r hr).len⟩
  clear hf1 hf2 hf3
  repeat' (first | refine a_mov ?_ | refine a_asg ?_ | refine a_binN ?_ | refine a_notd ?_ | refine a_notb ?_ | refine a_nilc ?_ | refine a_fa ?_ | refine a_ext ?_ | refine a_lenv ?_ | refine a_lens ?_ | refine a_pick_t ?_ | refine a_pick_f ?_ | refine a_not ?_ | refine a_nilf ?_ | (refine o_nil (hK _ _ ?_); clear hK K) | refine wk_reg ?_ | refine wk_seq fun K hK => ?_ | (refine wk_skip (hK _ _ ?_); clear hK K) | (refine wk_label (hK _ _ ?_); clear hK K) | refine wk_scope ?_ | refine wk_block ?_ | refine wk_cond_t rfl ?_ | refine wk_cond_f rfl ?_ | (refine wk_exit ?_; (repeat (refine blockK_other rfl ?_)); refine blockK_same ?_; try ((repeat ((fail_if_success (refine hK _ _ ?_)); clear hK K)); refine hK _ _ ?_; clear hK K)) | (refine a_bin ?_ ?_ <;> intro _ <;> try (exfalso; omega)) | refine a_ld hl ?_ | (refine a_st hl ?_; clear hl; intro _ hl) | refine a_ix (fun _ => ?_) | fail)
  refine a_fn (ruCount_calls l _ known w6 L (by omega) hok) ?_
  rintro _ w7 ⟨⟨v1, rfl, R1⟩, hx⟩
  replace L := L.ext hx
  replace S := S.ext hx
  replace hkr := hkr.ext hx
  replace rr := rr.ext hx
  replace he := he.trans hx
  clear hx
  repeat' (first | refine a_mov ?_ | refine a_asg ?_ | refine a_binN ?_ | refine a_notd ?_ | refine a_notb ?_ | refine a_nilc ?_ | refine a_fa ?_ | refine a_ext ?_ | refine a_lenv ?_ | refine a_lens ?_ | refine a_pick_t ?_ | refine a_pick_f ?_ | refine a_not ?_ | refine a_nilf ?_ | (refine o_nil (hK _ _ ?_); clear hK K) | refine wk_reg ?_ | refine wk_seq fun K hK => ?_ | (refine wk_skip (hK _ _ ?_); clear hK K) | (refine wk_label (hK _ _ ?_); clear hK K) | refine wk_scope ?_ | refine wk_block ?_ | refine wk_cond_t rfl ?_ | refine wk_cond_f rfl ?_ | (refine wk_exit ?_; (repeat (refine blockK_other rfl ?_)); refine blockK_same ?_; try ((repeat ((fail_if_success (refine hK _ _ ?_)); clear hK K)); refine hK _ _ ?_; clear hK K)) | (refine a_bin ?_ ?_ <;> intro _ <;> try (exfalso; omega)) | refine a_ld hl ?_ | (refine a_st hl ?_; clear hl; intro _ hl) | refine a_ix (fun _ => ?_) | fail)
  refine a_fn (refCount_calls l _ known w7 L (by omega) hok) ?_
  rintro _ w8 ⟨⟨v2, rfl, R2⟩, hx⟩
  replace R1 := R1.ext hx
  replace S := S.ext hx
  replace hkr := hkr.ext hx
  replace rr := rr.ext hx
  replace he := he.trans hx
  clear hx L
  have hcs : ∀ x ∈ (Rul.countB l known).out, x ∈ l := fun x hx => by
    unfold Rul.countB at hx
    split at hx
    · cases hx
    split at hx
    · cases hx
    split at hx
    · cases hx
    split at hx
    · cases hx
    · exact (Rul.counting_sub l known).subset hx
  have hcl : (Rul.countB l known).out.length ≤ l.length := by
    unfold Rul.countB
    split
    · exact Nat.zero_le _
    split
    · exact Nat.zero_le _
    split
    · exact Nat.zero_le _
    split
    · exact Nat.zero_le _
    · exact (Rul.counting_sub l known).length_le
  have hsh : ∀ x ∈ (Rul.countB l known).out, Short x.read.kids := fun x hx => short_of (by have := q1.2 x (hcs x hx); omega)
  have cAll := fun w' (hw' : Ext w8 w') => ruAll_calls _ _ _ _ w' (R1.ext hw') (R2.ext hw') (by omega) (by omega) hsh hsh
  simp only [decide_true] at cAll
  have cV := fun w' (hw' : Ext w8 w') => ruValid_calls r rv w' (hkr.ext hw') (by omega) hr.ok.len
  have cV2 := fun w' (hw' : Ext w8 w') => refValid_calls r rv w' (hkr.ext hw') (by omega) hr.ok.len
  obtain ⟨a1, c1, rfl, -⟩ := R1.shape
  obtain ⟨a2, c2, rfl, -⟩ := R2.shape
  generalize (Rul.countB l known).err = er at *
  repeat' (first | refine a_mov ?_ | refine a_asg ?_ | refine a_binN ?_ | refine a_notd ?_ | refine a_notb ?_ | refine a_nilc ?_ | refine a_fa ?_ | refine a_ext ?_ | refine a_lenv ?_ | refine a_lens ?_ | refine a_pick_t ?_ | refine a_pick_f ?_ | refine a_not ?_ | refine a_nilf ?_ | (refine o_nil (hK _ _ ?_); clear hK K) | refine wk_reg ?_ | refine wk_seq fun K hK => ?_ | (refine wk_skip (hK _ _ ?_); clear hK K) | (refine wk_label (hK _ _ ?_); clear hK K) | refine wk_scope ?_ | refine wk_block ?_ | refine wk_cond_t rfl ?_ | refine wk_cond_f rfl ?_ | (refine wk_exit ?_; (repeat (refine blockK_other rfl ?_)); refine blockK_same ?_; try ((repeat ((fail_if_success (refine hK _ _ ?_)); clear hK K)); refine hK _ _ ?_; clear hK K)) | (refine a_bin ?_ ?_ <;> intro _ <;> try (exfalso; omega)) | refine a_ld hl ?_ | (refine a_st hl ?_; clear hl; intro _ hl) | refine a_ix (fun _ => ?_) | fail)
  refine wk_grow [([0, 1, 2, 3, 4, 5, 6, 7, 8, 9, 10, 11, 12, 13, 14, 15, 16, 17, 18, 19, 20, 22, 23], [21, 24]), ([25, 26, 27], [])] ?_
  cases hvb : Rul.validB r
  all_goals simp only [hvb] at cV cV2
  all_goals refine g_two (fun v w' => SpnsAt w' (Rul.applyB s r) v) (fun v w' => SpnsAt w' (Rul.applyB s r) v) (fun _ _ _ h e => h.ext e) (fun _ _ _ h e => h.ext e) ?_
  all_goals repeat' (first | refine x_mov ?_ | refine x_asg ?_ | refine x_fa ?_ | refine x_ext ?_ | refine x_binN ?_ | refine x_notd ?_ | refine x_notb ?_ | refine x_pick_t ?_ | refine x_pick_f ?_ | refine x_nilc ?_ | refine x_skip ?_ | refine x_lens ?_ | refine x_lenv ?_ | refine x_ix (fun _ => ?_) | (refine x_bin ?_ ?_ <;> intro _ <;> try (exfalso; omega)) | refine x_fn cAll ?_ | refine x_fn cV ?_ | refine x_fn cV2 ?_ | refine x_all (fun w_ hw_ => rr.ext hw_) ?_ | refine x_eqB ?_)
  all_goals refine x_nil ⟨fun v1 v2 => p_fn (args := #[.slice sa s.length sc, .agg (rulC r rv).toArray]) (fun w' hw' _ => apply_calls s r _ rv w' (S.ext hw') (hkr.ext hw') (by omega)), fun v1 v2 => p_fn (args := #[.slice sa s.length sc, .agg (rulC r rv).toArray]) (fun w' hw' _ => refApply_calls s r _ rv w' (S.ext hw') (hkr.ext hw') (by omega)), fun v1 v2 w9 hw9 S1 S2 => ?_⟩
  all_goals obtain ⟨x1, y1, rfl, -⟩ := S1.shape
  all_goals obtain ⟨x2, y2, rfl, -⟩ := S2.shape
  all_goals have hal := Rul.applyB_cnt (r := r) q3.2 q2.1
  all_goals have hal2 : (Rul.applyB s r).length ≤ 1000000 := by have := flat_one_len (Rul.kindOf r) r s; unfold Rul.applyB; omega
  all_goals have cS := fun w' (hw' : Ext w9 w') => refSpans_calls _ _ _ _ w' (S1.ext hw') (S2.ext hw') hal2 hal2 (fun x hx => short_of (by have := hal x hx; omega)) (fun x hx => short_of (by have := hal x hx; omega))
  all_goals simp only [decide_true] at cS
  all_goals refine g_end ?_
  all_goals refine x_fn cS ?_
  all_goals repeat' (first | refine x_mov ?_ | refine x_asg ?_ | refine x_fa ?_ | refine x_ext ?_ | refine x_binN ?_ | refine x_notd ?_ | refine x_notb ?_ | refine x_pick_t ?_ | refine x_pick_f ?_ | refine x_nilc ?_ | refine x_skip ?_ | refine x_lens ?_ | refine x_lenv ?_ | refine x_ix (fun _ => ?_) | (refine x_bin ?_ ?_ <;> intro _ <;> try (exfalso; omega)) | fail)
  all_goals refine x_nil fun w10 hw10 => hK _ _ ?_
  all_goals clear hK K
  all_goals repeat' (first | refine a_mov ?_ | refine a_asg ?_ | refine a_binN ?_ | refine a_notd ?_ | refine a_notb ?_ | refine a_nilc ?_ | refine a_fa ?_ | refine a_ext ?_ | refine a_lenv ?_ | refine a_lens ?_ | refine a_pick_t ?_ | refine a_pick_f ?_ | refine a_not ?_ | refine a_nilf ?_ | (refine o_nil (hK _ _ ?_); clear hK K) | refine wk_reg ?_ | refine wk_seq fun K hK => ?_ | (refine wk_skip (hK _ _ ?_); clear hK K) | (refine wk_label (hK _ _ ?_); clear hK K) | refine wk_scope ?_ | refine wk_block ?_ | refine wk_cond_t rfl ?_ | refine wk_cond_f rfl ?_ | (refine wk_exit ?_; (repeat (refine blockK_other rfl ?_)); refine blockK_same ?_; try ((repeat ((fail_if_success (refine hK _ _ ?_)); clear hK K)); refine hK _ _ ?_; clear hK K)) | (refine a_bin ?_ ?_ <;> intro _ <;> try (exfalso; omega)) | refine a_ld hl ?_ | (refine a_st hl ?_; clear hl; intro _ hl) | refine a_ix (fun _ => ?_) | fail)
  all_goals (refine wk_ret (retQ_tmp1 Try.results3 (by decide) rfl (by conv => lhs; whnf) ?_))
  all_goals exact ⟨rfl, (he.trans hw9).trans hw10⟩
end Go.Proofs
