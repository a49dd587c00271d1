/-
  The statement RulingLifts, walked.
-/
import Derived.Test.YtbfehpiahmodlaaRu4
import Derived.Test.YtbfehpiahmodlaaLD
set_option linter.unusedVariables false
set_option linter.unusedSimpArgs false
set_option linter.unnecessarySimpa false
set_option maxRecDepth 10000
namespace Go.Rul
open Go.Lexs Go.Fin Go.Fo
theorem lift_fail {l : List Rul} {known : Int} {s : List UInt8} (hl : l.length ≤ 12) (h : (countB l known).err = 0) (hs : Nm s = true) : (countB (l ++ [liftR nNew s]) known).err = 0 ∨ (countB (l ++ [liftR nNew s]) known).err = 9 :=
  lift_err h (by simp; omega) fun r hr => by rw [List.mem_singleton.1 hr]; exact lift_valid (by decide +kernel) hs
theorem lift_fail2 {l : List Rul} {known : Int} {s : List UInt8} (hl : l.length ≤ 12) (h : (countB (l ++ [liftR nNew s]) known).err = 0) : (countB (l ++ [liftR nNew s] ++ [liftR nNewer nNew]) known).err = 0 ∨ (countB (l ++ [liftR nNew s] ++ [liftR nNewer nNew]) known).err = 9 :=
  lift_err h (by simp; omega) fun r hr => by rw [List.mem_singleton.1 hr]; exact lift_valid (by decide +kernel) (by decide +kernel)
end Go.Rul

namespace Go.Proofs
open Go Go.Pd Go.Lexs Go.Fin Go.Fo
attribute [local irreducible] OpsL W RetQ OpsQ OpsC

theorem sNew : str Rul.nNew = .string ⟨#[110, 101, 119, 108, 105, 102, 116]⟩ := by rw [str_eq]; rfl
theorem sNewer : str Rul.nNewer = .string ⟨#[110, 101, 119, 101, 114, 108, 105, 102, 116]⟩ := by rw [str_eq]; rfl

set_option maxHeartbeats 16000000 in
theorem ruLifts_calls {w : World} {l : List Rul.Rul} {lv : Value} (hl : RulsIn w l lv) (known : Int) (q : Nat) (hq : q < 256) :
    Calls Try.prog 8 #[lv, .int .i64 known, .int .u8 (q : Int)] w (fun e w' => ∃ x, e = .returned x ∧ x = .bool true ∧ Ext w w') := by
  obtain ⟨la, lc, rfl, hmc⟩ := hl.at_.shape
  have hll := hl.len
  have L := hl.at_
  refine calls_of Try.func8 rfl Try.ntmps8 rfl ?_
  repeat' (first | refine a_mov ?_ | refine a_asg ?_ | refine a_binN ?_ | refine a_notd ?_ | refine a_notb ?_ | refine a_nilc ?_ | refine a_fa ?_ | refine a_ext ?_ | refine a_lenv ?_ | refine a_lens ?_ | refine a_pick_t ?_ | refine a_pick_f ?_ | refine a_not ?_ | refine a_nilf ?_ | (refine o_nil (hK _ _ ?_); clear hK K) | refine wk_reg ?_ | refine wk_seq fun K hK => ?_ | (refine wk_skip (hK _ _ ?_); clear hK K) | (refine wk_label (hK _ _ ?_); clear hK K) | refine wk_scope ?_ | refine wk_block ?_ | refine wk_cond_t rfl ?_ | refine wk_cond_f rfl ?_ | (refine wk_exit ?_; (repeat (refine blockK_other rfl ?_)); refine blockK_same ?_; try ((repeat ((fail_if_success (refine hK _ _ ?_)); clear hK K)); refine hK _ _ ?_; clear hK K)) | (refine a_bin ?_ ?_ <;> intro _ <;> try (exfalso; omega)) | refine a_ld hl ?_ | (refine a_st hl ?_; clear hl; intro _ hl) | refine a_ix (fun _ => ?_) | fail)
  refine a_fn (ruHead_calls w) ?_
  rintro _ w1 ⟨rfl, he⟩
  replace L := L.ext he
  repeat' (first | refine a_mov ?_ | refine a_asg ?_ | refine a_binN ?_ | refine a_notd ?_ | refine a_notb ?_ | refine a_nilc ?_ | refine a_fa ?_ | refine a_ext ?_ | refine a_lenv ?_ | refine a_lens ?_ | refine a_pick_t ?_ | refine a_pick_f ?_ | refine a_not ?_ | refine a_nilf ?_ | (refine o_nil (hK _ _ ?_); clear hK K) | refine wk_reg ?_ | refine wk_seq fun K hK => ?_ | (refine wk_skip (hK _ _ ?_); clear hK K) | (refine wk_label (hK _ _ ?_); clear hK K) | refine wk_scope ?_ | refine wk_block ?_ | refine wk_cond_t rfl ?_ | refine wk_cond_f rfl ?_ | (refine wk_exit ?_; (repeat (refine blockK_other rfl ?_)); refine blockK_same ?_; try ((repeat ((fail_if_success (refine hK _ _ ?_)); clear hK K)); refine hK _ _ ?_; clear hK K)) | (refine a_bin ?_ ?_ <;> intro _ <;> try (exfalso; omega)) | refine a_ld hl ?_ | (refine a_st hl ?_; clear hl; intro _ hl) | refine a_ix (fun _ => ?_) | fail)
  refine a_fn (ruFew_calls l _ 12 w1 L (by omega) (fun r hr => (hl.ok r hr).f)) ?_
  rintro _ w2 ⟨rfl, hx⟩
  ((first | (replace L := L.ext (hx)) | skip); (first | (replace LW := LW.ext (hx)) | skip); (first | (replace LF := LF.ext (hx)) | skip); (first | (replace A := A.ext (hx)) | skip); (first | (replace B := B.ext (hx)) | skip); (first | (replace C := C.ext (hx)) | skip); (first | (replace D := D.ext (hx)) | skip); (first | (replace rx := rx.ext (hx)) | skip); (first | (replace ry := ry.ext (hx)) | skip); replace he := he.trans (hx))
  clear hx
  cases hf1 : Rul.fewB l 12
  · repeat' (first | refine a_mov ?_ | refine a_asg ?_ | refine a_binN ?_ | refine a_notd ?_ | refine a_notb ?_ | refine a_nilc ?_ | refine a_fa ?_ | refine a_ext ?_ | refine a_lenv ?_ | refine a_lens ?_ | refine a_pick_t ?_ | refine a_pick_f ?_ | refine a_not ?_ | refine a_nilf ?_ | (refine o_nil (hK _ _ ?_); clear hK K) | refine wk_reg ?_ | refine wk_seq fun K hK => ?_ | (refine wk_skip (hK _ _ ?_); clear hK K) | (refine wk_label (hK _ _ ?_); clear hK K) | refine wk_scope ?_ | refine wk_block ?_ | refine wk_cond_t rfl ?_ | refine wk_cond_f rfl ?_ | (refine wk_exit ?_; (repeat (refine blockK_other rfl ?_)); refine blockK_same ?_; try ((repeat ((fail_if_success (refine hK _ _ ?_)); clear hK K)); refine hK _ _ ?_; clear hK K)) | (refine a_bin ?_ ?_ <;> intro _ <;> try (exfalso; omega)) | refine a_ld hl ?_ | (refine a_st hl ?_; clear hl; intro _ hl) | refine a_ix (fun _ => ?_) | fail)
    refine wk_ret (retQ_tmp1 Try.results8 (by decide) rfl (by conv => lhs; whnf) ?_)
    exact ⟨rfl, he⟩
  have q1 := Rul.few_iff.1 hf1
  have hok : ∀ r ∈ l, cnt r.read ≤ 1000000 ∧ RuLen r := fun r hr => ⟨Rul.few_ok hf1 r hr, (hl.ok r hr).len⟩
  clear hf1
  by_cases hl0 : l.length = 0
  · repeat' (first | refine a_mov ?_ | refine a_asg ?_ | refine a_binN ?_ | refine a_notd ?_ | refine a_notb ?_ | refine a_nilc ?_ | refine a_fa ?_ | refine a_ext ?_ | refine a_lenv ?_ | refine a_lens ?_ | refine a_pick_t ?_ | refine a_pick_f ?_ | refine a_not ?_ | refine a_nilf ?_ | (refine o_nil (hK _ _ ?_); clear hK K) | refine wk_reg ?_ | refine wk_seq fun K hK => ?_ | (refine wk_skip (hK _ _ ?_); clear hK K) | (refine wk_label (hK _ _ ?_); clear hK K) | refine wk_scope ?_ | refine wk_block ?_ | refine wk_cond_t rfl ?_ | refine wk_cond_f rfl ?_ | (refine wk_exit ?_; (repeat (refine blockK_other rfl ?_)); refine blockK_same ?_; try ((repeat ((fail_if_success (refine hK _ _ ?_)); clear hK K)); refine hK _ _ ?_; clear hK K)) | (refine a_bin ?_ ?_ <;> intro _ <;> try (exfalso; omega)) | refine a_ld hl ?_ | (refine a_st hl ?_; clear hl; intro _ hl) | refine a_ix (fun _ => ?_) | fail)
    refine wk_ret (retQ_tmp1 Try.results8 (by decide) rfl (by conv => lhs; whnf) ?_)
    exact ⟨rfl, he⟩
  repeat' (first | refine a_mov ?_ | refine a_asg ?_ | refine a_binN ?_ | refine a_notd ?_ | refine a_notb ?_ | refine a_nilc ?_ | refine a_fa ?_ | refine a_ext ?_ | refine a_lenv ?_ | refine a_lens ?_ | refine a_pick_t ?_ | refine a_pick_f ?_ | refine a_not ?_ | refine a_nilf ?_ | (refine o_nil (hK _ _ ?_); clear hK K) | refine wk_reg ?_ | refine wk_seq fun K hK => ?_ | (refine wk_skip (hK _ _ ?_); clear hK K) | (refine wk_label (hK _ _ ?_); clear hK K) | refine wk_scope ?_ | refine wk_block ?_ | refine wk_cond_t rfl ?_ | refine wk_cond_f rfl ?_ | (refine wk_exit ?_; (repeat (refine blockK_other rfl ?_)); refine blockK_same ?_; try ((repeat ((fail_if_success (refine hK _ _ ?_)); clear hK K)); refine hK _ _ ?_; clear hK K)) | (refine a_bin ?_ ?_ <;> intro _ <;> try (exfalso; omega)) | refine a_ld hl ?_ | (refine a_st hl ?_; clear hl; intro _ hl) | refine a_ix (fun _ => ?_) | fail)
  refine a_fn (ruCount_calls l _ known w2 L (by omega) hok) ?_
  rintro _ w3 ⟨⟨av, rfl, A⟩, hx⟩
  ((first | (replace L := L.ext (hx)) | skip); (first | (replace LW := LW.ext (hx)) | skip); (first | (replace LF := LF.ext (hx)) | skip); (first | (replace A := A.ext (hx)) | skip); (first | (replace B := B.ext (hx)) | skip); (first | (replace C := C.ext (hx)) | skip); (first | (replace D := D.ext (hx)) | skip); (first | (replace rx := rx.ext (hx)) | skip); (first | (replace ry := ry.ext (hx)) | skip); replace he := he.trans (hx))
  clear hx
  by_cases herr : (Rul.countB l known).err = 0
  rotate_left
  · obtain ⟨aa, ac, rfl, -⟩ := A.shape
    generalize (Rul.countB l known).err = er at *
    repeat' (first | refine a_mov ?_ | refine a_asg ?_ | refine a_binN ?_ | refine a_notd ?_ | refine a_notb ?_ | refine a_nilc ?_ | refine a_fa ?_ | refine a_ext ?_ | refine a_lenv ?_ | refine a_lens ?_ | refine a_pick_t ?_ | refine a_pick_f ?_ | refine a_not ?_ | refine a_nilf ?_ | (refine o_nil (hK _ _ ?_); clear hK K) | refine wk_reg ?_ | refine wk_seq fun K hK => ?_ | (refine wk_skip (hK _ _ ?_); clear hK K) | (refine wk_label (hK _ _ ?_); clear hK K) | refine wk_scope ?_ | refine wk_block ?_ | refine wk_cond_t rfl ?_ | refine wk_cond_f rfl ?_ | (refine wk_exit ?_; (repeat (refine blockK_other rfl ?_)); refine blockK_same ?_; try ((repeat ((fail_if_success (refine hK _ _ ?_)); clear hK K)); refine hK _ _ ?_; clear hK K)) | (refine a_bin ?_ ?_ <;> intro _ <;> try (exfalso; omega)) | refine a_ld hl ?_ | (refine a_st hl ?_; clear hl; intro _ hl) | refine a_ix (fun _ => ?_) | fail)
    refine wk_ret (retQ_tmp1 Try.results8 (by decide) rfl (by conv => lhs; whnf) ?_)
    exact ⟨rfl, he⟩
  obtain ⟨i, hi⟩ : ∃ i, i = q % l.length := ⟨_, rfl⟩
  have hi1 : i < l.length := by rw [hi]; exact Nat.mod_lt _ (by omega)
  have hii : (q : Int) % (l.length : Int) = (i : Int) := by rw [hi]; omega
  have hname := Rul.valid_name ((Rul.countB_ok.1 herr).2.2.1 _ (List.getElem_mem hi1))
  have hfail := Rul.lift_fail q1.1 herr hname
  have hfail2 := Rul.lift_fail2 (s := l[i].id) (known := known) q1.1
  have hlaw := fun hf hg => Rul.lifts_law hi1 q1.1 herr hf hg
  have hwo := Rul.count_sub herr (Rul.without_sub l i)
  have hwm : ∀ x ∈ l.take i ++ l.drop (i + 1), x ∈ l := fun x hx => (Rul.without_sub l i).subset hx
  have hidl := (hok _ (List.getElem_mem hi1)).2.1
  obtain ⟨bi, oi, kvi, hpi, hri, hki⟩ := L.at hi1
  have hal := (Rul.countB_sub l known).length_le
  have hash : ∀ x ∈ (Rul.countB l known).out, Short x.read.kids := fun x hx => short_of (by have := q1.2 x ((Rul.countB_sub l known).subset hx); omega)
  obtain ⟨aa, ac, rfl, -⟩ := A.shape
  rw [herr]
  repeat' (first | refine a_mov ?_ | refine a_asg ?_ | refine a_binN ?_ | refine a_notd ?_ | refine a_notb ?_ | refine a_nilc ?_ | refine a_fa ?_ | refine a_ext ?_ | refine a_lenv ?_ | refine a_lens ?_ | refine a_pick_t ?_ | refine a_pick_f ?_ | refine a_not ?_ | refine a_nilf ?_ | (refine o_nil (hK _ _ ?_); clear hK K) | refine wk_reg ?_ | refine wk_seq fun K hK => ?_ | (refine wk_skip (hK _ _ ?_); clear hK K) | (refine wk_label (hK _ _ ?_); clear hK K) | refine wk_scope ?_ | refine wk_block ?_ | refine wk_cond_t rfl ?_ | refine wk_cond_f rfl ?_ | (refine wk_exit ?_; (repeat (refine blockK_other rfl ?_)); refine blockK_same ?_; try ((repeat ((fail_if_success (refine hK _ _ ?_)); clear hK K)); refine hK _ _ ?_; clear hK K)) | (refine a_bin ?_ ?_ <;> intro _ <;> try (exfalso; omega)) | refine a_ld hl ?_ | (refine a_st hl ?_; clear hl; intro _ hl) | refine a_ix (fun _ => ?_) | fail)
  refine o_conv rfl rfl rfl rfl (b := (q : Int)) (wrap_i64 (by omega)) ?_
  repeat' (first | refine a_mov ?_ | refine a_asg ?_ | refine a_binN ?_ | refine a_notd ?_ | refine a_notb ?_ | refine a_nilc ?_ | refine a_fa ?_ | refine a_ext ?_ | refine a_lenv ?_ | refine a_lens ?_ | refine a_pick_t ?_ | refine a_pick_f ?_ | refine a_not ?_ | refine a_nilf ?_ | (refine o_nil (hK _ _ ?_); clear hK K) | refine wk_reg ?_ | refine wk_seq fun K hK => ?_ | (refine wk_skip (hK _ _ ?_); clear hK K) | (refine wk_label (hK _ _ ?_); clear hK K) | refine wk_scope ?_ | refine wk_block ?_ | refine wk_cond_t rfl ?_ | refine wk_cond_f rfl ?_ | (refine wk_exit ?_; (repeat (refine blockK_other rfl ?_)); refine blockK_same ?_; try ((repeat ((fail_if_success (refine hK _ _ ?_)); clear hK K)); refine hK _ _ ?_; clear hK K)) | (refine a_bin ?_ ?_ <;> intro _ <;> try (exfalso; omega)) | refine a_ld hl ?_ | (refine a_st hl ?_; clear hl; intro _ hl) | refine a_ix (fun _ => ?_) | fail)
  refine o_rem rfl rfl rfl (by omega) (by omega) ?_
  rw [hii]
  have r0 : Row w3 bi (oi + i * 13) [str l[i].id] := fun k v hv => hri k v (by cases k with | zero => exact hv | succ k => simp at hv)
  repeat' (first | refine a_mov ?_ | refine a_asg ?_ | refine a_binN ?_ | refine a_notd ?_ | refine a_notb ?_ | refine a_nilc ?_ | refine a_fa ?_ | refine a_ext ?_ | refine a_lenv ?_ | refine a_lens ?_ | refine a_pick_t ?_ | refine a_pick_f ?_ | refine a_not ?_ | refine a_nilf ?_ | (refine o_nil (hK _ _ ?_); clear hK K) | refine wk_reg ?_ | refine wk_seq fun K hK => ?_ | (refine wk_skip (hK _ _ ?_); clear hK K) | (refine wk_label (hK _ _ ?_); clear hK K) | refine wk_scope ?_ | refine wk_block ?_ | refine wk_cond_t rfl ?_ | refine wk_cond_f rfl ?_ | (refine wk_exit ?_; (repeat (refine blockK_other rfl ?_)); refine blockK_same ?_; try ((repeat ((fail_if_success (refine hK _ _ ?_)); clear hK K)); refine hK _ _ ?_; clear hK K)) | (refine a_bin ?_ ?_ <;> intro _ <;> try (exfalso; omega)) | refine a_ld hl ?_ | (refine a_st hl ?_; clear hl; intro _ hl) | refine a_ix (fun _ => ?_) | refine a_idx (c := 13) i hpi ?_ | refine a_row r0 ?_)
  refine a_fn (lift_calls Rul.nNew l[i].id w3) ?_ (hargs := by rw [sNew]; rfl)
  rintro _ w4 ⟨rfl, hx⟩
  generalize hxd : Rul.liftR Rul.nNew l[i].id = x at *
  have hxk : x.read.kids = [] := by rw [← hxd]; rfl
  have hxc : cnt x.read ≤ 1000000 ∧ RuLen x := by
    rw [← hxd]
    exact ⟨by show cnt (.node 0 [] 0 0 []) ≤ _; decide +kernel, by show Rul.nNew.length ≤ _; decide +kernel, by show [112].length ≤ _; decide +kernel, hidl⟩
  refine o_alloc (LH.start w4 (fun _ => False)) [.string ⟨#[]⟩, .string ⟨#[]⟩, .int .i64 0, .int .i64 0, .int .i64 0, .int .i64 0, .string ⟨#[]⟩, .int .i64 0, .int .i64 0, .slice none 0 0, .int .i64 0, .bool false, .string ⟨#[]⟩] rfl rfl ?_
  intro b11 w5 hb11 hlh
  refine o_putN (us := rulC x (.slice none 0 0)) hlh rfl rfl rfl (rulC_one (w := w) (by rw [hxk]; exact KA.nil w)) rfl (.all rfl rfl) ?_
  clear hlh
  intro w6 hlh
  have rx : Row w6 b11 0 (rulC x (.slice none 0 0)) := hlh.rowL (vs := rulC x (.slice none 0 0)) 0 0 13 rfl
  have hx := hx.trans hlh.done
  replace L := L.ext hx
  replace A := A.ext hx
  replace he := he.trans hx
  replace hri := hri.ext hx
  clear hx hlh r0
  repeat' (first | refine a_mov ?_ | refine a_asg ?_ | refine a_binN ?_ | refine a_notd ?_ | refine a_notb ?_ | refine a_nilc ?_ | refine a_fa ?_ | refine a_ext ?_ | refine a_lenv ?_ | refine a_lens ?_ | refine a_pick_t ?_ | refine a_pick_f ?_ | refine a_not ?_ | refine a_nilf ?_ | (refine o_nil (hK _ _ ?_); clear hK K) | refine wk_reg ?_ | refine wk_seq fun K hK => ?_ | (refine wk_skip (hK _ _ ?_); clear hK K) | (refine wk_label (hK _ _ ?_); clear hK K) | refine wk_scope ?_ | refine wk_block ?_ | refine wk_cond_t rfl ?_ | refine wk_cond_f rfl ?_ | (refine wk_exit ?_; (repeat (refine blockK_other rfl ?_)); refine blockK_same ?_; try ((repeat ((fail_if_success (refine hK _ _ ?_)); clear hK K)); refine hK _ _ ?_; clear hK K)) | (refine a_bin ?_ ?_ <;> intro _ <;> try (exfalso; omega)) | refine a_ld hl ?_ | (refine a_st hl ?_; clear hl; intro _ hl) | refine a_ix (fun _ => ?_) | fail)
  refine a_fn (lift_calls Rul.nNewer Rul.nNew w6) ?_ (hargs := by rw [sNew, sNewer]; rfl)
  rintro _ w7 ⟨rfl, hx⟩
  generalize hyd : Rul.liftR Rul.nNewer Rul.nNew = y at *
  have hyk : y.read.kids = [] := by rw [← hyd]; rfl
  have hyc : cnt y.read ≤ 1000000 ∧ RuLen y := by
    rw [← hyd]
    exact ⟨by show cnt (.node 0 [] 0 0 []) ≤ _; decide +kernel, by show Rul.nNewer.length ≤ _; decide +kernel, by show [112].length ≤ _; decide +kernel, by show Rul.nNew.length ≤ _; decide +kernel⟩
  refine o_alloc (LH.start w7 (fun _ => False)) [.string ⟨#[]⟩, .string ⟨#[]⟩, .int .i64 0, .int .i64 0, .int .i64 0, .int .i64 0, .string ⟨#[]⟩, .int .i64 0, .int .i64 0, .slice none 0 0, .int .i64 0, .bool false, .string ⟨#[]⟩] rfl rfl ?_
  intro b12 w8 hb12 hlh
  refine o_putN (us := rulC y (.slice none 0 0)) hlh rfl rfl rfl (rulC_one (w := w) (by rw [hyk]; exact KA.nil w)) rfl (.all rfl rfl) ?_
  clear hlh
  intro w9 hlh
  have ry : Row w9 b12 0 (rulC y (.slice none 0 0)) := hlh.rowL (vs := rulC y (.slice none 0 0)) 0 0 13 rfl
  have hx := hx.trans hlh.done
  replace L := L.ext hx
  replace A := A.ext hx
  replace rx := rx.ext hx
  replace he := he.trans hx
  replace hri := hri.ext hx
  clear hx hlh
  have hxone : (rulC x (.slice none 0 0)).all Value.oneCell' = true := rulC_one (w := w) (by rw [hxk]; exact KA.nil w)
  have hyone : (rulC y (.slice none 0 0)).all Value.oneCell' = true := rulC_one (w := w) (by rw [hyk]; exact KA.nil w)
  repeat' (first | refine a_mov ?_ | refine a_asg ?_ | refine a_binN ?_ | refine a_notd ?_ | refine a_notb ?_ | refine a_nilc ?_ | refine a_fa ?_ | refine a_ext ?_ | refine a_lenv ?_ | refine a_lens ?_ | refine a_pick_t ?_ | refine a_pick_f ?_ | refine a_not ?_ | refine a_nilf ?_ | (refine o_nil (hK _ _ ?_); clear hK K) | refine wk_reg ?_ | refine wk_seq fun K hK => ?_ | (refine wk_skip (hK _ _ ?_); clear hK K) | (refine wk_label (hK _ _ ?_); clear hK K) | refine wk_scope ?_ | refine wk_block ?_ | refine wk_cond_t rfl ?_ | refine wk_cond_f rfl ?_ | (refine wk_exit ?_; (repeat (refine blockK_other rfl ?_)); refine blockK_same ?_; try ((repeat ((fail_if_success (refine hK _ _ ?_)); clear hK K)); refine hK _ _ ?_; clear hK K)) | (refine a_bin ?_ ?_ <;> intro _ <;> try (exfalso; omega)) | refine a_ld hl ?_ | (refine a_st hl ?_; clear hl; intro _ hl) | refine a_ix (fun _ => ?_) | fail)
  -- without the one
  obtain ⟨qs, hqs, hqsl, hqk⟩ := L.ex
  have hql : qs.length = l.length := by rw [← hqs, List.length_map]
  have hqone : (qs.flatMap rulL).all Value.oneCell' = true := by rw [List.all_flatMap]; exact List.all_eq_true.2 fun p hp => rulC_one (hqk p hp)
  have hcH := (cutH_sl (P := Try.prog) (t := 22) (k := 13) (hi := i) rfl rfl hqsl (by rw [rulL_flat, hql]) (by decide) hmc (by omega)).1
  have hcL := (cutL_sl (P := Try.prog) (t := 22) (k := 13) (lo := i + 1) rfl rfl hqsl (by rw [rulL_flat, hql]) (by decide) hmc (by omega)).1
  rw [flat_take rulL_len] at hcH
  rw [flat_drop rulL_len] at hcL
  refine wk_draw [1, 2, 3, 5, 6, 7, 8] [] [0, 4, 9, 10] (fun w' => To w9 w' w9.heap) (fun _ => True) rfl (by kernel_rfl) (fun _ _ _ _ h => by first | exact h | (simp only [BlockK, NoGoto, RetQ] at h)) (fun _ h => h) (fun _ _ => trivial) ?_
  repeat' (first | refine q_mov ?_ | refine q_asg ?_ | refine q_fa ?_ | refine q_ext ?_ | refine q_binN ?_ | refine q_notd ?_ | refine q_notb ?_ | refine q_pick_t ?_ | refine q_pick_f ?_ | refine q_nilc ?_ | refine q_skip ?_ | refine q_lens ?_ | refine q_lenv ?_ | refine q_nil ?_ | refine q_ix (fun _ => ?_) | (refine q_bin ?_ ?_ <;> intro _ <;> try (exfalso; omega)) | fail)
  refine q_pur rfl rfl rfl (fun w => r_slcH rfl rfl hmc (Nat.le_of_lt hi1) rfl rfl rfl w) ?_
  repeat' (first | refine q_mov ?_ | refine q_asg ?_ | refine q_fa ?_ | refine q_ext ?_ | refine q_binN ?_ | refine q_notd ?_ | refine q_notb ?_ | refine q_pick_t ?_ | refine q_pick_f ?_ | refine q_nilc ?_ | refine q_skip ?_ | refine q_lens ?_ | refine q_lenv ?_ | refine q_nil ?_ | refine q_ix (fun _ => ?_) | (refine q_bin ?_ ?_ <;> intro _ <;> try (exfalso; omega)) | fail)
  refine q_pur rfl rfl rfl (fun w => r_slcL (lo := i + 1) rfl rfl hmc hi1 rfl rfl (by omega) w) ?_
  refine q_nil ?_
  intro w10 hw10
  have hl0' : LH w9 (fun _ => False) w10 [] := (LH.start w9 _).heap hw10
  refine ops_tail rfl rfl ?_
  refine o_buildSlice0 hl0' rfl rfl rfl ?_
  clear hl0'
  intro b0 w11 hb0 hlh
  refine o_nil ⟨trivial, ?_⟩
  refine ops_tail rfl rfl ?_
  have hlh : LH w9 (fun _ => False) w11 ([] ++ [(b0, .cells #[] 28 (0, 0))]) := hlh
  refine o_appendS (bl' := []) (k := 13) (bytes := 152) (q := i) (us := (qs.take i).flatMap rulL) hlh (Acc.empty 13 28 b0) (hcH.ext hlh.done) (by rw [rulL_flat, List.length_take]; omega) (by decide) (by rw [List.all_flatMap]; exact List.all_eq_true.2 fun p hp => rulC_one (hqk p (List.mem_of_mem_take hp))) (by omega) (by omega) rfl rfl rfl rfl rfl rfl ?_
  clear hlh
  intro v1 w12 acc1 hlh hacc
  refine o_nil ⟨trivial, ?_⟩
  refine ops_tail rfl rfl ?_
  refine o_appendS (bl' := []) (k := 13) (bytes := 152) (q := l.length - (i + 1)) (us := (qs.drop (i + 1)).flatMap rulL) hlh hacc (hcL.ext hlh.done) (by rw [rulL_flat, List.length_drop, hql]) (by decide) (by rw [List.all_flatMap]; exact List.all_eq_true.2 fun p hp => rulC_one (hqk p (List.mem_of_mem_drop hp))) (by omega) (by omega) rfl rfl rfl rfl rfl rfl ?_
  clear hlh hacc
  intro v2 w13 acc2 hlh hacc
  have LW : RulsAt w13 (l.take i ++ l.drop (i + 1)) v2 := ⟨qs.take i ++ qs.drop (i + 1), by rw [List.map_append, List.map_take, List.map_drop, hqs], by
    have := hlh.acc_sl hacc
    rw [List.nil_append] at this
    rw [List.flatMap_append]; exact this, fun p hp => by
    rcases List.mem_append.1 hp with hp | hp
    · exact (hqk p (List.mem_of_mem_take hp)).ext hlh.done
    · exact (hqk p (List.mem_of_mem_drop hp)).ext hlh.done⟩
  have hx := hlh.done
  clear hlh hacc
  refine o_nil ⟨trivial, ?_⟩
  refine ops_tail rfl rfl ?_
  refine a_asg ?_
  refine o_nil ⟨trivial, ?_⟩
  refine ops_nil (hK _ _ ?_)
  clear hK K hcH hcL hqsl hqs hqk hqone hql qs
  replace L := L.ext hx
  replace A := A.ext hx
  replace rx := rx.ext hx
  replace ry := ry.ext hx
  replace hri := hri.ext hx
  replace he := he.trans hx
  clear hx
  have hwl : (l.take i ++ l.drop (i + 1)).length ≤ l.length := (Rul.without_sub l i).length_le
  generalize l.take i ++ l.drop (i + 1) = wl at *
  obtain ⟨wa, wc, rfl, -⟩ := LW.shape
  repeat' (first | refine a_mov ?_ | refine a_asg ?_ | refine a_binN ?_ | refine a_notd ?_ | refine a_notb ?_ | refine a_nilc ?_ | refine a_fa ?_ | refine a_ext ?_ | refine a_lenv ?_ | refine a_lens ?_ | refine a_pick_t ?_ | refine a_pick_f ?_ | refine a_not ?_ | refine a_nilf ?_ | (refine o_nil (hK _ _ ?_); clear hK K) | refine wk_reg ?_ | refine wk_seq fun K hK => ?_ | (refine wk_skip (hK _ _ ?_); clear hK K) | (refine wk_label (hK _ _ ?_); clear hK K) | refine wk_scope ?_ | refine wk_block ?_ | refine wk_cond_t rfl ?_ | refine wk_cond_f rfl ?_ | (refine wk_exit ?_; (repeat (refine blockK_other rfl ?_)); refine blockK_same ?_; try ((repeat ((fail_if_success (refine hK _ _ ?_)); clear hK K)); refine hK _ _ ?_; clear hK K)) | (refine a_bin ?_ ?_ <;> intro _ <;> try (exfalso; omega)) | refine a_ld hl ?_ | (refine a_st hl ?_; clear hl; intro _ hl) | refine a_ix (fun _ => ?_) | fail)
  -- lifted
  obtain ⟨qs, hqs, hqsl, hqk⟩ := L.ex
  have hql : qs.length = l.length := by rw [← hqs, List.length_map]
  have hqone : (qs.flatMap rulL).all Value.oneCell' = true := by rw [List.all_flatMap]; exact List.all_eq_true.2 fun p hp => rulC_one (hqk p hp)
  refine wk_cut (α := Value) [] (fun cv => [(0, .slice la l.length lc), (1, .int .i64 known), (7, .bool true), (8, .slice aa (Rul.countB l known).out.length ac), (9, .int .i64 0), (10, .int .i64 (i : Int)), (11, .pointer (some ⟨b11, 0, none⟩)), (12, .pointer (some ⟨b12, 0, none⟩)), (13, .slice wa wl.length wc), (14, cv)]) (fun cv w' => RulsAt w' (l ++ [x]) cv ∧ Ext w13 w') ?_ ?_
  · refine wk_tree [1, 3] [3] [0, 2, 4, 5] [6] [] (fun w' => To w13 w' w13.heap) (fun w' => Row w' b11 0 (rulC x (.slice none 0 0))) rfl (by kernel_rfl) (fun _ _ _ _ h => by first | exact h | (simp only [BlockK, NoGoto, RetQ] at h)) (fun _ h => h) (fun w' h => rx.heap h) ?_
    repeat' (first | refine q_mov ?_ | refine q_asg ?_ | refine q_fa ?_ | refine q_ext ?_ | refine q_binN ?_ | refine q_notd ?_ | refine q_notb ?_ | refine q_pick_t ?_ | refine q_pick_f ?_ | refine q_nilc ?_ | refine q_skip ?_ | refine q_lens ?_ | refine q_lenv ?_ | refine q_nil ?_ | refine q_ix (fun _ => ?_) | (refine q_bin ?_ ?_ <;> intro _ <;> try (exfalso; omega)) | refine q_late rfl rfl rfl rfl (fun w' hw' => r_loadN (vs := rulC x (.slice none 0 0)) rfl rfl rfl hw') ?_)
    intro w14 hw14
    have hlh : LH w13 (fun _ => False) w14 [] := (LH.start w13 _).heap hw14
    clear hw14
    refine opsT_2 (i := 0) (i' := 4) (by kernel_rfl) rfl rfl rfl rfl ?_ ?_
    · refine o_buildSlice0 hlh rfl rfl rfl ?_
      clear hlh
      intro b0 wa hb0 hlh
      refine o_nil ⟨.inl (rx.ext hlh.done), ?_⟩
      refine opsT_2 (i := 2) (i' := 4) (by kernel_rfl) rfl rfl rfl rfl ?_ ?_
      · have hlh : LH _ _ _ ([] ++ [_]) := hlh
        refine o_appendS (k := 13) (bytes := 152) (q := (l).length) (us := (qs).flatMap rulL) hlh (Acc.empty 13 28 b0) (hqsl.ext hlh.done) (by rw [rulL_flat, hql]) (by decide) hqone (by omega) (by omega) rfl rfl rfl rfl rfl rfl ?_
        clear hlh
        intro v1 wb acc hlh hacc
        rw [Nat.zero_add, List.nil_append] at hacc
        obtain ⟨x1, y1, rfl⟩ := hacc.shape
        refine o_nil ⟨.inl (rx.ext hlh.done), ?_⟩
        refine opsT_1 (i := 4) (by kernel_rfl) rfl rfl ?_
        refine o_buildSlice hlh (rulC (x) (.slice none 0 0)) rfl rfl (by kernel_rfl) ?_
        clear hlh
        intro b4 wc hb4 hlh
        refine o_nil ⟨.inl (rx.ext hlh.done), ?_⟩
        have hlh : LH _ _ _ ([_] ++ acc) := hlh
        refine opsT_1 (i := 5) (by kernel_rfl) rfl rfl ?_
        refine o_append (k := 13) (bytes := 152) (m := (l).length) (q := 1) (us := rulC (x) (.slice none 0 0)) hlh hacc (hlh.rowL (vs := rulC (x) (.slice none 0 0)) 0 0 13 rfl) rfl hxone (by omega) (by omega) (by omega) rfl rfl rfl rfl rfl ?_
        clear hlh hacc
        intro v2 wd acc2 hlh hacc
        obtain ⟨x2, y2, rfl⟩ := hacc.shape
        have hq : RulsAt wd (l ++ [x]) (.slice x2 ((l).length + 1) y2) := ⟨qs ++ [(x, .slice none 0 0)], by rw [List.map_append, hqs]; rfl, by rw [List.flatMap_append, List.flatMap_singleton]; exact hlh.acc_sl hacc, fun p hp => by
          rcases List.mem_append.1 hp with hp | hp
          · exact (hqk p hp).ext hlh.done
          · rw [List.mem_singleton.1 hp, hxk]; exact KA.nil _⟩
        refine o_nil ⟨.inl (rx.ext hlh.done), ?_⟩
        have hy := hlh.done
        clear hlh hacc
        refine opsT_nil ?_
        unfold PostQ
        repeat' (first | refine q_mov ?_ | refine q_asg ?_ | refine q_fa ?_ | refine q_ext ?_ | refine q_binN ?_ | refine q_notd ?_ | refine q_notb ?_ | refine q_pick_t ?_ | refine q_pick_f ?_ | refine q_nilc ?_ | refine q_skip ?_ | refine q_lens ?_ | refine q_lenv ?_ | refine q_nil ?_ | refine q_ix (fun _ => ?_) | (refine q_bin ?_ ?_ <;> intro _ <;> try (exfalso; omega)) | fail)
        exact ⟨_, ⟨rfl, rfl, rfl, rfl, rfl, rfl, rfl, rfl, rfl, rfl, trivial⟩, rfl, hq, hy⟩
      · skip
        refine o_buildSlice hlh (rulC (x) (.slice none 0 0)) rfl rfl (by kernel_rfl) ?_
        clear hlh
        intro b4 wc hb4 hlh
        refine o_nil ⟨.inl (rx.ext hlh.done), ?_⟩
        have hlh : LH _ _ _ ([_] ++ [_]) := hlh
        refine opsT_1 (i := 2) (by kernel_rfl) rfl rfl ?_
        refine o_appendS (k := 13) (bytes := 152) (q := (l).length) (us := (qs).flatMap rulL) hlh (Acc.empty 13 28 b0) (hqsl.ext hlh.done) (by rw [rulL_flat, hql]) (by decide) hqone (by omega) (by omega) rfl rfl rfl rfl rfl rfl ?_
        clear hlh
        intro v1 wb acc hlh hacc
        rw [Nat.zero_add, List.nil_append] at hacc
        obtain ⟨x1, y1, rfl⟩ := hacc.shape
        refine o_nil ⟨.inl (rx.ext hlh.done), ?_⟩
        refine opsT_1 (i := 5) (by kernel_rfl) rfl rfl ?_
        refine o_append (k := 13) (bytes := 152) (m := (l).length) (q := 1) (us := rulC (x) (.slice none 0 0)) hlh hacc (hlh.rowL (vs := rulC (x) (.slice none 0 0)) 0 0 13 rfl) rfl hxone (by omega) (by omega) (by omega) rfl rfl rfl rfl rfl ?_
        clear hlh hacc
        intro v2 wd acc2 hlh hacc
        obtain ⟨x2, y2, rfl⟩ := hacc.shape
        have hq : RulsAt wd (l ++ [x]) (.slice x2 ((l).length + 1) y2) := ⟨qs ++ [(x, .slice none 0 0)], by rw [List.map_append, hqs]; rfl, by rw [List.flatMap_append, List.flatMap_singleton]; exact hlh.acc_sl hacc, fun p hp => by
          rcases List.mem_append.1 hp with hp | hp
          · exact (hqk p hp).ext hlh.done
          · rw [List.mem_singleton.1 hp, hxk]; exact KA.nil _⟩
        refine o_nil ⟨.inl (rx.ext hlh.done), ?_⟩
        have hy := hlh.done
        clear hlh hacc
        refine opsT_nil ?_
        unfold PostQ
        repeat' (first | refine q_mov ?_ | refine q_asg ?_ | refine q_fa ?_ | refine q_ext ?_ | refine q_binN ?_ | refine q_notd ?_ | refine q_notb ?_ | refine q_pick_t ?_ | refine q_pick_f ?_ | refine q_nilc ?_ | refine q_skip ?_ | refine q_lens ?_ | refine q_lenv ?_ | refine q_nil ?_ | refine q_ix (fun _ => ?_) | (refine q_bin ?_ ?_ <;> intro _ <;> try (exfalso; omega)) | fail)
        exact ⟨_, ⟨rfl, rfl, rfl, rfl, rfl, rfl, rfl, rfl, rfl, rfl, trivial⟩, rfl, hq, hy⟩
    · skip
      refine o_buildSlice hlh (rulC (x) (.slice none 0 0)) rfl rfl (by kernel_rfl) ?_
      clear hlh
      intro b4 wc hb4 hlh
      refine o_nil ⟨.inl (rx.ext hlh.done), ?_⟩
      refine opsT_1 (i := 0) (by kernel_rfl) rfl rfl ?_
      refine o_buildSlice0 hlh rfl rfl rfl ?_
      clear hlh
      intro b0 wa hb0 hlh
      refine o_nil ⟨.inl (rx.ext hlh.done), ?_⟩
      replace hlh := hlh.perm (List.Perm.swap _ _ _)
      have hlh : LH _ _ _ ([_] ++ [_]) := hlh
      refine opsT_1 (i := 2) (by kernel_rfl) rfl rfl ?_
      refine o_appendS (k := 13) (bytes := 152) (q := (l).length) (us := (qs).flatMap rulL) hlh (Acc.empty 13 28 b0) (hqsl.ext hlh.done) (by rw [rulL_flat, hql]) (by decide) hqone (by omega) (by omega) rfl rfl rfl rfl rfl rfl ?_
      clear hlh
      intro v1 wb acc hlh hacc
      rw [Nat.zero_add, List.nil_append] at hacc
      obtain ⟨x1, y1, rfl⟩ := hacc.shape
      refine o_nil ⟨.inl (rx.ext hlh.done), ?_⟩
      refine opsT_1 (i := 5) (by kernel_rfl) rfl rfl ?_
      refine o_append (k := 13) (bytes := 152) (m := (l).length) (q := 1) (us := rulC (x) (.slice none 0 0)) hlh hacc (hlh.rowL (vs := rulC (x) (.slice none 0 0)) 0 0 13 rfl) rfl hxone (by omega) (by omega) (by omega) rfl rfl rfl rfl rfl ?_
      clear hlh hacc
      intro v2 wd acc2 hlh hacc
      obtain ⟨x2, y2, rfl⟩ := hacc.shape
      have hq : RulsAt wd (l ++ [x]) (.slice x2 ((l).length + 1) y2) := ⟨qs ++ [(x, .slice none 0 0)], by rw [List.map_append, hqs]; rfl, by rw [List.flatMap_append, List.flatMap_singleton]; exact hlh.acc_sl hacc, fun p hp => by
        rcases List.mem_append.1 hp with hp | hp
        · exact (hqk p hp).ext hlh.done
        · rw [List.mem_singleton.1 hp, hxk]; exact KA.nil _⟩
      refine o_nil ⟨.inl (rx.ext hlh.done), ?_⟩
      have hy := hlh.done
      clear hlh hacc
      refine opsT_nil ?_
      unfold PostQ
      repeat' (first | refine q_mov ?_ | refine q_asg ?_ | refine q_fa ?_ | refine q_ext ?_ | refine q_binN ?_ | refine q_notd ?_ | refine q_notb ?_ | refine q_pick_t ?_ | refine q_pick_f ?_ | refine q_nilc ?_ | refine q_skip ?_ | refine q_lens ?_ | refine q_lenv ?_ | refine q_nil ?_ | refine q_ix (fun _ => ?_) | (refine q_bin ?_ ?_ <;> intro _ <;> try (exfalso; omega)) | fail)
      exact ⟨_, ⟨rfl, rfl, rfl, rfl, rfl, rfl, rfl, rfl, rfl, rfl, trivial⟩, rfl, hq, hy⟩
  rintro fv t w14 ⟨LF, hx⟩
  refine hK _ _ ?_
  clear hK K hqs hqsl hqk hql hqone qs
  obtain ⟨fa, fc, hfv, -⟩ := LF.shape
  subst hfv
  ((first | (replace L := L.ext (hx)) | skip); (first | (replace LW := LW.ext (hx)) | skip); (first | (replace LF := LF.ext (hx)) | skip); (first | (replace A := A.ext (hx)) | skip); (first | (replace B := B.ext (hx)) | skip); (first | (replace C := C.ext (hx)) | skip); (first | (replace D := D.ext (hx)) | skip); (first | (replace rx := rx.ext (hx)) | skip); (first | (replace ry := ry.ext (hx)) | skip); replace he := he.trans (hx))
  replace hri := hri.ext hx
  clear hx
  have hlfl : (l ++ [x]).length = l.length + 1 := by rw [List.length_append, List.length_singleton]
  have hok2 : ∀ z ∈ l ++ [x], cnt z.read ≤ 1000000 ∧ RuLen z := fun z hz => by
    rcases List.mem_append.1 hz with hz | hz
    · exact hok z hz
    · rw [List.mem_singleton.1 hz]; exact hxc
  have hsh2 : ∀ z ∈ l ++ [x], Short z.read.kids := fun z hz => by
    rcases List.mem_append.1 hz with hz | hz
    · exact short_of (by have := q1.2 z hz; omega)
    · rw [List.mem_singleton.1 hz]; exact short_of hxc.1
  have hok3 : ∀ z ∈ l ++ [x] ++ [y], cnt z.read ≤ 1000000 ∧ RuLen z := fun z hz => by
    rcases List.mem_append.1 hz with hz | hz
    · exact hok2 z hz
    · rw [List.mem_singleton.1 hz]; exact hyc
  have hsh3 : ∀ z ∈ l ++ [x] ++ [y], Short z.read.kids := fun z hz => by
    rcases List.mem_append.1 hz with hz | hz
    · exact hsh2 z hz
    · rw [List.mem_singleton.1 hz]; exact short_of hyc.1
  have hlf3 : (l ++ [x] ++ [y]).length = l.length + 2 := by rw [List.length_append, hlfl, List.length_singleton]
  repeat' (first | refine a_mov ?_ | refine a_asg ?_ | refine a_binN ?_ | refine a_notd ?_ | refine a_notb ?_ | refine a_nilc ?_ | refine a_fa ?_ | refine a_ext ?_ | refine a_lenv ?_ | refine a_lens ?_ | refine a_pick_t ?_ | refine a_pick_f ?_ | refine a_not ?_ | refine a_nilf ?_ | (refine o_nil (hK _ _ ?_); clear hK K) | refine wk_reg ?_ | refine wk_seq fun K hK => ?_ | (refine wk_skip (hK _ _ ?_); clear hK K) | (refine wk_label (hK _ _ ?_); clear hK K) | refine wk_scope ?_ | refine wk_block ?_ | refine wk_cond_t rfl ?_ | refine wk_cond_f rfl ?_ | (refine wk_exit ?_; (repeat (refine blockK_other rfl ?_)); refine blockK_same ?_; try ((repeat ((fail_if_success (refine hK _ _ ?_)); clear hK K)); refine hK _ _ ?_; clear hK K)) | (refine a_bin ?_ ?_ <;> intro _ <;> try (exfalso; omega)) | refine a_ld hl ?_ | (refine a_st hl ?_; clear hl; intro _ hl) | refine a_ix (fun _ => ?_) | fail)
  refine a_fn (ruCount_calls (l ++ [x]) _ known w14 LF (by omega) hok2) ?_
  rintro _ w15 ⟨⟨bv, rfl, B⟩, hx⟩
  ((first | (replace L := L.ext (hx)) | skip); (first | (replace LW := LW.ext (hx)) | skip); (first | (replace LF := LF.ext (hx)) | skip); (first | (replace A := A.ext (hx)) | skip); (first | (replace B := B.ext (hx)) | skip); (first | (replace C := C.ext (hx)) | skip); (first | (replace D := D.ext (hx)) | skip); (first | (replace rx := rx.ext (hx)) | skip); (first | (replace ry := ry.ext (hx)) | skip); replace he := he.trans (hx))
  replace hri := hri.ext hx
  clear hx
  obtain ⟨ba, bc, rfl, -⟩ := B.shape
  repeat' (first | refine a_mov ?_ | refine a_asg ?_ | refine a_binN ?_ | refine a_notd ?_ | refine a_notb ?_ | refine a_nilc ?_ | refine a_fa ?_ | refine a_ext ?_ | refine a_lenv ?_ | refine a_lens ?_ | refine a_pick_t ?_ | refine a_pick_f ?_ | refine a_not ?_ | refine a_nilf ?_ | (refine o_nil (hK _ _ ?_); clear hK K) | refine wk_reg ?_ | refine wk_seq fun K hK => ?_ | (refine wk_skip (hK _ _ ?_); clear hK K) | (refine wk_label (hK _ _ ?_); clear hK K) | refine wk_scope ?_ | refine wk_block ?_ | refine wk_cond_t rfl ?_ | refine wk_cond_f rfl ?_ | (refine wk_exit ?_; (repeat (refine blockK_other rfl ?_)); refine blockK_same ?_; try ((repeat ((fail_if_success (refine hK _ _ ?_)); clear hK K)); refine hK _ _ ?_; clear hK K)) | (refine a_bin ?_ ?_ <;> intro _ <;> try (exfalso; omega)) | refine a_ld hl ?_ | (refine a_st hl ?_; clear hl; intro _ hl) | refine a_ix (fun _ => ?_) | fail)
  obtain ⟨qs, hqs, hqsl, hqk⟩ := LF.ex
  have hql : qs.length = (l ++ [x]).length := by rw [← hqs, List.length_map]
  have hqone : (qs.flatMap rulL).all Value.oneCell' = true := by rw [List.all_flatMap]; exact List.all_eq_true.2 fun p hp => rulC_one (hqk p hp)
  refine wk_cut (α := Value) [] (fun cv => [(0, .slice la l.length lc), (1, .int .i64 known), (7, .bool true), (8, .slice aa (Rul.countB l known).out.length ac), (9, .int .i64 0), (10, .int .i64 (i : Int)), (13, .slice wa wl.length wc), (14, .slice fa (l ++ [x]).length fc), (15, .slice ba (Rul.countB (l ++ [x]) known).out.length bc), (16, .int .i64 ((Rul.countB (l ++ [x]) known).err : Int)), (17, cv), (18, .int .i64 ((Rul.countB (l ++ [x] ++ [y]) known).err : Int))]) (fun cv w' => RulsAt w' (Rul.countB (l ++ [x] ++ [y]) known).out cv ∧ Ext w15 w') ?_ ?_
  · refine wk_tree [1, 3, 6] [3] [0, 2, 4, 5, 7] [8, 9, 10, 11, 12] [] (fun w' => To w15 w' w15.heap) (fun w' => Row w' b12 0 (rulC y (.slice none 0 0))) rfl (by kernel_rfl) (fun _ _ _ _ h => by first | exact h | (simp only [BlockK, NoGoto, RetQ] at h)) (fun _ h => h) (fun w' h => ry.heap h) ?_
    repeat' (first | refine q_mov ?_ | refine q_asg ?_ | refine q_fa ?_ | refine q_ext ?_ | refine q_binN ?_ | refine q_notd ?_ | refine q_notb ?_ | refine q_pick_t ?_ | refine q_pick_f ?_ | refine q_nilc ?_ | refine q_skip ?_ | refine q_lens ?_ | refine q_lenv ?_ | refine q_nil ?_ | refine q_ix (fun _ => ?_) | (refine q_bin ?_ ?_ <;> intro _ <;> try (exfalso; omega)) | refine q_late rfl rfl rfl rfl (fun w' hw' => r_loadN (vs := rulC y (.slice none 0 0)) rfl rfl rfl hw') ?_)
    intro w16 hw16
    have hlh : LH w15 (fun _ => False) w16 [] := (LH.start w15 _).heap hw16
    clear hw16
    refine opsT_2 (i := 0) (i' := 4) (by kernel_rfl) rfl rfl rfl rfl ?_ ?_
    · refine o_buildSlice0 hlh rfl rfl rfl ?_
      clear hlh
      intro b0 wa hb0 hlh
      refine o_nil ⟨.inl (ry.ext hlh.done), ?_⟩
      refine opsT_2 (i := 2) (i' := 4) (by kernel_rfl) rfl rfl rfl rfl ?_ ?_
      · have hlh : LH _ _ _ ([] ++ [_]) := hlh
        refine o_appendS (k := 13) (bytes := 152) (q := ((l ++ [x])).length) (us := (qs).flatMap rulL) hlh (Acc.empty 13 28 b0) (hqsl.ext hlh.done) (by rw [rulL_flat, hql]) (by decide) hqone (by omega) (by omega) rfl rfl rfl rfl rfl rfl ?_
        clear hlh
        intro v1 wb acc hlh hacc
        rw [Nat.zero_add, List.nil_append] at hacc
        obtain ⟨x1, y1, rfl⟩ := hacc.shape
        refine o_nil ⟨.inl (ry.ext hlh.done), ?_⟩
        refine opsT_1 (i := 4) (by kernel_rfl) rfl rfl ?_
        refine o_buildSlice hlh (rulC (y) (.slice none 0 0)) rfl rfl (by kernel_rfl) ?_
        clear hlh
        intro b4 wc hb4 hlh
        refine o_nil ⟨.inl (ry.ext hlh.done), ?_⟩
        have hlh : LH _ _ _ ([_] ++ acc) := hlh
        refine opsT_1 (i := 5) (by kernel_rfl) rfl rfl ?_
        refine o_append (k := 13) (bytes := 152) (m := ((l ++ [x])).length) (q := 1) (us := rulC (y) (.slice none 0 0)) hlh hacc (hlh.rowL (vs := rulC (y) (.slice none 0 0)) 0 0 13 rfl) rfl hyone (by omega) (by omega) (by omega) rfl rfl rfl rfl rfl ?_
        clear hlh hacc
        intro v2 wd acc2 hlh hacc
        obtain ⟨x2, y2, rfl⟩ := hacc.shape
        have hq : RulsAt wd ((l ++ [x]) ++ [y]) (.slice x2 (((l ++ [x])).length + 1) y2) := ⟨qs ++ [(y, .slice none 0 0)], by rw [List.map_append, hqs]; rfl, by rw [List.flatMap_append, List.flatMap_singleton]; exact hlh.acc_sl hacc, fun p hp => by
          rcases List.mem_append.1 hp with hp | hp
          · exact (hqk p hp).ext hlh.done
          · rw [List.mem_singleton.1 hp, hyk]; exact KA.nil _⟩
        refine o_nil ⟨.inl (ry.ext hlh.done), ?_⟩
        have hy := hlh.done
        clear hlh hacc
        refine opsT_1 (i := 7) (by kernel_rfl) rfl rfl ?_
        refine a_fn (ruCount_calls _ _ known wd hq (by rw [List.length_append, hlfl, List.length_singleton]; omega) hok3) ?_
        rintro _ we ⟨⟨cv, rfl, C⟩, hz⟩
        refine o_nil ⟨.inl (ry.ext (hy.trans hz)), ?_⟩
        refine opsT_nil ?_
        unfold PostQ
        repeat' (first | refine q_mov ?_ | refine q_asg ?_ | refine q_fa ?_ | refine q_ext ?_ | refine q_binN ?_ | refine q_notd ?_ | refine q_notb ?_ | refine q_pick_t ?_ | refine q_pick_f ?_ | refine q_nilc ?_ | refine q_skip ?_ | refine q_lens ?_ | refine q_lenv ?_ | refine q_nil ?_ | refine q_ix (fun _ => ?_) | (refine q_bin ?_ ?_ <;> intro _ <;> try (exfalso; omega)) | fail)
        exact ⟨cv, ⟨rfl, rfl, rfl, rfl, rfl, rfl, rfl, rfl, rfl, rfl, rfl, rfl, trivial⟩, rfl, C, hy.trans hz⟩
      · skip
        refine o_buildSlice hlh (rulC (y) (.slice none 0 0)) rfl rfl (by kernel_rfl) ?_
        clear hlh
        intro b4 wc hb4 hlh
        refine o_nil ⟨.inl (ry.ext hlh.done), ?_⟩
        have hlh : LH _ _ _ ([_] ++ [_]) := hlh
        refine opsT_1 (i := 2) (by kernel_rfl) rfl rfl ?_
        refine o_appendS (k := 13) (bytes := 152) (q := ((l ++ [x])).length) (us := (qs).flatMap rulL) hlh (Acc.empty 13 28 b0) (hqsl.ext hlh.done) (by rw [rulL_flat, hql]) (by decide) hqone (by omega) (by omega) rfl rfl rfl rfl rfl rfl ?_
        clear hlh
        intro v1 wb acc hlh hacc
        rw [Nat.zero_add, List.nil_append] at hacc
        obtain ⟨x1, y1, rfl⟩ := hacc.shape
        refine o_nil ⟨.inl (ry.ext hlh.done), ?_⟩
        refine opsT_1 (i := 5) (by kernel_rfl) rfl rfl ?_
        refine o_append (k := 13) (bytes := 152) (m := ((l ++ [x])).length) (q := 1) (us := rulC (y) (.slice none 0 0)) hlh hacc (hlh.rowL (vs := rulC (y) (.slice none 0 0)) 0 0 13 rfl) rfl hyone (by omega) (by omega) (by omega) rfl rfl rfl rfl rfl ?_
        clear hlh hacc
        intro v2 wd acc2 hlh hacc
        obtain ⟨x2, y2, rfl⟩ := hacc.shape
        have hq : RulsAt wd ((l ++ [x]) ++ [y]) (.slice x2 (((l ++ [x])).length + 1) y2) := ⟨qs ++ [(y, .slice none 0 0)], by rw [List.map_append, hqs]; rfl, by rw [List.flatMap_append, List.flatMap_singleton]; exact hlh.acc_sl hacc, fun p hp => by
          rcases List.mem_append.1 hp with hp | hp
          · exact (hqk p hp).ext hlh.done
          · rw [List.mem_singleton.1 hp, hyk]; exact KA.nil _⟩
        refine o_nil ⟨.inl (ry.ext hlh.done), ?_⟩
        have hy := hlh.done
        clear hlh hacc
        refine opsT_1 (i := 7) (by kernel_rfl) rfl rfl ?_
        refine a_fn (ruCount_calls _ _ known wd hq (by rw [List.length_append, hlfl, List.length_singleton]; omega) hok3) ?_
        rintro _ we ⟨⟨cv, rfl, C⟩, hz⟩
        refine o_nil ⟨.inl (ry.ext (hy.trans hz)), ?_⟩
        refine opsT_nil ?_
        unfold PostQ
        repeat' (first | refine q_mov ?_ | refine q_asg ?_ | refine q_fa ?_ | refine q_ext ?_ | refine q_binN ?_ | refine q_notd ?_ | refine q_notb ?_ | refine q_pick_t ?_ | refine q_pick_f ?_ | refine q_nilc ?_ | refine q_skip ?_ | refine q_lens ?_ | refine q_lenv ?_ | refine q_nil ?_ | refine q_ix (fun _ => ?_) | (refine q_bin ?_ ?_ <;> intro _ <;> try (exfalso; omega)) | fail)
        exact ⟨cv, ⟨rfl, rfl, rfl, rfl, rfl, rfl, rfl, rfl, rfl, rfl, rfl, rfl, trivial⟩, rfl, C, hy.trans hz⟩
    · skip
      refine o_buildSlice hlh (rulC (y) (.slice none 0 0)) rfl rfl (by kernel_rfl) ?_
      clear hlh
      intro b4 wc hb4 hlh
      refine o_nil ⟨.inl (ry.ext hlh.done), ?_⟩
      refine opsT_1 (i := 0) (by kernel_rfl) rfl rfl ?_
      refine o_buildSlice0 hlh rfl rfl rfl ?_
      clear hlh
      intro b0 wa hb0 hlh
      refine o_nil ⟨.inl (ry.ext hlh.done), ?_⟩
      replace hlh := hlh.perm (List.Perm.swap _ _ _)
      have hlh : LH _ _ _ ([_] ++ [_]) := hlh
      refine opsT_1 (i := 2) (by kernel_rfl) rfl rfl ?_
      refine o_appendS (k := 13) (bytes := 152) (q := ((l ++ [x])).length) (us := (qs).flatMap rulL) hlh (Acc.empty 13 28 b0) (hqsl.ext hlh.done) (by rw [rulL_flat, hql]) (by decide) hqone (by omega) (by omega) rfl rfl rfl rfl rfl rfl ?_
      clear hlh
      intro v1 wb acc hlh hacc
      rw [Nat.zero_add, List.nil_append] at hacc
      obtain ⟨x1, y1, rfl⟩ := hacc.shape
      refine o_nil ⟨.inl (ry.ext hlh.done), ?_⟩
      refine opsT_1 (i := 5) (by kernel_rfl) rfl rfl ?_
      refine o_append (k := 13) (bytes := 152) (m := ((l ++ [x])).length) (q := 1) (us := rulC (y) (.slice none 0 0)) hlh hacc (hlh.rowL (vs := rulC (y) (.slice none 0 0)) 0 0 13 rfl) rfl hyone (by omega) (by omega) (by omega) rfl rfl rfl rfl rfl ?_
      clear hlh hacc
      intro v2 wd acc2 hlh hacc
      obtain ⟨x2, y2, rfl⟩ := hacc.shape
      have hq : RulsAt wd ((l ++ [x]) ++ [y]) (.slice x2 (((l ++ [x])).length + 1) y2) := ⟨qs ++ [(y, .slice none 0 0)], by rw [List.map_append, hqs]; rfl, by rw [List.flatMap_append, List.flatMap_singleton]; exact hlh.acc_sl hacc, fun p hp => by
        rcases List.mem_append.1 hp with hp | hp
        · exact (hqk p hp).ext hlh.done
        · rw [List.mem_singleton.1 hp, hyk]; exact KA.nil _⟩
      refine o_nil ⟨.inl (ry.ext hlh.done), ?_⟩
      have hy := hlh.done
      clear hlh hacc
      refine opsT_1 (i := 7) (by kernel_rfl) rfl rfl ?_
      refine a_fn (ruCount_calls _ _ known wd hq (by rw [List.length_append, hlfl, List.length_singleton]; omega) hok3) ?_
      rintro _ we ⟨⟨cv, rfl, C⟩, hz⟩
      refine o_nil ⟨.inl (ry.ext (hy.trans hz)), ?_⟩
      refine opsT_nil ?_
      unfold PostQ
      repeat' (first | refine q_mov ?_ | refine q_asg ?_ | refine q_fa ?_ | refine q_ext ?_ | refine q_binN ?_ | refine q_notd ?_ | refine q_notb ?_ | refine q_pick_t ?_ | refine q_pick_f ?_ | refine q_nilc ?_ | refine q_skip ?_ | refine q_lens ?_ | refine q_lenv ?_ | refine q_nil ?_ | refine q_ix (fun _ => ?_) | (refine q_bin ?_ ?_ <;> intro _ <;> try (exfalso; omega)) | fail)
      exact ⟨cv, ⟨rfl, rfl, rfl, rfl, rfl, rfl, rfl, rfl, rfl, rfl, rfl, rfl, trivial⟩, rfl, C, hy.trans hz⟩
  rintro cv t w16 ⟨C, hx⟩
  refine hK _ _ ?_
  clear hK K hqs hqsl hqk hql hqone qs
  obtain ⟨ca, cc, rfl, -⟩ := C.shape
  ((first | (replace L := L.ext (hx)) | skip); (first | (replace LW := LW.ext (hx)) | skip); (first | (replace LF := LF.ext (hx)) | skip); (first | (replace A := A.ext (hx)) | skip); (first | (replace B := B.ext (hx)) | skip); (first | (replace C := C.ext (hx)) | skip); (first | (replace D := D.ext (hx)) | skip); (first | (replace rx := rx.ext (hx)) | skip); (first | (replace ry := ry.ext (hx)) | skip); replace he := he.trans (hx))
  replace hri := hri.ext hx
  clear hx
  repeat' (first | refine a_mov ?_ | refine a_asg ?_ | refine a_binN ?_ | refine a_notd ?_ | refine a_notb ?_ | refine a_nilc ?_ | refine a_fa ?_ | refine a_ext ?_ | refine a_lenv ?_ | refine a_lens ?_ | refine a_pick_t ?_ | refine a_pick_f ?_ | refine a_not ?_ | refine a_nilf ?_ | (refine o_nil (hK _ _ ?_); clear hK K) | refine wk_reg ?_ | refine wk_seq fun K hK => ?_ | (refine wk_skip (hK _ _ ?_); clear hK K) | (refine wk_label (hK _ _ ?_); clear hK K) | refine wk_scope ?_ | refine wk_block ?_ | refine wk_cond_t rfl ?_ | refine wk_cond_f rfl ?_ | (refine wk_exit ?_; (repeat (refine blockK_other rfl ?_)); refine blockK_same ?_; try ((repeat ((fail_if_success (refine hK _ _ ?_)); clear hK K)); refine hK _ _ ?_; clear hK K)) | (refine a_bin ?_ ?_ <;> intro _ <;> try (exfalso; omega)) | refine a_ld hl ?_ | (refine a_st hl ?_; clear hl; intro _ hl) | refine a_ix (fun _ => ?_) | fail)
  refine a_fn (ruCount_calls wl _ known w16 LW (by omega) (fun z hz => hok z (hwm z hz))) ?_
  rintro _ w17 ⟨⟨dv, rfl, D⟩, hx⟩
  ((first | (replace L := L.ext (hx)) | skip); (first | (replace LW := LW.ext (hx)) | skip); (first | (replace LF := LF.ext (hx)) | skip); (first | (replace A := A.ext (hx)) | skip); (first | (replace B := B.ext (hx)) | skip); (first | (replace C := C.ext (hx)) | skip); (first | (replace D := D.ext (hx)) | skip); (first | (replace rx := rx.ext (hx)) | skip); (first | (replace ry := ry.ext (hx)) | skip); replace he := he.trans (hx))
  replace hri := hri.ext hx
  clear hx
  obtain ⟨da, dc, rfl, -⟩ := D.shape
  rw [hwo]
  have hbs := Rul.countB_sub (l ++ [x]) known
  have hcs := Rul.countB_sub (l ++ [x] ++ [y]) known
  have hds := Rul.countB_sub wl known
  have hbl := hbs.length_le
  have hcl := hcs.length_le
  have hdl := hds.length_le
  have hbsh : ∀ z ∈ (Rul.countB (l ++ [x]) known).out, Short z.read.kids := fun z hz => hsh2 z (hbs.subset hz)
  have hcsh : ∀ z ∈ (Rul.countB (l ++ [x] ++ [y]) known).out, Short z.read.kids := fun z hz => hsh3 z (hcs.subset hz)
  have hdsh : ∀ z ∈ (Rul.countB wl known).out, Short z.read.kids := fun z hz => short_of (by have := q1.2 z (hwm z (hds.subset hz)); omega)
  clear hbs hcs hds
  generalize Rul.countB (l ++ [x] ++ [y]) known = cb at *
  generalize Rul.countB (l ++ [x]) known = bb at *
  generalize Rul.countB l known = ab at *
  generalize Rul.countB wl known = db at *
  have ry10 : Row w17 bi (oi + i * 13 + 10) [.int .i64 l[i].known, .bool l[i].fin, str l[i].lifts] := Row.sub5 hri rfl
  by_cases hb0 : bb.err = 0
  rotate_left
  · have hb9 := hfail.resolve_left hb0
    rw [hb9]
    repeat' (first | refine a_mov ?_ | refine a_asg ?_ | refine a_binN ?_ | refine a_notd ?_ | refine a_notb ?_ | refine a_nilc ?_ | refine a_fa ?_ | refine a_ext ?_ | refine a_lenv ?_ | refine a_lens ?_ | refine a_pick_t ?_ | refine a_pick_f ?_ | refine a_not ?_ | refine a_nilf ?_ | (refine o_nil (hK _ _ ?_); clear hK K) | refine wk_reg ?_ | refine wk_seq fun K hK => ?_ | (refine wk_skip (hK _ _ ?_); clear hK K) | (refine wk_label (hK _ _ ?_); clear hK K) | refine wk_scope ?_ | refine wk_block ?_ | refine wk_cond_t rfl ?_ | refine wk_cond_f rfl ?_ | (refine wk_exit ?_; (repeat (refine blockK_other rfl ?_)); refine blockK_same ?_; try ((repeat ((fail_if_success (refine hK _ _ ?_)); clear hK K)); refine hK _ _ ?_; clear hK K)) | (refine a_bin ?_ ?_ <;> intro _ <;> try (exfalso; omega)) | refine a_ld hl ?_ | (refine a_st hl ?_; clear hl; intro _ hl) | refine a_ix (fun _ => ?_) | fail)
    all_goals (refine wk_ret (retQ_tmp1 Try.results8 (by decide) rfl (by conv => lhs; whnf) ?_))
    all_goals exact ⟨rfl, he⟩
  by_cases hc0 : cb.err = 0
  rotate_left
  · have hc9 := (hfail2 hb0).resolve_left hc0
    rw [hb0, hc9]
    repeat' (first | refine a_mov ?_ | refine a_asg ?_ | refine a_binN ?_ | refine a_notd ?_ | refine a_notb ?_ | refine a_nilc ?_ | refine a_fa ?_ | refine a_ext ?_ | refine a_lenv ?_ | refine a_lens ?_ | refine a_pick_t ?_ | refine a_pick_f ?_ | refine a_not ?_ | refine a_nilf ?_ | (refine o_nil (hK _ _ ?_); clear hK K) | refine wk_reg ?_ | refine wk_seq fun K hK => ?_ | (refine wk_skip (hK _ _ ?_); clear hK K) | (refine wk_label (hK _ _ ?_); clear hK K) | refine wk_scope ?_ | refine wk_block ?_ | refine wk_cond_t rfl ?_ | refine wk_cond_f rfl ?_ | (refine wk_exit ?_; (repeat (refine blockK_other rfl ?_)); refine blockK_same ?_; try ((repeat ((fail_if_success (refine hK _ _ ?_)); clear hK K)); refine hK _ _ ?_; clear hK K)) | (refine a_bin ?_ ?_ <;> intro _ <;> try (exfalso; omega)) | refine a_ld hl ?_ | (refine a_st hl ?_; clear hl; intro _ hl) | refine a_ix (fun _ => ?_) | fail)
    all_goals (refine wk_ret (retQ_tmp1 Try.results8 (by decide) rfl (by conv => lhs; whnf) ?_))
    all_goals exact ⟨rfl, he⟩
  obtain ⟨law1, law2, law3⟩ := hlaw hb0 hc0
  rw [hb0, hc0]
  clear hlaw hfail hfail2
  generalize l[i] = z at *
  by_cases hzk : known < z.known
  · have h1 := law1 hzk
    have hbl1 : bb.out.length = ab.out.length + 1 := by rw [h1, List.length_append]; rfl
    repeat' (first | refine a_mov ?_ | refine a_asg ?_ | refine a_binN ?_ | refine a_notd ?_ | refine a_notb ?_ | refine a_nilc ?_ | refine a_fa ?_ | refine a_ext ?_ | refine a_lenv ?_ | refine a_lens ?_ | refine a_pick_t ?_ | refine a_pick_f ?_ | refine a_not ?_ | refine a_nilf ?_ | (refine o_nil (hK _ _ ?_); clear hK K) | refine wk_reg ?_ | refine wk_seq fun K hK => ?_ | (refine wk_skip (hK _ _ ?_); clear hK K) | (refine wk_label (hK _ _ ?_); clear hK K) | refine wk_scope ?_ | refine wk_block ?_ | refine wk_cond_t rfl ?_ | refine wk_cond_f rfl ?_ | (refine wk_exit ?_; (repeat (refine blockK_other rfl ?_)); refine blockK_same ?_; try ((repeat ((fail_if_success (refine hK _ _ ?_)); clear hK K)); refine hK _ _ ?_; clear hK K)) | (refine a_bin ?_ ?_ <;> intro _ <;> try (exfalso; omega)) | refine a_ld hl ?_ | (refine a_st hl ?_; clear hl; intro _ hl) | refine a_ix (fun _ => ?_) | refine a_idx (c := 13) i hpi ?_ | refine a_row ry10 ?_)
    obtain ⟨cs, hcs, hcsl, hck⟩ := B.ex
    have hcsn : cs.length = bb.out.length := by rw [← hcs, List.length_map]
    refine o_cutvH (k := 13) (m := bb.out.length) ab.out.length hcsl (by rw [rulL_flat, hcsn]) (by omega) (by decide) rfl rfl rfl rfl rfl rfl ?_
    intro ev hev _
    rw [flat_take rulL_len] at hev
    have E : RulsAt w17 ab.out ev := ⟨cs.take ab.out.length, by rw [List.map_take, hcs, h1]; simp, hev, fun p hp => hck p (List.mem_of_mem_take hp)⟩
    repeat' (first | refine a_mov ?_ | refine a_asg ?_ | refine a_binN ?_ | refine a_notd ?_ | refine a_notb ?_ | refine a_nilc ?_ | refine a_fa ?_ | refine a_ext ?_ | refine a_lenv ?_ | refine a_lens ?_ | refine a_pick_t ?_ | refine a_pick_f ?_ | refine a_not ?_ | refine a_nilf ?_ | (refine o_nil (hK _ _ ?_); clear hK K) | refine wk_reg ?_ | refine wk_seq fun K hK => ?_ | (refine wk_skip (hK _ _ ?_); clear hK K) | (refine wk_label (hK _ _ ?_); clear hK K) | refine wk_scope ?_ | refine wk_block ?_ | refine wk_cond_t rfl ?_ | refine wk_cond_f rfl ?_ | (refine wk_exit ?_; (repeat (refine blockK_other rfl ?_)); refine blockK_same ?_; try ((repeat ((fail_if_success (refine hK _ _ ?_)); clear hK K)); refine hK _ _ ?_; clear hK K)) | (refine a_bin ?_ ?_ <;> intro _ <;> try (exfalso; omega)) | refine a_ld hl ?_ | (refine a_st hl ?_; clear hl; intro _ hl) | refine a_ix (fun _ => ?_) | fail)
    refine a_fn (ruAll_calls _ _ _ _ w17 E A (by omega) (by omega) hash hash) ?_
    rintro _ w18 ⟨rfl, hx⟩
    rw [decide_eq_true (rfl : ab.out = ab.out)]
    repeat' (first | refine a_mov ?_ | refine a_asg ?_ | refine a_binN ?_ | refine a_notd ?_ | refine a_notb ?_ | refine a_nilc ?_ | refine a_fa ?_ | refine a_ext ?_ | refine a_lenv ?_ | refine a_lens ?_ | refine a_pick_t ?_ | refine a_pick_f ?_ | refine a_not ?_ | refine a_nilf ?_ | (refine o_nil (hK _ _ ?_); clear hK K) | refine wk_reg ?_ | refine wk_seq fun K hK => ?_ | (refine wk_skip (hK _ _ ?_); clear hK K) | (refine wk_label (hK _ _ ?_); clear hK K) | refine wk_scope ?_ | refine wk_block ?_ | refine wk_cond_t rfl ?_ | refine wk_cond_f rfl ?_ | (refine wk_exit ?_; (repeat (refine blockK_other rfl ?_)); refine blockK_same ?_; try ((repeat ((fail_if_success (refine hK _ _ ?_)); clear hK K)); refine hK _ _ ?_; clear hK K)) | (refine a_bin ?_ ?_ <;> intro _ <;> try (exfalso; omega)) | refine a_ld hl ?_ | (refine a_st hl ?_; clear hl; intro _ hl) | refine a_ix (fun _ => ?_) | fail)
    refine wk_ret (retQ_tmp1 Try.results8 (by decide) rfl (by conv => lhs; whnf) ?_)
    exact ⟨rfl, he.trans hx⟩
  cases hzf : z.fin
  rotate_left
  · have h2 := law2 hzk hzf
    rw [hzf] at ry10
    repeat' (first | refine a_mov ?_ | refine a_asg ?_ | refine a_binN ?_ | refine a_notd ?_ | refine a_notb ?_ | refine a_nilc ?_ | refine a_fa ?_ | refine a_ext ?_ | refine a_lenv ?_ | refine a_lens ?_ | refine a_pick_t ?_ | refine a_pick_f ?_ | refine a_not ?_ | refine a_nilf ?_ | (refine o_nil (hK _ _ ?_); clear hK K) | refine wk_reg ?_ | refine wk_seq fun K hK => ?_ | (refine wk_skip (hK _ _ ?_); clear hK K) | (refine wk_label (hK _ _ ?_); clear hK K) | refine wk_scope ?_ | refine wk_block ?_ | refine wk_cond_t rfl ?_ | refine wk_cond_f rfl ?_ | (refine wk_exit ?_; (repeat (refine blockK_other rfl ?_)); refine blockK_same ?_; try ((repeat ((fail_if_success (refine hK _ _ ?_)); clear hK K)); refine hK _ _ ?_; clear hK K)) | (refine a_bin ?_ ?_ <;> intro _ <;> try (exfalso; omega)) | refine a_ld hl ?_ | (refine a_st hl ?_; clear hl; intro _ hl) | refine a_ix (fun _ => ?_) | refine a_idx (c := 13) i hpi ?_ | refine a_row ry10 ?_)
    refine a_fn (ruAll_calls _ _ _ _ w17 B A (by omega) (by omega) hbsh hash) ?_
    rintro _ w18 ⟨rfl, hx⟩
    rw [decide_eq_true h2]
    repeat' (first | refine a_mov ?_ | refine a_asg ?_ | refine a_binN ?_ | refine a_notd ?_ | refine a_notb ?_ | refine a_nilc ?_ | refine a_fa ?_ | refine a_ext ?_ | refine a_lenv ?_ | refine a_lens ?_ | refine a_pick_t ?_ | refine a_pick_f ?_ | refine a_not ?_ | refine a_nilf ?_ | (refine o_nil (hK _ _ ?_); clear hK K) | refine wk_reg ?_ | refine wk_seq fun K hK => ?_ | (refine wk_skip (hK _ _ ?_); clear hK K) | (refine wk_label (hK _ _ ?_); clear hK K) | refine wk_scope ?_ | refine wk_block ?_ | refine wk_cond_t rfl ?_ | refine wk_cond_f rfl ?_ | (refine wk_exit ?_; (repeat (refine blockK_other rfl ?_)); refine blockK_same ?_; try ((repeat ((fail_if_success (refine hK _ _ ?_)); clear hK K)); refine hK _ _ ?_; clear hK K)) | (refine a_bin ?_ ?_ <;> intro _ <;> try (exfalso; omega)) | refine a_ld hl ?_ | (refine a_st hl ?_; clear hl; intro _ hl) | refine a_ix (fun _ => ?_) | fail)
    refine wk_ret (retQ_tmp1 Try.results8 (by decide) rfl (by conv => lhs; whnf) ?_)
    exact ⟨rfl, he.trans hx⟩
  obtain ⟨h3, h4⟩ := law3 hzk hzf
  rw [hzf] at ry10
  have hbl1 : bb.out.length = db.out.length + 1 := by rw [h3, List.length_append]; rfl
  have hcl1 : cb.out.length = ab.out.length + 1 := by rw [h4, List.length_append]; rfl
  repeat' (first | refine a_mov ?_ | refine a_asg ?_ | refine a_binN ?_ | refine a_notd ?_ | refine a_notb ?_ | refine a_nilc ?_ | refine a_fa ?_ | refine a_ext ?_ | refine a_lenv ?_ | refine a_lens ?_ | refine a_pick_t ?_ | refine a_pick_f ?_ | refine a_not ?_ | refine a_nilf ?_ | (refine o_nil (hK _ _ ?_); clear hK K) | refine wk_reg ?_ | refine wk_seq fun K hK => ?_ | (refine wk_skip (hK _ _ ?_); clear hK K) | (refine wk_label (hK _ _ ?_); clear hK K) | refine wk_scope ?_ | refine wk_block ?_ | refine wk_cond_t rfl ?_ | refine wk_cond_f rfl ?_ | (refine wk_exit ?_; (repeat (refine blockK_other rfl ?_)); refine blockK_same ?_; try ((repeat ((fail_if_success (refine hK _ _ ?_)); clear hK K)); refine hK _ _ ?_; clear hK K)) | (refine a_bin ?_ ?_ <;> intro _ <;> try (exfalso; omega)) | refine a_ld hl ?_ | (refine a_st hl ?_; clear hl; intro _ hl) | refine a_ix (fun _ => ?_) | refine a_idx (c := 13) i hpi ?_ | refine a_row ry10 ?_)
  obtain ⟨cs, hcs, hcsl, hck⟩ := B.ex
  have hcsn : cs.length = bb.out.length := by rw [← hcs, List.length_map]
  refine o_cutvH (k := 13) (m := bb.out.length) db.out.length hcsl (by rw [rulL_flat, hcsn]) (by omega) (by decide) rfl rfl rfl rfl rfl rfl ?_
  intro ev hev _
  rw [flat_take rulL_len] at hev
  have E : RulsAt w17 db.out ev := ⟨cs.take db.out.length, by rw [List.map_take, hcs, h3]; simp, hev, fun p hp => hck p (List.mem_of_mem_take hp)⟩
  repeat' (first | refine a_mov ?_ | refine a_asg ?_ | refine a_binN ?_ | refine a_notd ?_ | refine a_notb ?_ | refine a_nilc ?_ | refine a_fa ?_ | refine a_ext ?_ | refine a_lenv ?_ | refine a_lens ?_ | refine a_pick_t ?_ | refine a_pick_f ?_ | refine a_not ?_ | refine a_nilf ?_ | (refine o_nil (hK _ _ ?_); clear hK K) | refine wk_reg ?_ | refine wk_seq fun K hK => ?_ | (refine wk_skip (hK _ _ ?_); clear hK K) | (refine wk_label (hK _ _ ?_); clear hK K) | refine wk_scope ?_ | refine wk_block ?_ | refine wk_cond_t rfl ?_ | refine wk_cond_f rfl ?_ | (refine wk_exit ?_; (repeat (refine blockK_other rfl ?_)); refine blockK_same ?_; try ((repeat ((fail_if_success (refine hK _ _ ?_)); clear hK K)); refine hK _ _ ?_; clear hK K)) | (refine a_bin ?_ ?_ <;> intro _ <;> try (exfalso; omega)) | refine a_ld hl ?_ | (refine a_st hl ?_; clear hl; intro _ hl) | refine a_ix (fun _ => ?_) | fail)
  refine a_fn (ruAll_calls _ _ _ _ w17 E D (by omega) (by omega) hdsh hdsh) ?_
  rintro _ w18 ⟨rfl, hx⟩
  rw [decide_eq_true (rfl : db.out = db.out)]
  ((first | (replace L := L.ext (hx)) | skip); (first | (replace LW := LW.ext (hx)) | skip); (first | (replace LF := LF.ext (hx)) | skip); (first | (replace A := A.ext (hx)) | skip); (first | (replace B := B.ext (hx)) | skip); (first | (replace C := C.ext (hx)) | skip); (first | (replace D := D.ext (hx)) | skip); (first | (replace rx := rx.ext (hx)) | skip); (first | (replace ry := ry.ext (hx)) | skip); replace he := he.trans (hx))
  clear hx
  repeat' (first | refine a_mov ?_ | refine a_asg ?_ | refine a_binN ?_ | refine a_notd ?_ | refine a_notb ?_ | refine a_nilc ?_ | refine a_fa ?_ | refine a_ext ?_ | refine a_lenv ?_ | refine a_lens ?_ | refine a_pick_t ?_ | refine a_pick_f ?_ | refine a_not ?_ | refine a_nilf ?_ | (refine o_nil (hK _ _ ?_); clear hK K) | refine wk_reg ?_ | refine wk_seq fun K hK => ?_ | (refine wk_skip (hK _ _ ?_); clear hK K) | (refine wk_label (hK _ _ ?_); clear hK K) | refine wk_scope ?_ | refine wk_block ?_ | refine wk_cond_t rfl ?_ | refine wk_cond_f rfl ?_ | (refine wk_exit ?_; (repeat (refine blockK_other rfl ?_)); refine blockK_same ?_; try ((repeat ((fail_if_success (refine hK _ _ ?_)); clear hK K)); refine hK _ _ ?_; clear hK K)) | (refine a_bin ?_ ?_ <;> intro _ <;> try (exfalso; omega)) | refine a_ld hl ?_ | (refine a_st hl ?_; clear hl; intro _ hl) | refine a_ix (fun _ => ?_) | fail)
  obtain ⟨gs, hgs, hgsl, hgk⟩ := C.ex
  have hgsn : gs.length = cb.out.length := by rw [← hgs, List.length_map]
  refine o_cutvH (k := 13) (m := cb.out.length) ab.out.length hgsl (by rw [rulL_flat, hgsn]) (by omega) (by decide) rfl rfl rfl rfl rfl rfl ?_
  intro gv hgv _
  rw [flat_take rulL_len] at hgv
  have G : RulsAt w18 ab.out gv := ⟨gs.take ab.out.length, by rw [List.map_take, hgs, h4]; simp, hgv, fun p hp => hgk p (List.mem_of_mem_take hp)⟩
  repeat' (first | refine a_mov ?_ | refine a_asg ?_ | refine a_binN ?_ | refine a_notd ?_ | refine a_notb ?_ | refine a_nilc ?_ | refine a_fa ?_ | refine a_ext ?_ | refine a_lenv ?_ | refine a_lens ?_ | refine a_pick_t ?_ | refine a_pick_f ?_ | refine a_not ?_ | refine a_nilf ?_ | (refine o_nil (hK _ _ ?_); clear hK K) | refine wk_reg ?_ | refine wk_seq fun K hK => ?_ | (refine wk_skip (hK _ _ ?_); clear hK K) | (refine wk_label (hK _ _ ?_); clear hK K) | refine wk_scope ?_ | refine wk_block ?_ | refine wk_cond_t rfl ?_ | refine wk_cond_f rfl ?_ | (refine wk_exit ?_; (repeat (refine blockK_other rfl ?_)); refine blockK_same ?_; try ((repeat ((fail_if_success (refine hK _ _ ?_)); clear hK K)); refine hK _ _ ?_; clear hK K)) | (refine a_bin ?_ ?_ <;> intro _ <;> try (exfalso; omega)) | refine a_ld hl ?_ | (refine a_st hl ?_; clear hl; intro _ hl) | refine a_ix (fun _ => ?_) | fail)
  refine a_fn (ruAll_calls _ _ _ _ w18 G A (by omega) (by omega) hash hash) ?_
  rintro _ w19 ⟨rfl, hx⟩
  rw [decide_eq_true (rfl : ab.out = ab.out)]
  repeat' (first | refine a_mov ?_ | refine a_asg ?_ | refine a_binN ?_ | refine a_notd ?_ | refine a_notb ?_ | refine a_nilc ?_ | refine a_fa ?_ | refine a_ext ?_ | refine a_lenv ?_ | refine a_lens ?_ | refine a_pick_t ?_ | refine a_pick_f ?_ | refine a_not ?_ | refine a_nilf ?_ | (refine o_nil (hK _ _ ?_); clear hK K) | refine wk_reg ?_ | refine wk_seq fun K hK => ?_ | (refine wk_skip (hK _ _ ?_); clear hK K) | (refine wk_label (hK _ _ ?_); clear hK K) | refine wk_scope ?_ | refine wk_block ?_ | refine wk_cond_t rfl ?_ | refine wk_cond_f rfl ?_ | (refine wk_exit ?_; (repeat (refine blockK_other rfl ?_)); refine blockK_same ?_; try ((repeat ((fail_if_success (refine hK _ _ ?_)); clear hK K)); refine hK _ _ ?_; clear hK K)) | (refine a_bin ?_ ?_ <;> intro _ <;> try (exfalso; omega)) | refine a_ld hl ?_ | (refine a_st hl ?_; clear hl; intro _ hl) | refine a_ix (fun _ => ?_) | fail)
  refine wk_ret (retQ_tmp1 Try.results8 (by decide) rfl (by conv => lhs; whnf) ?_)
  exact ⟨rfl, he.trans hx⟩
end Go.Proofs
