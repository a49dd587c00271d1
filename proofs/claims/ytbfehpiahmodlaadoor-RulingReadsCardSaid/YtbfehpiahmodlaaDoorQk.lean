/-
  Rulings: the statements' examples.
-/
import Derived.Test.YtbfehpiahmodlaaDoorQg
import Derived.Test.YtbfehpiahmodlaaDoorQf
import Derived.Test.YtbfehpiahmodlaaDoorQc
import Derived.Test.YtbfehpiahmodlaaDoorLD
set_option linter.unusedVariables false
set_option linter.unusedSimpArgs false
set_option linter.unnecessarySimpa false
set_option maxRecDepth 10000
namespace Go.Proofs
open Go Go.Pd Go.Lexs Go.Fin Go.Fo
attribute [local irreducible] OpsL W RetQ OpsQ OpsC

theorem RulsAt.of {w : World} {b c : Nat} (ps : List (Rul.Rul × Value)) (hr : Row w b 0 (ps.flatMap rulL)) (hc : ps.length ≤ c) (hk : ∀ p ∈ ps, KA w p.1.read.kids p.2) : RulsAt w (ps.map (·.1)) (.slice (some ⟨b, 0, none⟩) ps.length c) :=
  ⟨ps, rfl, Sl.mk (by rw [rulL_flat]) hc hr, hk⟩
theorem SpnsAt.of {w : World} {b c : Nat} (ps : List (Rul.Spn × Value)) (hr : Row w b 0 (ps.flatMap spnL)) (hc : ps.length ≤ c) (hk : ∀ p ∈ ps, KA w p.1.read.kids p.2) : SpnsAt w (ps.map (·.1)) (.slice (some ⟨b, 0, none⟩) ps.length c) :=
  ⟨ps, rfl, Sl.mk (by rw [spnL_flat]) hc hr, hk⟩

theorem lift_calls (a b : List UInt8) (w : World) : Calls Tryd.prog 16 #[str a, str b] w (fun e w' => ∃ x, e = .returned x ∧ x = .agg (rulC (Rul.liftR a b) (.slice none 0 0)).toArray ∧ Ext w w') := by
  refine calls_of Tryd.func16 rfl Tryd.ntmps16 rfl ?_
  repeat' (first | refine a_mov ?_ | refine a_asg ?_ | refine a_binN ?_ | refine a_notd ?_ | refine a_notb ?_ | refine a_nilc ?_ | refine a_fa ?_ | refine a_ext ?_ | refine a_lenv ?_ | refine a_lens ?_ | refine a_pick_t ?_ | refine a_pick_f ?_ | refine a_not ?_ | refine a_nilf ?_ | (refine o_nil (hK _ _ ?_); clear hK K) | refine wk_reg ?_ | refine wk_seq fun K hK => ?_ | (refine wk_skip (hK _ _ ?_); clear hK K) | (refine wk_label (hK _ _ ?_); clear hK K) | refine wk_scope ?_ | refine wk_block ?_ | refine wk_cond_t rfl ?_ | refine wk_cond_f rfl ?_ | (refine wk_exit ?_; (repeat (refine blockK_other rfl ?_)); refine blockK_same ?_; try ((repeat ((fail_if_success (refine hK _ _ ?_)); clear hK K)); refine hK _ _ ?_; clear hK K)) | (refine a_bin ?_ ?_ <;> intro _ <;> try (exfalso; omega)) | refine a_ld hl ?_ | (refine a_st hl ?_; clear hl; intro _ hl) | refine a_ix (fun _ => ?_) | fail)
  refine o_alloc (LH.start w (fun _ => False)) [.string ⟨#[]⟩, .string ⟨#[]⟩, .int .i64 0, .int .i64 0, .int .i64 0, .int .i64 0, .string ⟨#[]⟩, .int .i64 0, .int .i64 0, .slice none 0 0, .int .i64 0, .bool false, .string ⟨#[]⟩] rfl rfl ?_
  intro b4 w1 hb4 hl
  repeat' (first | refine a_mov ?_ | refine a_asg ?_ | refine a_binN ?_ | refine a_notd ?_ | refine a_notb ?_ | refine a_nilc ?_ | refine a_fa ?_ | refine a_ext ?_ | refine a_lenv ?_ | refine a_lens ?_ | refine a_pick_t ?_ | refine a_pick_f ?_ | refine a_not ?_ | refine a_nilf ?_ | (refine o_nil (hK _ _ ?_); clear hK K) | refine wk_reg ?_ | refine wk_seq fun K hK => ?_ | (refine wk_skip (hK _ _ ?_); clear hK K) | (refine wk_label (hK _ _ ?_); clear hK K) | refine wk_scope ?_ | refine wk_block ?_ | refine wk_cond_t rfl ?_ | refine wk_cond_f rfl ?_ | (refine wk_exit ?_; (repeat (refine blockK_other rfl ?_)); refine blockK_same ?_; try ((repeat ((fail_if_success (refine hK _ _ ?_)); clear hK K)); refine hK _ _ ?_; clear hK K)) | (refine a_bin ?_ ?_ <;> intro _ <;> try (exfalso; omega)) | refine a_ld hl ?_ | (refine a_st hl ?_; clear hl; intro _ hl) | refine a_ix (fun _ => ?_) | fail)
  refine o_build (rulC (Rul.liftR a b) (.slice none 0 0)) rfl (by simp only [rulC, Rul.liftR, Fm.op, Fm.name, Fm.cmp, Fm.num, str_eq]; kernel_rfl) ?_
  refine o_putN (us := rulC (Rul.liftR a b) (.slice none 0 0)) hl rfl rfl rfl (rulC_one (w := w) (KA.nil w)) rfl (.all rfl rfl) ?_
  clear hl
  intro w2 hl
  repeat' (first | refine a_mov ?_ | refine a_asg ?_ | refine a_binN ?_ | refine a_notd ?_ | refine a_notb ?_ | refine a_nilc ?_ | refine a_fa ?_ | refine a_ext ?_ | refine a_lenv ?_ | refine a_lens ?_ | refine a_pick_t ?_ | refine a_pick_f ?_ | refine a_not ?_ | refine a_nilf ?_ | (refine o_nil (hK _ _ ?_); clear hK K) | refine wk_reg ?_ | refine wk_seq fun K hK => ?_ | (refine wk_skip (hK _ _ ?_); clear hK K) | (refine wk_label (hK _ _ ?_); clear hK K) | refine wk_scope ?_ | refine wk_block ?_ | refine wk_cond_t rfl ?_ | refine wk_cond_f rfl ?_ | (refine wk_exit ?_; (repeat (refine blockK_other rfl ?_)); refine blockK_same ?_; try ((repeat ((fail_if_success (refine hK _ _ ?_)); clear hK K)); refine hK _ _ ?_; clear hK K)) | (refine a_bin ?_ ?_ <;> intro _ <;> try (exfalso; omega)) | refine a_ld hl ?_ | (refine a_st hl ?_; clear hl; intro _ hl) | refine a_ix (fun _ => ?_) | fail)
  exact wk_ret (retQ_res [.agg (rulC (Rul.liftR a b) (.slice none 0 0)).toArray] rfl rfl ⟨by decide, ⟨⟨b4, 0, none⟩, rfl, run_loadVarN rfl rfl (hl.rowL (vs := rulC (Rul.liftR a b) (.slice none 0 0)) 0 0 13 rfl)⟩, trivial⟩ ⟨rfl, hl.done⟩)

def yesF : Fm := .node 1 [] 0 0 []
theorem ruYes_calls (w : World) : Calls Tryd.prog 14 #[] w (fun e w' => ∃ x, e = .returned x ∧ x = .agg (fmL yesF (.slice none 0 0)).toArray ∧ Ext w w') := by
  refine calls_of Tryd.func14 rfl Tryd.ntmps14 rfl ?_
  repeat' (first | refine a_mov ?_ | refine a_asg ?_ | refine a_binN ?_ | refine a_notd ?_ | refine a_notb ?_ | refine a_nilc ?_ | refine a_fa ?_ | refine a_ext ?_ | refine a_lenv ?_ | refine a_lens ?_ | refine a_pick_t ?_ | refine a_pick_f ?_ | refine a_not ?_ | refine a_nilf ?_ | (refine o_nil (hK _ _ ?_); clear hK K) | refine wk_reg ?_ | refine wk_seq fun K hK => ?_ | (refine wk_skip (hK _ _ ?_); clear hK K) | (refine wk_label (hK _ _ ?_); clear hK K) | refine wk_scope ?_ | refine wk_block ?_ | refine wk_cond_t rfl ?_ | refine wk_cond_f rfl ?_ | (refine wk_exit ?_; (repeat (refine blockK_other rfl ?_)); refine blockK_same ?_; try ((repeat ((fail_if_success (refine hK _ _ ?_)); clear hK K)); refine hK _ _ ?_; clear hK K)) | (refine a_bin ?_ ?_ <;> intro _ <;> try (exfalso; omega)) | refine a_ld hl ?_ | (refine a_st hl ?_; clear hl; intro _ hl) | refine a_ix (fun _ => ?_) | fail)
  refine o_alloc (LH.start w (fun _ => False)) [.int .i64 0, .string ⟨#[]⟩, .int .i64 0, .int .i64 0, .slice none 0 0] rfl rfl ?_
  intro b4 w1 hb4 hl
  repeat' (first | refine a_mov ?_ | refine a_asg ?_ | refine a_binN ?_ | refine a_notd ?_ | refine a_notb ?_ | refine a_nilc ?_ | refine a_fa ?_ | refine a_ext ?_ | refine a_lenv ?_ | refine a_lens ?_ | refine a_pick_t ?_ | refine a_pick_f ?_ | refine a_not ?_ | refine a_nilf ?_ | (refine o_nil (hK _ _ ?_); clear hK K) | refine wk_reg ?_ | refine wk_seq fun K hK => ?_ | (refine wk_skip (hK _ _ ?_); clear hK K) | (refine wk_label (hK _ _ ?_); clear hK K) | refine wk_scope ?_ | refine wk_block ?_ | refine wk_cond_t rfl ?_ | refine wk_cond_f rfl ?_ | (refine wk_exit ?_; (repeat (refine blockK_other rfl ?_)); refine blockK_same ?_; try ((repeat ((fail_if_success (refine hK _ _ ?_)); clear hK K)); refine hK _ _ ?_; clear hK K)) | (refine a_bin ?_ ?_ <;> intro _ <;> try (exfalso; omega)) | refine a_ld hl ?_ | (refine a_st hl ?_; clear hl; intro _ hl) | refine a_ix (fun _ => ?_) | fail)
  refine o_build (fmL yesF (.slice none 0 0)) rfl (by simp only [fmL, yesF, Fm.op, Fm.name, Fm.cmp, Fm.num, str_eq]; kernel_rfl) ?_
  refine o_putN (us := fmL yesF (.slice none 0 0)) hl rfl rfl rfl (by simp only [fmL, str_eq]; rfl) rfl (.all rfl rfl) ?_
  clear hl
  intro w2 hl
  repeat' (first | refine a_mov ?_ | refine a_asg ?_ | refine a_binN ?_ | refine a_notd ?_ | refine a_notb ?_ | refine a_nilc ?_ | refine a_fa ?_ | refine a_ext ?_ | refine a_lenv ?_ | refine a_lens ?_ | refine a_pick_t ?_ | refine a_pick_f ?_ | refine a_not ?_ | refine a_nilf ?_ | (refine o_nil (hK _ _ ?_); clear hK K) | refine wk_reg ?_ | refine wk_seq fun K hK => ?_ | (refine wk_skip (hK _ _ ?_); clear hK K) | (refine wk_label (hK _ _ ?_); clear hK K) | refine wk_scope ?_ | refine wk_block ?_ | refine wk_cond_t rfl ?_ | refine wk_cond_f rfl ?_ | (refine wk_exit ?_; (repeat (refine blockK_other rfl ?_)); refine blockK_same ?_; try ((repeat ((fail_if_success (refine hK _ _ ?_)); clear hK K)); refine hK _ _ ?_; clear hK K)) | (refine a_bin ?_ ?_ <;> intro _ <;> try (exfalso; omega)) | refine a_ld hl ?_ | (refine a_st hl ?_; clear hl; intro _ hl) | refine a_ix (fun _ => ?_) | fail)
  exact wk_ret (retQ_res [.agg (fmL yesF (.slice none 0 0)).toArray] rfl rfl ⟨by decide, ⟨⟨b4, 0, none⟩, rfl, run_loadVarN rfl rfl (hl.rowL (vs := fmL yesF (.slice none 0 0)) 0 0 5 rfl)⟩, trivial⟩ ⟨rfl, hl.done⟩)

namespace Ex26
def sp (a b : Int) (f : Fm) : Rul.Spn := ⟨a, b, f⟩
def zf : Fm := .node 0 [] 0 0 []
def poor : Fm := .node 3 [105, 110, 99, 111, 109, 101] 3 3 []
def rA : Rul.Rul := ⟨[], [], 4, 15, 20, zf, 0, false, []⟩
def rB : Rul.Rul := ⟨[], [], 3, 0, 10, zf, 0, false, []⟩
def rC : Rul.Rul := ⟨[], [], 5, 20, 0, poor, 0, false, []⟩
def first : Rul.Rul := ⟨[97], [112], 1, 0, 0, zf, 0, false, []⟩
def final : Rul.Rul := ⟨[97], [112], 1, 0, 0, zf, 0, true, []⟩
def lb : Rul.Rul := Rul.liftR [98] [97]
def lc : Rul.Rul := Rul.liftR [99] [98]
theorem e1 : Rul.applyB [sp 10 30 yesF] rA = [sp 10 15 yesF, sp 20 30 yesF] := by kernel_rfl
theorem e2 : Rul.applyB [sp 10 (-1) yesF] rB = [] := by decide +kernel
theorem e3 : Rul.applyB [sp 10 (-1) yesF] rC = [sp 10 20 yesF, sp 20 (-1) poor] := by kernel_rfl
theorem e4 : (Rul.countB [first, lb, lc] 0).out = [first, lc] ∧ (Rul.countB [first, lb, lc] 0).err = 0 := ⟨by kernel_rfl, by kernel_rfl⟩
theorem e5 : (Rul.countB [final, lb] 0).out = [final] ∧ (Rul.countB [final, lb] 0).err = 0 := ⟨by kernel_rfl, by kernel_rfl⟩
theorem e6 : (Rul.countB [first, first] 0).err = 9 := by decide +kernel
theorem e7 : Rul.validB first = true := by decide +kernel
theorem e8 : Rul.validB (Rul.liftR [98] []) = false := by decide +kernel
end Ex26
open Ex26

set_option maxHeartbeats 8000000 in
theorem ruHead_calls (w : World) : Calls Tryd.prog 4 #[] w (fun e w' => ∃ x, e = .returned x ∧ x = .bool true ∧ Ext w w') := by
  have hx : Ext w w := .refl _ _
  refine calls_of Tryd.func4 rfl Tryd.ntmps4 rfl ?_
  repeat' (first | refine a_mov ?_ | refine a_asg ?_ | refine a_binN ?_ | refine a_notd ?_ | refine a_notb ?_ | refine a_nilc ?_ | refine a_fa ?_ | refine a_ext ?_ | refine a_lenv ?_ | refine a_lens ?_ | refine a_pick_t ?_ | refine a_pick_f ?_ | refine a_not ?_ | refine a_nilf ?_ | (refine o_nil (hK _ _ ?_); clear hK K) | refine wk_reg ?_ | refine wk_seq fun K hK => ?_ | (refine wk_skip (hK _ _ ?_); clear hK K) | (refine wk_label (hK _ _ ?_); clear hK K) | refine wk_scope ?_ | refine wk_block ?_ | refine wk_cond_t rfl ?_ | refine wk_cond_f rfl ?_ | (refine wk_exit ?_; (repeat (refine blockK_other rfl ?_)); refine blockK_same ?_; try ((repeat ((fail_if_success (refine hK _ _ ?_)); clear hK K)); refine hK _ _ ?_; clear hK K)) | (refine a_bin ?_ ?_ <;> intro _ <;> try (exfalso; omega)) | refine a_ld hl ?_ | (refine a_st hl ?_; clear hl; intro _ hl) | refine a_ix (fun _ => ?_) | fail)
  refine a_fn (ruYes_calls w) ?_
  rintro _ w1 ⟨rfl, he⟩
  refine o_build (spnC (sp 10 (-1) yesF) (.slice none 0 0)) rfl (by simp only [spnC, fmL, sp, yesF, poor, zf, Fm.op, Fm.name, Fm.cmp, Fm.num, str_eq]; kernel_rfl) ?_
  refine o_buildSlice (LH.start w1 (fun _ => False)) (spnC (sp 10 (-1) yesF) (.slice none 0 0)) rfl rfl (by simp only [spnC, fmL, sp, yesF, poor, zf, Fm.op, Fm.name, Fm.cmp, Fm.num, str_eq]; kernel_rfl) ?_
  intro b1 w2 hb1 hl
  have so : SpnsAt w2 [sp 10 (-1) yesF] (.slice (some ⟨b1, 0, none⟩) 1 1) := SpnsAt.of [(sp 10 (-1) yesF, .slice none 0 0)] (hl.rowL (vs := spnC (sp 10 (-1) yesF) (.slice none 0 0)) 0 0 7 rfl) (Nat.le_refl _) (fun p hp => by rw [List.mem_singleton.1 hp]; exact KA.nil _)
  replace hx := (hx.trans he).trans hl.done
  clear hl he
  repeat' (first | refine a_mov ?_ | refine a_asg ?_ | refine a_binN ?_ | refine a_notd ?_ | refine a_notb ?_ | refine a_nilc ?_ | refine a_fa ?_ | refine a_ext ?_ | refine a_lenv ?_ | refine a_lens ?_ | refine a_pick_t ?_ | refine a_pick_f ?_ | refine a_not ?_ | refine a_nilf ?_ | (refine o_nil (hK _ _ ?_); clear hK K) | refine wk_reg ?_ | refine wk_seq fun K hK => ?_ | (refine wk_skip (hK _ _ ?_); clear hK K) | (refine wk_label (hK _ _ ?_); clear hK K) | refine wk_scope ?_ | refine wk_block ?_ | refine wk_cond_t rfl ?_ | refine wk_cond_f rfl ?_ | (refine wk_exit ?_; (repeat (refine blockK_other rfl ?_)); refine blockK_same ?_; try ((repeat ((fail_if_success (refine hK _ _ ?_)); clear hK K)); refine hK _ _ ?_; clear hK K)) | (refine a_bin ?_ ?_ <;> intro _ <;> try (exfalso; omega)) | refine a_ld hl ?_ | (refine a_st hl ?_; clear hl; intro _ hl) | refine a_ix (fun _ => ?_) | fail)
  refine a_fn (ruYes_calls w2) ?_
  rintro _ w3 ⟨rfl, he⟩
  ((first | (replace so := so.ext (he)) | skip); (first | (replace sc := sc.ext (he)) | skip); (first | (replace r3 := r3.ext (he)) | skip); (first | (replace r7 := r7.ext (he)) | skip); (first | (replace r8 := r8.ext (he)) | skip); (first | (replace sa := sa.ext (he)) | skip); (first | (replace sb := sb.ext (he)) | skip); (first | (replace sg := sg.ext (he)) | skip); (first | (replace rd' := rd'.ext (he)) | skip); (first | (replace rf := rf.ext (he)) | skip); replace hx := hx.trans (he))
  clear he
  refine o_build (spnC (sp 10 30 yesF) (.slice none 0 0)) rfl (by simp only [spnC, fmL, sp, yesF, poor, zf, Fm.op, Fm.name, Fm.cmp, Fm.num, str_eq]; kernel_rfl) ?_
  refine o_buildSlice (LH.start w3 (fun _ => False)) (spnC (sp 10 30 yesF) (.slice none 0 0)) rfl rfl (by simp only [spnC, fmL, sp, yesF, poor, zf, Fm.op, Fm.name, Fm.cmp, Fm.num, str_eq]; kernel_rfl) ?_
  intro b2 w4 hb2 hl
  have sc : SpnsAt w4 [sp 10 30 yesF] (.slice (some ⟨b2, 0, none⟩) 1 1) := SpnsAt.of [(sp 10 30 yesF, .slice none 0 0)] (hl.rowL (vs := spnC (sp 10 30 yesF) (.slice none 0 0)) 0 0 7 rfl) (Nat.le_refl _) (fun p hp => by rw [List.mem_singleton.1 hp]; exact KA.nil _)
  replace so := so.ext hl.done
  replace hx := hx.trans hl.done
  clear hl
  repeat' (first | refine a_mov ?_ | refine a_asg ?_ | refine a_binN ?_ | refine a_notd ?_ | refine a_notb ?_ | refine a_nilc ?_ | refine a_fa ?_ | refine a_ext ?_ | refine a_lenv ?_ | refine a_lens ?_ | refine a_pick_t ?_ | refine a_pick_f ?_ | refine a_not ?_ | refine a_nilf ?_ | (refine o_nil (hK _ _ ?_); clear hK K) | refine wk_reg ?_ | refine wk_seq fun K hK => ?_ | (refine wk_skip (hK _ _ ?_); clear hK K) | (refine wk_label (hK _ _ ?_); clear hK K) | refine wk_scope ?_ | refine wk_block ?_ | refine wk_cond_t rfl ?_ | refine wk_cond_f rfl ?_ | (refine wk_exit ?_; (repeat (refine blockK_other rfl ?_)); refine blockK_same ?_; try ((repeat ((fail_if_success (refine hK _ _ ?_)); clear hK K)); refine hK _ _ ?_; clear hK K)) | (refine a_bin ?_ ?_ <;> intro _ <;> try (exfalso; omega)) | refine a_ld hl ?_ | (refine a_st hl ?_; clear hl; intro _ hl) | refine a_ix (fun _ => ?_) | fail)
  refine o_build (fmL poor (.slice none 0 0)) rfl (by simp only [spnC, fmL, sp, yesF, poor, zf, Fm.op, Fm.name, Fm.cmp, Fm.num, str_eq]; kernel_rfl) ?_
  refine o_alloc (LH.start w4 (fun _ => False)) [.int .i64 0, .string ⟨#[]⟩, .int .i64 0, .int .i64 0, .slice none 0 0] rfl rfl ?_
  intro b3 w5 hb3 hl
  refine o_putN (us := fmL poor (.slice none 0 0)) hl rfl rfl rfl (by simp only [fmL, str_eq]; rfl) rfl (.all rfl rfl) ?_
  clear hl
  intro w6 hl
  have r3 : Row w6 b3 0 (fmL poor (.slice none 0 0)) := hl.rowL (vs := fmL poor (.slice none 0 0)) 0 0 5 rfl
  replace so := so.ext hl.done
  replace sc := sc.ext hl.done
  replace hx := hx.trans hl.done
  clear hl
  repeat' (first | refine a_mov ?_ | refine a_asg ?_ | refine a_binN ?_ | refine a_notd ?_ | refine a_notb ?_ | refine a_nilc ?_ | refine a_fa ?_ | refine a_ext ?_ | refine a_lenv ?_ | refine a_lens ?_ | refine a_pick_t ?_ | refine a_pick_f ?_ | refine a_not ?_ | refine a_nilf ?_ | (refine o_nil (hK _ _ ?_); clear hK K) | refine wk_reg ?_ | refine wk_seq fun K hK => ?_ | (refine wk_skip (hK _ _ ?_); clear hK K) | (refine wk_label (hK _ _ ?_); clear hK K) | refine wk_scope ?_ | refine wk_block ?_ | refine wk_cond_t rfl ?_ | refine wk_cond_f rfl ?_ | (refine wk_exit ?_; (repeat (refine blockK_other rfl ?_)); refine blockK_same ?_; try ((repeat ((fail_if_success (refine hK _ _ ?_)); clear hK K)); refine hK _ _ ?_; clear hK K)) | (refine a_bin ?_ ?_ <;> intro _ <;> try (exfalso; omega)) | refine a_ld hl ?_ | (refine a_st hl ?_; clear hl; intro _ hl) | refine a_ix (fun _ => ?_) | fail)
  refine o_build (rulC rA (.slice none 0 0)) rfl (by simp only [rulC, fmL, rA, rB, rC, first, final, zf, poor, Fm.op, Fm.name, Fm.cmp, Fm.num, str_eq]; kernel_rfl) ?_
  refine a_fn (apply_calls _ rA _ (.slice none 0 0) w6 sc (KA.nil _) (by decide)) ?_
  rintro av w7 ⟨sa, he⟩
  rw [e1] at sa
  ((first | (replace so := so.ext (he)) | skip); (first | (replace sc := sc.ext (he)) | skip); (first | (replace r3 := r3.ext (he)) | skip); (first | (replace r7 := r7.ext (he)) | skip); (first | (replace r8 := r8.ext (he)) | skip); (first | (replace sa := sa.ext (he)) | skip); (first | (replace sb := sb.ext (he)) | skip); (first | (replace sg := sg.ext (he)) | skip); (first | (replace rd' := rd'.ext (he)) | skip); (first | (replace rf := rf.ext (he)) | skip); replace hx := hx.trans (he))
  clear he
  repeat' (first | refine a_mov ?_ | refine a_asg ?_ | refine a_binN ?_ | refine a_notd ?_ | refine a_notb ?_ | refine a_nilc ?_ | refine a_fa ?_ | refine a_ext ?_ | refine a_lenv ?_ | refine a_lens ?_ | refine a_pick_t ?_ | refine a_pick_f ?_ | refine a_not ?_ | refine a_nilf ?_ | (refine o_nil (hK _ _ ?_); clear hK K) | refine wk_reg ?_ | refine wk_seq fun K hK => ?_ | (refine wk_skip (hK _ _ ?_); clear hK K) | (refine wk_label (hK _ _ ?_); clear hK K) | refine wk_scope ?_ | refine wk_block ?_ | refine wk_cond_t rfl ?_ | refine wk_cond_f rfl ?_ | (refine wk_exit ?_; (repeat (refine blockK_other rfl ?_)); refine blockK_same ?_; try ((repeat ((fail_if_success (refine hK _ _ ?_)); clear hK K)); refine hK _ _ ?_; clear hK K)) | (refine a_bin ?_ ?_ <;> intro _ <;> try (exfalso; omega)) | refine a_ld hl ?_ | (refine a_st hl ?_; clear hl; intro _ hl) | refine a_ix (fun _ => ?_) | fail)
  refine o_build (rulC rB (.slice none 0 0)) rfl (by simp only [rulC, fmL, rA, rB, rC, first, final, zf, poor, Fm.op, Fm.name, Fm.cmp, Fm.num, str_eq]; kernel_rfl) ?_
  refine a_fn (apply_calls _ rB _ (.slice none 0 0) w7 so (KA.nil _) (by decide)) ?_
  rintro bv w8 ⟨sb, he⟩
  rw [e2] at sb
  ((first | (replace so := so.ext (he)) | skip); (first | (replace sc := sc.ext (he)) | skip); (first | (replace r3 := r3.ext (he)) | skip); (first | (replace r7 := r7.ext (he)) | skip); (first | (replace r8 := r8.ext (he)) | skip); (first | (replace sa := sa.ext (he)) | skip); (first | (replace sb := sb.ext (he)) | skip); (first | (replace sg := sg.ext (he)) | skip); (first | (replace rd' := rd'.ext (he)) | skip); (first | (replace rf := rf.ext (he)) | skip); replace hx := hx.trans (he))
  clear he
  repeat' (first | refine a_mov ?_ | refine a_asg ?_ | refine a_binN ?_ | refine a_notd ?_ | refine a_notb ?_ | refine a_nilc ?_ | refine a_fa ?_ | refine a_ext ?_ | refine a_lenv ?_ | refine a_lens ?_ | refine a_pick_t ?_ | refine a_pick_f ?_ | refine a_not ?_ | refine a_nilf ?_ | (refine o_nil (hK _ _ ?_); clear hK K) | refine wk_reg ?_ | refine wk_seq fun K hK => ?_ | (refine wk_skip (hK _ _ ?_); clear hK K) | (refine wk_label (hK _ _ ?_); clear hK K) | refine wk_scope ?_ | refine wk_block ?_ | refine wk_cond_t rfl ?_ | refine wk_cond_f rfl ?_ | (refine wk_exit ?_; (repeat (refine blockK_other rfl ?_)); refine blockK_same ?_; try ((repeat ((fail_if_success (refine hK _ _ ?_)); clear hK K)); refine hK _ _ ?_; clear hK K)) | (refine a_bin ?_ ?_ <;> intro _ <;> try (exfalso; omega)) | refine a_ld hl ?_ | (refine a_st hl ?_; clear hl; intro _ hl) | refine a_ix (fun _ => ?_) | refine a_all r3 ?_)
  refine o_build (rulC rC (.slice none 0 0)) rfl (by simp only [rulC, fmL, rA, rB, rC, first, final, zf, poor, Fm.op, Fm.name, Fm.cmp, Fm.num, str_eq]; kernel_rfl) ?_
  refine a_fn (apply_calls _ rC _ (.slice none 0 0) w8 so (KA.nil _) (by decide)) ?_
  rintro gv w9 ⟨sg, he⟩
  rw [e3] at sg
  ((first | (replace so := so.ext (he)) | skip); (first | (replace sc := sc.ext (he)) | skip); (first | (replace r3 := r3.ext (he)) | skip); (first | (replace r7 := r7.ext (he)) | skip); (first | (replace r8 := r8.ext (he)) | skip); (first | (replace sa := sa.ext (he)) | skip); (first | (replace sb := sb.ext (he)) | skip); (first | (replace sg := sg.ext (he)) | skip); (first | (replace rd' := rd'.ext (he)) | skip); (first | (replace rf := rf.ext (he)) | skip); replace hx := hx.trans (he))
  clear he
  repeat' (first | refine a_mov ?_ | refine a_asg ?_ | refine a_binN ?_ | refine a_notd ?_ | refine a_notb ?_ | refine a_nilc ?_ | refine a_fa ?_ | refine a_ext ?_ | refine a_lenv ?_ | refine a_lens ?_ | refine a_pick_t ?_ | refine a_pick_f ?_ | refine a_not ?_ | refine a_nilf ?_ | (refine o_nil (hK _ _ ?_); clear hK K) | refine wk_reg ?_ | refine wk_seq fun K hK => ?_ | (refine wk_skip (hK _ _ ?_); clear hK K) | (refine wk_label (hK _ _ ?_); clear hK K) | refine wk_scope ?_ | refine wk_block ?_ | refine wk_cond_t rfl ?_ | refine wk_cond_f rfl ?_ | (refine wk_exit ?_; (repeat (refine blockK_other rfl ?_)); refine blockK_same ?_; try ((repeat ((fail_if_success (refine hK _ _ ?_)); clear hK K)); refine hK _ _ ?_; clear hK K)) | (refine a_bin ?_ ?_ <;> intro _ <;> try (exfalso; omega)) | refine a_ld hl ?_ | (refine a_st hl ?_; clear hl; intro _ hl) | refine a_ix (fun _ => ?_) | fail)
  refine o_build (rulC first (.slice none 0 0)) rfl (by simp only [rulC, fmL, rA, rB, rC, first, final, zf, poor, Fm.op, Fm.name, Fm.cmp, Fm.num, str_eq]; kernel_rfl) ?_
  refine o_alloc (LH.start w9 (fun _ => False)) [.string ⟨#[]⟩, .string ⟨#[]⟩, .int .i64 0, .int .i64 0, .int .i64 0, .int .i64 0, .string ⟨#[]⟩, .int .i64 0, .int .i64 0, .slice none 0 0, .int .i64 0, .bool false, .string ⟨#[]⟩] rfl rfl ?_
  intro b7 w10 hb7 hl
  refine o_putN (us := rulC first (.slice none 0 0)) hl rfl rfl rfl (rulC_one (w := w) (KA.nil w)) rfl (.all rfl rfl) ?_
  clear hl
  intro w11 hl
  repeat' (first | refine a_mov ?_ | refine a_asg ?_ | refine a_binN ?_ | refine a_notd ?_ | refine a_notb ?_ | refine a_nilc ?_ | refine a_fa ?_ | refine a_ext ?_ | refine a_lenv ?_ | refine a_lens ?_ | refine a_pick_t ?_ | refine a_pick_f ?_ | refine a_not ?_ | refine a_nilf ?_ | (refine o_nil (hK _ _ ?_); clear hK K) | refine wk_reg ?_ | refine wk_seq fun K hK => ?_ | (refine wk_skip (hK _ _ ?_); clear hK K) | (refine wk_label (hK _ _ ?_); clear hK K) | refine wk_scope ?_ | refine wk_block ?_ | refine wk_cond_t rfl ?_ | refine wk_cond_f rfl ?_ | (refine wk_exit ?_; (repeat (refine blockK_other rfl ?_)); refine blockK_same ?_; try ((repeat ((fail_if_success (refine hK _ _ ?_)); clear hK K)); refine hK _ _ ?_; clear hK K)) | (refine a_bin ?_ ?_ <;> intro _ <;> try (exfalso; omega)) | refine a_ld hl ?_ | (refine a_st hl ?_; clear hl; intro _ hl) | refine a_ix (fun _ => ?_) | refine a_all (hl.rowL (vs := rulC first (.slice none 0 0)) 0 0 13 rfl) ?_)
  refine o_alloc hl [.string ⟨#[]⟩, .string ⟨#[]⟩, .int .i64 0, .int .i64 0, .int .i64 0, .int .i64 0, .string ⟨#[]⟩, .int .i64 0, .int .i64 0, .slice none 0 0, .int .i64 0, .bool false, .string ⟨#[]⟩] rfl rfl ?_
  clear hl
  intro b8 w12 hb8 hl
  refine o_putN (us := rulC first (.slice none 0 0)) hl rfl rfl rfl (rulC_one (w := w) (KA.nil w)) rfl (.all rfl rfl) ?_
  clear hl
  intro w13 hl
  have hl : LH w9 (fun _ => False) w13 [(b8, Obj.cells ([str (first).id, str (first).tgt, .int .i64 (first).kind, .int .i64 (first).fro, .int .i64 (first).til, .int .i64 (first).read.op, str (first).read.name, .int .i64 (first).read.cmp, .int .i64 (first).read.num, .slice none 0 0, .int .i64 (first).known, .bool (first).fin, str (first).lifts] : List Value).toArray 27 (0, 0)), (b7, Obj.cells ([str (first).id, str (first).tgt, .int .i64 (first).kind, .int .i64 (first).fro, .int .i64 (first).til, .int .i64 (first).read.op, str (first).read.name, .int .i64 (first).read.cmp, .int .i64 (first).read.num, .slice none 0 0, .int .i64 (first).known, .bool (first).fin, str (first).lifts] : List Value).toArray 27 (0, 0))] := hl
  repeat' (first | refine a_mov ?_ | refine a_asg ?_ | refine a_binN ?_ | refine a_notd ?_ | refine a_notb ?_ | refine a_nilc ?_ | refine a_fa ?_ | refine a_ext ?_ | refine a_lenv ?_ | refine a_lens ?_ | refine a_pick_t ?_ | refine a_pick_f ?_ | refine a_not ?_ | refine a_nilf ?_ | (refine o_nil (hK _ _ ?_); clear hK K) | refine wk_reg ?_ | refine wk_seq fun K hK => ?_ | (refine wk_skip (hK _ _ ?_); clear hK K) | (refine wk_label (hK _ _ ?_); clear hK K) | refine wk_scope ?_ | refine wk_block ?_ | refine wk_cond_t rfl ?_ | refine wk_cond_f rfl ?_ | (refine wk_exit ?_; (repeat (refine blockK_other rfl ?_)); refine blockK_same ?_; try ((repeat ((fail_if_success (refine hK _ _ ?_)); clear hK K)); refine hK _ _ ?_; clear hK K)) | (refine a_bin ?_ ?_ <;> intro _ <;> try (exfalso; omega)) | refine a_ld hl ?_ | (refine a_st hl ?_; clear hl; intro _ hl) | refine a_ix (fun _ => ?_) | fail)
  rename_i w14
  have hl' : LH w9 (fun _ => False) w14 [(b8, Obj.cells (rulC final (.slice none 0 0)).toArray 27 (0, 0)), (b7, Obj.cells (rulC first (.slice none 0 0)).toArray 27 (0, 0))] := hl
  have r8 : Row w14 b8 0 (rulC final (.slice none 0 0)) := hl'.rowL (vs := rulC final (.slice none 0 0)) 0 0 13 rfl
  have r7 : Row w14 b7 0 (rulC first (.slice none 0 0)) := hl'.rowL (vs := rulC first (.slice none 0 0)) 1 0 13 rfl
  have he := hl'.done
  clear hl hl'
  replace so := so.ext he
  replace sc := sc.ext he
  replace sa := sa.ext he
  replace sb := sb.ext he
  replace sg := sg.ext he
  replace r3 := r3.ext he
  replace hx := hx.trans he
  clear he
  have fewB : ∀ l : List Rul.Rul, (∀ r ∈ l, r = first ∨ r = final ∨ r = lb ∨ r = lc) → ∀ r ∈ l, cnt r.read ≤ 1000000 ∧ RuLen r := fun l h r hr => by
    rcases h r hr with rfl | rfl | rfl | rfl <;> exact ⟨by decide +kernel, by decide +kernel, by decide +kernel, by decide +kernel⟩
  refine wk_grow [([0, 1, 2], [3]), ([], [4]), ([5, 6, 7, 8, 9], [])] ?_
  refine g_one (BsR 3 (rulC first (.slice none 0 0) ++ (rulC lb (.slice none 0 0) ++ rulC lc (.slice none 0 0)))) (BsR.stb _ _) ?_
  refine x_all (fun w_ hw_ => r7.ext hw_) ?_
  refine x_fn (fun w' hw' => lift_calls [98] [97] w') ?_ (hargs := by simp only [str_eq]; rfl)
  refine x_fn (fun w' hw' => lift_calls [99] [98] w') ?_ (hargs := by simp only [str_eq]; rfl)
  refine x_nil ⟨fun v => p_walk rfl rfl rfl fun w' hw' _ => ?_, ?_⟩
  · refine o_buildSlice (LH.start w' (fun _ => False)) (rulC first (.slice none 0 0) ++ (rulC lb (.slice none 0 0) ++ rulC lc (.slice none 0 0))) rfl rfl (by kernel_rfl) ?_
    intro b w'' hb hl
    exact o_nil ⟨_, rfl, hl.done, b, rfl, hl.rowL (vs := rulC first (.slice none 0 0) ++ (rulC lb (.slice none 0 0) ++ rulC lc (.slice none 0 0))) 0 0 39 rfl⟩
  rintro _ w15 hw15 ⟨b9, rfl, hr9⟩
  have l9 : RulsAt w15 [first, lb, lc] (.slice (some ⟨b9, 0, none⟩) 3 3) := RulsAt.of [(first, .slice none 0 0), (lb, .slice none 0 0), (lc, .slice none 0 0)] (by simpa [rulL] using hr9) (Nat.le_refl _) (fun p hp => by
    have : p.1.read.kids = [] ∧ p.2 = .slice none 0 0 := by
      simp only [List.mem_cons, List.not_mem_nil, or_false] at hp
      rcases hp with rfl | rfl | rfl <;> exact ⟨rfl, rfl⟩
    rw [this.1, this.2]; exact KA.nil _)
  refine g_one (fun v w' => ∃ u, v = .tuple #[u, .int .i64 0] ∧ RulsAt w' [first, lc] u) (fun v w w' ⟨u, h1, h2⟩ e => ⟨u, h1, h2.ext e⟩) ?_
  refine x_nil ⟨fun v => p_fn (args := #[.slice (some ⟨b9, 0, none⟩) 3 3, .int .i64 0]) (fun w' hw' _ => Calls.mono (ruCount_calls [first, lb, lc] _ 0 w' (l9.ext hw') (by decide) (fewB _ (fun r hr => by simp only [List.mem_cons, List.not_mem_nil, or_false] at hr; rcases hr with rfl | rfl | rfl <;> simp))) ?_), ?_⟩
  · rintro e w'' ⟨x, h1, ⟨v, h2, h3⟩, h4⟩
    rw [e4.1] at h3
    rw [e4.2] at h2
    exact ⟨x, h1, ⟨v, h2, h3⟩, h4⟩
  rintro _ w16 hw16 ⟨dv, rfl, rd'⟩
  refine g_end ?_
  repeat' (first | refine x_mov ?_ | refine x_asg ?_ | refine x_fa ?_ | refine x_ext ?_ | refine x_binN ?_ | refine x_notd ?_ | refine x_notb ?_ | refine x_pick_t ?_ | refine x_pick_f ?_ | refine x_nilc ?_ | refine x_skip ?_ | refine x_lens ?_ | refine x_lenv ?_ | refine x_ix (fun _ => ?_) | (refine x_bin ?_ ?_ <;> intro _ <;> try (exfalso; omega)) | fail)
  refine x_nil fun w17 hw17 => hK _ _ ?_
  clear hK K l9 hr9
  replace rd' := rd'.ext hw17
  have he := (hw15.trans hw16).trans hw17
  clear hw15 hw16 hw17
  replace so := so.ext he
  replace sc := sc.ext he
  replace sa := sa.ext he
  replace sb := sb.ext he
  replace sg := sg.ext he
  replace r3 := r3.ext he
  replace r7 := r7.ext he
  replace r8 := r8.ext he
  replace hx := hx.trans he
  clear he
  repeat' (first | refine a_mov ?_ | refine a_asg ?_ | refine a_binN ?_ | refine a_notd ?_ | refine a_notb ?_ | refine a_nilc ?_ | refine a_fa ?_ | refine a_ext ?_ | refine a_lenv ?_ | refine a_lens ?_ | refine a_pick_t ?_ | refine a_pick_f ?_ | refine a_not ?_ | refine a_nilf ?_ | (refine o_nil (hK _ _ ?_); clear hK K) | refine wk_reg ?_ | refine wk_seq fun K hK => ?_ | (refine wk_skip (hK _ _ ?_); clear hK K) | (refine wk_label (hK _ _ ?_); clear hK K) | refine wk_scope ?_ | refine wk_block ?_ | refine wk_cond_t rfl ?_ | refine wk_cond_f rfl ?_ | (refine wk_exit ?_; (repeat (refine blockK_other rfl ?_)); refine blockK_same ?_; try ((repeat ((fail_if_success (refine hK _ _ ?_)); clear hK K)); refine hK _ _ ?_; clear hK K)) | (refine a_bin ?_ ?_ <;> intro _ <;> try (exfalso; omega)) | refine a_ld hl ?_ | (refine a_st hl ?_; clear hl; intro _ hl) | refine a_ix (fun _ => ?_) | fail)
  refine wk_grow [([0, 1], [2]), ([], [3]), ([4, 5, 6, 7, 8], [])] ?_
  refine g_one (BsR 2 (rulC final (.slice none 0 0) ++ rulC lb (.slice none 0 0))) (BsR.stb _ _) ?_
  refine x_all (fun w_ hw_ => r8.ext hw_) ?_
  refine x_fn (fun w' hw' => lift_calls [98] [97] w') ?_ (hargs := by simp only [str_eq]; rfl)
  refine x_nil ⟨fun v => p_walk rfl rfl rfl fun w' hw' _ => ?_, ?_⟩
  · refine o_buildSlice (LH.start w' (fun _ => False)) (rulC final (.slice none 0 0) ++ rulC lb (.slice none 0 0)) rfl rfl (by kernel_rfl) ?_
    intro b w'' hb hl
    exact o_nil ⟨_, rfl, hl.done, b, rfl, hl.rowL (vs := rulC final (.slice none 0 0) ++ rulC lb (.slice none 0 0)) 0 0 26 rfl⟩
  rintro _ w15 hw15 ⟨b9, rfl, hr9⟩
  have l9 : RulsAt w15 [final, lb] (.slice (some ⟨b9, 0, none⟩) 2 2) := RulsAt.of [(final, .slice none 0 0), (lb, .slice none 0 0)] (by simpa [rulL] using hr9) (Nat.le_refl _) (fun p hp => by
    have : p.1.read.kids = [] ∧ p.2 = .slice none 0 0 := by
      simp only [List.mem_cons, List.not_mem_nil, or_false] at hp
      rcases hp with rfl | rfl <;> exact ⟨rfl, rfl⟩
    rw [this.1, this.2]; exact KA.nil _)
  refine g_one (fun v w' => ∃ u, v = .tuple #[u, .int .i64 0] ∧ RulsAt w' [final] u) (fun v w w' ⟨u, h1, h2⟩ e => ⟨u, h1, h2.ext e⟩) ?_
  refine x_nil ⟨fun v => p_fn (args := #[.slice (some ⟨b9, 0, none⟩) 2 2, .int .i64 0]) (fun w' hw' _ => Calls.mono (ruCount_calls [final, lb] _ 0 w' (l9.ext hw') (by decide) (fewB _ (fun r hr => by simp only [List.mem_cons, List.not_mem_nil, or_false] at hr; rcases hr with rfl | rfl <;> simp))) ?_), ?_⟩
  · rintro e w'' ⟨x, h1, ⟨v, h2, h3⟩, h4⟩
    rw [e5.1] at h3
    rw [e5.2] at h2
    exact ⟨x, h1, ⟨v, h2, h3⟩, h4⟩
  rintro _ w16 hw16 ⟨fv, rfl, rf⟩
  refine g_end ?_
  repeat' (first | refine x_mov ?_ | refine x_asg ?_ | refine x_fa ?_ | refine x_ext ?_ | refine x_binN ?_ | refine x_notd ?_ | refine x_notb ?_ | refine x_pick_t ?_ | refine x_pick_f ?_ | refine x_nilc ?_ | refine x_skip ?_ | refine x_lens ?_ | refine x_lenv ?_ | refine x_ix (fun _ => ?_) | (refine x_bin ?_ ?_ <;> intro _ <;> try (exfalso; omega)) | fail)
  refine x_nil fun w17 hw17 => hK _ _ ?_
  clear hK K l9 hr9
  replace rf := rf.ext hw17
  have he := (hw15.trans hw16).trans hw17
  clear hw15 hw16 hw17
  replace so := so.ext he
  replace sc := sc.ext he
  replace sa := sa.ext he
  replace sb := sb.ext he
  replace sg := sg.ext he
  replace r3 := r3.ext he
  replace r7 := r7.ext he
  replace rd' := rd'.ext he
  replace hx := hx.trans he
  clear he r8
  repeat' (first | refine a_mov ?_ | refine a_asg ?_ | refine a_binN ?_ | refine a_notd ?_ | refine a_notb ?_ | refine a_nilc ?_ | refine a_fa ?_ | refine a_ext ?_ | refine a_lenv ?_ | refine a_lens ?_ | refine a_pick_t ?_ | refine a_pick_f ?_ | refine a_not ?_ | refine a_nilf ?_ | (refine o_nil (hK _ _ ?_); clear hK K) | refine wk_reg ?_ | refine wk_seq fun K hK => ?_ | (refine wk_skip (hK _ _ ?_); clear hK K) | (refine wk_label (hK _ _ ?_); clear hK K) | refine wk_scope ?_ | refine wk_block ?_ | refine wk_cond_t rfl ?_ | refine wk_cond_f rfl ?_ | (refine wk_exit ?_; (repeat (refine blockK_other rfl ?_)); refine blockK_same ?_; try ((repeat ((fail_if_success (refine hK _ _ ?_)); clear hK K)); refine hK _ _ ?_; clear hK K)) | (refine a_bin ?_ ?_ <;> intro _ <;> try (exfalso; omega)) | refine a_ld hl ?_ | (refine a_st hl ?_; clear hl; intro _ hl) | refine a_ix (fun _ => ?_) | refine a_all r7 ?_)
  refine o_buildSlice (LH.start w17 (fun _ => False)) (rulC first (.slice none 0 0) ++ rulC first (.slice none 0 0)) rfl rfl (by kernel_rfl) ?_
  intro b10 w18 hb10 hl
  have l9 : RulsAt w18 [first, first] (.slice (some ⟨b10, 0, none⟩) 2 2) := RulsAt.of [(first, .slice none 0 0), (first, .slice none 0 0)] (by have := hl.rowL (vs := rulC first (.slice none 0 0) ++ rulC first (.slice none 0 0)) 0 0 26 rfl; simpa [rulL, rulC] using this) (Nat.le_refl _) (fun p hp => by
    have : p.1.read.kids = [] ∧ p.2 = .slice none 0 0 := by
      simp only [List.mem_cons, List.not_mem_nil, or_false] at hp
      rcases hp with rfl | rfl <;> exact ⟨rfl, rfl⟩
    rw [this.1, this.2]; exact KA.nil _)
  refine a_fn (ruCount_calls [first, first] _ 0 w18 l9 (by decide) (fewB _ (fun r hr => by simp only [List.mem_cons, List.not_mem_nil, or_false] at hr; rcases hr with rfl | rfl <;> simp))) ?_
  rintro _ w19 ⟨⟨ev, rfl, -⟩, he⟩
  rw [e6]
  replace he := hl.done.trans he
  clear l9 hl
  replace sa := sa.ext he
  replace sb := sb.ext he
  replace sg := sg.ext he
  replace r3 := r3.ext he
  replace r7 := r7.ext he
  replace rd' := rd'.ext he
  replace rf := rf.ext he
  replace hx := hx.trans he
  clear he so sc
  obtain ⟨da, dc, hdv, -⟩ := rd'.shape
  replace hdv : dv = .slice da 2 dc := hdv
  subst hdv
  obtain ⟨fa, fc, hfv, -⟩ := rf.shape
  replace hfv : fv = .slice fa 1 fc := hfv
  subst hfv
  obtain ⟨ba, bc, hbv, -⟩ := sb.shape
  replace hbv : bv = .slice ba 0 bc := hbv
  subst hbv
  obtain ⟨aa, ac, hav, -⟩ := sa.shape
  replace hav : av = .slice aa 2 ac := hav
  subst hav
  obtain ⟨ga, gc, hgv, -⟩ := sg.shape
  replace hgv : gv = .slice ga 2 gc := hgv
  subst hgv
  repeat' (first | refine a_mov ?_ | refine a_asg ?_ | refine a_binN ?_ | refine a_notd ?_ | refine a_notb ?_ | refine a_nilc ?_ | refine a_fa ?_ | refine a_ext ?_ | refine a_lenv ?_ | refine a_lens ?_ | refine a_pick_t ?_ | refine a_pick_f ?_ | refine a_not ?_ | refine a_nilf ?_ | (refine o_nil (hK _ _ ?_); clear hK K) | refine wk_reg ?_ | refine wk_seq fun K hK => ?_ | (refine wk_skip (hK _ _ ?_); clear hK K) | (refine wk_label (hK _ _ ?_); clear hK K) | refine wk_scope ?_ | refine wk_block ?_ | refine wk_cond_t rfl ?_ | refine wk_cond_f rfl ?_ | (refine wk_exit ?_; (repeat (refine blockK_other rfl ?_)); refine blockK_same ?_; try ((repeat ((fail_if_success (refine hK _ _ ?_)); clear hK K)); refine hK _ _ ?_; clear hK K)) | (refine a_bin ?_ ?_ <;> intro _ <;> try (exfalso; omega)) | refine a_ld hl ?_ | (refine a_st hl ?_; clear hl; intro _ hl) | refine a_ix (fun _ => ?_) | fail)
  refine wk_grow [([0, 1, 2, 3, 4], [5]), ([6, 7, 8, 9, 10, 11, 12, 13, 14, 15, 16, 17], [18]), ([19, 20, 21], [])] ?_
  refine g_one (BsR 2 (spnC (sp 10 15 yesF) (.slice none 0 0) ++ spnC (sp 20 30 yesF) (.slice none 0 0))) (BsR.stb _ _) ?_
  repeat' (first | refine x_mov ?_ | refine x_asg ?_ | refine x_fa ?_ | refine x_ext ?_ | refine x_binN ?_ | refine x_notd ?_ | refine x_notb ?_ | refine x_pick_t ?_ | refine x_pick_f ?_ | refine x_nilc ?_ | refine x_skip ?_ | refine x_lens ?_ | refine x_lenv ?_ | refine x_ix (fun _ => ?_) | (refine x_bin ?_ ?_ <;> intro _ <;> try (exfalso; omega)) | fail)
  refine x_fn (fun w' hw' => ruYes_calls w') ?_
  refine x_build (spnC (sp 10 15 yesF) (.slice none 0 0)) rfl rfl (by simp only [spnC, fmL, sp, yesF, poor, zf, Fm.op, Fm.name, Fm.cmp, Fm.num, str_eq]; kernel_rfl) ?_
  refine x_fn (fun w' hw' => ruYes_calls w') ?_
  refine x_build (spnC (sp 20 30 yesF) (.slice none 0 0)) rfl rfl (by simp only [spnC, fmL, sp, yesF, poor, zf, Fm.op, Fm.name, Fm.cmp, Fm.num, str_eq]; kernel_rfl) ?_
  refine x_nil ⟨fun v => p_walk rfl rfl rfl fun w' hw' _ => ?_, ?_⟩
  · refine o_buildSlice (LH.start w' (fun _ => False)) (spnC (sp 10 15 yesF) (.slice none 0 0) ++ spnC (sp 20 30 yesF) (.slice none 0 0)) rfl rfl (by kernel_rfl) ?_
    intro b w'' hb hl
    exact o_nil ⟨_, rfl, hl.done, b, rfl, hl.rowL (vs := spnC (sp 10 15 yesF) (.slice none 0 0) ++ spnC (sp 20 30 yesF) (.slice none 0 0)) 0 0 14 rfl⟩
  rintro _ w20 hw20 ⟨b11, rfl, hr11⟩
  have s11 : SpnsAt w20 [sp 10 15 yesF, sp 20 30 yesF] (.slice (some ⟨b11, 0, none⟩) 2 2) := SpnsAt.of [(sp 10 15 yesF, .slice none 0 0), (sp 20 30 yesF, .slice none 0 0)] (by simpa [spnL] using hr11) (Nat.le_refl _) (fun p hp => by
    have : p.1.read.kids = [] ∧ p.2 = .slice none 0 0 := by
      simp only [List.mem_cons, List.not_mem_nil, or_false] at hp
      rcases hp with rfl | rfl <;> exact ⟨rfl, rfl⟩
    rw [this.1, this.2]; exact KA.nil _)
  have shy : ∀ s : Rul.Spn, s.read = yesF ∨ s.read = poor → Short s.read.kids := fun s hs => by
    rcases hs with h | h <;> rw [h] <;> exact short_of (by decide +kernel)
  have c1 := fun w' (hw' : Ext w20 w') => refSpans_calls _ _ _ _ w' ((sa.ext hw20).ext hw') (s11.ext hw') (by decide) (by decide) (fun s hs => shy s (by simp only [List.mem_cons, List.not_mem_nil, or_false] at hs; rcases hs with rfl | rfl <;> exact .inl rfl)) (fun s hs => shy s (by simp only [List.mem_cons, List.not_mem_nil, or_false] at hs; rcases hs with rfl | rfl <;> exact .inl rfl))
  simp only [decide_true] at c1
  refine g_one (BsR 2 (spnC (sp 10 20 yesF) (.slice none 0 0) ++ spnC (sp 20 (-1) poor) (.slice none 0 0))) (BsR.stb _ _) ?_
  refine x_fn c1 ?_
  repeat' (first | refine x_mov ?_ | refine x_asg ?_ | refine x_fa ?_ | refine x_ext ?_ | refine x_binN ?_ | refine x_notd ?_ | refine x_notb ?_ | refine x_pick_t ?_ | refine x_pick_f ?_ | refine x_nilc ?_ | refine x_skip ?_ | refine x_lens ?_ | refine x_lenv ?_ | refine x_ix (fun _ => ?_) | (refine x_bin ?_ ?_ <;> intro _ <;> try (exfalso; omega)) | fail)
  refine x_fn (fun w' hw' => ruYes_calls w') ?_
  refine x_build (spnC (sp 10 20 yesF) (.slice none 0 0)) rfl rfl (by simp only [spnC, fmL, sp, yesF, poor, zf, Fm.op, Fm.name, Fm.cmp, Fm.num, str_eq]; kernel_rfl) ?_
  refine x_all (fun w_ hw_ => r3.ext (hw20.trans hw_)) ?_
  refine x_build (spnC (sp 20 (-1) poor) (.slice none 0 0)) rfl rfl (by simp only [spnC, fmL, sp, yesF, poor, zf, Fm.op, Fm.name, Fm.cmp, Fm.num, str_eq]; kernel_rfl) ?_
  refine x_nil ⟨fun v => p_walk rfl rfl rfl fun w' hw' _ => ?_, ?_⟩
  · refine o_buildSlice (LH.start w' (fun _ => False)) (spnC (sp 10 20 yesF) (.slice none 0 0) ++ spnC (sp 20 (-1) poor) (.slice none 0 0)) rfl rfl (by kernel_rfl) ?_
    intro b w'' hb hl
    exact o_nil ⟨_, rfl, hl.done, b, rfl, hl.rowL (vs := spnC (sp 10 20 yesF) (.slice none 0 0) ++ spnC (sp 20 (-1) poor) (.slice none 0 0)) 0 0 14 rfl⟩
  rintro _ w21 hw21 ⟨b12, rfl, hr12⟩
  have s12 : SpnsAt w21 [sp 10 20 yesF, sp 20 (-1) poor] (.slice (some ⟨b12, 0, none⟩) 2 2) := SpnsAt.of [(sp 10 20 yesF, .slice none 0 0), (sp 20 (-1) poor, .slice none 0 0)] (by simpa [spnL] using hr12) (Nat.le_refl _) (fun p hp => by
    have : p.1.read.kids = [] ∧ p.2 = .slice none 0 0 := by
      simp only [List.mem_cons, List.not_mem_nil, or_false] at hp
      rcases hp with rfl | rfl <;> exact ⟨rfl, rfl⟩
    rw [this.1, this.2]; exact KA.nil _)
  have c2 := fun w' (hw' : Ext w21 w') => refSpans_calls _ _ _ _ w' ((sg.ext (hw20.trans hw21)).ext hw') (s12.ext hw') (by decide) (by decide) (fun s hs => shy s (by simp only [List.mem_cons, List.not_mem_nil, or_false] at hs; rcases hs with rfl | rfl; exact .inl rfl; exact .inr rfl)) (fun s hs => shy s (by simp only [List.mem_cons, List.not_mem_nil, or_false] at hs; rcases hs with rfl | rfl; exact .inl rfl; exact .inr rfl))
  simp only [decide_true] at c2
  refine g_end ?_
  refine x_fn c2 ?_
  repeat' (first | refine x_mov ?_ | refine x_asg ?_ | refine x_fa ?_ | refine x_ext ?_ | refine x_binN ?_ | refine x_notd ?_ | refine x_notb ?_ | refine x_pick_t ?_ | refine x_pick_f ?_ | refine x_nilc ?_ | refine x_skip ?_ | refine x_lens ?_ | refine x_lenv ?_ | refine x_ix (fun _ => ?_) | (refine x_bin ?_ ?_ <;> intro _ <;> try (exfalso; omega)) | fail)
  refine x_nil fun w22 hw22 => hK _ _ ?_
  clear hK K c1 c2 s11 s12 hr11 hr12
  have he := (hw20.trans hw21).trans hw22
  replace r7 := r7.ext he
  replace rd' := rd'.ext he
  replace rf := rf.ext he
  replace hx := hx.trans he
  clear he hw20 hw21 hw22 sa sb sg r3
  obtain ⟨bd, od, kd, hpd, hrd, -⟩ := rd'.at (i := 0) (by decide)
  obtain ⟨bd2, od2, kd2, hpd2, hrd2, -⟩ := rd'.at (i := 1) (by decide)
  obtain ⟨bf, of, kf, hpf, hrf, -⟩ := rf.at (i := 0) (by decide)
  have s97 : Value.string ⟨#[97]⟩ = str [97] := by rw [str_eq]
  have s99 : Value.string ⟨#[99]⟩ = str [99] := by rw [str_eq]
  repeat' (first | refine a_mov ?_ | refine a_asg ?_ | refine a_binN ?_ | refine a_notd ?_ | refine a_notb ?_ | refine a_nilc ?_ | refine a_fa ?_ | refine a_ext ?_ | refine a_lenv ?_ | refine a_lens ?_ | refine a_pick_t ?_ | refine a_pick_f ?_ | refine a_not ?_ | refine a_nilf ?_ | (refine o_nil (hK _ _ ?_); clear hK K) | refine wk_reg ?_ | refine wk_seq fun K hK => ?_ | (refine wk_skip (hK _ _ ?_); clear hK K) | (refine wk_label (hK _ _ ?_); clear hK K) | refine wk_scope ?_ | refine wk_block ?_ | refine wk_cond_t rfl ?_ | refine wk_cond_f rfl ?_ | (refine wk_exit ?_; (repeat (refine blockK_other rfl ?_)); refine blockK_same ?_; try ((repeat ((fail_if_success (refine hK _ _ ?_)); clear hK K)); refine hK _ _ ?_; clear hK K)) | (refine a_bin ?_ ?_ <;> intro _ <;> try (exfalso; omega)) | refine a_ld hl ?_ | (refine a_st hl ?_; clear hl; intro _ hl) | refine a_ix (fun _ => ?_) | refine a_idx (c := 13) 0 hpd ?_ | refine a_row hrd ?_)
  refine o_eqsT (a := [97]) (b := [97]) rfl rfl s97 ?_ ?_ <;> intro h8
  rotate_left
  · exact absurd rfl h8
  repeat' (first | refine a_mov ?_ | refine a_asg ?_ | refine a_binN ?_ | refine a_notd ?_ | refine a_notb ?_ | refine a_nilc ?_ | refine a_fa ?_ | refine a_ext ?_ | refine a_lenv ?_ | refine a_lens ?_ | refine a_pick_t ?_ | refine a_pick_f ?_ | refine a_not ?_ | refine a_nilf ?_ | (refine o_nil (hK _ _ ?_); clear hK K) | refine wk_reg ?_ | refine wk_seq fun K hK => ?_ | (refine wk_skip (hK _ _ ?_); clear hK K) | (refine wk_label (hK _ _ ?_); clear hK K) | refine wk_scope ?_ | refine wk_block ?_ | refine wk_cond_t rfl ?_ | refine wk_cond_f rfl ?_ | (refine wk_exit ?_; (repeat (refine blockK_other rfl ?_)); refine blockK_same ?_; try ((repeat ((fail_if_success (refine hK _ _ ?_)); clear hK K)); refine hK _ _ ?_; clear hK K)) | (refine a_bin ?_ ?_ <;> intro _ <;> try (exfalso; omega)) | refine a_ld hl ?_ | (refine a_st hl ?_; clear hl; intro _ hl) | refine a_ix (fun _ => ?_) | refine a_idx (c := 13) 1 hpd2 ?_ | refine a_row hrd2 ?_)
  refine o_eqsT (a := [99]) (b := [99]) rfl rfl s99 ?_ ?_ <;> intro h8
  rotate_left
  · exact absurd rfl h8
  repeat' (first | refine a_mov ?_ | refine a_asg ?_ | refine a_binN ?_ | refine a_notd ?_ | refine a_notb ?_ | refine a_nilc ?_ | refine a_fa ?_ | refine a_ext ?_ | refine a_lenv ?_ | refine a_lens ?_ | refine a_pick_t ?_ | refine a_pick_f ?_ | refine a_not ?_ | refine a_nilf ?_ | (refine o_nil (hK _ _ ?_); clear hK K) | refine wk_reg ?_ | refine wk_seq fun K hK => ?_ | (refine wk_skip (hK _ _ ?_); clear hK K) | (refine wk_label (hK _ _ ?_); clear hK K) | refine wk_scope ?_ | refine wk_block ?_ | refine wk_cond_t rfl ?_ | refine wk_cond_f rfl ?_ | (refine wk_exit ?_; (repeat (refine blockK_other rfl ?_)); refine blockK_same ?_; try ((repeat ((fail_if_success (refine hK _ _ ?_)); clear hK K)); refine hK _ _ ?_; clear hK K)) | (refine a_bin ?_ ?_ <;> intro _ <;> try (exfalso; omega)) | refine a_ld hl ?_ | (refine a_st hl ?_; clear hl; intro _ hl) | refine a_ix (fun _ => ?_) | refine a_idx (c := 13) 0 hpf ?_ | refine a_row hrf ?_)
  refine o_eqsT (a := [97]) (b := [97]) rfl rfl s97 ?_ ?_ <;> intro h8
  rotate_left
  · exact absurd rfl h8
  repeat' (first | refine a_mov ?_ | refine a_asg ?_ | refine a_binN ?_ | refine a_notd ?_ | refine a_notb ?_ | refine a_nilc ?_ | refine a_fa ?_ | refine a_ext ?_ | refine a_lenv ?_ | refine a_lens ?_ | refine a_pick_t ?_ | refine a_pick_f ?_ | refine a_not ?_ | refine a_nilf ?_ | (refine o_nil (hK _ _ ?_); clear hK K) | refine wk_reg ?_ | refine wk_seq fun K hK => ?_ | (refine wk_skip (hK _ _ ?_); clear hK K) | (refine wk_label (hK _ _ ?_); clear hK K) | refine wk_scope ?_ | refine wk_block ?_ | refine wk_cond_t rfl ?_ | refine wk_cond_f rfl ?_ | (refine wk_exit ?_; (repeat (refine blockK_other rfl ?_)); refine blockK_same ?_; try ((repeat ((fail_if_success (refine hK _ _ ?_)); clear hK K)); refine hK _ _ ?_; clear hK K)) | (refine a_bin ?_ ?_ <;> intro _ <;> try (exfalso; omega)) | refine a_ld hl ?_ | (refine a_st hl ?_; clear hl; intro _ hl) | refine a_ix (fun _ => ?_) | refine a_all r7 ?_)
  refine a_fn (ruValid_calls first (.slice none 0 0) w22 (KA.nil _) (by decide +kernel) ⟨by decide +kernel, by decide +kernel, by decide +kernel⟩) ?_
  rintro _ w23 ⟨rfl, he⟩
  rw [e7]
  repeat' (first | refine a_mov ?_ | refine a_asg ?_ | refine a_binN ?_ | refine a_notd ?_ | refine a_notb ?_ | refine a_nilc ?_ | refine a_fa ?_ | refine a_ext ?_ | refine a_lenv ?_ | refine a_lens ?_ | refine a_pick_t ?_ | refine a_pick_f ?_ | refine a_not ?_ | refine a_nilf ?_ | (refine o_nil (hK _ _ ?_); clear hK K) | refine wk_reg ?_ | refine wk_seq fun K hK => ?_ | (refine wk_skip (hK _ _ ?_); clear hK K) | (refine wk_label (hK _ _ ?_); clear hK K) | refine wk_scope ?_ | refine wk_block ?_ | refine wk_cond_t rfl ?_ | refine wk_cond_f rfl ?_ | (refine wk_exit ?_; (repeat (refine blockK_other rfl ?_)); refine blockK_same ?_; try ((repeat ((fail_if_success (refine hK _ _ ?_)); clear hK K)); refine hK _ _ ?_; clear hK K)) | (refine a_bin ?_ ?_ <;> intro _ <;> try (exfalso; omega)) | refine a_ld hl ?_ | (refine a_st hl ?_; clear hl; intro _ hl) | refine a_ix (fun _ => ?_) | fail)
  refine a_fn (lift_calls [98] [] w23) ?_ (hargs := by simp only [str_eq]; rfl)
  rintro _ w24 ⟨rfl, he2⟩
  refine a_fn (ruValid_calls (Rul.liftR [98] []) (.slice none 0 0) w24 (KA.nil _) (by decide +kernel) ⟨by decide +kernel, by decide +kernel, by decide +kernel⟩) ?_
  rintro _ w25 ⟨rfl, he3⟩
  rw [e8]
  repeat' (first | refine a_mov ?_ | refine a_asg ?_ | refine a_binN ?_ | refine a_notd ?_ | refine a_notb ?_ | refine a_nilc ?_ | refine a_fa ?_ | refine a_ext ?_ | refine a_lenv ?_ | refine a_lens ?_ | refine a_pick_t ?_ | refine a_pick_f ?_ | refine a_not ?_ | refine a_nilf ?_ | (refine o_nil (hK _ _ ?_); clear hK K) | refine wk_reg ?_ | refine wk_seq fun K hK => ?_ | (refine wk_skip (hK _ _ ?_); clear hK K) | (refine wk_label (hK _ _ ?_); clear hK K) | refine wk_scope ?_ | refine wk_block ?_ | refine wk_cond_t rfl ?_ | refine wk_cond_f rfl ?_ | (refine wk_exit ?_; (repeat (refine blockK_other rfl ?_)); refine blockK_same ?_; try ((repeat ((fail_if_success (refine hK _ _ ?_)); clear hK K)); refine hK _ _ ?_; clear hK K)) | (refine a_bin ?_ ?_ <;> intro _ <;> try (exfalso; omega)) | refine a_ld hl ?_ | (refine a_st hl ?_; clear hl; intro _ hl) | refine a_ix (fun _ => ?_) | fail)
  refine wk_ret (retQ_tmp1 Tryd.results4 (by decide) rfl (by conv => lhs; whnf) ?_)
  exact ⟨rfl, hx.trans ((he.trans he2).trans he3)⟩
end Go.Proofs
