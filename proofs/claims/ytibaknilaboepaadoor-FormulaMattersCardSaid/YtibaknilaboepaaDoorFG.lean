/-
  Formulas: the helpers of the statements.
-/
import Derived.Test.YtibaknilaboepaaDoorFF
import Derived.Test.YtibaknilaboepaaDoorLD
import Derived.Test.YtibaknilaboepaaDoorFE
set_option linter.unusedVariables false
set_option linter.unusedSimpArgs false
set_option linter.unnecessarySimpa false
set_option maxRecDepth 10000
namespace Go.Fo
open Go.Lexs Go.Fin
def fewB (F : List Fact) (c : List Int) (T : List (List UInt8)) : Bool := decide (F.length ≤ 40 ∧ c.length ≤ 60 ∧ T.length ≤ 40 ∧ ∀ s ∈ T, s.length ≤ 60)
def namedB (s : List UInt8) (f : Fm) : Bool := (pre f).any fun x => decide (x.op = 3 ∧ x.name = s)
def namedL (s : List UInt8) (ks : List Fm) : Bool := (preL ks).any fun x => decide (x.op = 3 ∧ x.name = s)
def bareE (x : Fm) : Bool := decide (x.op = 4 → x.kids.length = 0 ∧ x.cmp = 0 ∧ x.num = 0)
def plainB (f : Fm) : Bool := (pre f).all bareE
def plainL (ks : List Fm) : Bool := (preL ks).all bareE
def goodB (F : List Fact) (c : List Int) (f : Fm) : Bool := decide (cnt f ≤ 60 ∧ dep f ≤ 16) && (fitsB F c && decide (checkE F (fun s => (termsOf f).contains s) f = 0))
theorem namedB_eq (s : List UInt8) (f : Fm) : namedB s f = (decide (f.op = 3 ∧ f.name = s) || namedL s f.kids) := by unfold namedB namedL; rw [pre_eq]; rfl
theorem plainB_eq (f : Fm) : plainB f = (bareE f && plainL f.kids) := by unfold plainB plainL; rw [pre_eq]; rfl
theorem namedL_split {s : List UInt8} {ks : List Fm} {i : Nat} (hi : i < ks.length) (h0 : namedL s (ks.take i) = false) : (namedB s ks[i] = true → namedL s ks = true) ∧ (namedB s ks[i] = false → namedL s (ks.take (i + 1)) = false) := by
  unfold namedL namedB at *
  refine ⟨fun h => ?_, fun h => ?_⟩
  · rw [preL_split' hi, List.any_append, List.any_append, h]; simp
  · rw [List.take_succ_eq_append_getElem hi, preL_snoc, List.any_append, h0, h]; rfl
theorem plainL_split {ks : List Fm} {i : Nat} (hi : i < ks.length) (h0 : plainL (ks.take i) = true) : (plainB ks[i] = false → plainL ks = false) ∧ (plainB ks[i] = true → plainL (ks.take (i + 1)) = true) := by
  unfold plainL plainB at *
  refine ⟨fun h => ?_, fun h => ?_⟩
  · rw [preL_split' hi, List.all_append, List.all_append, h]; simp
  · rw [List.take_succ_eq_append_getElem hi, preL_snoc, List.all_append, h0, h]; rfl
end Go.Fo

namespace Go.Proofs
open Go Go.Pd Go.Lexs Go.Fin Go.Fo
attribute [local irreducible] OpsL W RetQ OpsQ OpsC

theorem str_nil : str [] = Value.string ⟨#[]⟩ := by rw [str_eq]

theorem both_calls (op : Int) (ks : List Fm) (kv : Value) (hkv : ∃ a c, kv = .slice a ks.length c) (w : World) : Calls Tryd.prog 28 #[.int .i64 op, kv] w (fun e w' => ∃ x, e = .returned x ∧ x = .agg (fmL (.node op [] 0 0 ks) kv).toArray ∧ Ext w w') := by
  obtain ⟨a, c, rfl⟩ := hkv
  refine calls_of Tryd.func28 rfl Tryd.ntmps28 rfl ?_
  repeat' (first | refine a_mov ?_ | refine a_asg ?_ | refine a_binN ?_ | refine a_notd ?_ | refine a_notb ?_ | refine a_nilc ?_ | refine a_fa ?_ | refine a_ext ?_ | refine a_lenv ?_ | refine a_lens ?_ | refine a_pick_t ?_ | refine a_pick_f ?_ | refine a_not ?_ | refine a_nilf ?_ | (refine o_nil (hK _ _ ?_); clear hK K) | refine wk_reg ?_ | refine wk_seq fun K hK => ?_ | (refine wk_skip (hK _ _ ?_); clear hK K) | (refine wk_label (hK _ _ ?_); clear hK K) | refine wk_scope ?_ | refine wk_block ?_ | refine wk_cond_t rfl ?_ | refine wk_cond_f rfl ?_ | (refine wk_exit ?_; (repeat (refine blockK_other rfl ?_)); refine blockK_same ?_; try ((repeat ((fail_if_success (refine hK _ _ ?_)); clear hK K)); refine hK _ _ ?_; clear hK K)) | (refine a_bin ?_ ?_ <;> intro _ <;> try (exfalso; omega)) | refine a_ld hl ?_ | (refine a_st hl ?_; clear hl; intro _ hl) | refine a_ix (fun _ => ?_) | fail)
  refine o_alloc (LH.start w (fun _ => False)) [.int .i64 0, .string ⟨#[]⟩, .int .i64 0, .int .i64 0, .slice none 0 0] rfl rfl ?_
  intro b w1 hb hl
  repeat' (first | refine a_mov ?_ | refine a_asg ?_ | refine a_binN ?_ | refine a_notd ?_ | refine a_notb ?_ | refine a_nilc ?_ | refine a_fa ?_ | refine a_ext ?_ | refine a_lenv ?_ | refine a_lens ?_ | refine a_pick_t ?_ | refine a_pick_f ?_ | refine a_not ?_ | refine a_nilf ?_ | (refine o_nil (hK _ _ ?_); clear hK K) | refine wk_reg ?_ | refine wk_seq fun K hK => ?_ | (refine wk_skip (hK _ _ ?_); clear hK K) | (refine wk_label (hK _ _ ?_); clear hK K) | refine wk_scope ?_ | refine wk_block ?_ | refine wk_cond_t rfl ?_ | refine wk_cond_f rfl ?_ | (refine wk_exit ?_; (repeat (refine blockK_other rfl ?_)); refine blockK_same ?_; try ((repeat ((fail_if_success (refine hK _ _ ?_)); clear hK K)); refine hK _ _ ?_; clear hK K)) | (refine a_bin ?_ ?_ <;> intro _ <;> try (exfalso; omega)) | refine a_ld hl ?_ | (refine a_st hl ?_; clear hl; intro _ hl) | refine a_ix (fun _ => ?_) | fail)
  refine o_build [.int .i64 op, .string ⟨#[]⟩, .int .i64 0, .int .i64 0, .slice a ks.length c] rfl (by kernel_rfl) ?_
  refine o_putN (us := [.int .i64 op, .string ⟨#[]⟩, .int .i64 0, .int .i64 0, .slice a ks.length c]) hl rfl rfl rfl rfl rfl (.all rfl rfl) ?_
  clear hl
  intro w2 hl
  repeat' (first | refine a_mov ?_ | refine a_asg ?_ | refine a_binN ?_ | refine a_notd ?_ | refine a_notb ?_ | refine a_nilc ?_ | refine a_fa ?_ | refine a_ext ?_ | refine a_lenv ?_ | refine a_lens ?_ | refine a_pick_t ?_ | refine a_pick_f ?_ | refine a_not ?_ | refine a_nilf ?_ | (refine o_nil (hK _ _ ?_); clear hK K) | refine wk_reg ?_ | refine wk_seq fun K hK => ?_ | (refine wk_skip (hK _ _ ?_); clear hK K) | (refine wk_label (hK _ _ ?_); clear hK K) | refine wk_scope ?_ | refine wk_block ?_ | refine wk_cond_t rfl ?_ | refine wk_cond_f rfl ?_ | (refine wk_exit ?_; (repeat (refine blockK_other rfl ?_)); refine blockK_same ?_; try ((repeat ((fail_if_success (refine hK _ _ ?_)); clear hK K)); refine hK _ _ ?_; clear hK K)) | (refine a_bin ?_ ?_ <;> intro _ <;> try (exfalso; omega)) | refine a_ld hl ?_ | (refine a_st hl ?_; clear hl; intro _ hl) | refine a_ix (fun _ => ?_) | fail)
  refine wk_ret (retQ_res [.agg #[.int .i64 op, .string ⟨#[]⟩, .int .i64 0, .int .i64 0, .slice a ks.length c]] rfl rfl ⟨by decide, ⟨⟨b, 0, none⟩, rfl, run_loadVarN rfl rfl (hl.rowL (vs := [.int .i64 op, .string ⟨#[]⟩, .int .i64 0, .int .i64 0, .slice a ks.length c]) 0 0 5 rfl)⟩, trivial⟩ ⟨?_, hl.done⟩)
  simp only [fmL, Fm.op, Fm.name, Fm.cmp, Fm.num, str_nil]
  rfl

theorem test_calls (s : List UInt8) (cm n : Int) (w : World) : Calls Tryd.prog 30 #[str s, .int .i64 cm, .int .i64 n] w (fun e w' => ∃ x, e = .returned x ∧ x = .agg (fmL (.node 3 s cm n []) (.slice none 0 0)).toArray ∧ Ext w w') := by
  refine calls_of Tryd.func30 rfl Tryd.ntmps30 rfl ?_
  repeat' (first | refine a_mov ?_ | refine a_asg ?_ | refine a_binN ?_ | refine a_notd ?_ | refine a_notb ?_ | refine a_nilc ?_ | refine a_fa ?_ | refine a_ext ?_ | refine a_lenv ?_ | refine a_lens ?_ | refine a_pick_t ?_ | refine a_pick_f ?_ | refine a_not ?_ | refine a_nilf ?_ | (refine o_nil (hK _ _ ?_); clear hK K) | refine wk_reg ?_ | refine wk_seq fun K hK => ?_ | (refine wk_skip (hK _ _ ?_); clear hK K) | (refine wk_label (hK _ _ ?_); clear hK K) | refine wk_scope ?_ | refine wk_block ?_ | refine wk_cond_t rfl ?_ | refine wk_cond_f rfl ?_ | (refine wk_exit ?_; (repeat (refine blockK_other rfl ?_)); refine blockK_same ?_; try ((repeat ((fail_if_success (refine hK _ _ ?_)); clear hK K)); refine hK _ _ ?_; clear hK K)) | (refine a_bin ?_ ?_ <;> intro _ <;> try (exfalso; omega)) | refine a_ld hl ?_ | (refine a_st hl ?_; clear hl; intro _ hl) | refine a_ix (fun _ => ?_) | fail)
  refine o_alloc (LH.start w (fun _ => False)) [.int .i64 0, .string ⟨#[]⟩, .int .i64 0, .int .i64 0, .slice none 0 0] rfl rfl ?_
  intro b w1 hb hl
  repeat' (first | refine a_mov ?_ | refine a_asg ?_ | refine a_binN ?_ | refine a_notd ?_ | refine a_notb ?_ | refine a_nilc ?_ | refine a_fa ?_ | refine a_ext ?_ | refine a_lenv ?_ | refine a_lens ?_ | refine a_pick_t ?_ | refine a_pick_f ?_ | refine a_not ?_ | refine a_nilf ?_ | (refine o_nil (hK _ _ ?_); clear hK K) | refine wk_reg ?_ | refine wk_seq fun K hK => ?_ | (refine wk_skip (hK _ _ ?_); clear hK K) | (refine wk_label (hK _ _ ?_); clear hK K) | refine wk_scope ?_ | refine wk_block ?_ | refine wk_cond_t rfl ?_ | refine wk_cond_f rfl ?_ | (refine wk_exit ?_; (repeat (refine blockK_other rfl ?_)); refine blockK_same ?_; try ((repeat ((fail_if_success (refine hK _ _ ?_)); clear hK K)); refine hK _ _ ?_; clear hK K)) | (refine a_bin ?_ ?_ <;> intro _ <;> try (exfalso; omega)) | refine a_ld hl ?_ | (refine a_st hl ?_; clear hl; intro _ hl) | refine a_ix (fun _ => ?_) | fail)
  refine o_build [.int .i64 3, str s, .int .i64 cm, .int .i64 n, .slice none 0 0] rfl (by simp only [str_eq]; kernel_rfl) ?_
  refine o_putN (us := [.int .i64 3, str s, .int .i64 cm, .int .i64 n, .slice none 0 0]) hl rfl rfl rfl (by simp only [str_eq]; rfl) rfl (.all rfl rfl) ?_
  clear hl
  intro w2 hl
  repeat' (first | refine a_mov ?_ | refine a_asg ?_ | refine a_binN ?_ | refine a_notd ?_ | refine a_notb ?_ | refine a_nilc ?_ | refine a_fa ?_ | refine a_ext ?_ | refine a_lenv ?_ | refine a_lens ?_ | refine a_pick_t ?_ | refine a_pick_f ?_ | refine a_not ?_ | refine a_nilf ?_ | (refine o_nil (hK _ _ ?_); clear hK K) | refine wk_reg ?_ | refine wk_seq fun K hK => ?_ | (refine wk_skip (hK _ _ ?_); clear hK K) | (refine wk_label (hK _ _ ?_); clear hK K) | refine wk_scope ?_ | refine wk_block ?_ | refine wk_cond_t rfl ?_ | refine wk_cond_f rfl ?_ | (refine wk_exit ?_; (repeat (refine blockK_other rfl ?_)); refine blockK_same ?_; try ((repeat ((fail_if_success (refine hK _ _ ?_)); clear hK K)); refine hK _ _ ?_; clear hK K)) | (refine a_bin ?_ ?_ <;> intro _ <;> try (exfalso; omega)) | refine a_ld hl ?_ | (refine a_st hl ?_; clear hl; intro _ hl) | refine a_ix (fun _ => ?_) | fail)
  refine wk_ret (retQ_res [.agg (fmL (.node 3 s cm n []) (.slice none 0 0)).toArray] rfl rfl ⟨by decide, ⟨⟨b, 0, none⟩, rfl, run_loadVarN rfl rfl (hl.rowL (vs := [.int .i64 3, str s, .int .i64 cm, .int .i64 n, .slice none 0 0]) 0 0 5 rfl)⟩, trivial⟩ ⟨rfl, hl.done⟩)

set_option maxHeartbeats 1000000 in
theorem few_calls {F : List Fact} {c : List Int} {T : List (List UInt8)} {dv cv tv : Value} {w : World} (hd : Sl w dv 4 (factsL F)) (hc : Sl w cv 1 (intsL c)) (hv : Sl w tv 1 (strsL T)) (hF : F.length ≤ 9223372036854775806) (hC : c.length ≤ 9223372036854775806) (hT : T.length ≤ 9223372036854775806) (hs : ∀ s ∈ T, s.length ≤ 9223372036854775806) :
    Calls Tryd.prog 12 #[.agg #[dv], cv, tv] w (fun e w' => ∃ x, e = .returned x ∧ x = .bool (fewB F c T) ∧ Ext w w') := by
  obtain ⟨da, dc, rfl, -⟩ := hd.shape (factsL_len F) (by omega)
  obtain ⟨ca, cc, rfl, -⟩ := hc.shape (intsL_len c) (by omega)
  obtain ⟨ta, tc, rfl, -⟩ := hv.shape (strsL_len T) (by omega)
  refine calls_of Tryd.func12 rfl Tryd.ntmps12 rfl ?_
  refine wk_seq fun K hK => ?_
  refine wk_reg ?_
  refine o_box (LH.start w (fun _ => False)) [.slice da F.length dc] rfl rfl rfl ?_
  intro b3 w1 hb3 hl
  repeat' (first | refine a_mov ?_ | refine a_asg ?_ | refine a_binN ?_ | refine a_notd ?_ | refine a_notb ?_ | refine a_nilc ?_ | refine a_fa ?_ | refine a_ext ?_ | refine a_lenv ?_ | refine a_lens ?_ | refine a_pick_t ?_ | refine a_pick_f ?_ | refine a_not ?_ | refine a_nilf ?_ | (refine o_nil (hK _ _ ?_); clear hK K) | refine wk_reg ?_ | refine wk_seq fun K hK => ?_ | (refine wk_skip (hK _ _ ?_); clear hK K) | (refine wk_label (hK _ _ ?_); clear hK K) | refine wk_scope ?_ | refine wk_block ?_ | refine wk_cond_t rfl ?_ | refine wk_cond_f rfl ?_ | (refine wk_exit ?_; (repeat (refine blockK_other rfl ?_)); refine blockK_same ?_; try ((repeat ((fail_if_success (refine hK _ _ ?_)); clear hK K)); refine hK _ _ ?_; clear hK K)) | (refine a_bin ?_ ?_ <;> intro _ <;> try (exfalso; omega)) | refine a_ld hl ?_ | (refine a_st hl ?_; clear hl; intro _ hl) | refine a_ix (fun _ => ?_) | fail)
  refine wk_loopH [] rfl (fun i : Nat => [(1, .slice ca c.length cc), (2, .slice ta T.length tc), (3, .pointer (some ⟨b3, 0, none⟩)), (7, .int .i64 (i : Int))]) (fun i w' => (i ≤ T.length ∧ ∀ j (hj : j < T.length), j < i → T[j].length ≤ 60) ∧ LH w (fun _ => False) w' [(b3, Obj.cells #[.slice da F.length dc] 27 (0, 0))]) (fun i => T.length - i) 0 ⟨rfl, rfl, rfl, rfl, trivial⟩ ⟨⟨by omega, fun j hj h => by omega⟩, hl⟩ ?_
  clear hl
  rintro i t w2 ⟨⟨hi, hno⟩, hl⟩
  by_cases hi1 : i < T.length
  · obtain ⟨b, o, hp, hr⟩ := Sl.text (hv.ext hl.done) rfl hi1
    have hnx : T[i].length ≤ 60 → ∀ j (hj : j < T.length), j < i + 1 → T[j].length ≤ 60 := fun h j hj hji => by
      by_cases e : j = i
      · subst e; exact h
      · exact hno j hj (by omega)
    have hbad : ¬ T[i].length ≤ 60 → fewB F c T = false := fun h => by
      unfold fewB
      rw [decide_eq_false]
      exact fun h2 => h (h2.2.2.2 _ (List.getElem_mem hi1))
    have hsl := hs _ (List.getElem_mem hi1)
    clear hno
    generalize T[i] = x at *
    repeat' (first | refine a_mov ?_ | refine a_asg ?_ | refine a_binN ?_ | refine a_notd ?_ | refine a_notb ?_ | refine a_nilc ?_ | refine a_fa ?_ | refine a_ext ?_ | refine a_lenv ?_ | refine a_lens ?_ | refine a_pick_t ?_ | refine a_pick_f ?_ | refine a_not ?_ | refine a_nilf ?_ | (refine o_nil (hK _ _ ?_); clear hK K) | refine wk_reg ?_ | refine wk_seq fun K hK => ?_ | (refine wk_skip (hK _ _ ?_); clear hK K) | (refine wk_label (hK _ _ ?_); clear hK K) | refine wk_scope ?_ | refine wk_block ?_ | refine wk_cond_t rfl ?_ | refine wk_cond_f rfl ?_ | (refine wk_exit ?_; (repeat (refine blockK_other rfl ?_)); refine blockK_same ?_; try ((repeat ((fail_if_success (refine hK _ _ ?_)); clear hK K)); refine hK _ _ ?_; clear hK K)) | (refine a_bin ?_ ?_ <;> intro _ <;> try (exfalso; omega)) | refine a_ld hl ?_ | (refine a_st hl ?_; clear hl; intro _ hl) | refine a_ix (fun _ => ?_) | refine a_idx (c := 1) i hp ?_ | refine a_row hr ?_)
    · refine wk_ret (retQ_tmp1 Tryd.results12 (by decide) rfl (by conv => lhs; whnf) ?_)
      exact ⟨by rw [hbad (by omega)], hl.done⟩
    · exact o_nil ⟨i + 1, ⟨rfl, rfl, rfl, rfl, trivial⟩, rfl, ⟨⟨hi1, hnx (by omega)⟩, hl⟩, by omega⟩
  · have hB : fewB F c T = decide (F.length ≤ 40 ∧ c.length ≤ 60 ∧ T.length ≤ 40) := by
      unfold fewB
      rw [decide_eq_decide]
      refine ⟨fun h => ⟨h.1, h.2.1, h.2.2.1⟩, fun h => ⟨h.1, h.2.1, h.2.2, fun s hs => ?_⟩⟩
      obtain ⟨j, hj, rfl⟩ := List.mem_iff_getElem.1 hs
      exact hno j hj (by omega)
    clear hno
    repeat' (first | refine a_mov ?_ | refine a_asg ?_ | refine a_binN ?_ | refine a_notd ?_ | refine a_notb ?_ | refine a_nilc ?_ | refine a_fa ?_ | refine a_ext ?_ | refine a_lenv ?_ | refine a_lens ?_ | refine a_pick_t ?_ | refine a_pick_f ?_ | refine a_not ?_ | refine a_nilf ?_ | (refine o_nil (hK _ _ ?_); clear hK K) | refine wk_reg ?_ | refine wk_seq fun K hK => ?_ | (refine wk_skip (hK _ _ ?_); clear hK K) | (refine wk_label (hK _ _ ?_); clear hK K) | refine wk_scope ?_ | refine wk_block ?_ | refine wk_cond_t rfl ?_ | refine wk_cond_f rfl ?_ | (refine wk_exit ?_; (repeat (refine blockK_other rfl ?_)); refine blockK_same ?_; try ((repeat ((fail_if_success (refine hK _ _ ?_)); clear hK K)); refine hK _ _ ?_; clear hK K)) | (refine a_bin ?_ ?_ <;> intro _ <;> try (exfalso; omega)) | refine a_ld hl ?_ | (refine a_st hl ?_; clear hl; intro _ hl) | refine a_ix (fun _ => ?_) | fail)
    all_goals (refine wk_ret (retQ_tmp1 Tryd.results12 (by decide) rfl (by conv => lhs; whnf) ?_))
    all_goals refine ⟨?_, hl.done⟩
    all_goals rw [hB]
    all_goals first | rfl | (congr 1; first | (rw [decide_eq_true]; omega) | (symm; rw [decide_eq_false]; omega) | (rw [decide_eq_false]; omega) | (symm; rw [decide_eq_true]; omega) | (rw [decide_eq_decide]; omega))

set_option maxHeartbeats 2000000 in
theorem named_calls (s : List UInt8) : ∀ (f : Fm) (w : World) (G : Nat → Prop) (kv : Value), KR w G f.kids kv → Short f.kids → Calls Tryd.prog 32 #[.agg (fmL f kv).toArray, str s] w (fun e w' => ∃ x, e = .returned x ∧ x = .bool (namedB s f) ∧ Ext w w') := by
  refine Fm.ind ?_
  intro f ih w G kv hk hsh
  obtain ⟨a, c, rfl, -⟩ := hk.shape
  have hlen := hsh.1
  have hne := namedB_eq s f
  refine calls_of Tryd.func32 rfl Tryd.ntmps32 rfl ?_
  refine wk_seq fun K hK => ?_
  refine wk_reg ?_
  refine o_box (LH.start w (fun _ => False)) [.int .i64 (f).op, str (f).name, .int .i64 (f).cmp, .int .i64 (f).num, .slice a f.kids.length c] rfl rfl rfl ?_
  intro b w1 hb hl
  refine a_asg ?_
  refine o_nil (hK _ _ ?_)
  clear hK K
  refine wk_seq fun K hK => ?_
  refine wk_cut (α := Unit) [] (fun _ => [(1, str s), (2, .pointer (some ⟨b, 0, none⟩))]) (fun _ w' => namedB s f = namedL s f.kids ∧ LH w (fun _ => False) w' [(b, Obj.cells ([.int .i64 (f).op, str (f).name, .int .i64 (f).cmp, .int .i64 (f).num, .slice a f.kids.length c] : List Value).toArray 24 (0, 0))]) ?_ ?_
  · repeat' (first | refine a_mov ?_ | refine a_asg ?_ | refine a_binN ?_ | refine a_notd ?_ | refine a_notb ?_ | refine a_nilc ?_ | refine a_fa ?_ | refine a_ext ?_ | refine a_lenv ?_ | refine a_lens ?_ | refine a_pick_t ?_ | refine a_pick_f ?_ | refine a_not ?_ | refine a_nilf ?_ | (refine o_nil (hK _ _ ?_); clear hK K) | refine wk_reg ?_ | refine wk_seq fun K hK => ?_ | (refine wk_skip (hK _ _ ?_); clear hK K) | (refine wk_label (hK _ _ ?_); clear hK K) | refine wk_scope ?_ | refine wk_block ?_ | refine wk_cond_t rfl ?_ | refine wk_cond_f rfl ?_ | (refine wk_exit ?_; (repeat (refine blockK_other rfl ?_)); refine blockK_same ?_; try ((repeat ((fail_if_success (refine hK _ _ ?_)); clear hK K)); refine hK _ _ ?_; clear hK K)) | (refine a_bin ?_ ?_ <;> intro _ <;> try (exfalso; omega)) | refine a_ld hl ?_ | (refine a_st hl ?_; clear hl; intro _ hl) | refine a_ix (fun _ => ?_) | (refine o_eqsT (a := f.name) (b := s) rfl rfl rfl ?_ ?_ <;> intro hid))
    · refine wk_ret (retQ_tmp1 Tryd.results32 (by decide) rfl (by conv => lhs; whnf) ?_)
      refine ⟨?_, hl.done⟩
      rw [hne, decide_eq_true ⟨by assumption, hid⟩]; rfl
    · exact wk_skip ⟨(), ⟨rfl, rfl, trivial⟩, rfl, by rw [hne, decide_eq_false (fun h => hid h.2)]; rfl, hl⟩
    · exact wk_skip ⟨(), ⟨rfl, rfl, trivial⟩, rfl, by rw [hne, decide_eq_false (fun h => by omega)]; rfl, hl⟩
  clear hl hne
  rintro - t w2 ⟨hne, hl⟩
  refine hK _ _ ?_
  clear hK K
  repeat' (first | refine a_mov ?_ | refine a_asg ?_ | refine a_binN ?_ | refine a_notd ?_ | refine a_notb ?_ | refine a_nilc ?_ | refine a_fa ?_ | refine a_ext ?_ | refine a_lenv ?_ | refine a_lens ?_ | refine a_pick_t ?_ | refine a_pick_f ?_ | refine a_not ?_ | refine a_nilf ?_ | (refine o_nil (hK _ _ ?_); clear hK K) | refine wk_reg ?_ | refine wk_seq fun K hK => ?_ | (refine wk_skip (hK _ _ ?_); clear hK K) | (refine wk_label (hK _ _ ?_); clear hK K) | refine wk_scope ?_ | refine wk_block ?_ | refine wk_cond_t rfl ?_ | refine wk_cond_f rfl ?_ | (refine wk_exit ?_; (repeat (refine blockK_other rfl ?_)); refine blockK_same ?_; try ((repeat ((fail_if_success (refine hK _ _ ?_)); clear hK K)); refine hK _ _ ?_; clear hK K)) | (refine a_bin ?_ ?_ <;> intro _ <;> try (exfalso; omega)) | refine a_ld hl ?_ | (refine a_st hl ?_; clear hl; intro _ hl) | refine a_ix (fun _ => ?_) | fail)
  refine wk_loopH [] rfl (fun i : Nat => [(1, str s), (2, .pointer (some ⟨b, 0, none⟩)), (5, .int .i64 (i : Int))]) (fun i w' => (i ≤ f.kids.length ∧ namedL s (f.kids.take i) = false) ∧ LH w (fun _ => False) w' [(b, Obj.cells ([.int .i64 (f).op, str (f).name, .int .i64 (f).cmp, .int .i64 (f).num, .slice a f.kids.length c] : List Value).toArray 24 (0, 0))]) (fun i => f.kids.length - i) 0 ⟨rfl, rfl, rfl, trivial⟩ ⟨⟨by omega, rfl⟩, hl⟩ ?_
  clear hl
  rintro i t w3 ⟨⟨hi, hpre⟩, hl⟩
  by_cases hi1 : i < f.kids.length
  · obtain ⟨bk, ok, kv, hp, hr, hkk⟩ := (hk.ext hl.done).at hi1
    obtain ⟨h1, h2⟩ := namedL_split hi1 hpre
    have ihk := ih f.kids[i] (List.getElem_mem hi1) w3 G kv hkk (hsh.kid hi1)
    clear ih
    generalize f.kids[i] = k at *
    repeat' (first | refine a_mov ?_ | refine a_asg ?_ | refine a_binN ?_ | refine a_notd ?_ | refine a_notb ?_ | refine a_nilc ?_ | refine a_fa ?_ | refine a_ext ?_ | refine a_lenv ?_ | refine a_lens ?_ | refine a_pick_t ?_ | refine a_pick_f ?_ | refine a_not ?_ | refine a_nilf ?_ | (refine o_nil (hK _ _ ?_); clear hK K) | refine wk_reg ?_ | refine wk_seq fun K hK => ?_ | (refine wk_skip (hK _ _ ?_); clear hK K) | (refine wk_label (hK _ _ ?_); clear hK K) | refine wk_scope ?_ | refine wk_block ?_ | refine wk_cond_t rfl ?_ | refine wk_cond_f rfl ?_ | (refine wk_exit ?_; (repeat (refine blockK_other rfl ?_)); refine blockK_same ?_; try ((repeat ((fail_if_success (refine hK _ _ ?_)); clear hK K)); refine hK _ _ ?_; clear hK K)) | (refine a_bin ?_ ?_ <;> intro _ <;> try (exfalso; omega)) | refine a_ld hl ?_ | (refine a_st hl ?_; clear hl; intro _ hl) | refine a_ix (fun _ => ?_) | refine a_idx (c := 5) i hp ?_ | refine a_all hr ?_)
    refine a_fn ihk ?_
    rintro _ w4 ⟨rfl, he4⟩
    cases hk1 : namedB s k
    · repeat' (first | refine a_mov ?_ | refine a_asg ?_ | refine a_binN ?_ | refine a_notd ?_ | refine a_notb ?_ | refine a_nilc ?_ | refine a_fa ?_ | refine a_ext ?_ | refine a_lenv ?_ | refine a_lens ?_ | refine a_pick_t ?_ | refine a_pick_f ?_ | refine a_not ?_ | refine a_nilf ?_ | (refine o_nil (hK _ _ ?_); clear hK K) | refine wk_reg ?_ | refine wk_seq fun K hK => ?_ | (refine wk_skip (hK _ _ ?_); clear hK K) | (refine wk_label (hK _ _ ?_); clear hK K) | refine wk_scope ?_ | refine wk_block ?_ | refine wk_cond_t rfl ?_ | refine wk_cond_f rfl ?_ | (refine wk_exit ?_; (repeat (refine blockK_other rfl ?_)); refine blockK_same ?_; try ((repeat ((fail_if_success (refine hK _ _ ?_)); clear hK K)); refine hK _ _ ?_; clear hK K)) | (refine a_bin ?_ ?_ <;> intro _ <;> try (exfalso; omega)) | refine a_ld hl ?_ | (refine a_st hl ?_; clear hl; intro _ hl) | refine a_ix (fun _ => ?_) | fail)
      exact o_nil ⟨i + 1, ⟨rfl, rfl, rfl, trivial⟩, rfl, ⟨⟨hi1, h2 hk1⟩, hl.ext he4⟩, by omega⟩
    · repeat' (first | refine a_mov ?_ | refine a_asg ?_ | refine a_binN ?_ | refine a_notd ?_ | refine a_notb ?_ | refine a_nilc ?_ | refine a_fa ?_ | refine a_ext ?_ | refine a_lenv ?_ | refine a_lens ?_ | refine a_pick_t ?_ | refine a_pick_f ?_ | refine a_not ?_ | refine a_nilf ?_ | (refine o_nil (hK _ _ ?_); clear hK K) | refine wk_reg ?_ | refine wk_seq fun K hK => ?_ | (refine wk_skip (hK _ _ ?_); clear hK K) | (refine wk_label (hK _ _ ?_); clear hK K) | refine wk_scope ?_ | refine wk_block ?_ | refine wk_cond_t rfl ?_ | refine wk_cond_f rfl ?_ | (refine wk_exit ?_; (repeat (refine blockK_other rfl ?_)); refine blockK_same ?_; try ((repeat ((fail_if_success (refine hK _ _ ?_)); clear hK K)); refine hK _ _ ?_; clear hK K)) | (refine a_bin ?_ ?_ <;> intro _ <;> try (exfalso; omega)) | refine a_ld hl ?_ | (refine a_st hl ?_; clear hl; intro _ hl) | refine a_ix (fun _ => ?_) | fail)
      refine wk_ret (retQ_tmp1 Tryd.results32 (by decide) rfl (by conv => lhs; whnf) ?_)
      exact ⟨by rw [hne, h1 hk1], (hl.ext he4).done⟩
  · have hke : i = f.kids.length := by omega
    rw [hke, List.take_of_length_le (Nat.le_refl _)] at hpre
    repeat' (first | refine a_mov ?_ | refine a_asg ?_ | refine a_binN ?_ | refine a_notd ?_ | refine a_notb ?_ | refine a_nilc ?_ | refine a_fa ?_ | refine a_ext ?_ | refine a_lenv ?_ | refine a_lens ?_ | refine a_pick_t ?_ | refine a_pick_f ?_ | refine a_not ?_ | refine a_nilf ?_ | (refine o_nil (hK _ _ ?_); clear hK K) | refine wk_reg ?_ | refine wk_seq fun K hK => ?_ | (refine wk_skip (hK _ _ ?_); clear hK K) | (refine wk_label (hK _ _ ?_); clear hK K) | refine wk_scope ?_ | refine wk_block ?_ | refine wk_cond_t rfl ?_ | refine wk_cond_f rfl ?_ | (refine wk_exit ?_; (repeat (refine blockK_other rfl ?_)); refine blockK_same ?_; try ((repeat ((fail_if_success (refine hK _ _ ?_)); clear hK K)); refine hK _ _ ?_; clear hK K)) | (refine a_bin ?_ ?_ <;> intro _ <;> try (exfalso; omega)) | refine a_ld hl ?_ | (refine a_st hl ?_; clear hl; intro _ hl) | refine a_ix (fun _ => ?_) | fail)
    refine wk_ret (retQ_tmp1 Tryd.results32 (by decide) rfl (by conv => lhs; whnf) ?_)
    exact ⟨by rw [hne, hpre], hl.done⟩

set_option maxHeartbeats 2000000 in
theorem plain_calls : ∀ (f : Fm) (w : World) (G : Nat → Prop) (kv : Value), KR w G f.kids kv → Short f.kids → Calls Tryd.prog 33 #[.agg (fmL f kv).toArray] w (fun e w' => ∃ x, e = .returned x ∧ x = .bool (plainB f) ∧ Ext w w') := by
  refine Fm.ind ?_
  intro f ih w G kv hk hsh
  obtain ⟨a, c, rfl, -⟩ := hk.shape
  have hlen := hsh.1
  have hne := plainB_eq f
  refine calls_of Tryd.func33 rfl Tryd.ntmps33 rfl ?_
  refine wk_seq fun K hK => ?_
  refine wk_reg ?_
  refine o_box (LH.start w (fun _ => False)) [.int .i64 (f).op, str (f).name, .int .i64 (f).cmp, .int .i64 (f).num, .slice a f.kids.length c] rfl rfl rfl ?_
  intro b w1 hb hl
  by_cases h4 : f.op = 4
  · have hP : plainB f = decide (f.kids.length = 0 ∧ f.cmp = 0 ∧ f.num = 0) := by
      rw [hne]
      unfold bareE
      by_cases h : f.kids.length = 0 ∧ f.cmp = 0 ∧ f.num = 0
      · rw [decide_eq_true (fun _ => h), decide_eq_true h, List.eq_nil_of_length_eq_zero h.1]; rfl
      · rw [decide_eq_false (fun h' => h (h' h4)), decide_eq_false h]; rfl
    repeat' (first | refine a_mov ?_ | refine a_asg ?_ | refine a_binN ?_ | refine a_notd ?_ | refine a_notb ?_ | refine a_nilc ?_ | refine a_fa ?_ | refine a_ext ?_ | refine a_lenv ?_ | refine a_lens ?_ | refine a_pick_t ?_ | refine a_pick_f ?_ | refine a_not ?_ | refine a_nilf ?_ | (refine o_nil (hK _ _ ?_); clear hK K) | refine wk_reg ?_ | refine wk_seq fun K hK => ?_ | (refine wk_skip (hK _ _ ?_); clear hK K) | (refine wk_label (hK _ _ ?_); clear hK K) | refine wk_scope ?_ | refine wk_block ?_ | refine wk_cond_t rfl ?_ | refine wk_cond_f rfl ?_ | (refine wk_exit ?_; (repeat (refine blockK_other rfl ?_)); refine blockK_same ?_; try ((repeat ((fail_if_success (refine hK _ _ ?_)); clear hK K)); refine hK _ _ ?_; clear hK K)) | (refine a_bin ?_ ?_ <;> intro _ <;> try (exfalso; omega)) | refine a_ld hl ?_ | (refine a_st hl ?_; clear hl; intro _ hl) | refine a_ix (fun _ => ?_) | fail)
    all_goals (refine wk_ret (retQ_tmp1 Tryd.results33 (by decide) rfl (by conv => lhs; whnf) ?_))
    all_goals refine ⟨?_, hl.done⟩
    all_goals rw [hP]
    all_goals first | rfl | (congr 1; first | (rw [decide_eq_true]; omega) | (symm; rw [decide_eq_false]; omega) | (rw [decide_eq_false]; omega) | (symm; rw [decide_eq_true]; omega) | (rw [decide_eq_decide]; omega))
  have hne : plainB f = plainL f.kids := by
    rw [hne]
    unfold bareE
    rw [decide_eq_true (fun h => absurd h h4)]; rfl
  repeat' (first | refine a_mov ?_ | refine a_asg ?_ | refine a_binN ?_ | refine a_notd ?_ | refine a_notb ?_ | refine a_nilc ?_ | refine a_fa ?_ | refine a_ext ?_ | refine a_lenv ?_ | refine a_lens ?_ | refine a_pick_t ?_ | refine a_pick_f ?_ | refine a_not ?_ | refine a_nilf ?_ | (refine o_nil (hK _ _ ?_); clear hK K) | refine wk_reg ?_ | refine wk_seq fun K hK => ?_ | (refine wk_skip (hK _ _ ?_); clear hK K) | (refine wk_label (hK _ _ ?_); clear hK K) | refine wk_scope ?_ | refine wk_block ?_ | refine wk_cond_t rfl ?_ | refine wk_cond_f rfl ?_ | (refine wk_exit ?_; (repeat (refine blockK_other rfl ?_)); refine blockK_same ?_; try ((repeat ((fail_if_success (refine hK _ _ ?_)); clear hK K)); refine hK _ _ ?_; clear hK K)) | (refine a_bin ?_ ?_ <;> intro _ <;> try (exfalso; omega)) | refine a_ld hl ?_ | (refine a_st hl ?_; clear hl; intro _ hl) | refine a_ix (fun _ => ?_) | fail)
  refine wk_loopH [] rfl (fun i : Nat => [(1, .pointer (some ⟨b, 0, none⟩)), (3, .int .i64 (i : Int))]) (fun i w' => (i ≤ f.kids.length ∧ plainL (f.kids.take i) = true) ∧ LH w (fun _ => False) w' [(b, Obj.cells ([.int .i64 (f).op, str (f).name, .int .i64 (f).cmp, .int .i64 (f).num, .slice a f.kids.length c] : List Value).toArray 24 (0, 0))]) (fun i => f.kids.length - i) 0 ⟨rfl, rfl, trivial⟩ ⟨⟨by omega, rfl⟩, hl⟩ ?_
  clear hl
  rintro i t w3 ⟨⟨hi, hpre⟩, hl⟩
  by_cases hi1 : i < f.kids.length
  · obtain ⟨bk, ok, kv, hp, hr, hkk⟩ := (hk.ext hl.done).at hi1
    obtain ⟨h1, h2⟩ := plainL_split hi1 hpre
    have ihk := ih f.kids[i] (List.getElem_mem hi1) w3 G kv hkk (hsh.kid hi1)
    clear ih
    generalize f.kids[i] = k at *
    repeat' (first | refine a_mov ?_ | refine a_asg ?_ | refine a_binN ?_ | refine a_notd ?_ | refine a_notb ?_ | refine a_nilc ?_ | refine a_fa ?_ | refine a_ext ?_ | refine a_lenv ?_ | refine a_lens ?_ | refine a_pick_t ?_ | refine a_pick_f ?_ | refine a_not ?_ | refine a_nilf ?_ | (refine o_nil (hK _ _ ?_); clear hK K) | refine wk_reg ?_ | refine wk_seq fun K hK => ?_ | (refine wk_skip (hK _ _ ?_); clear hK K) | (refine wk_label (hK _ _ ?_); clear hK K) | refine wk_scope ?_ | refine wk_block ?_ | refine wk_cond_t rfl ?_ | refine wk_cond_f rfl ?_ | (refine wk_exit ?_; (repeat (refine blockK_other rfl ?_)); refine blockK_same ?_; try ((repeat ((fail_if_success (refine hK _ _ ?_)); clear hK K)); refine hK _ _ ?_; clear hK K)) | (refine a_bin ?_ ?_ <;> intro _ <;> try (exfalso; omega)) | refine a_ld hl ?_ | (refine a_st hl ?_; clear hl; intro _ hl) | refine a_ix (fun _ => ?_) | refine a_idx (c := 5) i hp ?_ | refine a_all hr ?_)
    refine a_fn ihk ?_
    rintro _ w4 ⟨rfl, he4⟩
    cases hk1 : plainB k
    · repeat' (first | refine a_mov ?_ | refine a_asg ?_ | refine a_binN ?_ | refine a_notd ?_ | refine a_notb ?_ | refine a_nilc ?_ | refine a_fa ?_ | refine a_ext ?_ | refine a_lenv ?_ | refine a_lens ?_ | refine a_pick_t ?_ | refine a_pick_f ?_ | refine a_not ?_ | refine a_nilf ?_ | (refine o_nil (hK _ _ ?_); clear hK K) | refine wk_reg ?_ | refine wk_seq fun K hK => ?_ | (refine wk_skip (hK _ _ ?_); clear hK K) | (refine wk_label (hK _ _ ?_); clear hK K) | refine wk_scope ?_ | refine wk_block ?_ | refine wk_cond_t rfl ?_ | refine wk_cond_f rfl ?_ | (refine wk_exit ?_; (repeat (refine blockK_other rfl ?_)); refine blockK_same ?_; try ((repeat ((fail_if_success (refine hK _ _ ?_)); clear hK K)); refine hK _ _ ?_; clear hK K)) | (refine a_bin ?_ ?_ <;> intro _ <;> try (exfalso; omega)) | refine a_ld hl ?_ | (refine a_st hl ?_; clear hl; intro _ hl) | refine a_ix (fun _ => ?_) | fail)
      refine wk_ret (retQ_tmp1 Tryd.results33 (by decide) rfl (by conv => lhs; whnf) ?_)
      exact ⟨by rw [hne, h1 hk1], (hl.ext he4).done⟩
    · repeat' (first | refine a_mov ?_ | refine a_asg ?_ | refine a_binN ?_ | refine a_notd ?_ | refine a_notb ?_ | refine a_nilc ?_ | refine a_fa ?_ | refine a_ext ?_ | refine a_lenv ?_ | refine a_lens ?_ | refine a_pick_t ?_ | refine a_pick_f ?_ | refine a_not ?_ | refine a_nilf ?_ | (refine o_nil (hK _ _ ?_); clear hK K) | refine wk_reg ?_ | refine wk_seq fun K hK => ?_ | (refine wk_skip (hK _ _ ?_); clear hK K) | (refine wk_label (hK _ _ ?_); clear hK K) | refine wk_scope ?_ | refine wk_block ?_ | refine wk_cond_t rfl ?_ | refine wk_cond_f rfl ?_ | (refine wk_exit ?_; (repeat (refine blockK_other rfl ?_)); refine blockK_same ?_; try ((repeat ((fail_if_success (refine hK _ _ ?_)); clear hK K)); refine hK _ _ ?_; clear hK K)) | (refine a_bin ?_ ?_ <;> intro _ <;> try (exfalso; omega)) | refine a_ld hl ?_ | (refine a_st hl ?_; clear hl; intro _ hl) | refine a_ix (fun _ => ?_) | fail)
      exact o_nil ⟨i + 1, ⟨rfl, rfl, trivial⟩, rfl, ⟨⟨hi1, h2 hk1⟩, hl.ext he4⟩, by omega⟩
  · have hke : i = f.kids.length := by omega
    rw [hke, List.take_of_length_le (Nat.le_refl _)] at hpre
    repeat' (first | refine a_mov ?_ | refine a_asg ?_ | refine a_binN ?_ | refine a_notd ?_ | refine a_notb ?_ | refine a_nilc ?_ | refine a_fa ?_ | refine a_ext ?_ | refine a_lenv ?_ | refine a_lens ?_ | refine a_pick_t ?_ | refine a_pick_f ?_ | refine a_not ?_ | refine a_nilf ?_ | (refine o_nil (hK _ _ ?_); clear hK K) | refine wk_reg ?_ | refine wk_seq fun K hK => ?_ | (refine wk_skip (hK _ _ ?_); clear hK K) | (refine wk_label (hK _ _ ?_); clear hK K) | refine wk_scope ?_ | refine wk_block ?_ | refine wk_cond_t rfl ?_ | refine wk_cond_f rfl ?_ | (refine wk_exit ?_; (repeat (refine blockK_other rfl ?_)); refine blockK_same ?_; try ((repeat ((fail_if_success (refine hK _ _ ?_)); clear hK K)); refine hK _ _ ?_; clear hK K)) | (refine a_bin ?_ ?_ <;> intro _ <;> try (exfalso; omega)) | refine a_ld hl ?_ | (refine a_st hl ?_; clear hl; intro _ hl) | refine a_ix (fun _ => ?_) | fail)
    refine wk_ret (retQ_tmp1 Tryd.results33 (by decide) rfl (by conv => lhs; whnf) ?_)
    exact ⟨by rw [hne, hpre], hl.done⟩
end Go.Proofs

/-
  Formulas: the statements' good.
-/
set_option linter.unusedVariables false
set_option linter.unusedSimpArgs false
set_option linter.unnecessarySimpa false
set_option maxRecDepth 10000
namespace Go.Proofs
open Go Go.Pd Go.Lexs Go.Fin Go.Fo
attribute [local irreducible] OpsL W RetQ OpsQ OpsC

set_option maxHeartbeats 4000000 in
theorem good_calls (F : List Fact) (c : List Int) (hF : F.length ≤ 9223372036854775806) (hC : c.length ≤ 9223372036854775806) (hn : ∀ f ∈ F, f.name.length ≤ 9223372036854775806)
    (f : Fm) (w : World) (G : Nat → Prop) (kv dv cv : Value) (hk : KR w G f.kids kv) (hG : ∀ b, G b → b < w.heap.size) (hlen : f.kids.length ≤ 140737488351232) (hlens : ∀ k ∈ preL f.kids, k.kids.length ≤ 140737488351232) (hd : Sl w dv 4 (factsL F)) (hc : Sl w cv 1 (intsL c)) :
    Calls Tryd.prog 27 #[.agg (fmL f kv).toArray, .agg #[dv], cv] w (fun e w' => ∃ x, e = .returned x ∧ x = .bool (goodB F c f) ∧ Ext w w') := by
  obtain ⟨a, cp, rfl, -⟩ := hk.shape
  obtain ⟨da, dc, rfl, -⟩ := hd.shape (factsL_len F) (by omega)
  obtain ⟨ca, cc, rfl, -⟩ := hc.shape (intsL_len c) (by omega)
  have hB : goodB F c f = (decide (cnt f ≤ 60 ∧ dep f ≤ 16) && (fitsB F c && decide (checkE F (fun s => (termsOf f).contains s) f = 0))) := rfl
  have hFB : fitsB F c = (validD F && fitsC F c) := rfl
  refine calls_of Tryd.func27 rfl Tryd.ntmps27 rfl ?_
  refine wk_seq fun K hK => ?_
  refine wk_reg ?_
  refine o_box (LH.start w (fun _ => False)) [.int .i64 (f).op, str (f).name, .int .i64 (f).cmp, .int .i64 (f).num, .slice a f.kids.length cp] rfl rfl rfl ?_
  intro b3 w1 hb3 hl
  refine o_box hl [.slice da F.length dc] rfl rfl rfl ?_
  clear hl
  intro b4 w2 hb4 hl
  have he := hl.done
  repeat' (first | refine a_mov ?_ | refine a_asg ?_ | refine a_binN ?_ | refine a_notd ?_ | refine a_notb ?_ | refine a_nilc ?_ | refine a_fa ?_ | refine a_ext ?_ | refine a_lenv ?_ | refine a_lens ?_ | refine a_pick_t ?_ | refine a_pick_f ?_ | refine a_not ?_ | refine a_nilf ?_ | (refine o_nil (hK _ _ ?_); clear hK K) | refine wk_reg ?_ | refine wk_seq fun K hK => ?_ | (refine wk_skip (hK _ _ ?_); clear hK K) | (refine wk_label (hK _ _ ?_); clear hK K) | refine wk_scope ?_ | refine wk_block ?_ | refine wk_cond_t rfl ?_ | refine wk_cond_f rfl ?_ | (refine wk_exit ?_; (repeat (refine blockK_other rfl ?_)); refine blockK_same ?_; try ((repeat ((fail_if_success (refine hK _ _ ?_)); clear hK K)); refine hK _ _ ?_; clear hK K)) | (refine a_bin ?_ ?_ <;> intro _ <;> try (exfalso; omega)) | refine a_ld hl ?_ | (refine a_st hl ?_; clear hl; intro _ hl) | refine a_ix (fun _ => ?_) | refine a_all (hl.rowL (vs := [.int .i64 (f).op, str (f).name, .int .i64 (f).cmp, .int .i64 (f).num, .slice a f.kids.length cp]) 1 0 5 rfl) ?_)
  refine a_fn (refSmall_calls f w2 G (.slice a f.kids.length cp) 300 (hk.ext he) (by omega) hlen hlens) ?_
  rintro _ w3 ⟨rfl, he3⟩
  replace hl := hl.ext he3
  clear he he3
  have he := hl.done
  by_cases hsm : cnt f ≤ 300
  · rw [decide_eq_true hsm]
    have hsh := short_of (f := f) (by omega)
    repeat' (first | refine a_mov ?_ | refine a_asg ?_ | refine a_binN ?_ | refine a_notd ?_ | refine a_notb ?_ | refine a_nilc ?_ | refine a_fa ?_ | refine a_ext ?_ | refine a_lenv ?_ | refine a_lens ?_ | refine a_pick_t ?_ | refine a_pick_f ?_ | refine a_not ?_ | refine a_nilf ?_ | (refine o_nil (hK _ _ ?_); clear hK K) | refine wk_reg ?_ | refine wk_seq fun K hK => ?_ | (refine wk_skip (hK _ _ ?_); clear hK K) | (refine wk_label (hK _ _ ?_); clear hK K) | refine wk_scope ?_ | refine wk_block ?_ | refine wk_cond_t rfl ?_ | refine wk_cond_f rfl ?_ | (refine wk_exit ?_; (repeat (refine blockK_other rfl ?_)); refine blockK_same ?_; try ((repeat ((fail_if_success (refine hK _ _ ?_)); clear hK K)); refine hK _ _ ?_; clear hK K)) | (refine a_bin ?_ ?_ <;> intro _ <;> try (exfalso; omega)) | refine a_ld hl ?_ | (refine a_st hl ?_; clear hl; intro _ hl) | refine a_ix (fun _ => ?_) | refine a_all (hl.rowL (vs := [.slice da F.length dc]) 0 0 1 rfl) ?_)
    refine a_fn (valid_calls (hd.ext he) hF hn) ?_
    rintro _ w4 ⟨rfl, he4⟩
    replace hl := hl.ext he4
    clear he he4
    have he := hl.done
    cases hvd : validD F
    · repeat' (first | refine a_mov ?_ | refine a_asg ?_ | refine a_binN ?_ | refine a_notd ?_ | refine a_notb ?_ | refine a_nilc ?_ | refine a_fa ?_ | refine a_ext ?_ | refine a_lenv ?_ | refine a_lens ?_ | refine a_pick_t ?_ | refine a_pick_f ?_ | refine a_not ?_ | refine a_nilf ?_ | (refine o_nil (hK _ _ ?_); clear hK K) | refine wk_reg ?_ | refine wk_seq fun K hK => ?_ | (refine wk_skip (hK _ _ ?_); clear hK K) | (refine wk_label (hK _ _ ?_); clear hK K) | refine wk_scope ?_ | refine wk_block ?_ | refine wk_cond_t rfl ?_ | refine wk_cond_f rfl ?_ | (refine wk_exit ?_; (repeat (refine blockK_other rfl ?_)); refine blockK_same ?_; try ((repeat ((fail_if_success (refine hK _ _ ?_)); clear hK K)); refine hK _ _ ?_; clear hK K)) | (refine a_bin ?_ ?_ <;> intro _ <;> try (exfalso; omega)) | refine a_ld hl ?_ | (refine a_st hl ?_; clear hl; intro _ hl) | refine a_ix (fun _ => ?_) | fail)
      refine wk_ret (retQ_tmp1 Tryd.results27 (by decide) rfl (by conv => lhs; whnf) ?_)
      exact ⟨by rw [hB, hFB, hvd]; simp, he⟩
    repeat' (first | refine a_mov ?_ | refine a_asg ?_ | refine a_binN ?_ | refine a_notd ?_ | refine a_notb ?_ | refine a_nilc ?_ | refine a_fa ?_ | refine a_ext ?_ | refine a_lenv ?_ | refine a_lens ?_ | refine a_pick_t ?_ | refine a_pick_f ?_ | refine a_not ?_ | refine a_nilf ?_ | (refine o_nil (hK _ _ ?_); clear hK K) | refine wk_reg ?_ | refine wk_seq fun K hK => ?_ | (refine wk_skip (hK _ _ ?_); clear hK K) | (refine wk_label (hK _ _ ?_); clear hK K) | refine wk_scope ?_ | refine wk_block ?_ | refine wk_cond_t rfl ?_ | refine wk_cond_f rfl ?_ | (refine wk_exit ?_; (repeat (refine blockK_other rfl ?_)); refine blockK_same ?_; try ((repeat ((fail_if_success (refine hK _ _ ?_)); clear hK K)); refine hK _ _ ?_; clear hK K)) | (refine a_bin ?_ ?_ <;> intro _ <;> try (exfalso; omega)) | refine a_ld hl ?_ | (refine a_st hl ?_; clear hl; intro _ hl) | refine a_ix (fun _ => ?_) | refine a_all (hl.rowL (vs := [.slice da F.length dc]) 0 0 1 rfl) ?_)
    refine a_fn (fits_calls (hd.ext he) (hc.ext he) hF hC hn) ?_
    rintro _ w5 ⟨rfl, he5⟩
    replace hl := hl.ext he5
    clear he he5
    have he := hl.done
    cases hfb : fitsB F c
    · repeat' (first | refine a_mov ?_ | refine a_asg ?_ | refine a_binN ?_ | refine a_notd ?_ | refine a_notb ?_ | refine a_nilc ?_ | refine a_fa ?_ | refine a_ext ?_ | refine a_lenv ?_ | refine a_lens ?_ | refine a_pick_t ?_ | refine a_pick_f ?_ | refine a_not ?_ | refine a_nilf ?_ | (refine o_nil (hK _ _ ?_); clear hK K) | refine wk_reg ?_ | refine wk_seq fun K hK => ?_ | (refine wk_skip (hK _ _ ?_); clear hK K) | (refine wk_label (hK _ _ ?_); clear hK K) | refine wk_scope ?_ | refine wk_block ?_ | refine wk_cond_t rfl ?_ | refine wk_cond_f rfl ?_ | (refine wk_exit ?_; (repeat (refine blockK_other rfl ?_)); refine blockK_same ?_; try ((repeat ((fail_if_success (refine hK _ _ ?_)); clear hK K)); refine hK _ _ ?_; clear hK K)) | (refine a_bin ?_ ?_ <;> intro _ <;> try (exfalso; omega)) | refine a_ld hl ?_ | (refine a_st hl ?_; clear hl; intro _ hl) | refine a_ix (fun _ => ?_) | fail)
      refine wk_ret (retQ_tmp1 Tryd.results27 (by decide) rfl (by conv => lhs; whnf) ?_)
      exact ⟨by rw [hB, hfb]; simp, he⟩
    repeat' (first | refine a_mov ?_ | refine a_asg ?_ | refine a_binN ?_ | refine a_notd ?_ | refine a_notb ?_ | refine a_nilc ?_ | refine a_fa ?_ | refine a_ext ?_ | refine a_lenv ?_ | refine a_lens ?_ | refine a_pick_t ?_ | refine a_pick_f ?_ | refine a_not ?_ | refine a_nilf ?_ | (refine o_nil (hK _ _ ?_); clear hK K) | refine wk_reg ?_ | refine wk_seq fun K hK => ?_ | (refine wk_skip (hK _ _ ?_); clear hK K) | (refine wk_label (hK _ _ ?_); clear hK K) | refine wk_scope ?_ | refine wk_block ?_ | refine wk_cond_t rfl ?_ | refine wk_cond_f rfl ?_ | (refine wk_exit ?_; (repeat (refine blockK_other rfl ?_)); refine blockK_same ?_; try ((repeat ((fail_if_success (refine hK _ _ ?_)); clear hK K)); refine hK _ _ ?_; clear hK K)) | (refine a_bin ?_ ?_ <;> intro _ <;> try (exfalso; omega)) | refine a_ld hl ?_ | (refine a_st hl ?_; clear hl; intro _ hl) | refine a_ix (fun _ => ?_) | refine a_all (hl.rowL (vs := [.int .i64 (f).op, str (f).name, .int .i64 (f).cmp, .int .i64 (f).num, .slice a f.kids.length cp]) 1 0 5 rfl) ?_)
    refine a_fn (size_calls f w5 G _ (hk.ext he) (by omega)) ?_
    rintro _ w6 ⟨rfl, he6⟩
    replace hl := hl.ext he6
    clear he he6
    have he := hl.done
    repeat' (first | refine a_mov ?_ | refine a_asg ?_ | refine a_binN ?_ | refine a_notd ?_ | refine a_notb ?_ | refine a_nilc ?_ | refine a_fa ?_ | refine a_ext ?_ | refine a_lenv ?_ | refine a_lens ?_ | refine a_pick_t ?_ | refine a_pick_f ?_ | refine a_not ?_ | refine a_nilf ?_ | (refine o_nil (hK _ _ ?_); clear hK K) | refine wk_reg ?_ | refine wk_seq fun K hK => ?_ | (refine wk_skip (hK _ _ ?_); clear hK K) | (refine wk_label (hK _ _ ?_); clear hK K) | refine wk_scope ?_ | refine wk_block ?_ | refine wk_cond_t rfl ?_ | refine wk_cond_f rfl ?_ | (refine wk_exit ?_; (repeat (refine blockK_other rfl ?_)); refine blockK_same ?_; try ((repeat ((fail_if_success (refine hK _ _ ?_)); clear hK K)); refine hK _ _ ?_; clear hK K)) | (refine a_bin ?_ ?_ <;> intro _ <;> try (exfalso; omega)) | refine a_ld hl ?_ | (refine a_st hl ?_; clear hl; intro _ hl) | refine a_ix (fun _ => ?_) | fail)
    by_cases hs1 : cnt f ≤ 60
    · by_cases hs2 : dep f ≤ 16
      · refine wk_last (List.dropLast_concat_getLast (by simp)).symm (by kernel_rfl) ?_
        refine any_grow [([0, 1, 2, 3, 4, 5, 6, 7, 8, 9], [10]), ([11, 12, 13], [])] ?_ (fun _ _ _ _ h => by first | exact h | (simp only [BlockK, NoGoto, RetQ] at h)) (by kernel_rfl)
        refine g_one (fun v w' => Sl w' v 1 (strsL (termsOf f))) (fun v w w' h e => h.ext e) ?_
        repeat' (first | refine x_mov ?_ | refine x_asg ?_ | refine x_fa ?_ | refine x_ext ?_ | refine x_binN ?_ | refine x_notd ?_ | refine x_notb ?_ | refine x_pick_t ?_ | refine x_pick_f ?_ | refine x_nilc ?_ | refine x_skip ?_ | refine x_lens ?_ | refine x_lenv ?_ | refine x_ix (fun _ => ?_) | (refine x_bin ?_ ?_ <;> intro _ <;> try (exfalso; omega)) | refine x_all (fun w_ hw_ => (hl.ext hw_).rowL (vs := [.int .i64 (f).op, str (f).name, .int .i64 (f).cmp, .int .i64 (f).num, .slice a f.kids.length cp]) 1 0 5 rfl) ?_ | refine x_all (fun w_ hw_ => (hl.ext hw_).rowL (vs := [.slice da F.length dc]) 0 0 1 rfl) ?_)
        refine x_nil ⟨fun v => p_fn (fun w' hw' _ => terms_calls f w' G _ (hk.ext (he.trans hw')) (fun b hb => Nat.lt_of_lt_of_le (hG b hb) (he.trans hw').size) hsh (by omega)), fun v w7 hw7 hR => ?_⟩
        have hta : (termsOf f).length ≤ 1000000 := by
          have h1 := foldT_len (pre f) []
          have h2 := pre_length f
          unfold termsOf
          simp at h1
          omega
        refine g_end ?_
        refine x_fn (v := .int .i64 (checkE F (fun s => (termsOf f).contains s) f : Int)) (fun w' hw' => ?_) ?_
        · have hew := (he.trans hw7).trans hw'
          exact Check_calls F (termsOf f) hF (by omega) f w' G _ _ v (hk.ext hew) (fun b hb => Nat.lt_of_lt_of_le (hG b hb) hew.size) hsh (by omega) (hd.ext hew) (hR.ext hw')
        · generalize hce : checkE F (fun s => (termsOf f).contains s) f = ce at *
          repeat' (first | refine x_mov ?_ | refine x_asg ?_ | refine x_fa ?_ | refine x_ext ?_ | refine x_binN ?_ | refine x_notd ?_ | refine x_notb ?_ | refine x_pick_t ?_ | refine x_pick_f ?_ | refine x_nilc ?_ | refine x_skip ?_ | refine x_lens ?_ | refine x_lenv ?_ | refine x_ix (fun _ => ?_) | (refine x_bin ?_ ?_ <;> intro _ <;> try (exfalso; omega)) | fail)
          all_goals refine x_nil fun w8 hw8 => ?_
          all_goals refine a_asg ?_
          all_goals refine o_nil (hK _ _ ?_)
          all_goals clear hK K
          all_goals repeat' (first | refine a_mov ?_ | refine a_asg ?_ | refine a_binN ?_ | refine a_notd ?_ | refine a_notb ?_ | refine a_nilc ?_ | refine a_fa ?_ | refine a_ext ?_ | refine a_lenv ?_ | refine a_lens ?_ | refine a_pick_t ?_ | refine a_pick_f ?_ | refine a_not ?_ | refine a_nilf ?_ | (refine o_nil (hK _ _ ?_); clear hK K) | refine wk_reg ?_ | refine wk_seq fun K hK => ?_ | (refine wk_skip (hK _ _ ?_); clear hK K) | (refine wk_label (hK _ _ ?_); clear hK K) | refine wk_scope ?_ | refine wk_block ?_ | refine wk_cond_t rfl ?_ | refine wk_cond_f rfl ?_ | (refine wk_exit ?_; (repeat (refine blockK_other rfl ?_)); refine blockK_same ?_; try ((repeat ((fail_if_success (refine hK _ _ ?_)); clear hK K)); refine hK _ _ ?_; clear hK K)) | (refine a_bin ?_ ?_ <;> intro _ <;> try (exfalso; omega)) | refine a_ld hl ?_ | (refine a_st hl ?_; clear hl; intro _ hl) | refine a_ix (fun _ => ?_) | fail)
          all_goals (refine wk_ret (retQ_tmp1 Tryd.results27 (by decide) rfl (by conv => lhs; whnf) ?_))
          all_goals refine ⟨?_, (he.trans hw7).trans hw8⟩
          all_goals rw [hB, hfb, decide_eq_true ⟨hs1, hs2⟩]
          all_goals first | (rw [decide_eq_true (by omega)]; rfl) | (rw [decide_eq_false (by omega)]; rfl)
      · have hB2 : goodB F c f = false := by rw [hB, decide_eq_false (fun h => hs2 h.2)]; rfl
        refine wk_quiet [0, 1, 2, 3, 4, 5, 6, 7, 8, 9, 10, 11, 12, 13, 14] ?_
        repeat' (first | refine q_mov ?_ | refine q_asg ?_ | refine q_fa ?_ | refine q_ext ?_ | refine q_binN ?_ | refine q_notd ?_ | refine q_notb ?_ | refine q_pick_t ?_ | refine q_pick_f ?_ | refine q_nilc ?_ | refine q_skip ?_ | refine q_lens ?_ | refine q_lenv ?_ | refine q_nil ?_ | refine q_ix (fun _ => ?_) | (refine q_bin ?_ ?_ <;> intro _ <;> try (exfalso; omega)) | fail)
        intro wm hwm
        refine hK _ _ ?_
        clear hK K
        repeat' (first | refine a_mov ?_ | refine a_asg ?_ | refine a_binN ?_ | refine a_notd ?_ | refine a_notb ?_ | refine a_nilc ?_ | refine a_fa ?_ | refine a_ext ?_ | refine a_lenv ?_ | refine a_lens ?_ | refine a_pick_t ?_ | refine a_pick_f ?_ | refine a_not ?_ | refine a_nilf ?_ | (refine o_nil (hK _ _ ?_); clear hK K) | refine wk_reg ?_ | refine wk_seq fun K hK => ?_ | (refine wk_skip (hK _ _ ?_); clear hK K) | (refine wk_label (hK _ _ ?_); clear hK K) | refine wk_scope ?_ | refine wk_block ?_ | refine wk_cond_t rfl ?_ | refine wk_cond_f rfl ?_ | (refine wk_exit ?_; (repeat (refine blockK_other rfl ?_)); refine blockK_same ?_; try ((repeat ((fail_if_success (refine hK _ _ ?_)); clear hK K)); refine hK _ _ ?_; clear hK K)) | (refine a_bin ?_ ?_ <;> intro _ <;> try (exfalso; omega)) | refine a_ld hl ?_ | (refine a_st hl ?_; clear hl; intro _ hl) | refine a_ix (fun _ => ?_) | fail)
        refine wk_ret (retQ_tmp1 Tryd.results27 (by decide) rfl (by conv => lhs; whnf) ?_)
        exact ⟨by rw [hB2], he.trans hwm⟩
    · have hB2 : goodB F c f = false := by rw [hB, decide_eq_false (fun h => hs1 h.1)]; rfl
      refine wk_quiet [0, 1, 2, 3, 4, 5, 6, 7, 8, 9, 10, 11, 12, 13, 14] ?_
      repeat' (first | refine q_mov ?_ | refine q_asg ?_ | refine q_fa ?_ | refine q_ext ?_ | refine q_binN ?_ | refine q_notd ?_ | refine q_notb ?_ | refine q_pick_t ?_ | refine q_pick_f ?_ | refine q_nilc ?_ | refine q_skip ?_ | refine q_lens ?_ | refine q_lenv ?_ | refine q_nil ?_ | refine q_ix (fun _ => ?_) | (refine q_bin ?_ ?_ <;> intro _ <;> try (exfalso; omega)) | fail)
      intro wm hwm
      refine hK _ _ ?_
      clear hK K
      repeat' (first | refine a_mov ?_ | refine a_asg ?_ | refine a_binN ?_ | refine a_notd ?_ | refine a_notb ?_ | refine a_nilc ?_ | refine a_fa ?_ | refine a_ext ?_ | refine a_lenv ?_ | refine a_lens ?_ | refine a_pick_t ?_ | refine a_pick_f ?_ | refine a_not ?_ | refine a_nilf ?_ | (refine o_nil (hK _ _ ?_); clear hK K) | refine wk_reg ?_ | refine wk_seq fun K hK => ?_ | (refine wk_skip (hK _ _ ?_); clear hK K) | (refine wk_label (hK _ _ ?_); clear hK K) | refine wk_scope ?_ | refine wk_block ?_ | refine wk_cond_t rfl ?_ | refine wk_cond_f rfl ?_ | (refine wk_exit ?_; (repeat (refine blockK_other rfl ?_)); refine blockK_same ?_; try ((repeat ((fail_if_success (refine hK _ _ ?_)); clear hK K)); refine hK _ _ ?_; clear hK K)) | (refine a_bin ?_ ?_ <;> intro _ <;> try (exfalso; omega)) | refine a_ld hl ?_ | (refine a_st hl ?_; clear hl; intro _ hl) | refine a_ix (fun _ => ?_) | fail)
      refine wk_ret (retQ_tmp1 Tryd.results27 (by decide) rfl (by conv => lhs; whnf) ?_)
      exact ⟨by rw [hB2], he.trans hwm⟩
  · rw [decide_eq_false hsm]
    repeat' (first | refine a_mov ?_ | refine a_asg ?_ | refine a_binN ?_ | refine a_notd ?_ | refine a_notb ?_ | refine a_nilc ?_ | refine a_fa ?_ | refine a_ext ?_ | refine a_lenv ?_ | refine a_lens ?_ | refine a_pick_t ?_ | refine a_pick_f ?_ | refine a_not ?_ | refine a_nilf ?_ | (refine o_nil (hK _ _ ?_); clear hK K) | refine wk_reg ?_ | refine wk_seq fun K hK => ?_ | (refine wk_skip (hK _ _ ?_); clear hK K) | (refine wk_label (hK _ _ ?_); clear hK K) | refine wk_scope ?_ | refine wk_block ?_ | refine wk_cond_t rfl ?_ | refine wk_cond_f rfl ?_ | (refine wk_exit ?_; (repeat (refine blockK_other rfl ?_)); refine blockK_same ?_; try ((repeat ((fail_if_success (refine hK _ _ ?_)); clear hK K)); refine hK _ _ ?_; clear hK K)) | (refine a_bin ?_ ?_ <;> intro _ <;> try (exfalso; omega)) | refine a_ld hl ?_ | (refine a_st hl ?_; clear hl; intro _ hl) | refine a_ix (fun _ => ?_) | fail)
    refine wk_ret (retQ_tmp1 Tryd.results27 (by decide) rfl (by conv => lhs; whnf) ?_)
    refine ⟨?_, he⟩
    rw [hB, decide_eq_false (fun h => by omega)]; rfl
end Go.Proofs

/-
  Formulas: the laws, in plain Lean.
-/
set_option linter.unusedVariables false
set_option linter.unusedSimpArgs false
set_option linter.unnecessarySimpa false
set_option maxRecDepth 10000
namespace Go.Fo
open Go.Lexs Go.Fin

theorem firstE_mem {F : List Fact} {known : List UInt8 → Bool} : ∀ {l : List Fm}, firstE F known l = 0 ↔ ∀ x ∈ l, nodeE F known x = 0
  | [] => by simp [firstE]
  | f :: l => by
    simp only [firstE, List.forall_mem_cons]
    by_cases h : nodeE F known f = 0
    · simp [h, firstE_mem]
    · simp [h]
theorem nodeE_mono {F : List Fact} {known : List UInt8 → Bool} {x : Fm} (h : nodeE F known x = 0) : nodeE F (fun _ => true) x = 0 := by
  unfold nodeE at *
  split at h
  · cases h
  · rename_i h1
    rw [if_neg h1]
    split at h
    · cases h
    · rename_i h2
      rw [if_neg h2]
      split at h
      · cases h
      · rename_i h3
        rw [if_neg]
        rintro (h4 | h4)
        · exact h3 (.inl h4)
        · exact absurd h4.2 (by simp)
theorem right_of {F : List Fact} {known : List UInt8 → Bool} {f : Fm} (h : firstE F known (pre f) = 0) : Right F f := firstE_mem.2 fun x hx => nodeE_mono (firstE_mem.1 h x hx)

theorem checkE_zero {F : List Fact} {known : List UInt8 → Bool} {f : Fm} : checkE F known f = 0 ↔ cnt f ≤ 200 ∧ dep f ≤ 20 ∧ firstE F known (pre f) = 0 := by
  unfold checkE
  split
  · rename_i h
    constructor
    · intro h'; cases h'
    · rintro ⟨h1, h2, -⟩; omega
  · rename_i h
    exact ⟨fun h' => ⟨by omega, by omega, h'⟩, fun h' => h'.2.2⟩

theorem goodB_iff {F : List Fact} {c : List Int} {f : Fm} : goodB F c f = true ↔ (cnt f ≤ 60 ∧ dep f ≤ 16) ∧ fitsB F c = true ∧ checkE F (fun s => (termsOf f).contains s) f = 0 := by
  unfold goodB
  simp only [Bool.and_eq_true, decide_eq_true_eq]
theorem good_right {F : List Fact} {c : List Int} {f : Fm} (h : goodB F c f = true) : Right F f := right_of (checkE_zero.1 (goodB_iff.1 h).2.2).2.2

theorem holdsB_eval {F : List Fact} {c : List Int} {T : List (List UInt8)} {f : Fm} (h1 : cnt f ≤ 200) (h2 : dep f ≤ 20) (h3 : Right F f) (h4 : fitsB F c = true) : holdsB F c T f = eval F c T f := by
  unfold holdsB
  rw [decide_eq_true (checkE_zero.2 ⟨h1, h2, h3⟩), h4, Bool.true_and, Bool.true_and]


def bth (op : Int) (l : List Fm) : Fm := .node op [] 0 0 l
def tst (s : List UInt8) (cm n : Int) : Fm := .node 3 s cm n []

theorem mem_preL {x : Fm} : ∀ {ks : List Fm}, x ∈ preL ks → ∃ i, ∃ hi : i < ks.length, x ∈ pre ks[i]
  | [], h => by simp [preL] at h
  | k :: ks, h => by
    simp only [preL, List.mem_append] at h
    rcases h with h | h
    · exact ⟨0, by simp, h⟩
    · obtain ⟨i, hi, h1⟩ := mem_preL h
      exact ⟨i + 1, by simp; omega, by simpa using h1⟩
theorem right_bth {F : List Fact} {op : Int} {ks : List Fm} (ho : (op = 5 ∧ ks.length = 1) ∨ ((op = 6 ∨ op = 7) ∧ 2 ≤ ks.length)) (h : ∀ k ∈ ks, Right F k) : Right F (bth op ks) := by
  refine firstE_mem.2 fun x hx => ?_
  rw [pre_eq] at hx
  rcases List.mem_cons.1 hx with rfl | hx
  · have hf : formed (bth op ks) = true := by
      unfold formed bth
      simp only [Fm.op, Fm.name, Fm.cmp, Fm.num, Fm.kids]
      rcases ho with ⟨rfl, h⟩ | ⟨rfl | rfl, h⟩ <;> simp [h]
    unfold nodeE
    rw [hf, if_neg (by decide), if_neg (by simp only [bth, Fm.op]; omega), if_neg (by simp only [bth, Fm.op]; omega)]
  · replace hx : x ∈ preL ks := hx
    obtain ⟨i, hi, hxi⟩ := mem_preL hx
    exact firstE_mem.1 (h _ (List.getElem_mem hi)) x hxi

theorem cnt_bth (op : Int) (ks : List Fm) : cnt (bth op ks) = 1 + cntL ks := rfl
theorem dep_bth (op : Int) (ks : List Fm) : dep (bth op ks) = depL ks + 1 := rfl
theorem eval_not (F : List Fact) (c : List Int) (T : List (List UInt8)) (f : Fm) : eval F c T (bth 5 [f]) = !(eval F c T f) := by rw [eval_eq]; simp [bth, Fm.op, Fm.kids, evalFirst]
theorem eval_and (F : List Fact) (c : List Int) (T : List (List UInt8)) (f g : Fm) : eval F c T (bth 6 [f, g]) = (eval F c T f && eval F c T g) := by rw [eval_eq]; simp [bth, Fm.op, Fm.kids]
theorem eval_or (F : List Fact) (c : List Int) (T : List (List UInt8)) (f g : Fm) : eval F c T (bth 7 [f, g]) = (eval F c T f || eval F c T g) := by rw [eval_eq]; simp [bth, Fm.op, Fm.kids]

/-! ### Tests -/
theorem idx_at {F : List Fact} (h : validD F = true) {i : Nat} (hi : i < F.length) : idx F F[i].name = some i := by
  refine idx_some hi rfl fun j hj hji he => ?_
  unfold validD at h
  simp only [Bool.and_eq_true, decide_eq_true_eq] at h
  have hnd := h.1.2
  have h1 : (F.map (·.name))[j]? = (F.map (·.name))[i]? := by simp [hj, hi, he]
  have := (List.getElem?_inj (by simpa using hj) hnd).1 h1
  omega
theorem valid_nm {F : List Fact} (h : validD F = true) {i : Nat} (hi : i < F.length) : Nm F[i].name = true := by
  unfold validD at h
  simp only [Bool.and_eq_true, List.all_eq_true] at h
  exact ((factOk_iff _).1 (h.1.1 _ (List.getElem_mem hi))).2

theorem holds_tst {F : List Fact} {c : List Int} {T : List (List UInt8)} {i : Nat} {k n : Int} (hv : fitsB F c = true) (hi : i < F.length) (hc : i < c.length) (h0 : 0 ≤ n) (h1 : n ≤ 1000000) : holdsB F c T (tst F[i].name k n) = (decide (1 ≤ k ∧ k ≤ 6) && cmpB c[i] k n) := by
  have hvd : validD F = true := by unfold fitsB at hv; exact (Bool.and_eq_true_iff.1 hv).1
  have hix := idx_at hvd hi
  have hnm := valid_nm hvd hi
  by_cases hk : 1 ≤ k ∧ k ≤ 6
  · have hR : Right F (tst F[i].name k n) := by
      refine firstE_mem.2 fun x hx => ?_
      rw [pre_eq] at hx
      simp only [tst, Fm.kids, preL, List.mem_singleton] at hx
      subst hx
      unfold nodeE
      have hf : formed (.node 3 F[i].name k n []) = true := by unfold formed; simp [Fm.op, Fm.name, Fm.cmp, Fm.num, Fm.kids, hnm, hk.1, hk.2]
      rw [hf, if_neg (by decide), if_neg (by simp only [Fm.op, Fm.num]; omega), if_neg]
      simp only [Fm.op, Fm.name, hix]
      rintro (⟨-, h⟩ | ⟨h, -⟩)
      · cases h
      · omega
    rw [holdsB_eval (by simp [tst, cnt, cntL]) (by simp [tst, dep, depL]) hR hv, eval_eq, decide_eq_true hk, Bool.true_and]
    simp only [tst, Fm.op, Fm.name, Fm.cmp, Fm.num, if_true]
    unfold valAt
    rw [hix]
    simp [List.getD, hc]
  · have hf : formed (tst F[i].name k n) = false := by
      unfold formed tst
      simp only [Fm.op, Fm.name, Fm.cmp, Fm.num, Fm.kids]
      by_cases h : 1 ≤ k
      · have : ¬ k ≤ 6 := fun h' => hk ⟨h, h'⟩
        simp [this]
      · simp [h]
    have hn : nodeE F (fun _ => true) (tst F[i].name k n) = 1 := by unfold nodeE; rw [hf, if_pos rfl]
    have hck : checkE F (fun _ => true) (tst F[i].name k n) ≠ 0 := fun h => by
      have := firstE_mem.1 (checkE_zero.1 h).2.2 (tst F[i].name k n) (by rw [pre_eq]; exact List.mem_cons_self)
      rw [hn] at this
      cases this
    unfold holdsB
    rw [decide_eq_false hck, decide_eq_false hk]
    rfl
end Go.Fo

/-
  Formulas: the statements' examples.
-/
set_option linter.unusedVariables false
set_option linter.unusedSimpArgs false
set_option linter.unnecessarySimpa false
set_option maxRecDepth 10000
namespace Go.Pd
theorem LH.add {w0 w : World} {M : Nat → Prop} {l : List (Nat × Obj)} {b : Nat} {o : Obj} (h : LH w0 M w l) (hb : w.heap[b]? = some o) (hf : w0.heap.size ≤ b) (hn : b ∉ l.map (·.1)) : LH w0 M w ((b, o) :: l) := by
  refine ⟨h.upd, fun p hp => ?_, fun p hp => ?_, List.nodup_cons.2 ⟨hn, h.nd⟩⟩
  · rcases List.mem_cons.1 hp with rfl | hp
    · exact hb
    · exact h.own p hp
  · rcases List.mem_cons.1 hp with rfl | hp
    · exact .inl hf
    · exact h.fresh p hp
end Go.Pd
namespace Go.Proofs
open Go Go.Pd Go.Lexs Go.Fin Go.Fo
attribute [local irreducible] OpsL W RetQ OpsQ OpsC

theorem KR.empty {w w' : World} {G G' : Nat → Prop} {kv : Value} (h : KR w G [] kv) (hm : ∀ b, G b → G' b) : KR w' G' [] kv := by
  cases h with
  | mk ps he hs hg hk =>
    obtain rfl : ps = [] := List.map_eq_nil_iff.1 he
    refine .mk [] rfl ?_ (fun h => absurd rfl h) (fun _ h => nomatch h)
    rcases hs with h | ⟨a, m, c, h1, h2, h3, h4, h5⟩
    · exact .inl h
    · exact .inr ⟨a, m, c, h1, h2, h3, h4, fun i v hi => by simp at hi⟩

/-- A list of formulas somewhere in memory. -/
def KA (w : World) (ks : List Fm) (kv : Value) : Prop := KR w (fun b => b < w.heap.size) ks kv
theorem KA.ext {w w' : World} {ks : List Fm} {kv : Value} (h : KA w ks kv) (e : Ext w w') : KA w' ks kv := (KR.ext h e).mono fun b hb => Nat.lt_of_lt_of_le hb e.size
theorem KA.nil (w : World) : KA w [] (.slice none 0 0) := KR.nil _ _
theorem KA.row {w : World} {b c : Nat} {ks : List Fm} (ps : List (Fm × Value)) (he : ps.map (·.1) = ks) (hr : Row w b 0 (ps.flatMap kidL)) (hc : ps.length ≤ c) (hb : b < w.heap.size) (hk : ∀ p ∈ ps, KA w p.1.kids p.2) : KA w ks (.slice (some ⟨b, 0, none⟩) ps.length c) :=
  .mk ps he (.mk (kidL_flat ps) hc hr) (fun _ h => h hb) hk
theorem lt_of_row {w : World} {b o : Nat} {v : Value} {vs : List Value} (h : Row w b o (v :: vs)) : b < w.heap.size := lt_of_cell (h 0 v rfl)
theorem KA.one {w : World} {b c : Nat} {f : Fm} {kv : Value} (hr : Row w b 0 (fmL f kv)) (hc : 1 ≤ c) (hk : KA w f.kids kv) : KA w [f] (.slice (some ⟨b, 0, none⟩) 1 c) :=
  KA.row [(f, kv)] rfl (by simpa [kidL] using hr) hc (lt_of_row hr) fun p hp => by rw [List.mem_singleton.1 hp]; exact hk
theorem KA.two {w : World} {b c : Nat} {f g : Fm} {kv lv : Value} (hr : Row w b 0 (fmL f kv ++ fmL g lv)) (hc : 2 ≤ c) (hk : KA w f.kids kv) (hl : KA w g.kids lv) : KA w [f, g] (.slice (some ⟨b, 0, none⟩) 2 c) :=
  KA.row [(f, kv), (g, lv)] rfl (by simpa [kidL] using hr) hc (lt_of_row hr) fun p hp => by
    rcases List.mem_cons.1 hp with rfl | hp
    · exact hk
    · rw [List.mem_singleton.1 hp]; exact hl
theorem KA.three {w : World} {b c : Nat} {f g h : Fm} {kv lv mv : Value} (hr : Row w b 0 (fmL f kv ++ (fmL g lv ++ fmL h mv))) (hc : 3 ≤ c) (hk : KA w f.kids kv) (hl : KA w g.kids lv) (hm : KA w h.kids mv) : KA w [f, g, h] (.slice (some ⟨b, 0, none⟩) 3 c) :=
  KA.row [(f, kv), (g, lv), (h, mv)] rfl (by simpa [kidL] using hr) hc (lt_of_row hr) fun p hp => by
    rcases List.mem_cons.1 hp with rfl | hp
    · exact hk
    rcases List.mem_cons.1 hp with rfl | hp
    · exact hl
    · rw [List.mem_singleton.1 hp]; exact hm

def F0 : List Fact := [⟨[97, 103, 101], 2, 0, 150⟩, ⟨[109, 101, 109, 98, 101, 114], 1, 0, 1⟩]
def c0 : List Int := [20, 0]
def sAge : List UInt8 := [97, 103, 101]
def sMem : List UInt8 := [109, 101, 109, 98, 101, 114]
def sAd : List UInt8 := [97, 100, 117, 108, 116]
def f0 : Fm := bth 6 [tst sAge 6 18, bth 5 [tst sMem 1 1]]
def ad0 : Fm := .node 4 sAd 0 0 []
def yg0 : Fm := tst sAge 3 18

theorem ex1 : holdsB F0 c0 [] f0 = true := by decide +kernel
theorem ex2 : holdsB F0 c0 [sAd] ad0 = true := by decide +kernel
theorem ex3 : holdsB F0 c0 [] ad0 = false := by decide +kernel
theorem ex4 : holdsB F0 c0 [] yg0 = false := by decide +kernel
theorem ex5 : checkE F0 (fun s => ([] : List (List UInt8)).contains s) (tst sAge 1 1000001) = 10 := by decide +kernel
theorem ex6 : checkE F0 (fun s => ([] : List (List UInt8)).contains s) ad0 = 7 := by decide +kernel
theorem ex7 : checkE F0 (fun s => ([] : List (List UInt8)).contains s) f0 = 0 := by decide +kernel
theorem ex8 : checkE F0 (fun s => ([] : List (List UInt8)).contains s) (bth 6 [f0]) = 1 := by decide +kernel
theorem ex9 : fitsB F0 c0 = true := by decide +kernel
theorem ex10 : termsOf (bth 7 [ad0, f0, ad0]) = [sAd] := by decide +kernel
theorem ex11 : expand sAd yg0 ad0 = yg0 := by decide +kernel
theorem ex12 : cnt f0 = 4 ∧ dep f0 = 3 := by decide +kernel
theorem ex13 : f0 ≠ ad0 := by decide +kernel

set_option maxHeartbeats 8000000 in
theorem head_calls (w : World) : Calls Tryd.prog 10 #[] w (fun e w' => ∃ x, e = .returned x ∧ x = .bool true ∧ Ext w w') := by
  refine calls_of Tryd.func10 rfl Tryd.ntmps10 rfl ?_
  repeat' (first | refine a_mov ?_ | refine a_asg ?_ | refine a_binN ?_ | refine a_notd ?_ | refine a_notb ?_ | refine a_nilc ?_ | refine a_fa ?_ | refine a_ext ?_ | refine a_lenv ?_ | refine a_lens ?_ | refine a_pick_t ?_ | refine a_pick_f ?_ | refine a_not ?_ | refine a_nilf ?_ | (refine o_nil (hK _ _ ?_); clear hK K) | refine wk_reg ?_ | refine wk_seq fun K hK => ?_ | (refine wk_skip (hK _ _ ?_); clear hK K) | (refine wk_label (hK _ _ ?_); clear hK K) | refine wk_scope ?_ | refine wk_block ?_ | refine wk_cond_t rfl ?_ | refine wk_cond_f rfl ?_ | (refine wk_exit ?_; (repeat (refine blockK_other rfl ?_)); refine blockK_same ?_; try ((repeat ((fail_if_success (refine hK _ _ ?_)); clear hK K)); refine hK _ _ ?_; clear hK K)) | (refine a_bin ?_ ?_ <;> intro _ <;> try (exfalso; omega)) | refine a_ld hl ?_ | (refine a_st hl ?_; clear hl; intro _ hl) | refine a_ix (fun _ => ?_) | fail)
  refine o_build [str sAge, .int .i64 2, .int .i64 0, .int .i64 150] rfl (by simp only [str_eq]; kernel_rfl) ?_
  refine o_build [str sMem, .int .i64 1, .int .i64 0, .int .i64 1] rfl (by simp only [str_eq]; kernel_rfl) ?_
  refine o_buildSlice (LH.start w (fun _ => False)) (factsL F0) rfl rfl (by simp only [factsL, factL, F0, List.flatMap_cons, str_eq]; kernel_rfl) ?_
  intro bd w1 hbd hl
  have hd : Sl w1 (.slice (some ⟨bd, 0, none⟩) 2 2) 4 (factsL F0) := Sl.mk rfl (Nat.le_refl _) (hl.rowL (vs := factsL F0) 0 0 8 rfl)
  have he := hl.done
  clear hl
  refine o_build [.slice (some ⟨bd, 0, none⟩) 2 2] rfl (by kernel_rfl) ?_
  refine o_alloc (LH.start w1 (fun _ => False)) [.slice none 0 0] rfl rfl ?_
  intro b1 w2 hb1 hl
  refine o_putN (us := [.slice (some ⟨bd, 0, none⟩) 2 2]) hl rfl rfl rfl rfl rfl (.all rfl rfl) ?_
  clear hl
  intro w3 hl
  have r1 : Row w3 b1 0 [.slice (some ⟨bd, 0, none⟩) 2 2] := hl.rowL (vs := [.slice (some ⟨bd, 0, none⟩) 2 2]) 0 0 1 rfl
  replace hd := hd.ext hl.done
  replace he := he.trans hl.done
  clear hl
  repeat' (first | refine a_mov ?_ | refine a_asg ?_ | refine a_binN ?_ | refine a_notd ?_ | refine a_notb ?_ | refine a_nilc ?_ | refine a_fa ?_ | refine a_ext ?_ | refine a_lenv ?_ | refine a_lens ?_ | refine a_pick_t ?_ | refine a_pick_f ?_ | refine a_not ?_ | refine a_nilf ?_ | (refine o_nil (hK _ _ ?_); clear hK K) | refine wk_reg ?_ | refine wk_seq fun K hK => ?_ | (refine wk_skip (hK _ _ ?_); clear hK K) | (refine wk_label (hK _ _ ?_); clear hK K) | refine wk_scope ?_ | refine wk_block ?_ | refine wk_cond_t rfl ?_ | refine wk_cond_f rfl ?_ | (refine wk_exit ?_; (repeat (refine blockK_other rfl ?_)); refine blockK_same ?_; try ((repeat ((fail_if_success (refine hK _ _ ?_)); clear hK K)); refine hK _ _ ?_; clear hK K)) | (refine a_bin ?_ ?_ <;> intro _ <;> try (exfalso; omega)) | refine a_ld hl ?_ | (refine a_st hl ?_; clear hl; intro _ hl) | refine a_ix (fun _ => ?_) | fail)
  refine o_buildSlice (LH.start w3 (fun _ => False)) [.int .i64 20, .int .i64 0] rfl rfl (by kernel_rfl) ?_
  intro bc w4 hbc hl
  have hc : Sl w4 (.slice (some ⟨bc, 0, none⟩) 2 2) 1 (intsL c0) := Sl.mk rfl (Nat.le_refl _) (hl.rowL (vs := intsL c0) 0 0 2 rfl)
  replace hd := hd.ext hl.done
  replace r1 := r1.ext hl.done
  replace he := he.trans hl.done
  clear hl
  repeat' (first | refine a_mov ?_ | refine a_asg ?_ | refine a_binN ?_ | refine a_notd ?_ | refine a_notb ?_ | refine a_nilc ?_ | refine a_fa ?_ | refine a_ext ?_ | refine a_lenv ?_ | refine a_lens ?_ | refine a_pick_t ?_ | refine a_pick_f ?_ | refine a_not ?_ | refine a_nilf ?_ | (refine o_nil (hK _ _ ?_); clear hK K) | refine wk_reg ?_ | refine wk_seq fun K hK => ?_ | (refine wk_skip (hK _ _ ?_); clear hK K) | (refine wk_label (hK _ _ ?_); clear hK K) | refine wk_scope ?_ | refine wk_block ?_ | refine wk_cond_t rfl ?_ | refine wk_cond_f rfl ?_ | (refine wk_exit ?_; (repeat (refine blockK_other rfl ?_)); refine blockK_same ?_; try ((repeat ((fail_if_success (refine hK _ _ ?_)); clear hK K)); refine hK _ _ ?_; clear hK K)) | (refine a_bin ?_ ?_ <;> intro _ <;> try (exfalso; omega)) | refine a_ld hl ?_ | (refine a_st hl ?_; clear hl; intro _ hl) | refine a_ix (fun _ => ?_) | fail)
  refine a_fn (test_calls sAge 6 18 w4) ?_ (hargs := by simp only [str_eq]; rfl)
  rintro _ w5 ⟨rfl, he5⟩
  refine a_fn (test_calls sMem 1 1 w5) ?_ (hargs := by simp only [str_eq]; rfl)
  rintro _ w6 ⟨rfl, he6⟩
  refine o_buildSlice (LH.start w6 (fun _ => False)) (fmL (tst sMem 1 1) (.slice none 0 0)) rfl rfl (by simp only [fmL, tst, str_eq]; kernel_rfl) ?_
  intro bk w7 hbk hl
  have k1 : KA w7 [tst sMem 1 1] (.slice (some ⟨bk, 0, none⟩) 1 1) := .one (hl.rowL (vs := fmL (tst sMem 1 1) (.slice none 0 0)) 0 0 5 rfl) (Nat.le_refl _) (.nil _)
  have he7 := (he5.trans he6).trans hl.done
  replace hd := hd.ext he7
  replace hc := hc.ext he7
  replace r1 := r1.ext he7
  replace he := he.trans he7
  clear hl he5 he6 he7
  refine a_fn (both_calls 5 [tst sMem 1 1] _ ⟨_, _, rfl⟩ w7) ?_
  rintro _ w8 ⟨rfl, he8⟩
  refine o_buildSlice (LH.start w8 (fun _ => False)) (fmL (tst sAge 6 18) (.slice none 0 0) ++ fmL (bth 5 [tst sMem 1 1]) (.slice (some ⟨bk, 0, none⟩) 1 1)) rfl rfl (by simp only [fmL, tst, bth, Fm.op, Fm.name, Fm.cmp, Fm.num, str_eq]; kernel_rfl) ?_
  intro bj w9 hbj hl
  have hrow : Row w9 bj 0 (fmL (tst sAge 6 18) (.slice none 0 0) ++ fmL (bth 5 [tst sMem 1 1]) (.slice (some ⟨bk, 0, none⟩) 1 1)) := hl.rowL (vs := fmL (tst sAge 6 18) (.slice none 0 0) ++ fmL (bth 5 [tst sMem 1 1]) (.slice (some ⟨bk, 0, none⟩) 1 1)) 0 0 10 rfl
  have he9 := he8.trans hl.done
  have k2 : KA w9 f0.kids (.slice (some ⟨bj, 0, none⟩) 2 2) := .two hrow (Nat.le_refl _) (.nil _) (k1.ext he9)
  replace hd := hd.ext he9
  replace hc := hc.ext he9
  replace r1 := r1.ext he9
  replace he := he.trans he9
  clear hl he8 he9 k1 hrow
  refine a_fn (both_calls 6 f0.kids _ ⟨_, _, rfl⟩ w9) ?_
  rintro _ w10 ⟨rfl, he10⟩
  refine o_alloc (LH.start w10 (fun _ => False)) [.int .i64 0, .string ⟨#[]⟩, .int .i64 0, .int .i64 0, .slice none 0 0] rfl rfl ?_
  intro b3 w11 hb3 hl
  refine o_putN (us := fmL f0 (.slice (some ⟨bj, 0, none⟩) 2 2)) hl rfl rfl rfl (by simp only [fmL, str_eq]; rfl) rfl (.all rfl rfl) ?_
  clear hl
  intro w12 hl
  have r3 : Row w12 b3 0 (fmL f0 (.slice (some ⟨bj, 0, none⟩) 2 2)) := hl.rowL (vs := fmL f0 (.slice (some ⟨bj, 0, none⟩) 2 2)) 0 0 5 rfl
  have he12 := he10.trans hl.done
  replace hd := hd.ext he12
  replace hc := hc.ext he12
  replace r1 := r1.ext he12
  replace k2 := k2.ext he12
  replace he := he.trans he12
  clear hl he10 he12
  repeat' (first | refine a_mov ?_ | refine a_asg ?_ | refine a_binN ?_ | refine a_notd ?_ | refine a_notb ?_ | refine a_nilc ?_ | refine a_fa ?_ | refine a_ext ?_ | refine a_lenv ?_ | refine a_lens ?_ | refine a_pick_t ?_ | refine a_pick_f ?_ | refine a_not ?_ | refine a_nilf ?_ | (refine o_nil (hK _ _ ?_); clear hK K) | refine wk_reg ?_ | refine wk_seq fun K hK => ?_ | (refine wk_skip (hK _ _ ?_); clear hK K) | (refine wk_label (hK _ _ ?_); clear hK K) | refine wk_scope ?_ | refine wk_block ?_ | refine wk_cond_t rfl ?_ | refine wk_cond_f rfl ?_ | (refine wk_exit ?_; (repeat (refine blockK_other rfl ?_)); refine blockK_same ?_; try ((repeat ((fail_if_success (refine hK _ _ ?_)); clear hK K)); refine hK _ _ ?_; clear hK K)) | (refine a_bin ?_ ?_ <;> intro _ <;> try (exfalso; omega)) | refine a_ld hl ?_ | (refine a_st hl ?_; clear hl; intro _ hl) | refine a_ix (fun _ => ?_) | fail)
  refine o_build (fmL ad0 (.slice none 0 0)) rfl (by simp only [fmL, ad0, sAd, Fm.op, Fm.name, Fm.cmp, Fm.num, str_eq]; kernel_rfl) ?_
  refine o_alloc (LH.start w12 (fun _ => False)) [.int .i64 0, .string ⟨#[]⟩, .int .i64 0, .int .i64 0, .slice none 0 0] rfl rfl ?_
  intro b4 w13 hb4 hl
  refine o_putN (us := fmL ad0 (.slice none 0 0)) hl rfl rfl rfl (by simp only [fmL, str_eq]; rfl) rfl (.all rfl rfl) ?_
  clear hl
  intro w14 hl
  have r4 : Row w14 b4 0 (fmL ad0 (.slice none 0 0)) := hl.rowL (vs := fmL ad0 (.slice none 0 0)) 0 0 5 rfl
  have he14 := hl.done
  replace hd := hd.ext he14
  replace hc := hc.ext he14
  replace r1 := r1.ext he14
  replace r3 := r3.ext he14
  replace k2 := k2.ext he14
  replace he := he.trans he14
  clear hl he14
  repeat' (first | refine a_mov ?_ | refine a_asg ?_ | refine a_binN ?_ | refine a_notd ?_ | refine a_notb ?_ | refine a_nilc ?_ | refine a_fa ?_ | refine a_ext ?_ | refine a_lenv ?_ | refine a_lens ?_ | refine a_pick_t ?_ | refine a_pick_f ?_ | refine a_not ?_ | refine a_nilf ?_ | (refine o_nil (hK _ _ ?_); clear hK K) | refine wk_reg ?_ | refine wk_seq fun K hK => ?_ | (refine wk_skip (hK _ _ ?_); clear hK K) | (refine wk_label (hK _ _ ?_); clear hK K) | refine wk_scope ?_ | refine wk_block ?_ | refine wk_cond_t rfl ?_ | refine wk_cond_f rfl ?_ | (refine wk_exit ?_; (repeat (refine blockK_other rfl ?_)); refine blockK_same ?_; try ((repeat ((fail_if_success (refine hK _ _ ?_)); clear hK K)); refine hK _ _ ?_; clear hK K)) | (refine a_bin ?_ ?_ <;> intro _ <;> try (exfalso; omega)) | refine a_ld hl ?_ | (refine a_st hl ?_; clear hl; intro _ hl) | refine a_ix (fun _ => ?_) | fail)
  refine wk_last (List.dropLast_concat_getLast (by simp)).symm (by kernel_rfl) ?_
  refine any_grow [([0, 1], [2, 3]), ([], [])] ?_ (fun _ _ _ _ h => by first | exact h | (simp only [BlockK, NoGoto, RetQ] at h)) (by kernel_rfl)
  refine g_two (fun v w' => ∃ kv, v = .agg (fmL yg0 kv).toArray ∧ KA w' yg0.kids kv) (fun v w' => ∃ b, v = .pointer (some ⟨b, 0, none⟩) ∧ w14.heap.size ≤ b ∧ w'.heap[b]? = some (.cells #[.int .i64 0, .string ⟨#[]⟩, .int .i64 0, .int .i64 0, .slice none 0 0] 24 (0, 0)))
    (fun v w w' ⟨kv, h1, h2⟩ e => ⟨kv, h1, h2.ext e⟩) (fun v w w' ⟨b, h1, h2, h3⟩ e => ⟨b, h1, h2, (e.same b (Array.getElem?_eq_some_iff.1 h3).1 (fun h => h)).trans h3⟩) ?_
  refine x_all (fun w_ hw_ => r4.ext hw_) ?_
  refine x_fn (v := .agg (fmL yg0 (.slice none 0 0)).toArray) (fun w' hw' => test_calls sAge 3 18 w') ?_ (hargs := by simp only [str_eq]; rfl)
  refine x_nil ⟨fun v1 v2 => p_fn (args := #[.agg (fmL ad0 (.slice none 0 0)).toArray, str sAd, .agg (fmL yg0 (.slice none 0 0)).toArray]) (fun w' hw' _ => ?_) (hargs := by simp only [str_eq]; rfl), fun v1 v2 => p_walk rfl rfl rfl fun w' hw' _ => ?_, ?_⟩
  · refine Calls.mono (expand_calls sAd yg0 ad0 w' (fun b => b < w'.heap.size) (.slice none 0 0) (.slice none 0 0) (KA.nil _) (KA.nil _) (fun b h => h) (by decide +kernel)) ?_
    rintro e w'' ⟨x, h1, ⟨kv', h2, h3⟩, h4⟩
    rw [ex11] at h2 h3
    exact ⟨x, h1, ⟨kv', h2, h3.mono fun b hb => hb.2⟩, h4⟩
  · refine o_alloc (LH.start w' (fun _ => False)) [.int .i64 0, .string ⟨#[]⟩, .int .i64 0, .int .i64 0, .slice none 0 0] rfl rfl ?_
    intro b w'' hb hl
    exact o_nil ⟨_, rfl, hl.done, b, rfl, Nat.le_trans hw'.size hb, hl.get 0 rfl⟩
  rintro _ _ w15 hw15 ⟨kv, rfl, k5⟩ ⟨b5, rfl, hb5, hc5⟩
  obtain ⟨ka, kc, rfl, -⟩ := k5.shape
  refine g_end (x_nil fun w16 hw16 => ?_)
  have hl : LH w14 (fun _ => False) w16 [(b5, Obj.cells #[.int .i64 0, .string ⟨#[]⟩, .int .i64 0, .int .i64 0, .slice none 0 0] 24 (0, 0))] := ((LH.start w14 (fun _ => False)).ext (hw15.trans hw16)).add ((hw16.same b5 (Array.getElem?_eq_some_iff.1 hc5).1 (fun h => h)).trans hc5) hb5 (by simp)
  have hrb := hl.rb
  refine o_putN (us := fmL yg0 (.slice ka yg0.kids.length kc)) hrb rfl rfl rfl (by simp only [fmL, str_eq]; rfl) rfl (.all rfl rfl) ?_
  intro w17 hl2
  have r5 : Row w17 b5 0 (fmL yg0 (.slice ka yg0.kids.length kc)) := hl2.rowL (vs := fmL yg0 (.slice ka yg0.kids.length kc)) 0 0 5 rfl
  have he17 := (hl.bk hl2).done
  have hsz : w15.heap.size ≤ w17.heap.size := Nat.le_trans hw16.size hl2.upd.size
  replace k5 : KA w17 yg0.kids (.slice ka yg0.kids.length kc) := KR.empty k5 fun b hb => Nat.lt_of_lt_of_le hb hsz
  refine o_nil (hK _ _ ?_)
  clear hK K
  replace hd := hd.ext he17
  replace hc := hc.ext he17
  replace r1 := r1.ext he17
  replace r3 := r3.ext he17
  replace r4 := r4.ext he17
  replace k2 := k2.ext he17
  replace he := he.trans he17
  clear hl hl2 hrb hc5 hw16 hw15 he17
  have hF : F0.length ≤ 9223372036854775806 := by decide +kernel
  have hC : c0.length ≤ 9223372036854775806 := by decide +kernel
  have hN : ∀ f ∈ F0, f.name.length ≤ 9223372036854775806 := by decide +kernel
  have sh2 : Short f0.kids := short_of (by decide +kernel)
  repeat' (first | refine a_mov ?_ | refine a_asg ?_ | refine a_binN ?_ | refine a_notd ?_ | refine a_notb ?_ | refine a_nilc ?_ | refine a_fa ?_ | refine a_ext ?_ | refine a_lenv ?_ | refine a_lens ?_ | refine a_pick_t ?_ | refine a_pick_f ?_ | refine a_not ?_ | refine a_nilf ?_ | (refine o_nil (hK _ _ ?_); clear hK K) | refine wk_reg ?_ | refine wk_seq fun K hK => ?_ | (refine wk_skip (hK _ _ ?_); clear hK K) | (refine wk_label (hK _ _ ?_); clear hK K) | refine wk_scope ?_ | refine wk_block ?_ | refine wk_cond_t rfl ?_ | refine wk_cond_f rfl ?_ | (refine wk_exit ?_; (repeat (refine blockK_other rfl ?_)); refine blockK_same ?_; try ((repeat ((fail_if_success (refine hK _ _ ?_)); clear hK K)); refine hK _ _ ?_; clear hK K)) | (refine a_bin ?_ ?_ <;> intro _ <;> try (exfalso; omega)) | refine a_ld hl ?_ | (refine a_st hl ?_; clear hl; intro _ hl) | refine a_ix (fun _ => ?_) | refine a_all r3 ?_)
  refine a_fn (size_calls f0 w17 _ _ k2 (by decide +kernel)) ?_
  rintro _ w18 ⟨rfl, he18⟩
  rw [ex12.1, ex12.2]
  repeat' (first | refine a_mov ?_ | refine a_asg ?_ | refine a_binN ?_ | refine a_notd ?_ | refine a_notb ?_ | refine a_nilc ?_ | refine a_fa ?_ | refine a_ext ?_ | refine a_lenv ?_ | refine a_lens ?_ | refine a_pick_t ?_ | refine a_pick_f ?_ | refine a_not ?_ | refine a_nilf ?_ | (refine o_nil (hK _ _ ?_); clear hK K) | refine wk_reg ?_ | refine wk_seq fun K hK => ?_ | (refine wk_skip (hK _ _ ?_); clear hK K) | (refine wk_label (hK _ _ ?_); clear hK K) | refine wk_scope ?_ | refine wk_block ?_ | refine wk_cond_t rfl ?_ | refine wk_cond_f rfl ?_ | (refine wk_exit ?_; (repeat (refine blockK_other rfl ?_)); refine blockK_same ?_; try ((repeat ((fail_if_success (refine hK _ _ ?_)); clear hK K)); refine hK _ _ ?_; clear hK K)) | (refine a_bin ?_ ?_ <;> intro _ <;> try (exfalso; omega)) | refine a_ld hl ?_ | (refine a_st hl ?_; clear hl; intro _ hl) | refine a_ix (fun _ => ?_) | refine a_all (r3.ext he18) ?_ | refine a_all (r1.ext he18) ?_)
  refine a_fn (holds_calls F0 c0 [] hF hC (by decide +kernel) hN f0 w18 _ _ _ _ (.slice none 0 0) (k2.ext he18) (fun b h => h) (sh2) (by decide +kernel) (hd.ext he18) (hc.ext he18) (Sl.nil _ _)) ?_
  rintro _ w19 ⟨rfl, hx⟩
  replace he18 := he18.trans hx
  clear hx
  rw [ex1]
  repeat' (first | refine a_mov ?_ | refine a_asg ?_ | refine a_binN ?_ | refine a_notd ?_ | refine a_notb ?_ | refine a_nilc ?_ | refine a_fa ?_ | refine a_ext ?_ | refine a_lenv ?_ | refine a_lens ?_ | refine a_pick_t ?_ | refine a_pick_f ?_ | refine a_not ?_ | refine a_nilf ?_ | (refine o_nil (hK _ _ ?_); clear hK K) | refine wk_reg ?_ | refine wk_seq fun K hK => ?_ | (refine wk_skip (hK _ _ ?_); clear hK K) | (refine wk_label (hK _ _ ?_); clear hK K) | refine wk_scope ?_ | refine wk_block ?_ | refine wk_cond_t rfl ?_ | refine wk_cond_f rfl ?_ | (refine wk_exit ?_; (repeat (refine blockK_other rfl ?_)); refine blockK_same ?_; try ((repeat ((fail_if_success (refine hK _ _ ?_)); clear hK K)); refine hK _ _ ?_; clear hK K)) | (refine a_bin ?_ ?_ <;> intro _ <;> try (exfalso; omega)) | refine a_ld hl ?_ | (refine a_st hl ?_; clear hl; intro _ hl) | refine a_ix (fun _ => ?_) | refine a_all (r4.ext he18) ?_ | refine a_all (r1.ext he18) ?_)
  refine o_buildSlice (LH.start w19 (fun _ => False)) [str sAd] rfl rfl (by simp only [str_eq]; kernel_rfl) ?_
  intro bt w20 hbt hl
  have ht : Sl w20 (.slice (some ⟨bt, 0, none⟩) 1 1) 1 (strsL [sAd]) := Sl.mk rfl (Nat.le_refl _) (hl.rowL (vs := [str sAd]) 0 0 1 rfl)
  replace he18 := he18.trans hl.done
  clear hl
  refine a_fn (holds_calls F0 c0 [sAd] hF hC (by decide +kernel) hN ad0 w20 _ _ _ _ _ (KA.nil _) (fun b h => h) (short_of (by decide +kernel)) (by decide +kernel) (hd.ext he18) (hc.ext he18) ht) ?_
  rintro _ w21 ⟨rfl, hx⟩
  replace he18 := he18.trans hx
  clear hx
  rw [ex2]
  repeat' (first | refine a_mov ?_ | refine a_asg ?_ | refine a_binN ?_ | refine a_notd ?_ | refine a_notb ?_ | refine a_nilc ?_ | refine a_fa ?_ | refine a_ext ?_ | refine a_lenv ?_ | refine a_lens ?_ | refine a_pick_t ?_ | refine a_pick_f ?_ | refine a_not ?_ | refine a_nilf ?_ | (refine o_nil (hK _ _ ?_); clear hK K) | refine wk_reg ?_ | refine wk_seq fun K hK => ?_ | (refine wk_skip (hK _ _ ?_); clear hK K) | (refine wk_label (hK _ _ ?_); clear hK K) | refine wk_scope ?_ | refine wk_block ?_ | refine wk_cond_t rfl ?_ | refine wk_cond_f rfl ?_ | (refine wk_exit ?_; (repeat (refine blockK_other rfl ?_)); refine blockK_same ?_; try ((repeat ((fail_if_success (refine hK _ _ ?_)); clear hK K)); refine hK _ _ ?_; clear hK K)) | (refine a_bin ?_ ?_ <;> intro _ <;> try (exfalso; omega)) | refine a_ld hl ?_ | (refine a_st hl ?_; clear hl; intro _ hl) | refine a_ix (fun _ => ?_) | refine a_all (r4.ext he18) ?_ | refine a_all (r1.ext he18) ?_)
  refine a_fn (holds_calls F0 c0 [] hF hC (by decide +kernel) hN ad0 w21 _ _ _ _ (.slice none 0 0) (KA.nil _) (fun b h => h) (short_of (by decide +kernel)) (by decide +kernel) (hd.ext he18) (hc.ext he18) (Sl.nil _ _)) ?_
  rintro _ w22 ⟨rfl, hx⟩
  replace he18 := he18.trans hx
  clear hx
  rw [ex3]
  repeat' (first | refine a_mov ?_ | refine a_asg ?_ | refine a_binN ?_ | refine a_notd ?_ | refine a_notb ?_ | refine a_nilc ?_ | refine a_fa ?_ | refine a_ext ?_ | refine a_lenv ?_ | refine a_lens ?_ | refine a_pick_t ?_ | refine a_pick_f ?_ | refine a_not ?_ | refine a_nilf ?_ | (refine o_nil (hK _ _ ?_); clear hK K) | refine wk_reg ?_ | refine wk_seq fun K hK => ?_ | (refine wk_skip (hK _ _ ?_); clear hK K) | (refine wk_label (hK _ _ ?_); clear hK K) | refine wk_scope ?_ | refine wk_block ?_ | refine wk_cond_t rfl ?_ | refine wk_cond_f rfl ?_ | (refine wk_exit ?_; (repeat (refine blockK_other rfl ?_)); refine blockK_same ?_; try ((repeat ((fail_if_success (refine hK _ _ ?_)); clear hK K)); refine hK _ _ ?_; clear hK K)) | (refine a_bin ?_ ?_ <;> intro _ <;> try (exfalso; omega)) | refine a_ld hl ?_ | (refine a_st hl ?_; clear hl; intro _ hl) | refine a_ix (fun _ => ?_) | refine a_all (r5.ext he18) ?_ | refine a_all (r1.ext he18) ?_)
  refine a_fn (holds_calls F0 c0 [] hF hC (by decide +kernel) hN yg0 w22 _ _ _ _ (.slice none 0 0) (k5.ext he18) (fun b h => h) (short_of (by decide +kernel)) (by decide +kernel) (hd.ext he18) (hc.ext he18) (Sl.nil _ _)) ?_
  rintro _ w23 ⟨rfl, hx⟩
  replace he18 := he18.trans hx
  clear hx
  rw [ex4]
  repeat' (first | refine a_mov ?_ | refine a_asg ?_ | refine a_binN ?_ | refine a_notd ?_ | refine a_notb ?_ | refine a_nilc ?_ | refine a_fa ?_ | refine a_ext ?_ | refine a_lenv ?_ | refine a_lens ?_ | refine a_pick_t ?_ | refine a_pick_f ?_ | refine a_not ?_ | refine a_nilf ?_ | (refine o_nil (hK _ _ ?_); clear hK K) | refine wk_reg ?_ | refine wk_seq fun K hK => ?_ | (refine wk_skip (hK _ _ ?_); clear hK K) | (refine wk_label (hK _ _ ?_); clear hK K) | refine wk_scope ?_ | refine wk_block ?_ | refine wk_cond_t rfl ?_ | refine wk_cond_f rfl ?_ | (refine wk_exit ?_; (repeat (refine blockK_other rfl ?_)); refine blockK_same ?_; try ((repeat ((fail_if_success (refine hK _ _ ?_)); clear hK K)); refine hK _ _ ?_; clear hK K)) | (refine a_bin ?_ ?_ <;> intro _ <;> try (exfalso; omega)) | refine a_ld hl ?_ | (refine a_st hl ?_; clear hl; intro _ hl) | refine a_ix (fun _ => ?_) | fail)
  replace hd := hd.ext he18
  replace hc := hc.ext he18
  replace r1 := r1.ext he18
  replace r3 := r3.ext he18
  replace r4 := r4.ext he18
  replace k2 := k2.ext he18
  replace he := he.trans he18
  clear k5 r5 ht he18
  have nl := Sl.nil w23 1
  have sh4 : Short ad0.kids := short_of (by decide +kernel)
  have ck5 := fun w' (hw' : Ext w23 w') => Check_calls F0 [] hF (by decide +kernel) (tst sAge 1 1000001) w' _ (.slice none 0 0) _ (.slice none 0 0) (KA.nil _) (fun b h => h) (short_of (by decide +kernel)) (by decide +kernel) (hd.ext hw') (Sl.nil _ _)
  have ck6 := fun w' (hw' : Ext w23 w') => Check_calls F0 [] hF (by decide +kernel) ad0 w' _ (.slice none 0 0) _ (.slice none 0 0) (KA.nil _) (fun b h => h) sh4 (by decide +kernel) (hd.ext hw') (Sl.nil _ _)
  have ck7 := fun w' (hw' : Ext w23 w') => Check_calls F0 [] hF (by decide +kernel) f0 w' _ _ _ (.slice none 0 0) (k2.ext hw') (fun b h => h) sh2 (by decide +kernel) (hd.ext hw') (Sl.nil _ _)
  simp only [ex5] at ck5
  simp only [ex6] at ck6
  simp only [ex7] at ck7
  refine wk_grow [([0, 1, 2, 3, 4, 5, 6, 7, 8, 9, 10, 11, 12, 13, 14, 15, 16, 17, 20], [18]), ([19, 21, 22, 23, 24], [])] ?_
  refine g_one (fun v w' => ∃ b, v = .slice (some ⟨b, 0, none⟩) 1 1 ∧ Row w' b 0 (fmL f0 (.slice (some ⟨bj, 0, none⟩) 2 2))) (fun v w w' ⟨b, h1, h2⟩ e => ⟨b, h1, h2.ext e⟩) ?_
  refine x_fn (v := .agg (fmL (tst sAge 1 1000001) (.slice none 0 0)).toArray) (fun w' hw' => test_calls sAge 1 1000001 w') ?_ (hargs := by simp only [str_eq]; rfl)
  refine x_all (fun w_ hw_ => r1.ext hw_) ?_
  refine x_fn ck5 ?_
  repeat' (first | refine x_mov ?_ | refine x_asg ?_ | refine x_fa ?_ | refine x_ext ?_ | refine x_binN ?_ | refine x_notd ?_ | refine x_notb ?_ | refine x_pick_t ?_ | refine x_pick_f ?_ | refine x_nilc ?_ | refine x_skip ?_ | refine x_lens ?_ | refine x_lenv ?_ | refine x_ix (fun _ => ?_) | (refine x_bin ?_ ?_ <;> intro _ <;> try (exfalso; omega)) | fail)
  refine x_all (fun w_ hw_ => r4.ext hw_) ?_
  refine x_all (fun w_ hw_ => r1.ext hw_) ?_
  refine x_fn ck6 ?_
  repeat' (first | refine x_mov ?_ | refine x_asg ?_ | refine x_fa ?_ | refine x_ext ?_ | refine x_binN ?_ | refine x_notd ?_ | refine x_notb ?_ | refine x_pick_t ?_ | refine x_pick_f ?_ | refine x_nilc ?_ | refine x_skip ?_ | refine x_lens ?_ | refine x_lenv ?_ | refine x_ix (fun _ => ?_) | (refine x_bin ?_ ?_ <;> intro _ <;> try (exfalso; omega)) | fail)
  refine x_all (fun w_ hw_ => r3.ext hw_) ?_
  refine x_all (fun w_ hw_ => r1.ext hw_) ?_
  refine x_fn ck7 ?_
  repeat' (first | refine x_mov ?_ | refine x_asg ?_ | refine x_fa ?_ | refine x_ext ?_ | refine x_binN ?_ | refine x_notd ?_ | refine x_notb ?_ | refine x_pick_t ?_ | refine x_pick_f ?_ | refine x_nilc ?_ | refine x_skip ?_ | refine x_lens ?_ | refine x_lenv ?_ | refine x_ix (fun _ => ?_) | (refine x_bin ?_ ?_ <;> intro _ <;> try (exfalso; omega)) | fail)
  refine x_all (fun w_ hw_ => r3.ext hw_) ?_
  refine x_all (fun w_ hw_ => r1.ext hw_) ?_
  refine x_nil ⟨fun v => p_walk rfl rfl rfl fun w' hw' _ => ?_, ?_⟩
  · refine o_buildSlice (LH.start w' (fun _ => False)) (fmL f0 (.slice (some ⟨bj, 0, none⟩) 2 2)) rfl rfl (by simp only [fmL, str_eq]; kernel_rfl) ?_
    intro b w'' hb hl
    exact o_nil ⟨_, rfl, hl.done, b, rfl, hl.rowL (vs := fmL f0 (.slice (some ⟨bj, 0, none⟩) 2 2)) 0 0 5 rfl⟩
  rintro _ w24 hw24 ⟨b, rfl, hrb⟩
  have k8 : KA w24 [f0] (.slice (some ⟨b, 0, none⟩) 1 1) := .one hrb (Nat.le_refl _) (k2.ext hw24)
  have ck8 := fun w' (hw' : Ext w24 w') => Check_calls F0 [] hF (by decide +kernel) (bth 6 [f0]) w' _ _ _ (.slice none 0 0) (k8.ext hw') (fun b h => h) (short_of (by decide +kernel)) (by decide +kernel) (hd.ext (hw24.trans hw')) (Sl.nil _ _)
  simp only [ex8] at ck8
  refine g_end ?_
  refine x_fn (v := .agg (fmL (bth 6 [f0]) (.slice (some ⟨b, 0, none⟩) 1 1)).toArray) (fun w' hw' => both_calls 6 [f0] _ ⟨_, _, rfl⟩ w') ?_
  refine x_fn ck8 ?_
  repeat' (first | refine x_mov ?_ | refine x_asg ?_ | refine x_fa ?_ | refine x_ext ?_ | refine x_binN ?_ | refine x_notd ?_ | refine x_notb ?_ | refine x_pick_t ?_ | refine x_pick_f ?_ | refine x_nilc ?_ | refine x_skip ?_ | refine x_lens ?_ | refine x_lenv ?_ | refine x_ix (fun _ => ?_) | (refine x_bin ?_ ?_ <;> intro _ <;> try (exfalso; omega)) | fail)
  refine x_nil fun w25 hw25 => hK _ _ ?_
  clear hK K
  replace hw25 := hw24.trans hw25
  replace hd := hd.ext hw25
  replace hc := hc.ext hw25
  replace r1 := r1.ext hw25
  replace r3 := r3.ext hw25
  replace r4 := r4.ext hw25
  replace k2 := k2.ext hw25
  replace he := he.trans hw25
  clear ck5 ck6 ck7 ck8 k8 hrb hw24 hw25
  repeat' (first | refine a_mov ?_ | refine a_asg ?_ | refine a_binN ?_ | refine a_notd ?_ | refine a_notb ?_ | refine a_nilc ?_ | refine a_fa ?_ | refine a_ext ?_ | refine a_lenv ?_ | refine a_lens ?_ | refine a_pick_t ?_ | refine a_pick_f ?_ | refine a_not ?_ | refine a_nilf ?_ | (refine o_nil (hK _ _ ?_); clear hK K) | refine wk_reg ?_ | refine wk_seq fun K hK => ?_ | (refine wk_skip (hK _ _ ?_); clear hK K) | (refine wk_label (hK _ _ ?_); clear hK K) | refine wk_scope ?_ | refine wk_block ?_ | refine wk_cond_t rfl ?_ | refine wk_cond_f rfl ?_ | (refine wk_exit ?_; (repeat (refine blockK_other rfl ?_)); refine blockK_same ?_; try ((repeat ((fail_if_success (refine hK _ _ ?_)); clear hK K)); refine hK _ _ ?_; clear hK K)) | (refine a_bin ?_ ?_ <;> intro _ <;> try (exfalso; omega)) | refine a_ld hl ?_ | (refine a_st hl ?_; clear hl; intro _ hl) | refine a_ix (fun _ => ?_) | refine a_all r1 ?_)
  refine a_fn (fits_calls hd hc hF hC hN) ?_
  rintro _ w26 ⟨rfl, hx⟩
  rw [ex9]
  replace r3 := r3.ext hx
  replace r4 := r4.ext hx
  replace k2 := k2.ext hx
  replace he := he.trans hx
  clear hx r1 hd hc
  repeat' (first | refine a_mov ?_ | refine a_asg ?_ | refine a_binN ?_ | refine a_notd ?_ | refine a_notb ?_ | refine a_nilc ?_ | refine a_fa ?_ | refine a_ext ?_ | refine a_lenv ?_ | refine a_lens ?_ | refine a_pick_t ?_ | refine a_pick_f ?_ | refine a_not ?_ | refine a_nilf ?_ | (refine o_nil (hK _ _ ?_); clear hK K) | refine wk_reg ?_ | refine wk_seq fun K hK => ?_ | (refine wk_skip (hK _ _ ?_); clear hK K) | (refine wk_label (hK _ _ ?_); clear hK K) | refine wk_scope ?_ | refine wk_block ?_ | refine wk_cond_t rfl ?_ | refine wk_cond_f rfl ?_ | (refine wk_exit ?_; (repeat (refine blockK_other rfl ?_)); refine blockK_same ?_; try ((repeat ((fail_if_success (refine hK _ _ ?_)); clear hK K)); refine hK _ _ ?_; clear hK K)) | (refine a_bin ?_ ?_ <;> intro _ <;> try (exfalso; omega)) | refine a_ld hl ?_ | (refine a_st hl ?_; clear hl; intro _ hl) | refine a_ix (fun _ => ?_) | refine a_all r3 ?_ | refine a_all r4 ?_)
  refine o_buildSlice (LH.start w26 (fun _ => False)) (fmL ad0 (.slice none 0 0) ++ (fmL f0 (.slice (some ⟨bj, 0, none⟩) 2 2) ++ fmL ad0 (.slice none 0 0))) rfl rfl (by simp only [fmL, str_eq]; kernel_rfl) ?_
  intro b7 w27 hb7 hl
  have k9 : KA w27 [ad0, f0, ad0] (.slice (some ⟨b7, 0, none⟩) 3 3) := .three (hl.rowL (vs := fmL ad0 (.slice none 0 0) ++ (fmL f0 (.slice (some ⟨bj, 0, none⟩) 2 2) ++ fmL ad0 (.slice none 0 0))) 0 0 15 rfl) (Nat.le_refl _) (.nil _) (k2.ext hl.done) (.nil _)
  have hx := hl.done
  refine a_fn (both_calls 7 [ad0, f0, ad0] _ ⟨_, _, rfl⟩ w27) ?_
  rintro _ w28 ⟨rfl, hy⟩
  replace hx := hx.trans hy
  replace k9 := k9.ext hy
  replace r3 := r3.ext hx
  replace r4 := r4.ext hx
  replace k2 := k2.ext hx
  replace he := he.trans hx
  clear hx hy hl
  refine a_fn (terms_calls (bth 7 [ad0, f0, ad0]) w28 _ _ k9 (fun b h => h) (short_of (by decide +kernel)) (by decide +kernel)) ?_
  rintro tv w29 ⟨htv, hx⟩
  rw [ex10] at htv
  obtain ⟨ta, tc, rfl, -⟩ := htv.shape (strsL_len _) (by omega)
  refine o_buildSlice (LH.start w29 (fun _ => False)) [str sAd] rfl rfl (by simp only [str_eq]; kernel_rfl) ?_
  intro b8 w30 hb8 hl
  refine a_fn (refNames_calls (U := [sAd]) (htv.ext hl.done) (Sl.mk rfl (Nat.le_refl _) (hl.rowL (vs := [str sAd]) 0 0 1 rfl)) (by decide +kernel) (by decide +kernel)) ?_
  rintro _ w31 ⟨rfl, hy⟩
  rw [decide_eq_true (rfl : [sAd] = [sAd])]
  replace hx := (hx.trans hl.done).trans hy
  replace r3 := r3.ext hx
  replace r4 := r4.ext hx
  replace k2 := k2.ext hx
  replace he := he.trans hx
  clear hx hy hl htv k9
  repeat' (first | refine a_mov ?_ | refine a_asg ?_ | refine a_binN ?_ | refine a_notd ?_ | refine a_notb ?_ | refine a_nilc ?_ | refine a_fa ?_ | refine a_ext ?_ | refine a_lenv ?_ | refine a_lens ?_ | refine a_pick_t ?_ | refine a_pick_f ?_ | refine a_not ?_ | refine a_nilf ?_ | (refine o_nil (hK _ _ ?_); clear hK K) | refine wk_reg ?_ | refine wk_seq fun K hK => ?_ | (refine wk_skip (hK _ _ ?_); clear hK K) | (refine wk_label (hK _ _ ?_); clear hK K) | refine wk_scope ?_ | refine wk_block ?_ | refine wk_cond_t rfl ?_ | refine wk_cond_f rfl ?_ | (refine wk_exit ?_; (repeat (refine blockK_other rfl ?_)); refine blockK_same ?_; try ((repeat ((fail_if_success (refine hK _ _ ?_)); clear hK K)); refine hK _ _ ?_; clear hK K)) | (refine a_bin ?_ ?_ <;> intro _ <;> try (exfalso; omega)) | refine a_ld hl ?_ | (refine a_st hl ?_; clear hl; intro _ hl) | refine a_ix (fun _ => ?_) | refine a_all r3 ?_ | refine a_all r4 ?_)
  refine a_fn (same_fm_calls f0 f0 w31 _ _ _ _ k2 k2 (by decide +kernel) (by decide +kernel) sh2.2 sh2.2) ?_
  rintro _ w32 ⟨rfl, hx⟩
  rw [decide_eq_true (rfl : f0 = f0)]
  replace r3 := r3.ext hx
  replace r4 := r4.ext hx
  replace k2 := k2.ext hx
  replace he := he.trans hx
  clear hx
  repeat' (first | refine a_mov ?_ | refine a_asg ?_ | refine a_binN ?_ | refine a_notd ?_ | refine a_notb ?_ | refine a_nilc ?_ | refine a_fa ?_ | refine a_ext ?_ | refine a_lenv ?_ | refine a_lens ?_ | refine a_pick_t ?_ | refine a_pick_f ?_ | refine a_not ?_ | refine a_nilf ?_ | (refine o_nil (hK _ _ ?_); clear hK K) | refine wk_reg ?_ | refine wk_seq fun K hK => ?_ | (refine wk_skip (hK _ _ ?_); clear hK K) | (refine wk_label (hK _ _ ?_); clear hK K) | refine wk_scope ?_ | refine wk_block ?_ | refine wk_cond_t rfl ?_ | refine wk_cond_f rfl ?_ | (refine wk_exit ?_; (repeat (refine blockK_other rfl ?_)); refine blockK_same ?_; try ((repeat ((fail_if_success (refine hK _ _ ?_)); clear hK K)); refine hK _ _ ?_; clear hK K)) | (refine a_bin ?_ ?_ <;> intro _ <;> try (exfalso; omega)) | refine a_ld hl ?_ | (refine a_st hl ?_; clear hl; intro _ hl) | refine a_ix (fun _ => ?_) | refine a_all r3 ?_ | refine a_all r4 ?_)
  refine a_fn (same_fm_calls f0 ad0 w32 _ _ _ (.slice none 0 0) k2 (KA.nil _) (by decide +kernel) (by decide +kernel) sh2.2 sh4.2) ?_
  rintro _ w33 ⟨rfl, hx⟩
  rw [decide_eq_false ex13]
  repeat' (first | refine a_mov ?_ | refine a_asg ?_ | refine a_binN ?_ | refine a_notd ?_ | refine a_notb ?_ | refine a_nilc ?_ | refine a_fa ?_ | refine a_ext ?_ | refine a_lenv ?_ | refine a_lens ?_ | refine a_pick_t ?_ | refine a_pick_f ?_ | refine a_not ?_ | refine a_nilf ?_ | (refine o_nil (hK _ _ ?_); clear hK K) | refine wk_reg ?_ | refine wk_seq fun K hK => ?_ | (refine wk_skip (hK _ _ ?_); clear hK K) | (refine wk_label (hK _ _ ?_); clear hK K) | refine wk_scope ?_ | refine wk_block ?_ | refine wk_cond_t rfl ?_ | refine wk_cond_f rfl ?_ | (refine wk_exit ?_; (repeat (refine blockK_other rfl ?_)); refine blockK_same ?_; try ((repeat ((fail_if_success (refine hK _ _ ?_)); clear hK K)); refine hK _ _ ?_; clear hK K)) | (refine a_bin ?_ ?_ <;> intro _ <;> try (exfalso; omega)) | refine a_ld hl ?_ | (refine a_st hl ?_; clear hl; intro _ hl) | refine a_ix (fun _ => ?_) | fail)
  refine wk_ret (retQ_tmp1 Tryd.results10 (by decide) rfl (by conv => lhs; whnf) ?_)
  exact ⟨rfl, he.trans hx⟩
end Go.Proofs
