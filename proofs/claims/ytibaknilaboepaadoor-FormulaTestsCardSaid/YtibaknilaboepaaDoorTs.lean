/-
  The statement FormulaTests, walked.
-/
import Derived.Test.YtibaknilaboepaaDoorOp
set_option linter.unusedVariables false
set_option linter.unusedSimpArgs false
set_option linter.unnecessarySimpa false
set_option maxRecDepth 10000
namespace Go.Pd
variable {P : Program} {r : Option Nat} {n : Nat}
theorem x_binC {ops : Array Oper} {w0 : World} {K : St → Prop} {i : Nat} {l : List Nat} {s : St} {k : Nat} {ty : TypeId} {p : String} {af : Array Edge} {g : Option (Nat × Bool)} {bo : BinOp} {xt yt : TypeId} {x y : Operand} {kk : IntKind} {a b : Int} {c : Bool} (hk : OpsX P r n ops w0 K l (s.set k (.bool c))) (ho : ops[i]? = some ⟨some k, .binOp bo xt x y yt, ty, p, af, g⟩ := by rfl) (hw : Region.wanted ⟨some k, .binOp bo xt x y yt, ty, p, af, g⟩ (yieldedE ops n s) = true := by rfl)
    (hx : rd n s x = .int kk a := by rfl) (hy : rd n s y = .int kk b := by rfl) (hv : binC bo a b = some c := by rfl) : OpsX P r n ops w0 K (i :: l) s := x_pur ho hw (fun _ => r_binC hx hy hv) hk
end Go.Pd
namespace Go.Fo
def wantL (z n : Int) : List Bool := [decide (z = n), decide (z ≠ n), decide (z < n), decide (z ≤ n), decide (z > n), decide (z ≥ n)]
theorem want_at (z n : Int) {k : Nat} (hk : k < (wantL z n).length) : (wantL z n)[k] = cmpB z ((k : Int) + 1) n := by
  have h6 : k < 6 := hk
  match k, h6 with
  | 0, _ => simp [wantL, cmpB]
  | 1, _ => simp [wantL, cmpB]
  | 2, _ => simp [wantL, cmpB]
  | 3, _ => simp [wantL, cmpB]
  | 4, _ => simp [wantL, cmpB]
  | 5, _ => simp [wantL, cmpB]
end Go.Fo
namespace Go.Proofs
open Go Go.Pd Go.Lexs Go.Fin Go.Fo
attribute [local irreducible] OpsL W RetQ OpsQ OpsC

def boolL (b : Bool) : List Value := [.bool b]

set_option maxHeartbeats 8000000 in
theorem Tests_calls {w : World} {dv cv : Value} {F : List Fact} {c : List Int} (hD : DomIn w F dv) (hC : CaseIn w c cv) (q : Nat) (hq : q < 256) (z : Int) (hz : -9223372036854775808 ≤ z ∧ z ≤ 9223372036854775807) :
    Calls Tryd.prog 5 #[.agg #[dv], cv, .int .u8 (q : Int), .int .i64 z] w (fun e w' => ∃ x, e = .returned x ∧ x = .bool true ∧ Ext w w') := by
  obtain ⟨hd, nF', tF'⟩ := hD
  obtain ⟨hc, nC'⟩ := hC
  obtain ⟨da, dc, rfl, -⟩ := hd.shape (factsL_len F) (by omega)
  obtain ⟨ca, cc, rfl, -⟩ := hc.shape (intsL_len c) (by omega)
  have nF : F.length ≤ 9223372036854775806 := by omega
  have nC : c.length ≤ 9223372036854775806 := by omega
  have tF : ∀ f ∈ F, f.name.length ≤ 9223372036854775806 := fun f h => by have := tF' f h; omega
  refine calls_of Tryd.func5 rfl Tryd.ntmps5 rfl ?_
  refine wk_seq fun K hK => ?_
  refine wk_reg ?_
  refine o_box (LH.start w (fun _ => False)) [.slice da F.length dc] rfl rfl rfl ?_
  intro b4 w3 hb4 hl
  repeat' (first | refine a_mov ?_ | refine a_asg ?_ | refine a_binN ?_ | refine a_notd ?_ | refine a_notb ?_ | refine a_nilc ?_ | refine a_fa ?_ | refine a_ext ?_ | refine a_lenv ?_ | refine a_lens ?_ | refine a_pick_t ?_ | refine a_pick_f ?_ | refine a_not ?_ | refine a_nilf ?_ | (refine o_nil (hK _ _ ?_); clear hK K) | refine wk_reg ?_ | refine wk_seq fun K hK => ?_ | (refine wk_skip (hK _ _ ?_); clear hK K) | (refine wk_label (hK _ _ ?_); clear hK K) | refine wk_scope ?_ | refine wk_block ?_ | refine wk_cond_t rfl ?_ | refine wk_cond_f rfl ?_ | (refine wk_exit ?_; (repeat (refine blockK_other rfl ?_)); refine blockK_same ?_; try ((repeat ((fail_if_success (refine hK _ _ ?_)); clear hK K)); refine hK _ _ ?_; clear hK K)) | (refine a_bin ?_ ?_ <;> intro _ <;> try (exfalso; omega)) | refine a_ld hl ?_ | (refine a_st hl ?_; clear hl; intro _ hl) | refine a_ix (fun _ => ?_) | fail)
  refine a_fn (head_calls w3) ?_
  rintro _ w4 ⟨rfl, hx⟩
  replace hl := hl.ext hx
  clear hx
  have he := hl.done
  have rd' : Row w4 b4 0 [.slice da F.length dc] := hl.rowL (vs := [.slice da F.length dc]) 0 0 1 rfl
  replace hd := hd.ext he
  replace hc := hc.ext he
  clear hl
  repeat' (first | refine a_mov ?_ | refine a_asg ?_ | refine a_binN ?_ | refine a_notd ?_ | refine a_notb ?_ | refine a_nilc ?_ | refine a_fa ?_ | refine a_ext ?_ | refine a_lenv ?_ | refine a_lens ?_ | refine a_pick_t ?_ | refine a_pick_f ?_ | refine a_not ?_ | refine a_nilf ?_ | (refine o_nil (hK _ _ ?_); clear hK K) | refine wk_reg ?_ | refine wk_seq fun K hK => ?_ | (refine wk_skip (hK _ _ ?_); clear hK K) | (refine wk_label (hK _ _ ?_); clear hK K) | refine wk_scope ?_ | refine wk_block ?_ | refine wk_cond_t rfl ?_ | refine wk_cond_f rfl ?_ | (refine wk_exit ?_; (repeat (refine blockK_other rfl ?_)); refine blockK_same ?_; try ((repeat ((fail_if_success (refine hK _ _ ?_)); clear hK K)); refine hK _ _ ?_; clear hK K)) | (refine a_bin ?_ ?_ <;> intro _ <;> try (exfalso; omega)) | refine a_ld hl ?_ | (refine a_st hl ?_; clear hl; intro _ hl) | refine a_ix (fun _ => ?_) | refine a_all rd' ?_)
  refine a_fn (few_calls (T := []) hd hc (Sl.nil _ _) nF nC (by simp) (fun s h => nomatch h)) ?_
  rintro _ w5 ⟨rfl, hx⟩
  replace he := he.trans hx
  replace hd := hd.ext hx
  replace hc := hc.ext hx
  replace rd' := rd'.ext hx
  clear hx
  cases hfew : fewB F c []
  · repeat' (first | refine a_mov ?_ | refine a_asg ?_ | refine a_binN ?_ | refine a_notd ?_ | refine a_notb ?_ | refine a_nilc ?_ | refine a_fa ?_ | refine a_ext ?_ | refine a_lenv ?_ | refine a_lens ?_ | refine a_pick_t ?_ | refine a_pick_f ?_ | refine a_not ?_ | refine a_nilf ?_ | (refine o_nil (hK _ _ ?_); clear hK K) | refine wk_reg ?_ | refine wk_seq fun K hK => ?_ | (refine wk_skip (hK _ _ ?_); clear hK K) | (refine wk_label (hK _ _ ?_); clear hK K) | refine wk_scope ?_ | refine wk_block ?_ | refine wk_cond_t rfl ?_ | refine wk_cond_f rfl ?_ | (refine wk_exit ?_; (repeat (refine blockK_other rfl ?_)); refine blockK_same ?_; try ((repeat ((fail_if_success (refine hK _ _ ?_)); clear hK K)); refine hK _ _ ?_; clear hK K)) | (refine a_bin ?_ ?_ <;> intro _ <;> try (exfalso; omega)) | refine a_ld hl ?_ | (refine a_st hl ?_; clear hl; intro _ hl) | refine a_ix (fun _ => ?_) | fail)
    refine wk_ret (retQ_tmp1 Tryd.results5 (by decide) rfl (by conv => lhs; whnf) ?_)
    exact ⟨rfl, he⟩
  repeat' (first | refine a_mov ?_ | refine a_asg ?_ | refine a_binN ?_ | refine a_notd ?_ | refine a_notb ?_ | refine a_nilc ?_ | refine a_fa ?_ | refine a_ext ?_ | refine a_lenv ?_ | refine a_lens ?_ | refine a_pick_t ?_ | refine a_pick_f ?_ | refine a_not ?_ | refine a_nilf ?_ | (refine o_nil (hK _ _ ?_); clear hK K) | refine wk_reg ?_ | refine wk_seq fun K hK => ?_ | (refine wk_skip (hK _ _ ?_); clear hK K) | (refine wk_label (hK _ _ ?_); clear hK K) | refine wk_scope ?_ | refine wk_block ?_ | refine wk_cond_t rfl ?_ | refine wk_cond_f rfl ?_ | (refine wk_exit ?_; (repeat (refine blockK_other rfl ?_)); refine blockK_same ?_; try ((repeat ((fail_if_success (refine hK _ _ ?_)); clear hK K)); refine hK _ _ ?_; clear hK K)) | (refine a_bin ?_ ?_ <;> intro _ <;> try (exfalso; omega)) | refine a_ld hl ?_ | (refine a_st hl ?_; clear hl; intro _ hl) | refine a_ix (fun _ => ?_) | refine a_all rd' ?_)
  refine a_fn (valid_calls hd nF tF) ?_
  rintro _ w6 ⟨rfl, hx⟩
  replace he := he.trans hx
  replace hd := hd.ext hx
  replace hc := hc.ext hx
  replace rd' := rd'.ext hx
  clear hx
  cases hvd : validD F
  · repeat' (first | refine a_mov ?_ | refine a_asg ?_ | refine a_binN ?_ | refine a_notd ?_ | refine a_notb ?_ | refine a_nilc ?_ | refine a_fa ?_ | refine a_ext ?_ | refine a_lenv ?_ | refine a_lens ?_ | refine a_pick_t ?_ | refine a_pick_f ?_ | refine a_not ?_ | refine a_nilf ?_ | (refine o_nil (hK _ _ ?_); clear hK K) | refine wk_reg ?_ | refine wk_seq fun K hK => ?_ | (refine wk_skip (hK _ _ ?_); clear hK K) | (refine wk_label (hK _ _ ?_); clear hK K) | refine wk_scope ?_ | refine wk_block ?_ | refine wk_cond_t rfl ?_ | refine wk_cond_f rfl ?_ | (refine wk_exit ?_; (repeat (refine blockK_other rfl ?_)); refine blockK_same ?_; try ((repeat ((fail_if_success (refine hK _ _ ?_)); clear hK K)); refine hK _ _ ?_; clear hK K)) | (refine a_bin ?_ ?_ <;> intro _ <;> try (exfalso; omega)) | refine a_ld hl ?_ | (refine a_st hl ?_; clear hl; intro _ hl) | refine a_ix (fun _ => ?_) | fail)
    refine wk_ret (retQ_tmp1 Tryd.results5 (by decide) rfl (by conv => lhs; whnf) ?_)
    exact ⟨rfl, he⟩
  repeat' (first | refine a_mov ?_ | refine a_asg ?_ | refine a_binN ?_ | refine a_notd ?_ | refine a_notb ?_ | refine a_nilc ?_ | refine a_fa ?_ | refine a_ext ?_ | refine a_lenv ?_ | refine a_lens ?_ | refine a_pick_t ?_ | refine a_pick_f ?_ | refine a_not ?_ | refine a_nilf ?_ | (refine o_nil (hK _ _ ?_); clear hK K) | refine wk_reg ?_ | refine wk_seq fun K hK => ?_ | (refine wk_skip (hK _ _ ?_); clear hK K) | (refine wk_label (hK _ _ ?_); clear hK K) | refine wk_scope ?_ | refine wk_block ?_ | refine wk_cond_t rfl ?_ | refine wk_cond_f rfl ?_ | (refine wk_exit ?_; (repeat (refine blockK_other rfl ?_)); refine blockK_same ?_; try ((repeat ((fail_if_success (refine hK _ _ ?_)); clear hK K)); refine hK _ _ ?_; clear hK K)) | (refine a_bin ?_ ?_ <;> intro _ <;> try (exfalso; omega)) | refine a_ld hl ?_ | (refine a_st hl ?_; clear hl; intro _ hl) | refine a_ix (fun _ => ?_) | refine a_all rd' ?_)
  refine a_fn (fits_calls hd hc nF nC tF) ?_
  rintro _ w7 ⟨rfl, hx⟩
  replace he := he.trans hx
  replace hd := hd.ext hx
  replace hc := hc.ext hx
  replace rd' := rd'.ext hx
  clear hx
  cases hfb : fitsB F c
  · repeat' (first | refine a_mov ?_ | refine a_asg ?_ | refine a_binN ?_ | refine a_notd ?_ | refine a_notb ?_ | refine a_nilc ?_ | refine a_fa ?_ | refine a_ext ?_ | refine a_lenv ?_ | refine a_lens ?_ | refine a_pick_t ?_ | refine a_pick_f ?_ | refine a_not ?_ | refine a_nilf ?_ | (refine o_nil (hK _ _ ?_); clear hK K) | refine wk_reg ?_ | refine wk_seq fun K hK => ?_ | (refine wk_skip (hK _ _ ?_); clear hK K) | (refine wk_label (hK _ _ ?_); clear hK K) | refine wk_scope ?_ | refine wk_block ?_ | refine wk_cond_t rfl ?_ | refine wk_cond_f rfl ?_ | (refine wk_exit ?_; (repeat (refine blockK_other rfl ?_)); refine blockK_same ?_; try ((repeat ((fail_if_success (refine hK _ _ ?_)); clear hK K)); refine hK _ _ ?_; clear hK K)) | (refine a_bin ?_ ?_ <;> intro _ <;> try (exfalso; omega)) | refine a_ld hl ?_ | (refine a_st hl ?_; clear hl; intro _ hl) | refine a_ix (fun _ => ?_) | fail)
    refine wk_ret (retQ_tmp1 Tryd.results5 (by decide) rfl (by conv => lhs; whnf) ?_)
    exact ⟨rfl, he⟩
  by_cases hcase : c.length = 0 ∨ z < 0 ∨ z > 1000000
  · repeat' (first | refine a_mov ?_ | refine a_asg ?_ | refine a_binN ?_ | refine a_notd ?_ | refine a_notb ?_ | refine a_nilc ?_ | refine a_fa ?_ | refine a_ext ?_ | refine a_lenv ?_ | refine a_lens ?_ | refine a_pick_t ?_ | refine a_pick_f ?_ | refine a_not ?_ | refine a_nilf ?_ | (refine o_nil (hK _ _ ?_); clear hK K) | refine wk_reg ?_ | refine wk_seq fun K hK => ?_ | (refine wk_skip (hK _ _ ?_); clear hK K) | (refine wk_label (hK _ _ ?_); clear hK K) | refine wk_scope ?_ | refine wk_block ?_ | refine wk_cond_t rfl ?_ | refine wk_cond_f rfl ?_ | (refine wk_exit ?_; (repeat (refine blockK_other rfl ?_)); refine blockK_same ?_; try ((repeat ((fail_if_success (refine hK _ _ ?_)); clear hK K)); refine hK _ _ ?_; clear hK K)) | (refine a_bin ?_ ?_ <;> intro _ <;> try (exfalso; omega)) | refine a_ld hl ?_ | (refine a_st hl ?_; clear hl; intro _ hl) | refine a_ix (fun _ => ?_) | fail)
    all_goals (refine wk_ret (retQ_tmp1 Tryd.results5 (by decide) rfl (by conv => lhs; whnf) ?_))
    all_goals exact ⟨rfl, he⟩
  have hcF : c.length = F.length := by
    unfold fitsB at hfb
    exact ((fitsC_iff F c).1 (Bool.and_eq_true_iff.1 hfb).2).1
  repeat' (first | refine a_mov ?_ | refine a_asg ?_ | refine a_binN ?_ | refine a_notd ?_ | refine a_notb ?_ | refine a_nilc ?_ | refine a_fa ?_ | refine a_ext ?_ | refine a_lenv ?_ | refine a_lens ?_ | refine a_pick_t ?_ | refine a_pick_f ?_ | refine a_not ?_ | refine a_nilf ?_ | (refine o_nil (hK _ _ ?_); clear hK K) | refine wk_reg ?_ | refine wk_seq fun K hK => ?_ | (refine wk_skip (hK _ _ ?_); clear hK K) | (refine wk_label (hK _ _ ?_); clear hK K) | refine wk_scope ?_ | refine wk_block ?_ | refine wk_cond_t rfl ?_ | refine wk_cond_f rfl ?_ | (refine wk_exit ?_; (repeat (refine blockK_other rfl ?_)); refine blockK_same ?_; try ((repeat ((fail_if_success (refine hK _ _ ?_)); clear hK K)); refine hK _ _ ?_; clear hK K)) | (refine a_bin ?_ ?_ <;> intro _ <;> try (exfalso; omega)) | refine a_ld hl ?_ | (refine a_st hl ?_; clear hl; intro _ hl) | refine a_ix (fun _ => ?_) | fail)
  refine o_conv rfl rfl rfl rfl (b := (q : Int)) (wrap_i64 (by omega)) ?_
  repeat' (first | refine a_mov ?_ | refine a_asg ?_ | refine a_binN ?_ | refine a_notd ?_ | refine a_notb ?_ | refine a_nilc ?_ | refine a_fa ?_ | refine a_ext ?_ | refine a_lenv ?_ | refine a_lens ?_ | refine a_pick_t ?_ | refine a_pick_f ?_ | refine a_not ?_ | refine a_nilf ?_ | (refine o_nil (hK _ _ ?_); clear hK K) | refine wk_reg ?_ | refine wk_seq fun K hK => ?_ | (refine wk_skip (hK _ _ ?_); clear hK K) | (refine wk_label (hK _ _ ?_); clear hK K) | refine wk_scope ?_ | refine wk_block ?_ | refine wk_cond_t rfl ?_ | refine wk_cond_f rfl ?_ | (refine wk_exit ?_; (repeat (refine blockK_other rfl ?_)); refine blockK_same ?_; try ((repeat ((fail_if_success (refine hK _ _ ?_)); clear hK K)); refine hK _ _ ?_; clear hK K)) | (refine a_bin ?_ ?_ <;> intro _ <;> try (exfalso; omega)) | refine a_ld hl ?_ | (refine a_st hl ?_; clear hl; intro _ hl) | refine a_ix (fun _ => ?_) | fail)
  refine o_rem rfl rfl rfl (by omega) (by omega) ?_
  have hmod : (q : Int) % (c.length : Int) = ((q % c.length : Nat) : Int) := by omega
  rw [hmod]
  have hi1 : q % c.length < c.length := Nat.mod_lt _ (by omega)
  have hi2 : q % c.length < F.length := by omega
  generalize q % c.length = i at *
  have hh := fun (T : List (List UInt8)) (k : Int) => holds_tst (T := T) (k := k) (n := z) hfb hi2 hi1 (by omega) (by omega)
  have hcat := fun w' (hw' : Ext w7 w') => Sl.intAt (hc.ext hw') rfl hi1
  obtain ⟨bc, oc, hpc, hrc⟩ := Sl.intAt hc rfl hi1
  obtain ⟨bf, of, hpf, hrf⟩ := Sl.fact hd rfl hi2
  generalize hfn : F[i].name = s at *
  generalize c[i] = y at *
  repeat' (first | refine a_mov ?_ | refine a_asg ?_ | refine a_binN ?_ | refine a_notd ?_ | refine a_notb ?_ | refine a_nilc ?_ | refine a_fa ?_ | refine a_ext ?_ | refine a_lenv ?_ | refine a_lens ?_ | refine a_pick_t ?_ | refine a_pick_f ?_ | refine a_not ?_ | refine a_nilf ?_ | (refine o_nil (hK _ _ ?_); clear hK K) | refine wk_reg ?_ | refine wk_seq fun K hK => ?_ | (refine wk_skip (hK _ _ ?_); clear hK K) | (refine wk_label (hK _ _ ?_); clear hK K) | refine wk_scope ?_ | refine wk_block ?_ | refine wk_cond_t rfl ?_ | refine wk_cond_f rfl ?_ | (refine wk_exit ?_; (repeat (refine blockK_other rfl ?_)); refine blockK_same ?_; try ((repeat ((fail_if_success (refine hK _ _ ?_)); clear hK K)); refine hK _ _ ?_; clear hK K)) | (refine a_bin ?_ ?_ <;> intro _ <;> try (exfalso; omega)) | refine a_ld hl ?_ | (refine a_st hl ?_; clear hl; intro _ hl) | refine a_ix (fun _ => ?_) | fail)
  refine wk_grow [([0, 1, 2, 3, 4, 5, 6, 7, 8, 9, 10, 11, 12, 13, 14, 15, 16, 17, 18, 19, 20, 21, 22, 23, 24, 25, 26, 27, 28, 29, 30, 31, 32, 33, 34, 35], [36]), ([37], [])] ?_
  refine g_one (fun v w' => Sl w' v 1 ((wantL y z).flatMap boolL)) (fun v w w' h e => h.ext e) ?_
  repeat' (first | refine x_mov ?_ | refine x_idx (c := 1) i hpc ?_ | refine x_row (fun w_ hw_ => hrc.ext hw_) ?_ | refine x_binC ?_)
  refine x_nil ⟨fun v => p_walk rfl rfl rfl fun w' hw' _ => ?_, ?_⟩
  · refine o_buildSlice (LH.start w' (fun _ => False)) ((wantL y z).flatMap boolL) rfl rfl (by kernel_rfl) ?_
    intro b w'' hb hl
    exact o_nil ⟨_, rfl, hl.done, Sl.mk rfl (Nat.le_refl _) (hl.rowL (vs := (wantL y z).flatMap boolL) 0 0 6 rfl)⟩
  intro v w8 hw8 hwant
  obtain ⟨wa, wc, rfl, -⟩ := hwant.shape (m := 6) rfl (by omega)
  refine g_end ?_
  repeat' (first | refine x_mov ?_ | refine x_asg ?_ | refine x_fa ?_ | refine x_ext ?_ | refine x_binN ?_ | refine x_notd ?_ | refine x_notb ?_ | refine x_pick_t ?_ | refine x_pick_f ?_ | refine x_nilc ?_ | refine x_skip ?_ | refine x_lens ?_ | refine x_lenv ?_ | refine x_ix (fun _ => ?_) | (refine x_bin ?_ ?_ <;> intro _ <;> try (exfalso; omega)) | fail)
  refine x_nil fun w9 hw9 => hK _ _ ?_
  clear hK K
  replace hw8 := hw8.trans hw9
  replace hwant := hwant.ext hw9
  replace he := he.trans hw8
  replace hd := hd.ext hw8
  replace hc := hc.ext hw8
  replace rd' := rd'.ext hw8
  replace hrf := hrf.ext hw8
  clear hw9 hrc hcat
  obtain ⟨bw, ow, hpw, hrw⟩ := hwant.at (m := 6) rfl (by omega) (by omega)
  have hNil := Sl.nil w9 1
  repeat' (first | refine a_mov ?_ | refine a_asg ?_ | refine a_binN ?_ | refine a_notd ?_ | refine a_notb ?_ | refine a_nilc ?_ | refine a_fa ?_ | refine a_ext ?_ | refine a_lenv ?_ | refine a_lens ?_ | refine a_pick_t ?_ | refine a_pick_f ?_ | refine a_not ?_ | refine a_nilf ?_ | (refine o_nil (hK _ _ ?_); clear hK K) | refine wk_reg ?_ | refine wk_seq fun K hK => ?_ | (refine wk_skip (hK _ _ ?_); clear hK K) | (refine wk_label (hK _ _ ?_); clear hK K) | refine wk_scope ?_ | refine wk_block ?_ | refine wk_cond_t rfl ?_ | refine wk_cond_f rfl ?_ | (refine wk_exit ?_; (repeat (refine blockK_other rfl ?_)); refine blockK_same ?_; try ((repeat ((fail_if_success (refine hK _ _ ?_)); clear hK K)); refine hK _ _ ?_; clear hK K)) | (refine a_bin ?_ ?_ <;> intro _ <;> try (exfalso; omega)) | refine a_ld hl ?_ | (refine a_st hl ?_; clear hl; intro _ hl) | refine a_ix (fun _ => ?_) | fail)
  refine wk_loopH [] rfl (fun k : Nat => [(1, .slice ca c.length cc), (3, .int .i64 z), (4, .pointer (some ⟨b4, 0, none⟩)), (9, .bool true), (10, .int .i64 (i : Int)), (11, .slice wa 6 wc), (12, .int .i64 (k : Int))]) (fun k w' => k ≤ 6 ∧ Ext w9 w') (fun k => 6 - k) 0 ⟨rfl, rfl, rfl, rfl, rfl, rfl, rfl, trivial⟩ ⟨by omega, .refl _ _⟩ ?_
  rintro k t w10 ⟨hk, hx⟩
  by_cases hk1 : k < 6
  · have hk2 : k < (wantL y z).length := hk1
    have hrk : Row w9 bw (ow + k * 1) (boolL ((wantL y z)[k]'hk2)) := hrw.elem (f := boolL) (c := 1) (fun _ => rfl) (k := k) (t := (wantL y z)[k]'hk2) (List.getElem?_eq_getElem hk2)
    have hwk := want_at y z (k := k) hk2
    generalize (wantL y z)[k]'hk2 = wk at *
    have hho := hh [] ((k : Int) + 1)
    rw [decide_eq_true (show 1 ≤ (k : Int) + 1 ∧ (k : Int) + 1 ≤ 6 by omega), Bool.true_and, ← hwk] at hho
    repeat' (first | refine a_mov ?_ | refine a_asg ?_ | refine a_binN ?_ | refine a_notd ?_ | refine a_notb ?_ | refine a_nilc ?_ | refine a_fa ?_ | refine a_ext ?_ | refine a_lenv ?_ | refine a_lens ?_ | refine a_pick_t ?_ | refine a_pick_f ?_ | refine a_not ?_ | refine a_nilf ?_ | (refine o_nil (hK _ _ ?_); clear hK K) | refine wk_reg ?_ | refine wk_seq fun K hK => ?_ | (refine wk_skip (hK _ _ ?_); clear hK K) | (refine wk_label (hK _ _ ?_); clear hK K) | refine wk_scope ?_ | refine wk_block ?_ | refine wk_cond_t rfl ?_ | refine wk_cond_f rfl ?_ | (refine wk_exit ?_; (repeat (refine blockK_other rfl ?_)); refine blockK_same ?_; try ((repeat ((fail_if_success (refine hK _ _ ?_)); clear hK K)); refine hK _ _ ?_; clear hK K)) | (refine a_bin ?_ ?_ <;> intro _ <;> try (exfalso; omega)) | refine a_ld hl ?_ | (refine a_st hl ?_; clear hl; intro _ hl) | refine a_ix (fun _ => ?_) | fail)
    refine wk_grow [([0, 1, 2, 3, 4, 5, 6, 7, 8, 9, 10, 11, 12, 13, 14, 15, 16, 17], [])] ?_
    refine g_end ?_
    repeat' (first | refine x_mov ?_ | refine x_fa ?_ | refine x_binN ?_ | refine x_idx (c := 4) i hpf ?_ | refine x_idx (c := 1) k hpw ?_ | refine x_row (fun w_ hw_ => rd'.ext (hx.trans hw_)) ?_ | refine x_row (fun w_ hw_ => hrf.ext (hx.trans hw_)) ?_ | refine x_row (fun w_ hw_ => hrk.ext (hx.trans hw_)) ?_ | refine x_all (fun w_ hw_ => rd'.ext (hx.trans hw_)) ?_ | refine x_fn (fun w' hw' => test_calls s ((k : Int) + 1) z w') ?_ | (refine x_fn (v := .bool wk) (fun w' hw' => ?_) ?_; have h1 := holds_calls F c [] nF nC (by simp) tF (tst s ((k : Int) + 1) z) w' _ (.slice none 0 0) _ _ (.slice none 0 0) (KA.nil _) (fun b h => h) (short_of (by simp [tst, cnt, cntL])) (by simp [tst, cnt, cntL]) (hd.ext (hx.trans hw')) (hc.ext (hx.trans hw')) (Sl.nil _ _); rw [hho] at h1; exact h1))
    refine x_neB ?_
    refine x_nil fun w11 hw11 => hK _ _ ?_
    clear hK K
    have hfalse : (!(wk == wk)) = false := by simp
    rw [hfalse]
    repeat' (first | refine a_mov ?_ | refine a_asg ?_ | refine a_binN ?_ | refine a_notd ?_ | refine a_notb ?_ | refine a_nilc ?_ | refine a_fa ?_ | refine a_ext ?_ | refine a_lenv ?_ | refine a_lens ?_ | refine a_pick_t ?_ | refine a_pick_f ?_ | refine a_not ?_ | refine a_nilf ?_ | (refine o_nil (hK _ _ ?_); clear hK K) | refine wk_reg ?_ | refine wk_seq fun K hK => ?_ | (refine wk_skip (hK _ _ ?_); clear hK K) | (refine wk_label (hK _ _ ?_); clear hK K) | refine wk_scope ?_ | refine wk_block ?_ | refine wk_cond_t rfl ?_ | refine wk_cond_f rfl ?_ | (refine wk_exit ?_; (repeat (refine blockK_other rfl ?_)); refine blockK_same ?_; try ((repeat ((fail_if_success (refine hK _ _ ?_)); clear hK K)); refine hK _ _ ?_; clear hK K)) | (refine a_bin ?_ ?_ <;> intro _ <;> try (exfalso; omega)) | refine a_ld hl ?_ | (refine a_st hl ?_; clear hl; intro _ hl) | refine a_ix (fun _ => ?_) | fail)
    exact o_nil ⟨k + 1, ⟨rfl, rfl, rfl, rfl, rfl, rfl, rfl, trivial⟩, rfl, ⟨by omega, hx.trans hw11⟩, by omega⟩
  · have ho7 := hh [] 7
    have ho0 := hh [] 0
    rw [decide_eq_false (by omega), Bool.false_and] at ho7 ho0
    repeat' (first | refine a_mov ?_ | refine a_asg ?_ | refine a_binN ?_ | refine a_notd ?_ | refine a_notb ?_ | refine a_nilc ?_ | refine a_fa ?_ | refine a_ext ?_ | refine a_lenv ?_ | refine a_lens ?_ | refine a_pick_t ?_ | refine a_pick_f ?_ | refine a_not ?_ | refine a_nilf ?_ | (refine o_nil (hK _ _ ?_); clear hK K) | refine wk_reg ?_ | refine wk_seq fun K hK => ?_ | (refine wk_skip (hK _ _ ?_); clear hK K) | (refine wk_label (hK _ _ ?_); clear hK K) | refine wk_scope ?_ | refine wk_block ?_ | refine wk_cond_t rfl ?_ | refine wk_cond_f rfl ?_ | (refine wk_exit ?_; (repeat (refine blockK_other rfl ?_)); refine blockK_same ?_; try ((repeat ((fail_if_success (refine hK _ _ ?_)); clear hK K)); refine hK _ _ ?_; clear hK K)) | (refine a_bin ?_ ?_ <;> intro _ <;> try (exfalso; omega)) | refine a_ld hl ?_ | (refine a_st hl ?_; clear hl; intro _ hl) | refine a_ix (fun _ => ?_) | fail)
    refine wk_grow [([0, 1, 2, 3, 4, 5, 6, 7, 8, 9, 10, 11, 12, 13, 14, 15, 16, 17, 18, 19, 20, 21, 22, 23, 24, 25, 26, 27, 28, 29], [])] ?_
    refine g_end ?_
    have hT := fun (m : Int) (hm : holdsB F c [] (tst s m z) = false) w' (hw' : Ext w10 w') => by
      have h1 := holds_calls F c [] nF nC (by simp) tF (tst s m z) w' _ (.slice none 0 0) _ _ (.slice none 0 0) (KA.nil _) (fun b h => h) (short_of (by simp [tst, cnt, cntL])) (by simp [tst, cnt, cntL]) (hd.ext (hx.trans hw')) (hc.ext (hx.trans hw')) (Sl.nil _ _)
      rw [hm] at h1
      exact h1
    repeat' (first | refine x_mov ?_ | refine x_asg ?_ | refine x_fa ?_ | refine x_ext ?_ | refine x_binN ?_ | refine x_notd ?_ | refine x_notb ?_ | refine x_pick_t ?_ | refine x_pick_f ?_ | refine x_nilc ?_ | refine x_skip ?_ | refine x_lens ?_ | refine x_lenv ?_ | refine x_ix (fun _ => ?_) | (refine x_bin ?_ ?_ <;> intro _ <;> try (exfalso; omega)) | refine x_idx (c := 4) i hpf ?_ | refine x_row (fun w_ hw_ => rd'.ext (hx.trans hw_)) ?_ | refine x_row (fun w_ hw_ => hrf.ext (hx.trans hw_)) ?_ | refine x_all (fun w_ hw_ => rd'.ext (hx.trans hw_)) ?_ | refine x_fn (fun w' hw' => test_calls s 7 z w') ?_ | refine x_fn (fun w' hw' => test_calls s 0 z w') ?_ | refine x_fn (hT 7 ho7) ?_ | refine x_fn (hT 0 ho0) ?_)
    refine x_nil fun w11 hw11 => hK _ _ ?_
    clear hK K
    repeat' (first | refine a_mov ?_ | refine a_asg ?_ | refine a_binN ?_ | refine a_notd ?_ | refine a_notb ?_ | refine a_nilc ?_ | refine a_fa ?_ | refine a_ext ?_ | refine a_lenv ?_ | refine a_lens ?_ | refine a_pick_t ?_ | refine a_pick_f ?_ | refine a_not ?_ | refine a_nilf ?_ | (refine o_nil (hK _ _ ?_); clear hK K) | refine wk_reg ?_ | refine wk_seq fun K hK => ?_ | (refine wk_skip (hK _ _ ?_); clear hK K) | (refine wk_label (hK _ _ ?_); clear hK K) | refine wk_scope ?_ | refine wk_block ?_ | refine wk_cond_t rfl ?_ | refine wk_cond_f rfl ?_ | (refine wk_exit ?_; (repeat (refine blockK_other rfl ?_)); refine blockK_same ?_; try ((repeat ((fail_if_success (refine hK _ _ ?_)); clear hK K)); refine hK _ _ ?_; clear hK K)) | (refine a_bin ?_ ?_ <;> intro _ <;> try (exfalso; omega)) | refine a_ld hl ?_ | (refine a_st hl ?_; clear hl; intro _ hl) | refine a_ix (fun _ => ?_) | fail)
    refine wk_ret (retQ_tmp1 Tryd.results5 (by decide) rfl (by conv => lhs; whnf) ?_)
    exact ⟨rfl, (he.trans hx).trans hw11⟩
end Go.Proofs
