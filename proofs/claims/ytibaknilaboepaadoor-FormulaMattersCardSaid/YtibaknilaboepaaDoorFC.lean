/-
  Formulas: is a text a name, is a node formed.
-/
import Derived.Test.YtibaknilaboepaaDoorFA
import Derived.Test.YtibaknilaboepaaDoorFB
import Derived.Test.YtibaknilaboepaaDoorLD
set_option linter.unusedVariables false
set_option linter.unusedSimpArgs false
set_option linter.unnecessarySimpa false
set_option maxRecDepth 10000
namespace Go.Proofs
open Go Go.Pd Go.Lexs Go.Fin Go.Fo
attribute [local irreducible] OpsL W RetQ OpsQ OpsC

theorem toks_len4 (l : List Tok) : (toksL l).length = l.length * 4 := flat_length (f := tokL) (fun _ => rfl) l

set_option maxHeartbeats 2000000 in
theorem name_calls (s : List UInt8) (w : World) : Calls Tryd.prog 66 #[str s] w (fun e w' => ∃ x, e = .returned x ∧ x = .bool (Nm s) ∧ Ext w w') := by
  refine calls_of Tryd.func66 rfl Tryd.ntmps66 rfl ?_
  repeat' (first | refine a_mov ?_ | refine a_asg ?_ | refine a_binN ?_ | refine a_notd ?_ | refine a_notb ?_ | refine a_nilc ?_ | refine a_fa ?_ | refine a_ext ?_ | refine a_lenv ?_ | refine a_lens ?_ | refine a_pick_t ?_ | refine a_pick_f ?_ | refine a_not ?_ | refine a_nilf ?_ | (refine o_nil (hK _ _ ?_); clear hK K) | refine wk_reg ?_ | refine wk_seq fun K hK => ?_ | (refine wk_skip (hK _ _ ?_); clear hK K) | (refine wk_label (hK _ _ ?_); clear hK K) | refine wk_scope ?_ | refine wk_block ?_ | refine wk_cond_t rfl ?_ | refine wk_cond_f rfl ?_ | (refine wk_exit ?_; (repeat (refine blockK_other rfl ?_)); refine blockK_same ?_; try ((repeat ((fail_if_success (refine hK _ _ ?_)); clear hK K)); refine hK _ _ ?_; clear hK K)) | (refine a_bin ?_ ?_ <;> intro _ <;> try (exfalso; omega)) | refine a_ld hl ?_ | (refine a_st hl ?_; clear hl; intro _ hl) | refine a_ix (fun _ => ?_) | fail)
  refine o_fn (lex_calls s w) rfl (fun _ => rfl) rfl ?_
  rintro v w1 ⟨he, ho⟩
  have hnm := lex_name s
  cases hx : lex s with
  | bad e off =>
    rw [hx] at ho
    have ho : v = _ := ho
    subst ho
    have hf : Nm s = false := by
      cases h : Nm s
      · rfl
      · obtain ⟨t, ht, -⟩ := hnm.2 h
        rw [hx] at ht; cases ht
    have hne : e ≠ 0 := lex_err hx
    clear hnm hx
    repeat' (first | refine a_mov ?_ | refine a_asg ?_ | refine a_binN ?_ | refine a_notd ?_ | refine a_notb ?_ | refine a_nilc ?_ | refine a_fa ?_ | refine a_ext ?_ | refine a_lenv ?_ | refine a_lens ?_ | refine a_pick_t ?_ | refine a_pick_f ?_ | refine a_not ?_ | refine a_nilf ?_ | (refine o_nil (hK _ _ ?_); clear hK K) | refine wk_reg ?_ | refine wk_seq fun K hK => ?_ | (refine wk_skip (hK _ _ ?_); clear hK K) | (refine wk_label (hK _ _ ?_); clear hK K) | refine wk_scope ?_ | refine wk_block ?_ | refine wk_cond_t rfl ?_ | refine wk_cond_f rfl ?_ | (refine wk_exit ?_; (repeat (refine blockK_other rfl ?_)); refine blockK_same ?_; try ((repeat ((fail_if_success (refine hK _ _ ?_)); clear hK K)); refine hK _ _ ?_; clear hK K)) | (refine a_bin ?_ ?_ <;> intro _ <;> try (exfalso; omega)) | refine a_ld hl ?_ | (refine a_st hl ?_; clear hl; intro _ hl) | refine a_ix (fun _ => ?_) | fail)
    refine wk_ret (retQ_tmp1 Tryd.results66 (by decide) rfl (by conv => lhs; whnf) ?_)
    exact ⟨by rw [hf], he⟩
  | ok l =>
    rw [hx] at ho
    obtain ⟨sv, rfl, hsl⟩ := ho
    obtain ⟨pa, ca, rfl, -⟩ := hsl.shape (toks_len4 l) (by omega)
    by_cases h1 : l.length = 1
    · obtain ⟨t, rfl⟩ := List.length_eq_one_iff.1 h1
      obtain ⟨ba, oa, hpa, hra⟩ := hsl.at (m := 1) rfl (by omega) (by omega)
      have hr0 : Row w1 ba (oa + 0 * 4) [.int .i64 (t.kind : Int), str t.text, .int .i64 (t.num : Int), .int .i64 (t.pos : Int)] := hra.elem (f := tokL) (fun _ => rfl) (k := 0) (t := t) rfl
      have hnm2 : Nm s = true ↔ t.kind = 1 ∧ t.text = s := by
        rw [← hnm, hx]
        constructor
        · rintro ⟨u, hu, h⟩
          cases hu; exact h
        · intro h; exact ⟨t, rfl, h⟩
      have h11 : ([t] : List Tok).length = 1 := rfl
      rw [h11]
      clear hnm hx
      repeat' (first | refine a_mov ?_ | refine a_asg ?_ | refine a_binN ?_ | refine a_notd ?_ | refine a_notb ?_ | refine a_nilc ?_ | refine a_fa ?_ | refine a_ext ?_ | refine a_lenv ?_ | refine a_lens ?_ | refine a_pick_t ?_ | refine a_pick_f ?_ | refine a_not ?_ | refine a_nilf ?_ | (refine o_nil (hK _ _ ?_); clear hK K) | refine wk_reg ?_ | refine wk_seq fun K hK => ?_ | (refine wk_skip (hK _ _ ?_); clear hK K) | (refine wk_label (hK _ _ ?_); clear hK K) | refine wk_scope ?_ | refine wk_block ?_ | refine wk_cond_t rfl ?_ | refine wk_cond_f rfl ?_ | (refine wk_exit ?_; (repeat (refine blockK_other rfl ?_)); refine blockK_same ?_; try ((repeat ((fail_if_success (refine hK _ _ ?_)); clear hK K)); refine hK _ _ ?_; clear hK K)) | (refine a_bin ?_ ?_ <;> intro _ <;> try (exfalso; omega)) | refine a_ld hl ?_ | (refine a_st hl ?_; clear hl; intro _ hl) | refine a_ix (fun _ => ?_) | refine a_idx (c := 4) 0 hpa ?_ | refine a_row hr0 ?_ | refine o_eqs rfl rfl rfl ?_)
      all_goals (refine wk_ret (retQ_tmp1 Tryd.results66 (by decide) rfl (by conv => lhs; whnf) ?_))
      all_goals refine ⟨congrArg Value.bool ?_, he⟩
      · rw [Bool.eq_iff_iff, hnm2, decide_eq_true_eq]
        exact ⟨fun h => ⟨by omega, h⟩, And.right⟩
      · cases hq : Nm s
        · rfl
        · exact absurd (hnm2.1 hq).1 (by omega)
    · have hf : Nm s = false := by
        cases h : Nm s
        · rfl
        · obtain ⟨t, ht, -⟩ := hnm.2 h
          rw [hx] at ht
          cases ht
          exact absurd rfl h1
      clear hnm hx
      repeat' (first | refine a_mov ?_ | refine a_asg ?_ | refine a_binN ?_ | refine a_notd ?_ | refine a_notb ?_ | refine a_nilc ?_ | refine a_fa ?_ | refine a_ext ?_ | refine a_lenv ?_ | refine a_lens ?_ | refine a_pick_t ?_ | refine a_pick_f ?_ | refine a_not ?_ | refine a_nilf ?_ | (refine o_nil (hK _ _ ?_); clear hK K) | refine wk_reg ?_ | refine wk_seq fun K hK => ?_ | (refine wk_skip (hK _ _ ?_); clear hK K) | (refine wk_label (hK _ _ ?_); clear hK K) | refine wk_scope ?_ | refine wk_block ?_ | refine wk_cond_t rfl ?_ | refine wk_cond_f rfl ?_ | (refine wk_exit ?_; (repeat (refine blockK_other rfl ?_)); refine blockK_same ?_; try ((repeat ((fail_if_success (refine hK _ _ ?_)); clear hK K)); refine hK _ _ ?_; clear hK K)) | (refine a_bin ?_ ?_ <;> intro _ <;> try (exfalso; omega)) | refine a_ld hl ?_ | (refine a_st hl ?_; clear hl; intro _ hl) | refine a_ix (fun _ => ?_) | fail)
      refine wk_ret (retQ_tmp1 Tryd.results66 (by decide) rfl (by conv => lhs; whnf) ?_)
      exact ⟨by rw [hf], he⟩

def formedP (op : Int) (s : List UInt8) (cmp num : Int) (n : Nat) (nm : Bool) : Bool :=
  if (op ≠ 3 ∧ (cmp ≠ 0 ∨ num ≠ 0)) ∨ (op ≠ 3 ∧ op ≠ 4 ∧ s ≠ []) then false
  else if op = 1 ∨ op = 2 then decide (n = 0)
  else if op = 3 then decide (n = 0) && (nm && (decide (1 ≤ cmp) && decide (cmp ≤ 6)))
  else if op = 4 then decide (n = 0) && nm
  else if op = 5 then decide (n = 1)
  else if op = 6 ∨ op = 7 then decide (2 ≤ n)
  else false

set_option maxHeartbeats 4000000 in
theorem formedS_calls (f : Fm) (kv : Value) (w : World) (hk : ∃ a c, kv = .slice a f.kids.length c) (hc : f.kids.length ≤ 9223372036854775806) : Calls Tryd.prog 55 #[.agg (fmL f kv).toArray] w (fun e w' => ∃ x, e = .returned x ∧ x = .bool (formed f) ∧ Ext w w') := by
  obtain ⟨a, c, rfl⟩ := hk
  have hfm : formed f = formedP f.op f.name f.cmp f.num f.kids.length (Nm f.name) := rfl
  refine calls_of Tryd.func55 rfl Tryd.ntmps55 rfl ?_
  refine wk_seq fun K hK => ?_
  refine wk_reg ?_
  refine o_box (LH.start w (fun _ => False)) [.int .i64 (f).op, str (f).name, .int .i64 (f).cmp, .int .i64 (f).num, .slice a f.kids.length c] rfl rfl rfl ?_
  intro b w1 hb hl
  have hr : Row w1 b 0 [.int .i64 (f).op, str (f).name, .int .i64 (f).cmp, .int .i64 (f).num, .slice a f.kids.length c] := hl.rowL (vs := [.int .i64 (f).op, str (f).name, .int .i64 (f).cmp, .int .i64 (f).num, .slice a f.kids.length c]) 0 0 5 rfl
  have he1 := hl.done
  have hnc := name_calls f.name
  generalize Nm f.name = nm at *
  generalize f.op = op at *
  generalize f.name = s at *
  generalize f.cmp = cmp at *
  generalize f.num = num at *
  generalize f.kids.length = nk at *
  repeat' (first | refine a_mov ?_ | refine a_asg ?_ | refine a_binN ?_ | refine a_notd ?_ | refine a_notb ?_ | refine a_nilc ?_ | refine a_fa ?_ | refine a_ext ?_ | refine a_lenv ?_ | refine a_lens ?_ | refine a_pick_t ?_ | refine a_pick_f ?_ | refine a_not ?_ | refine a_nilf ?_ | (refine o_nil (hK _ _ ?_); clear hK K) | refine wk_reg ?_ | refine wk_seq fun K hK => ?_ | (refine wk_skip (hK _ _ ?_); clear hK K) | (refine wk_label (hK _ _ ?_); clear hK K) | refine wk_scope ?_ | refine wk_block ?_ | refine wk_cond_t rfl ?_ | refine wk_cond_f rfl ?_ | (refine wk_exit ?_; (repeat (refine blockK_other rfl ?_)); refine blockK_same ?_; try ((repeat ((fail_if_success (refine hK _ _ ?_)); clear hK K)); refine hK _ _ ?_; clear hK K)) | (refine a_bin ?_ ?_ <;> intro _ <;> try (exfalso; omega)) | refine a_ld hl ?_ | (refine a_st hl ?_; clear hl; intro _ hl) | refine a_ix (fun _ => ?_) | refine o_nesT (b := []) rfl rfl (by simp only [str_eq]; rfl) ?_ ?_ <;> intro hnm)
  all_goals try (refine a_fn (hnc w1) ?_; rintro _ w2 ⟨rfl, he2⟩; clear hl hnc; have he3 := he1.trans he2; have hr2 := hr.ext he2; clear hr; cases nm <;> repeat' (first | refine a_mov ?_ | refine a_asg ?_ | refine a_binN ?_ | refine a_notd ?_ | refine a_notb ?_ | refine a_nilc ?_ | refine a_fa ?_ | refine a_ext ?_ | refine a_lenv ?_ | refine a_lens ?_ | refine a_pick_t ?_ | refine a_pick_f ?_ | refine a_not ?_ | refine a_nilf ?_ | (refine o_nil (hK _ _ ?_); clear hK K) | refine wk_reg ?_ | refine wk_seq fun K hK => ?_ | (refine wk_skip (hK _ _ ?_); clear hK K) | (refine wk_label (hK _ _ ?_); clear hK K) | refine wk_scope ?_ | refine wk_block ?_ | refine wk_cond_t rfl ?_ | refine wk_cond_f rfl ?_ | (refine wk_exit ?_; (repeat (refine blockK_other rfl ?_)); refine blockK_same ?_; try ((repeat ((fail_if_success (refine hK _ _ ?_)); clear hK K)); refine hK _ _ ?_; clear hK K)) | (refine a_bin ?_ ?_ <;> intro _ <;> try (exfalso; omega)) | refine a_ld hl ?_ | (refine a_st hl ?_; clear hl; intro _ hl) | refine a_ix (fun _ => ?_) | refine a_row hr2 ?_))
  all_goals (refine wk_ret (retQ_tmp1 Tryd.results55 (by decide) rfl (by conv => lhs; whnf) ?_))
  all_goals refine ⟨congrArg Value.bool ?_, by first | exact he3 | exact he1⟩
  all_goals (rw [hfm]; clear hfm; unfold formedP)
  all_goals first | (simp_all; done) | (repeat' split; all_goals first | rfl | omega | (simp_all; done) | (simp_all; omega))

set_option maxHeartbeats 4000000 in
theorem refFormed_calls (f : Fm) (kv : Value) (w : World) (G : Nat → Prop) (hk : KR w G f.kids kv) (hc : f.kids.length ≤ 9223372036854775806) (hs : f.name.length ≤ 9223372036854775806) : Calls Tryd.prog 57 #[.agg (fmL f kv).toArray] w (fun e w' => ∃ x, e = .returned x ∧ x = .bool (formed f) ∧ Ext w w') := by
  obtain ⟨a, c, rfl, -⟩ := hk.shape
  clear hk
  have hfm : formed f = formedP f.op f.name f.cmp f.num f.kids.length (Nm f.name) := rfl
  refine calls_of Tryd.func57 rfl Tryd.ntmps57 rfl ?_
  refine wk_seq fun K hK => ?_
  refine wk_reg ?_
  refine o_box (LH.start w (fun _ => False)) [.int .i64 (f).op, str (f).name, .int .i64 (f).cmp, .int .i64 (f).num, .slice a f.kids.length c] rfl rfl rfl ?_
  intro b w1 hb hl
  have he1 := hl.done
  have hnc := refName_calls f.name hs w1
  clear hs
  generalize Nm f.name = nm at *
  generalize f.op = op at *
  generalize f.name = s at *
  generalize f.cmp = cmp at *
  generalize f.num = num at *
  generalize f.kids.length = nk at *
  repeat' (first | refine a_mov ?_ | refine a_asg ?_ | refine a_binN ?_ | refine a_notd ?_ | refine a_notb ?_ | refine a_nilc ?_ | refine a_fa ?_ | refine a_ext ?_ | refine a_lenv ?_ | refine a_lens ?_ | refine a_pick_t ?_ | refine a_pick_f ?_ | refine a_not ?_ | refine a_nilf ?_ | (refine o_nil (hK _ _ ?_); clear hK K) | refine wk_reg ?_ | refine wk_seq fun K hK => ?_ | (refine wk_skip (hK _ _ ?_); clear hK K) | (refine wk_label (hK _ _ ?_); clear hK K) | refine wk_scope ?_ | refine wk_block ?_ | refine wk_cond_t rfl ?_ | refine wk_cond_f rfl ?_ | (refine wk_exit ?_; (repeat (refine blockK_other rfl ?_)); refine blockK_same ?_; try ((repeat ((fail_if_success (refine hK _ _ ?_)); clear hK K)); refine hK _ _ ?_; clear hK K)) | (refine a_bin ?_ ?_ <;> intro _ <;> try (exfalso; omega)) | refine a_ld hl ?_ | (refine a_st hl ?_; clear hl; intro _ hl) | refine a_ix (fun _ => ?_) | refine o_eqsT (b := []) rfl rfl (by simp only [str_eq]; rfl) ?_ ?_ <;> intro hnm)
  all_goals try (refine a_fn hnc ?_; rintro _ w2 ⟨rfl, he2⟩; obtain rfl : w2 = w1 := he2; clear hnc; cases nm <;> repeat' (first | refine a_mov ?_ | refine a_asg ?_ | refine a_binN ?_ | refine a_notd ?_ | refine a_notb ?_ | refine a_nilc ?_ | refine a_fa ?_ | refine a_ext ?_ | refine a_lenv ?_ | refine a_lens ?_ | refine a_pick_t ?_ | refine a_pick_f ?_ | refine a_not ?_ | refine a_nilf ?_ | (refine o_nil (hK _ _ ?_); clear hK K) | refine wk_reg ?_ | refine wk_seq fun K hK => ?_ | (refine wk_skip (hK _ _ ?_); clear hK K) | (refine wk_label (hK _ _ ?_); clear hK K) | refine wk_scope ?_ | refine wk_block ?_ | refine wk_cond_t rfl ?_ | refine wk_cond_f rfl ?_ | (refine wk_exit ?_; (repeat (refine blockK_other rfl ?_)); refine blockK_same ?_; try ((repeat ((fail_if_success (refine hK _ _ ?_)); clear hK K)); refine hK _ _ ?_; clear hK K)) | (refine a_bin ?_ ?_ <;> intro _ <;> try (exfalso; omega)) | refine a_ld hl ?_ | (refine a_st hl ?_; clear hl; intro _ hl) | refine a_ix (fun _ => ?_)))
  all_goals (refine wk_ret (retQ_tmp1 Tryd.results57 (by decide) rfl (by conv => lhs; whnf) ?_))
  all_goals refine ⟨congrArg Value.bool ?_, he1⟩
  all_goals (rw [hfm]; clear hfm; unfold formedP)
  all_goals first | (simp_all; done) | (repeat' split; all_goals first | rfl | omega | (simp_all; done) | (simp_all; omega))
end Go.Proofs

/-
  Formulas: formula.check, formula.Check.
-/
set_option linter.unusedVariables false
set_option linter.unusedSimpArgs false
set_option linter.unnecessarySimpa false
set_option maxRecDepth 10000
namespace Go.Fo
open Go.Lexs Go.Fin
theorem idxI_neg (F : List Fact) (s : List UInt8) : idxI F s < 0 ↔ idx F s = none := by
  unfold idxI
  cases idx F s with
  | none => simp
  | some i => simp
end Go.Fo

namespace Go.Proofs
open Go Go.Pd Go.Lexs Go.Fin Go.Fo
attribute [local irreducible] OpsL W RetQ OpsQ OpsC

/-! ### Rounds over own blocks -/
theorem _root_.Go.Pd.LH.later {w w2 : World} {Fp : Nat → Prop} {l2 : List (Nat × Obj)} (h2 : LH w Fp w2 l2) : Later Fp (fun b => b ∈ l2.map (·.1)) w w2 := ⟨h2.upd, fun b hb => by
  obtain ⟨p, hp, rfl⟩ := List.mem_map.1 hb
  exact (h2.fresh p hp).symm⟩

/-- What a function that knows names answers, in this world and the later ones. -/
def KnownC (fv : Value) (known : List UInt8 → Bool) (w : World) : Prop := ∀ w', Ext w w' → ∀ s, CallV Tryd.prog fv #[str s] w' (fun v w2 => v = .bool (known s) ∧ Ext w' w2)

def ckL (f : Fm) (kv dv fv : Value) (b3 b4 b5 b6 bn D L : Nat) (rec : Loop) (e : Int) : List (Nat × Obj) :=
  [(L, .loop rec), (D, .deferred (some [])), (bn, .cells ([.int .i64 (f).op, str (f).name, .int .i64 (f).cmp, .int .i64 (f).num, kv] : List Value).toArray 24 (0, 0)), (b6, .cells #[.int .i64 e] 36 (0, 0)), (b5, .cells #[fv] 63 (0, 0)), (b4, .cells #[dv] 27 (0, 0)), (b3, .cells ([.int .i64 (f).op, str (f).name, .int .i64 (f).cmp, .int .i64 (f).num, kv] : List Value).toArray 24 (0, 0))]

theorem firstE_at {F : List Fact} {known : List UInt8 → Bool} {p rest : List Fm} {x : Fm} (h0 : firstE F known p = 0) (hx : nodeE F known x ≠ 0) : firstE F known (p ++ x :: rest) = nodeE F known x := by
  rw [firstE_app, if_neg (by simp [h0])]
  simp only [firstE, if_pos hx]
theorem firstE_go {F : List Fact} {known : List UInt8 → Bool} {p : List Fm} {x : Fm} (h0 : firstE F known p = 0) (hx : nodeE F known x = 0) : firstE F known (p ++ [x]) = 0 := by
  rw [firstE_app, if_neg (by simp [h0])]
  simp [firstE, hx]

set_option maxHeartbeats 8000000 in
theorem check_calls (F : List Fact) (known : List UInt8 → Bool) (hF : F.length ≤ 9223372036854775806) (f : Fm) (w : World) (G : Nat → Prop) (kv dv fv : Value) (hk : KR w G f.kids kv) (hG : ∀ b, G b → b < w.heap.size) (hs : Short f.kids) (hc : cnt f ≤ 1000000) (hd : Sl w dv 4 (factsL F)) (hkn : KnownC fv known w) (h1 : Cell1 fv) :
    Calls Tryd.prog 36 #[.agg (fmL f kv).toArray, .agg #[dv], fv] w (fun e w' => ∃ x, e = .returned x ∧ x = .int .i64 (checkE F known f : Int) ∧ Ext w w') := by
  obtain ⟨a, c, rfl, -⟩ := hk.shape
  obtain ⟨da, dc, rfl, -⟩ := hd.shape (factsL_len F) (by omega)
  refine calls_of Tryd.func36 rfl Tryd.ntmps36 rfl ?_
  refine wk_seq fun K hK => ?_
  refine wk_reg ?_
  refine o_box (LH.start w (fun _ => False)) [.int .i64 (f).op, str (f).name, .int .i64 (f).cmp, .int .i64 (f).num, .slice a f.kids.length c] rfl rfl rfl ?_
  intro b3 w1 hb3 hl
  refine o_box hl [.slice da F.length dc] rfl rfl rfl ?_
  clear hl
  intro b4 w2 hb4 hl
  refine o_box hl [fv] rfl rfl h1.1 ?_
  clear hl
  intro b5 w3 hb5 hl
  refine o_alloc hl [.int .i64 0] rfl rfl ?_
  clear hl
  intro b6 w4 hb6 hl
  repeat' (first | refine a_mov ?_ | refine a_asg ?_ | refine a_binN ?_ | refine a_notd ?_ | refine a_notb ?_ | refine a_nilc ?_ | refine a_fa ?_ | refine a_ext ?_ | refine a_lenv ?_ | refine a_lens ?_ | refine a_pick_t ?_ | refine a_pick_f ?_ | refine a_not ?_ | refine a_nilf ?_ | (refine o_nil (hK _ _ ?_); clear hK K) | refine wk_reg ?_ | refine wk_seq fun K hK => ?_ | (refine wk_skip (hK _ _ ?_); clear hK K) | (refine wk_label (hK _ _ ?_); clear hK K) | refine wk_scope ?_ | refine wk_block ?_ | refine wk_cond_t rfl ?_ | refine wk_cond_f rfl ?_ | (refine wk_exit ?_; (repeat (refine blockK_other rfl ?_)); refine blockK_same ?_; try ((repeat ((fail_if_success (refine hK _ _ ?_)); clear hK K)); refine hK _ _ ?_; clear hK K)) | (refine a_bin ?_ ?_ <;> intro _ <;> try (exfalso; omega)) | refine a_ld hl ?_ | (refine a_st hl ?_; clear hl; intro _ hl) | refine a_ix (fun _ => ?_) | refine a_all (hl.rowL (vs := [.int .i64 (f).op, str (f).name, .int .i64 (f).cmp, .int .i64 (f).num, .slice a f.kids.length c]) 3 0 5 rfl) ?_)
  refine a_fn (size_calls f w4 G _ (hk.ext hl.done) hc) ?_
  rintro _ w5 ⟨rfl, he5⟩
  replace hl := hl.ext he5
  clear he5
  by_cases hlg : 200 < cnt f ∨ 20 < dep f
  · have hck : checkE F known f = 2 := by unfold checkE; rw [if_pos hlg]
    repeat' (first | refine a_mov ?_ | refine a_asg ?_ | refine a_binN ?_ | refine a_notd ?_ | refine a_notb ?_ | refine a_nilc ?_ | refine a_fa ?_ | refine a_ext ?_ | refine a_lenv ?_ | refine a_lens ?_ | refine a_pick_t ?_ | refine a_pick_f ?_ | refine a_not ?_ | refine a_nilf ?_ | (refine o_nil (hK _ _ ?_); clear hK K) | refine wk_reg ?_ | refine wk_seq fun K hK => ?_ | (refine wk_skip (hK _ _ ?_); clear hK K) | (refine wk_label (hK _ _ ?_); clear hK K) | refine wk_scope ?_ | refine wk_block ?_ | refine wk_cond_t rfl ?_ | refine wk_cond_f rfl ?_ | (refine wk_exit ?_; (repeat (refine blockK_other rfl ?_)); refine blockK_same ?_; try ((repeat ((fail_if_success (refine hK _ _ ?_)); clear hK K)); refine hK _ _ ?_; clear hK K)) | (refine a_bin ?_ ?_ <;> intro _ <;> try (exfalso; omega)) | refine a_ld hl ?_ | (refine a_st hl ?_; clear hl; intro _ hl) | refine a_ix (fun _ => ?_) | fail)
    all_goals refine wk_ret (retQ_res [.int .i64 2] rfl rfl ⟨by decide, ⟨⟨b6, 0, none⟩, rfl, run_loadVar1 rfl (hl.cell 0 rfl rfl)⟩, trivial⟩ ⟨by rw [hck]; rfl, hl.done⟩)
  have hck : checkE F known f = firstE F known (pre f) := by unfold checkE; rw [if_neg hlg]
  repeat' (first | refine a_mov ?_ | refine a_asg ?_ | refine a_binN ?_ | refine a_notd ?_ | refine a_notb ?_ | refine a_nilc ?_ | refine a_fa ?_ | refine a_ext ?_ | refine a_lenv ?_ | refine a_lens ?_ | refine a_pick_t ?_ | refine a_pick_f ?_ | refine a_not ?_ | refine a_nilf ?_ | (refine o_nil (hK _ _ ?_); clear hK K) | refine wk_reg ?_ | refine wk_seq fun K hK => ?_ | (refine wk_skip (hK _ _ ?_); clear hK K) | (refine wk_label (hK _ _ ?_); clear hK K) | refine wk_scope ?_ | refine wk_block ?_ | refine wk_cond_t rfl ?_ | refine wk_cond_f rfl ?_ | (refine wk_exit ?_; (repeat (refine blockK_other rfl ?_)); refine blockK_same ?_; try ((repeat ((fail_if_success (refine hK _ _ ?_)); clear hK K)); refine hK _ _ ?_; clear hK K)) | (refine a_bin ?_ ?_ <;> intro _ <;> try (exfalso; omega)) | refine a_ld hl ?_ | (refine a_st hl ?_; clear hl; intro _ hl) | refine a_ix (fun _ => ?_) | refine a_all (hl.rowL (vs := [.int .i64 (f).op, str (f).name, .int .i64 (f).cmp, .int .i64 (f).num, .slice a f.kids.length c]) 3 0 5 rfl) ?_)
  refine a_fn (nodes_calls f _ w5 ⟨a, c, rfl⟩) ?_
  rintro _ w6 ⟨bn, rfl, hl6⟩
  replace hl := hl.join hl6
  clear hl6
  repeat' (first | refine a_mov ?_ | refine a_asg ?_ | refine a_binN ?_ | refine a_notd ?_ | refine a_notb ?_ | refine a_nilc ?_ | refine a_fa ?_ | refine a_ext ?_ | refine a_lenv ?_ | refine a_lens ?_ | refine a_pick_t ?_ | refine a_pick_f ?_ | refine a_not ?_ | refine a_nilf ?_ | (refine o_nil (hK _ _ ?_); clear hK K) | refine wk_reg ?_ | refine wk_seq fun K hK => ?_ | (refine wk_skip (hK _ _ ?_); clear hK K) | (refine wk_label (hK _ _ ?_); clear hK K) | refine wk_scope ?_ | refine wk_block ?_ | refine wk_cond_t rfl ?_ | refine wk_cond_f rfl ?_ | (refine wk_exit ?_; (repeat (refine blockK_other rfl ?_)); refine blockK_same ?_; try ((repeat ((fail_if_success (refine hK _ _ ?_)); clear hK K)); refine hK _ _ ?_; clear hK K)) | (refine a_bin ?_ ?_ <;> intro _ <;> try (exfalso; omega)) | refine a_ld hl ?_ | (refine a_st hl ?_; clear hl; intro _ hl) | refine a_ix (fun _ => ?_) | fail)
  refine wk_rangeFunc rfl (fun _ _ => rfl) ?_
  intro fn tm w7 hfits hheap
  generalize hD : w6.heap.size = D at hheap ⊢
  generalize hrec : Loop.mk _ _ _ _ _ _ _ _ = rec at hheap
  have hl7 : LH w (fun _ => False) w7 (ckL f (.slice a f.kids.length c) (.slice da F.length dc) fv b3 b4 b5 b6 bn D (D + 1) rec 0) := by
    have h1 := ((hl.alloc (.deferred (some []))).alloc (.loop rec)).heap hheap
    simp only [Array.size_push] at h1
    rw [hD] at h1
    exact h1
  clear hl hheap
  have he7 := hl7.done
  refine Calls.mono (nodes1_calls (.func (.yield (D + 1)) #[] #[]) f (.slice a f.kids.length c) bn
    (fun p Fp w' => Fp = (fun b => b ∈ (ckL f (.slice a f.kids.length c) (.slice da F.length dc) fv b3 b4 b5 b6 bn D (D + 1) rec 0).map (·.1)) ∧ firstE F known p = 0 ∧ LH w (fun _ => False) w' (ckL f (.slice a f.kids.length c) (.slice da F.length dc) fv b3 b4 b5 b6 bn D (D + 1) rec 0))
    (fun w' => firstE F known (pre f) ≠ 0 ∧ LH w (fun _ => False) w' (ckL f (.slice a f.kids.length c) (.slice da F.length dc) fv b3 b4 b5 b6 bn D (D + 1) { rec with state := .done, pending := some .ret } (firstE F known (pre f) : Int)))
    ?_ ?_ ?_ _ G w7 ⟨rfl, rfl⟩ (hk.ext he7) ?_ hs (hl7.rowL (vs := [.int .i64 (f).op, str (f).name, .int .i64 (f).cmp, .int .i64 (f).num, .slice a f.kids.length c]) 2 0 5 rfl) ⟨rfl, rfl, hl7⟩) ?_
  · rintro p Fp w' ⟨rfl, -, h⟩ b hb
    obtain ⟨q, hq, rfl⟩ := List.mem_map.1 hb
    exact h.lt hq
  · rintro p Fp w' w'' ⟨h1, h2, h⟩ e
    exact ⟨h1, h2, h.ext e⟩
  · rintro p x Fp wa kv ⟨rest, htot⟩ ⟨rfl, hp0, h⟩ ⟨xa, xc, rfl⟩
    have hb := h.rb
    refine callV_round (n := 63) (hb.get 0 rfl) (congrArg Loop.params hrec.symm) (congrArg Loop.assign hrec.symm) (congrArg Loop.body hrec.symm) rfl (by rw [show rec.tmps = tm from congrArg Loop.tmps hrec.symm]; exact hfits) ?_
    have hready : rec.state = .ready := congrArg Loop.state hrec.symm
    have hpend : rec.pending = none := congrArg Loop.pending hrec.symm
    have hrr : ({ rec with state := .ready, pending := none } : Loop) = rec := by
      cases rec
      simp only at hready hpend
      rw [hready, hpend]
    have hxs : x.kids.length ≤ 9223372036854775806 := by
      have hm : x ∈ pre f := htot ▸ List.mem_append_right _ List.mem_cons_self
      rw [pre_eq] at hm
      rcases List.mem_cons.1 hm with rfl | hm
      · exact hs.1
      · exact hs.2 x hm
    have hbad := fun hx => firstE_at (F := F) (known := known) (rest := rest) (x := x) hp0 hx
    have hgo := fun hx => firstE_go (F := F) (known := known) (x := x) hp0 hx
    rw [← htot] at hbad
    clear hl7 hfits hrec hp0 he7
    dsimp only
    repeat' (first | refine a_mov ?_ | refine a_asg ?_ | refine a_binN ?_ | refine a_notd ?_ | refine a_notb ?_ | refine a_nilc ?_ | refine a_fa ?_ | refine a_ext ?_ | refine a_lenv ?_ | refine a_lens ?_ | refine a_pick_t ?_ | refine a_pick_f ?_ | refine a_not ?_ | refine a_nilf ?_ | (refine o_nil (hK _ _ ?_); clear hK K) | refine wk_reg ?_ | refine wk_seq fun K hK => ?_ | (refine wk_skip (hK _ _ ?_); clear hK K) | (refine wk_label (hK _ _ ?_); clear hK K) | refine wk_scope ?_ | refine wk_block ?_ | refine wk_cond_t rfl ?_ | refine wk_cond_f rfl ?_ | (refine wk_exit ?_; (repeat (refine blockK_other rfl ?_)); refine blockK_same ?_; try ((repeat ((fail_if_success (refine hK _ _ ?_)); clear hK K)); refine hK _ _ ?_; clear hK K)) | (refine a_bin ?_ ?_ <;> intro _ <;> try (exfalso; omega)) | refine a_ld hl ?_ | (refine a_st hl ?_; clear hl; intro _ hl) | refine a_ix (fun _ => ?_) | fail)
    refine o_alloc hb [.int .i64 0, .string ⟨#[]⟩, .int .i64 0, .int .i64 0, .slice none 0 0] rfl rfl ?_
    clear hb
    intro b9 w8 hb9 hl
    refine o_putN (us := [.int .i64 (x).op, str (x).name, .int .i64 (x).cmp, .int .i64 (x).num, .slice xa x.kids.length xc]) hl rfl rfl rfl (by simp only [str_eq]; rfl) rfl (.all rfl rfl) ?_
    clear hl
    intro w9 hl
    refine o_nil ⟨_, hl.get 1 rfl, hready, ?_⟩
    intro w10 hw10
    replace hl := hl.put 1 rfl hw10
    have hl : LH wa _ w10 ((b9, .cells ([.int .i64 (x).op, str (x).name, .int .i64 (x).cmp, .int .i64 (x).num, .slice xa x.kids.length xc] : List Value).toArray 24 (0, 0)) :: ckL f (.slice a f.kids.length c) (.slice da F.length dc) fv b3 b4 b5 b6 bn D (D + 1) { rec with state := .busy } 0) := hl
    unfold ckL at hl
    have stop : ∀ (e : Nat) (w' : World), nodeE F known x = e → e ≠ 0 → LH wa (fun b => b ∈ (ckL f (.slice a f.kids.length c) (.slice da F.length dc) fv b3 b4 b5 b6 bn D (D + 1) rec 0).map (·.1)) w' ((b9, .cells ([.int .i64 (x).op, str (x).name, .int .i64 (x).cmp, .int .i64 (x).num, .slice xa x.kids.length xc] : List Value).toArray 24 (0, 0)) :: ckL f (.slice a f.kids.length c) (.slice da F.length dc) fv b3 b4 b5 b6 bn D (D + 1) { rec with state := .done, pending := some .ret } (e : Int)) →
        firstE F known (pre f) ≠ 0 ∧ LH w (fun _ => False) w' (ckL f (.slice a f.kids.length c) (.slice da F.length dc) fv b3 b4 b5 b6 bn D (D + 1) { rec with state := .done, pending := some .ret } (firstE F known (pre f) : Int)) := by
      intro e w' he h0 h'
      have h2 := hbad (by rw [he]; exact h0)
      rw [h2, he]
      exact ⟨h0, h.bk (h'.sub (List.sublist_cons_self _ _))⟩
    have go : ∀ (w' : World), nodeE F known x = 0 → LH wa (fun b => b ∈ (ckL f (.slice a f.kids.length c) (.slice da F.length dc) fv b3 b4 b5 b6 bn D (D + 1) rec 0).map (·.1)) w' ((b9, .cells ([.int .i64 (x).op, str (x).name, .int .i64 (x).cmp, .int .i64 (x).num, .slice xa x.kids.length xc] : List Value).toArray 24 (0, 0)) :: ckL f (.slice a f.kids.length c) (.slice da F.length dc) fv b3 b4 b5 b6 bn D (D + 1) { rec with state := .ready, pending := none } 0) →
        ∃ Fp', (Fp' = (fun b => b ∈ (ckL f (.slice a f.kids.length c) (.slice da F.length dc) fv b3 b4 b5 b6 bn D (D + 1) rec 0).map (·.1)) ∧ firstE F known (p ++ [x]) = 0 ∧ LH w (fun _ => False) w' (ckL f (.slice a f.kids.length c) (.slice da F.length dc) fv b3 b4 b5 b6 bn D (D + 1) rec 0)) ∧ Later (fun b => b ∈ (ckL f (.slice a f.kids.length c) (.slice da F.length dc) fv b3 b4 b5 b6 bn D (D + 1) rec 0).map (·.1)) Fp' wa w' := by
      intro w' h0 h'
      rw [hrr] at h'
      have h3 := h'.sub (List.sublist_cons_self _ _)
      exact ⟨_, ⟨rfl, hgo h0, h.bk h3⟩, h3.later⟩
    clear hbad hgo
    have hnode : nodeE F known x = if formed x = false then 1 else if x.op = 3 ∧ (x.num < 0 ∨ x.num > 1000000) then 10 else if (x.op = 3 ∧ idxI F x.name < 0) ∨ (x.op = 4 ∧ known x.name = false) then 7 else 0 := by
      unfold nodeE
      simp only [idxI_neg]
    repeat' (first | refine a_mov ?_ | refine a_asg ?_ | refine a_binN ?_ | refine a_notd ?_ | refine a_notb ?_ | refine a_nilc ?_ | refine a_fa ?_ | refine a_ext ?_ | refine a_lenv ?_ | refine a_lens ?_ | refine a_pick_t ?_ | refine a_pick_f ?_ | refine a_not ?_ | refine a_nilf ?_ | (refine o_nil (hK _ _ ?_); clear hK K) | refine wk_reg ?_ | refine wk_seq fun K hK => ?_ | (refine wk_skip (hK _ _ ?_); clear hK K) | (refine wk_label (hK _ _ ?_); clear hK K) | refine wk_scope ?_ | refine wk_block ?_ | refine wk_cond_t rfl ?_ | refine wk_cond_f rfl ?_ | (refine wk_exit ?_; (repeat (refine blockK_other rfl ?_)); refine blockK_same ?_; try ((repeat ((fail_if_success (refine hK _ _ ?_)); clear hK K)); refine hK _ _ ?_; clear hK K)) | (refine a_bin ?_ ?_ <;> intro _ <;> try (exfalso; omega)) | refine a_ld hl ?_ | (refine a_st hl ?_; clear hl; intro _ hl) | refine a_ix (fun _ => ?_) | refine a_all (hl.rowL (vs := [.int .i64 (x).op, str (x).name, .int .i64 (x).cmp, .int .i64 (x).num, .slice xa x.kids.length xc]) 0 0 5 rfl) ?_)
    refine a_fn (formedS_calls x _ w10 ⟨xa, xc, rfl⟩ hxs) ?_
    rintro _ w11 ⟨rfl, he11⟩
    replace hl := hl.ext he11
    clear he11
    cases hfo : formed x
    · rw [hfo, if_pos rfl] at hnode
      repeat' (first | refine a_mov ?_ | refine a_asg ?_ | refine a_binN ?_ | refine a_notd ?_ | refine a_notb ?_ | refine a_nilc ?_ | refine a_fa ?_ | refine a_ext ?_ | refine a_lenv ?_ | refine a_lens ?_ | refine a_pick_t ?_ | refine a_pick_f ?_ | refine a_not ?_ | refine a_nilf ?_ | (refine o_nil (hK _ _ ?_); clear hK K) | refine wk_reg ?_ | refine wk_seq fun K hK => ?_ | (refine wk_skip (hK _ _ ?_); clear hK K) | (refine wk_label (hK _ _ ?_); clear hK K) | refine wk_scope ?_ | refine wk_block ?_ | refine wk_cond_t rfl ?_ | refine wk_cond_f rfl ?_ | (refine wk_exit ?_; (repeat (refine blockK_other rfl ?_)); refine blockK_same ?_; try ((repeat ((fail_if_success (refine hK _ _ ?_)); clear hK K)); refine hK _ _ ?_; clear hK K)) | (refine a_bin ?_ ?_ <;> intro _ <;> try (exfalso; omega)) | refine a_ld hl ?_ | (refine a_st hl ?_; clear hl; intro _ hl) | refine a_ix (fun _ => ?_) | fail)
      refine wk_ret ⟨_, hl.get 1 rfl, fun w' hw' => .inr ⟨rfl, stop 1 _ hnode (by decide) (hl.put 1 rfl hw')⟩⟩
    rw [hfo, if_neg (by decide)] at hnode
    have hew : Ext w w11 := (h.bk (hl.sub (List.sublist_cons_self _ _))).done
    repeat' (first | refine a_mov ?_ | refine a_asg ?_ | refine a_binN ?_ | refine a_notd ?_ | refine a_notb ?_ | refine a_nilc ?_ | refine a_fa ?_ | refine a_ext ?_ | refine a_lenv ?_ | refine a_lens ?_ | refine a_pick_t ?_ | refine a_pick_f ?_ | refine a_not ?_ | refine a_nilf ?_ | (refine o_nil (hK _ _ ?_); clear hK K) | refine wk_reg ?_ | refine wk_seq fun K hK => ?_ | (refine wk_skip (hK _ _ ?_); clear hK K) | (refine wk_label (hK _ _ ?_); clear hK K) | refine wk_scope ?_ | refine wk_block ?_ | refine wk_cond_t rfl ?_ | refine wk_cond_f rfl ?_ | (refine wk_exit ?_; (repeat (refine blockK_other rfl ?_)); refine blockK_same ?_; try ((repeat ((fail_if_success (refine hK _ _ ?_)); clear hK K)); refine hK _ _ ?_; clear hK K)) | (refine a_bin ?_ ?_ <;> intro _ <;> try (exfalso; omega)) | refine a_ld hl ?_ | (refine a_st hl ?_; clear hl; intro _ hl) | refine a_ix (fun _ => ?_) | refine a_all (hl.rowL (vs := [.slice da F.length dc]) 6 0 1 rfl) ?_)
    · refine wk_ret ⟨_, hl.get 1 rfl, fun w' hw' => .inr ⟨rfl, stop 10 _ (by rw [hnode, if_pos (by omega)]) (by decide) (hl.put 1 rfl hw')⟩⟩
    · refine wk_ret ⟨_, hl.get 1 rfl, fun w' hw' => .inr ⟨rfl, stop 10 _ (by rw [hnode, if_pos (by omega)]) (by decide) (hl.put 1 rfl hw')⟩⟩
    · refine a_fn (factIndex_calls (hd.ext hew) hF x.name) ?_
      rintro _ w12 ⟨rfl, he12⟩
      replace hl := hl.ext he12
      generalize idxI F x.name = ix at *
      repeat' (first | refine a_mov ?_ | refine a_asg ?_ | refine a_binN ?_ | refine a_notd ?_ | refine a_notb ?_ | refine a_nilc ?_ | refine a_fa ?_ | refine a_ext ?_ | refine a_lenv ?_ | refine a_lens ?_ | refine a_pick_t ?_ | refine a_pick_f ?_ | refine a_not ?_ | refine a_nilf ?_ | (refine o_nil (hK _ _ ?_); clear hK K) | refine wk_reg ?_ | refine wk_seq fun K hK => ?_ | (refine wk_skip (hK _ _ ?_); clear hK K) | (refine wk_label (hK _ _ ?_); clear hK K) | refine wk_scope ?_ | refine wk_block ?_ | refine wk_cond_t rfl ?_ | refine wk_cond_f rfl ?_ | (refine wk_exit ?_; (repeat (refine blockK_other rfl ?_)); refine blockK_same ?_; try ((repeat ((fail_if_success (refine hK _ _ ?_)); clear hK K)); refine hK _ _ ?_; clear hK K)) | (refine a_bin ?_ ?_ <;> intro _ <;> try (exfalso; omega)) | refine a_ld hl ?_ | (refine a_st hl ?_; clear hl; intro _ hl) | refine a_ix (fun _ => ?_) | fail)
      · refine wk_ret ⟨_, hl.get 1 rfl, fun w' hw' => .inr ⟨rfl, stop 7 _ (by rw [hnode, if_neg (by omega), if_pos (by omega)]) (by decide) (hl.put 1 rfl hw')⟩⟩
      · refine wk_skip ⟨_, hl.get 1 rfl, fun w' hw' => .inl ⟨rfl, go _ (by rw [hnode, if_neg (by omega), if_neg (by omega)]) (hl.put 1 rfl hw')⟩⟩
    · refine o_callv (fv := fv) (args := #[str x.name]) rfl rfl rfl (hkn w11 hew x.name) ?_
      rintro _ w12 ⟨rfl, he12⟩
      replace hl := hl.ext he12
      cases hkx : known x.name
      · repeat' (first | refine a_mov ?_ | refine a_asg ?_ | refine a_binN ?_ | refine a_notd ?_ | refine a_notb ?_ | refine a_nilc ?_ | refine a_fa ?_ | refine a_ext ?_ | refine a_lenv ?_ | refine a_lens ?_ | refine a_pick_t ?_ | refine a_pick_f ?_ | refine a_not ?_ | refine a_nilf ?_ | (refine o_nil (hK _ _ ?_); clear hK K) | refine wk_reg ?_ | refine wk_seq fun K hK => ?_ | (refine wk_skip (hK _ _ ?_); clear hK K) | (refine wk_label (hK _ _ ?_); clear hK K) | refine wk_scope ?_ | refine wk_block ?_ | refine wk_cond_t rfl ?_ | refine wk_cond_f rfl ?_ | (refine wk_exit ?_; (repeat (refine blockK_other rfl ?_)); refine blockK_same ?_; try ((repeat ((fail_if_success (refine hK _ _ ?_)); clear hK K)); refine hK _ _ ?_; clear hK K)) | (refine a_bin ?_ ?_ <;> intro _ <;> try (exfalso; omega)) | refine a_ld hl ?_ | (refine a_st hl ?_; clear hl; intro _ hl) | refine a_ix (fun _ => ?_) | fail)
        refine wk_ret ⟨_, hl.get 1 rfl, fun w' hw' => .inr ⟨rfl, stop 7 _ (by rw [hnode, if_neg (by omega), if_pos (.inr ⟨by omega, hkx⟩)]) (by decide) (hl.put 1 rfl hw')⟩⟩
      · repeat' (first | refine a_mov ?_ | refine a_asg ?_ | refine a_binN ?_ | refine a_notd ?_ | refine a_notb ?_ | refine a_nilc ?_ | refine a_fa ?_ | refine a_ext ?_ | refine a_lenv ?_ | refine a_lens ?_ | refine a_pick_t ?_ | refine a_pick_f ?_ | refine a_not ?_ | refine a_nilf ?_ | (refine o_nil (hK _ _ ?_); clear hK K) | refine wk_reg ?_ | refine wk_seq fun K hK => ?_ | (refine wk_skip (hK _ _ ?_); clear hK K) | (refine wk_label (hK _ _ ?_); clear hK K) | refine wk_scope ?_ | refine wk_block ?_ | refine wk_cond_t rfl ?_ | refine wk_cond_f rfl ?_ | (refine wk_exit ?_; (repeat (refine blockK_other rfl ?_)); refine blockK_same ?_; try ((repeat ((fail_if_success (refine hK _ _ ?_)); clear hK K)); refine hK _ _ ?_; clear hK K)) | (refine a_bin ?_ ?_ <;> intro _ <;> try (exfalso; omega)) | refine a_ld hl ?_ | (refine a_st hl ?_; clear hl; intro _ hl) | refine a_ix (fun _ => ?_) | fail)
        refine wk_skip ⟨_, hl.get 1 rfl, fun w' hw' => .inl ⟨rfl, go _ (by rw [hnode, if_neg (by omega), if_neg (by rw [hkx]; exact fun h => h.elim (fun h => by omega) (fun h => by cases h.2))]) (hl.put 1 rfl hw')⟩⟩
    · refine wk_skip ⟨_, hl.get 1 rfl, fun w' hw' => .inl ⟨rfl, go _ (by rw [hnode, if_neg (by omega), if_neg (by omega)]) (hl.put 1 rfl hw')⟩⟩
  · intro b hb
    have hsz := he7.size
    refine ⟨fun hm => ?_, Nat.lt_of_lt_of_le (hG b hb) hsz⟩
    obtain ⟨q, hq, rfl⟩ := List.mem_map.1 hm
    have := hG _ hb
    rcases hl7.fresh q hq with h | h
    · omega
    · exact h
  · rintro e w3 ⟨v, rfl, (⟨Fp', ⟨-, h0, h⟩, -⟩ | ⟨hn, h⟩)⟩
    · refine ⟨v, rfl, rec, h.get 0 rfl, by rw [← hrec]; exact fun h => (nomatch h), ?_⟩
      intro w7 hw7
      have hp : rec.pending = none := by rw [← hrec]
      rw [hp]
      dsimp only
      refine hK _ _ ?_
      clear hK K
      have hl := h.put 0 rfl hw7
      have hl : LH w (fun _ => False) w7 (ckL f (.slice a f.kids.length c) (.slice da F.length dc) fv b3 b4 b5 b6 bn D (D + 1) { rec with state := .exhausted } 0) := hl
      unfold ckL at hl
      rw [h0] at hck
      repeat' (first | refine a_mov ?_ | refine a_asg ?_ | refine a_binN ?_ | refine a_notd ?_ | refine a_notb ?_ | refine a_nilc ?_ | refine a_fa ?_ | refine a_ext ?_ | refine a_lenv ?_ | refine a_lens ?_ | refine a_pick_t ?_ | refine a_pick_f ?_ | refine a_not ?_ | refine a_nilf ?_ | (refine o_nil (hK _ _ ?_); clear hK K) | refine wk_reg ?_ | refine wk_seq fun K hK => ?_ | (refine wk_skip (hK _ _ ?_); clear hK K) | (refine wk_label (hK _ _ ?_); clear hK K) | refine wk_scope ?_ | refine wk_block ?_ | refine wk_cond_t rfl ?_ | refine wk_cond_f rfl ?_ | (refine wk_exit ?_; (repeat (refine blockK_other rfl ?_)); refine blockK_same ?_; try ((repeat ((fail_if_success (refine hK _ _ ?_)); clear hK K)); refine hK _ _ ?_; clear hK K)) | (refine a_bin ?_ ?_ <;> intro _ <;> try (exfalso; omega)) | refine a_ld hl ?_ | (refine a_st hl ?_; clear hl; intro _ hl) | refine a_ix (fun _ => ?_) | fail)
      refine wk_ret (retQ_res1 [.int .i64 0] rfl rfl (hl.get 1 rfl) ?_)
      intro w11 hw11
      replace hl := hl.put 1 rfl hw11
      exact ⟨⟨by decide, ⟨⟨b6, 0, none⟩, rfl, run_loadVar1 rfl (hl.cell 3 rfl rfl)⟩, trivial⟩, by rw [hck]; rfl, hl.done⟩
    · refine ⟨v, rfl, _, h.get 0 rfl, fun h => (nomatch h), ?_⟩
      intro w7 hw7
      dsimp only
      have hl := h.put 0 rfl hw7
      have hl : LH w (fun _ => False) w7 (ckL f (.slice a f.kids.length c) (.slice da F.length dc) fv b3 b4 b5 b6 bn D (D + 1) { rec with state := .exhausted, pending := some .ret } (firstE F known (pre f) : Int)) := hl
      unfold ckL at hl
      refine wk_ret (retQ_res1 [.int .i64 (firstE F known (pre f) : Int)] rfl rfl (hl.get 1 rfl) ?_)
      intro w11 hw11
      replace hl := hl.put 1 rfl hw11
      exact ⟨⟨by decide, ⟨⟨b6, 0, none⟩, rfl, run_loadVar1 rfl (hl.cell 3 rfl rfl)⟩, trivial⟩, by rw [hck]; rfl, hl.done⟩

/-- Names that are among terms. -/
theorem among_calls {T : List (List UInt8)} {tv : Value} {b : Nat} {w : World} (hT : T.length ≤ 9223372036854775806) (hv : Sl w tv 1 (strsL T)) (hb : Row w b 0 [tv]) (s : List UInt8) :
    Calls Tryd.prog 37 #[str s, .pointer (some ⟨b, 0, none⟩)] w (fun e w' => ∃ x, e = .returned x ∧ x = .bool (T.contains s) ∧ Ext w w') := by
  obtain ⟨pa, ca, rfl, -⟩ := hv.shape (strsL_len T) (by omega)
  refine calls_of Tryd.func37 rfl Tryd.ntmps37 rfl ?_
  repeat' (first | refine a_mov ?_ | refine a_asg ?_ | refine a_binN ?_ | refine a_notd ?_ | refine a_notb ?_ | refine a_nilc ?_ | refine a_fa ?_ | refine a_ext ?_ | refine a_lenv ?_ | refine a_lens ?_ | refine a_pick_t ?_ | refine a_pick_f ?_ | refine a_not ?_ | refine a_nilf ?_ | (refine o_nil (hK _ _ ?_); clear hK K) | refine wk_reg ?_ | refine wk_seq fun K hK => ?_ | (refine wk_skip (hK _ _ ?_); clear hK K) | (refine wk_label (hK _ _ ?_); clear hK K) | refine wk_scope ?_ | refine wk_block ?_ | refine wk_cond_t rfl ?_ | refine wk_cond_f rfl ?_ | (refine wk_exit ?_; (repeat (refine blockK_other rfl ?_)); refine blockK_same ?_; try ((repeat ((fail_if_success (refine hK _ _ ?_)); clear hK K)); refine hK _ _ ?_; clear hK K)) | (refine a_bin ?_ ?_ <;> intro _ <;> try (exfalso; omega)) | refine a_ld hl ?_ | (refine a_st hl ?_; clear hl; intro _ hl) | refine a_ix (fun _ => ?_) | refine a_row hb ?_)
  refine a_fn (contains_calls hv hT s) ?_
  rintro _ w2 ⟨rfl, rfl⟩
  repeat' (first | refine a_mov ?_ | refine a_asg ?_ | refine a_binN ?_ | refine a_notd ?_ | refine a_notb ?_ | refine a_nilc ?_ | refine a_fa ?_ | refine a_ext ?_ | refine a_lenv ?_ | refine a_lens ?_ | refine a_pick_t ?_ | refine a_pick_f ?_ | refine a_not ?_ | refine a_nilf ?_ | (refine o_nil (hK _ _ ?_); clear hK K) | refine wk_reg ?_ | refine wk_seq fun K hK => ?_ | (refine wk_skip (hK _ _ ?_); clear hK K) | (refine wk_label (hK _ _ ?_); clear hK K) | refine wk_scope ?_ | refine wk_block ?_ | refine wk_cond_t rfl ?_ | refine wk_cond_f rfl ?_ | (refine wk_exit ?_; (repeat (refine blockK_other rfl ?_)); refine blockK_same ?_; try ((repeat ((fail_if_success (refine hK _ _ ?_)); clear hK K)); refine hK _ _ ?_; clear hK K)) | (refine a_bin ?_ ?_ <;> intro _ <;> try (exfalso; omega)) | refine a_ld hl ?_ | (refine a_st hl ?_; clear hl; intro _ hl) | refine a_ix (fun _ => ?_) | fail)
  refine wk_ret (retQ_tmp1 Tryd.results37 (by decide) rfl (by conv => lhs; whnf) ?_)
  exact ⟨rfl, .refl _ _⟩

set_option maxHeartbeats 1000000 in
theorem Check_calls (F : List Fact) (T : List (List UInt8)) (hF : F.length ≤ 9223372036854775806) (hT : T.length ≤ 9223372036854775806) (f : Fm) (w : World) (G : Nat → Prop) (kv dv tv : Value) (hk : KR w G f.kids kv) (hG : ∀ b, G b → b < w.heap.size) (hs : Short f.kids) (hc : cnt f ≤ 1000000) (hd : Sl w dv 4 (factsL F)) (hv : Sl w tv 1 (strsL T)) :
    Calls Tryd.prog 15 #[.agg (fmL f kv).toArray, .agg #[dv], tv] w (fun e w' => ∃ x, e = .returned x ∧ x = .int .i64 (checkE F (fun s => T.contains s) f : Int) ∧ Ext w w') := by
  obtain ⟨a, c, rfl, -⟩ := hk.shape
  obtain ⟨da, dc, rfl, -⟩ := hd.shape (factsL_len F) (by omega)
  obtain ⟨ta, tc, rfl, -⟩ := hv.shape (strsL_len T) (by omega)
  refine calls_of Tryd.func15 rfl Tryd.ntmps15 rfl ?_
  refine wk_seq fun K hK => ?_
  refine wk_reg ?_
  refine o_box (LH.start w (fun _ => False)) [.int .i64 (f).op, str (f).name, .int .i64 (f).cmp, .int .i64 (f).num, .slice a f.kids.length c] rfl rfl rfl ?_
  intro b3 w1 hb3 hl
  refine o_box hl [.slice da F.length dc] rfl rfl rfl ?_
  clear hl
  intro b4 w2 hb4 hl
  refine o_box hl [.slice ta T.length tc] rfl rfl rfl ?_
  clear hl
  intro b5 w3 hb5 hl
  repeat' (first | refine a_mov ?_ | refine a_asg ?_ | refine a_binN ?_ | refine a_notd ?_ | refine a_notb ?_ | refine a_nilc ?_ | refine a_fa ?_ | refine a_ext ?_ | refine a_lenv ?_ | refine a_lens ?_ | refine a_pick_t ?_ | refine a_pick_f ?_ | refine a_not ?_ | refine a_nilf ?_ | (refine o_nil (hK _ _ ?_); clear hK K) | refine wk_reg ?_ | refine wk_seq fun K hK => ?_ | (refine wk_skip (hK _ _ ?_); clear hK K) | (refine wk_label (hK _ _ ?_); clear hK K) | refine wk_scope ?_ | refine wk_block ?_ | refine wk_cond_t rfl ?_ | refine wk_cond_f rfl ?_ | (refine wk_exit ?_; (repeat (refine blockK_other rfl ?_)); refine blockK_same ?_; try ((repeat ((fail_if_success (refine hK _ _ ?_)); clear hK K)); refine hK _ _ ?_; clear hK K)) | (refine a_bin ?_ ?_ <;> intro _ <;> try (exfalso; omega)) | refine a_ld hl ?_ | (refine a_st hl ?_; clear hl; intro _ hl) | refine a_ix (fun _ => ?_) | refine a_all (hl.rowL (vs := [.int .i64 (f).op, str (f).name, .int .i64 (f).cmp, .int .i64 (f).num, .slice a f.kids.length c]) 2 0 5 rfl) ?_ | refine a_all (hl.rowL (vs := [.slice da F.length dc]) 1 0 1 rfl) ?_)
  refine o_mf [] [.pointer (some ⟨b5, 0, none⟩)] rfl rfl rfl ?_
  have he := hl.done
  have hrow : Row w3 b5 0 [.slice ta T.length tc] := hl.rowL (vs := [.slice ta T.length tc]) 0 0 1 rfl
  refine a_fn (check_calls F (fun s => T.contains s) hF f w3 G _ _ (.func (.func 37) #[] #[.pointer (some ⟨b5, 0, none⟩)]) (hk.ext he) (fun b hb => Nat.lt_of_lt_of_le (hG b hb) he.size) hs hc (hd.ext he) ?_ ⟨rfl, rfl⟩) ?_
  · intro w' hw' s
    refine callV_func (args := #[str s]) (fun _ => rfl) (Calls.mono (among_calls hT (hv.ext (he.trans hw')) (hrow.ext hw') s) ?_)
    rintro e w2 ⟨x, h1, h2, h3⟩
    exact ⟨x, h1, h2, h3⟩
  · rintro _ w4 ⟨rfl, he4⟩
    repeat' (first | refine a_mov ?_ | refine a_asg ?_ | refine a_binN ?_ | refine a_notd ?_ | refine a_notb ?_ | refine a_nilc ?_ | refine a_fa ?_ | refine a_ext ?_ | refine a_lenv ?_ | refine a_lens ?_ | refine a_pick_t ?_ | refine a_pick_f ?_ | refine a_not ?_ | refine a_nilf ?_ | (refine o_nil (hK _ _ ?_); clear hK K) | refine wk_reg ?_ | refine wk_seq fun K hK => ?_ | (refine wk_skip (hK _ _ ?_); clear hK K) | (refine wk_label (hK _ _ ?_); clear hK K) | refine wk_scope ?_ | refine wk_block ?_ | refine wk_cond_t rfl ?_ | refine wk_cond_f rfl ?_ | (refine wk_exit ?_; (repeat (refine blockK_other rfl ?_)); refine blockK_same ?_; try ((repeat ((fail_if_success (refine hK _ _ ?_)); clear hK K)); refine hK _ _ ?_; clear hK K)) | (refine a_bin ?_ ?_ <;> intro _ <;> try (exfalso; omega)) | refine a_ld hl ?_ | (refine a_st hl ?_; clear hl; intro _ hl) | refine a_ix (fun _ => ?_) | fail)
    refine wk_ret (retQ_tmp1 Tryd.results15 (by decide) rfl (by conv => lhs; whnf) ?_)
    exact ⟨rfl, he.trans he4⟩
end Go.Proofs

/-
  Formulas: Terms (the program's, the reference's).
-/
set_option linter.unusedVariables false
set_option linter.unusedSimpArgs false
set_option linter.unnecessarySimpa false
set_option maxRecDepth 10000
namespace Go.Fo
open Go.Lexs Go.Fin
theorem addT_len (l : List (List UInt8)) (f : Fm) : (addT l f).length ≤ l.length + 1 := by unfold addT; split <;> simp
theorem foldT_len : ∀ (p : List Fm) (l : List (List UInt8)), (p.foldl addT l).length ≤ l.length + p.length
  | [], l => by simp
  | f :: p, l => by
    have h1 := foldT_len p (addT l f)
    have h2 := addT_len l f
    simp only [List.foldl_cons, List.length_cons]
    omega
theorem foldT_preL (ks : List Fm) (i : Nat) (hi : i < ks.length) (l : List (List UInt8)) : (preL (ks.take (i + 1))).foldl addT l = (pre ks[i]).foldl addT ((preL (ks.take i)).foldl addT l) := by
  rw [List.take_succ_eq_append_getElem hi, preL_snoc, List.foldl_append]
end Go.Fo

namespace Go.Proofs
open Go Go.Pd Go.Lexs Go.Fin Go.Fo
attribute [local irreducible] OpsL W RetQ OpsQ OpsC

theorem KR.atG {w : World} {G : Nat → Prop} {ks : List Fm} {a : Option Addr} {m c : Nat} (h : KR w G ks (.slice a m c)) {i : Nat} (hi : i < ks.length) :
    ∃ b o kv, a = some ⟨b, o, none⟩ ∧ G b ∧ Row w b (o + i * 5) (fmL ks[i] kv) ∧ KR w G ks[i].kids kv := by
  obtain ⟨b, o, kv, rfl, hr, hk⟩ := h.at hi
  refine ⟨b, o, kv, rfl, ?_, hr, hk⟩
  cases h with
  | mk ps he hs hg _ => exact Classical.not_not.1 (hg fun h => by subst h; subst he; simp at hi)

theorem strsL_snoc (T : List (List UInt8)) (s : List UInt8) : strsL (T ++ [s]) = strsL T ++ [str s] := by simp [strsL, strL]
theorem str_one (s : List UInt8) : ([str s] : List Value).all Value.oneCell' = true := strL_one s

def teL (f : Fm) (kv out : Value) (b1 b3 bn D L : Nat) (rec : Loop) : List (Nat × Obj) :=
  [(L, .loop rec), (D, .deferred (some [])), (bn, .cells ([.int .i64 (f).op, str (f).name, .int .i64 (f).cmp, .int .i64 (f).num, kv] : List Value).toArray 24 (0, 0)), (b3, .cells #[out] 30 (0, 0)), (b1, .cells ([.int .i64 (f).op, str (f).name, .int .i64 (f).cmp, .int .i64 (f).num, kv] : List Value).toArray 24 (0, 0))]

set_option maxHeartbeats 8000000 in
theorem terms_calls (f : Fm) (w : World) (G : Nat → Prop) (kv : Value) (hk : KR w G f.kids kv) (hG : ∀ b, G b → b < w.heap.size) (hs : Short f.kids) (hc : cnt f ≤ 1000000) :
    Calls Tryd.prog 18 #[.agg (fmL f kv).toArray] w (fun e w' => ∃ x, e = .returned x ∧ Sl w' x 1 (strsL (termsOf f)) ∧ Ext w w') := by
  obtain ⟨a, c, rfl, -⟩ := hk.shape
  refine calls_of Tryd.func18 rfl Tryd.ntmps18 rfl ?_
  refine wk_seq fun K hK => ?_
  refine wk_reg ?_
  refine o_box (LH.start w (fun _ => False)) [.int .i64 (f).op, str (f).name, .int .i64 (f).cmp, .int .i64 (f).num, .slice a f.kids.length c] rfl rfl rfl ?_
  intro b1 w1 hb1 hl
  repeat' (first | refine a_mov ?_ | refine a_asg ?_ | refine a_binN ?_ | refine a_notd ?_ | refine a_notb ?_ | refine a_nilc ?_ | refine a_fa ?_ | refine a_ext ?_ | refine a_lenv ?_ | refine a_lens ?_ | refine a_pick_t ?_ | refine a_pick_f ?_ | refine a_not ?_ | refine a_nilf ?_ | (refine o_nil (hK _ _ ?_); clear hK K) | refine wk_reg ?_ | refine wk_seq fun K hK => ?_ | (refine wk_skip (hK _ _ ?_); clear hK K) | (refine wk_label (hK _ _ ?_); clear hK K) | refine wk_scope ?_ | refine wk_block ?_ | refine wk_cond_t rfl ?_ | refine wk_cond_f rfl ?_ | (refine wk_exit ?_; (repeat (refine blockK_other rfl ?_)); refine blockK_same ?_; try ((repeat ((fail_if_success (refine hK _ _ ?_)); clear hK K)); refine hK _ _ ?_; clear hK K)) | (refine a_bin ?_ ?_ <;> intro _ <;> try (exfalso; omega)) | refine a_ld hl ?_ | (refine a_st hl ?_; clear hl; intro _ hl) | refine a_ix (fun _ => ?_) | fail)
  refine o_alloc hl [.slice none 0 0] rfl rfl ?_
  clear hl
  intro b3 w2 hb3 hl
  repeat' (first | refine a_mov ?_ | refine a_asg ?_ | refine a_binN ?_ | refine a_notd ?_ | refine a_notb ?_ | refine a_nilc ?_ | refine a_fa ?_ | refine a_ext ?_ | refine a_lenv ?_ | refine a_lens ?_ | refine a_pick_t ?_ | refine a_pick_f ?_ | refine a_not ?_ | refine a_nilf ?_ | (refine o_nil (hK _ _ ?_); clear hK K) | refine wk_reg ?_ | refine wk_seq fun K hK => ?_ | (refine wk_skip (hK _ _ ?_); clear hK K) | (refine wk_label (hK _ _ ?_); clear hK K) | refine wk_scope ?_ | refine wk_block ?_ | refine wk_cond_t rfl ?_ | refine wk_cond_f rfl ?_ | (refine wk_exit ?_; (repeat (refine blockK_other rfl ?_)); refine blockK_same ?_; try ((repeat ((fail_if_success (refine hK _ _ ?_)); clear hK K)); refine hK _ _ ?_; clear hK K)) | (refine a_bin ?_ ?_ <;> intro _ <;> try (exfalso; omega)) | refine a_ld hl ?_ | (refine a_st hl ?_; clear hl; intro _ hl) | refine a_ix (fun _ => ?_) | refine a_all (hl.rowL (vs := [.int .i64 (f).op, str (f).name, .int .i64 (f).cmp, .int .i64 (f).num, .slice a f.kids.length c]) 1 0 5 rfl) ?_)
  refine a_fn (nodes_calls f _ w2 ⟨a, c, rfl⟩) ?_
  rintro _ w3 ⟨bn, rfl, hl3⟩
  replace hl := hl.join hl3
  clear hl3
  repeat' (first | refine a_mov ?_ | refine a_asg ?_ | refine a_binN ?_ | refine a_notd ?_ | refine a_notb ?_ | refine a_nilc ?_ | refine a_fa ?_ | refine a_ext ?_ | refine a_lenv ?_ | refine a_lens ?_ | refine a_pick_t ?_ | refine a_pick_f ?_ | refine a_not ?_ | refine a_nilf ?_ | (refine o_nil (hK _ _ ?_); clear hK K) | refine wk_reg ?_ | refine wk_seq fun K hK => ?_ | (refine wk_skip (hK _ _ ?_); clear hK K) | (refine wk_label (hK _ _ ?_); clear hK K) | refine wk_scope ?_ | refine wk_block ?_ | refine wk_cond_t rfl ?_ | refine wk_cond_f rfl ?_ | (refine wk_exit ?_; (repeat (refine blockK_other rfl ?_)); refine blockK_same ?_; try ((repeat ((fail_if_success (refine hK _ _ ?_)); clear hK K)); refine hK _ _ ?_; clear hK K)) | (refine a_bin ?_ ?_ <;> intro _ <;> try (exfalso; omega)) | refine a_ld hl ?_ | (refine a_st hl ?_; clear hl; intro _ hl) | refine a_ix (fun _ => ?_) | fail)
  refine wk_rangeFunc rfl (fun _ _ => rfl) ?_
  intro fn tm w7 hfits hheap
  generalize hD : w3.heap.size = D at hheap ⊢
  generalize hrec : Loop.mk _ _ _ _ _ _ _ _ = rec at hheap
  have hl7 : LH w (fun _ => False) w7 (teL f (.slice a f.kids.length c) (.slice none 0 0) b1 b3 bn D (D + 1) rec ++ []) := by
    have h1 := ((hl.alloc (.deferred (some []))).alloc (.loop rec)).heap hheap
    simp only [Array.size_push] at h1
    rw [hD] at h1
    exact h1
  clear hl hheap
  have he7 := hl7.done
  refine Calls.mono (nodes1_calls (.func (.yield (D + 1)) #[] #[]) f (.slice a f.kids.length c) bn
    (fun p Fp w' => ∃ out acc, Fp = (fun b => b ∈ (teL f (.slice a f.kids.length c) out b1 b3 bn D (D + 1) rec ++ acc).map (·.1)) ∧ LH w (fun _ => False) w' (teL f (.slice a f.kids.length c) out b1 b3 bn D (D + 1) rec ++ acc) ∧ Acc out 1 9 (p.foldl addT []).length (strsL (p.foldl addT [])) acc)
    (fun w' => False)
    ?_ ?_ ?_ _ G w7 ⟨rfl, rfl⟩ (hk.ext he7) ?_ hs (hl7.rowL (vs := [.int .i64 (f).op, str (f).name, .int .i64 (f).cmp, .int .i64 (f).num, .slice a f.kids.length c]) 2 0 5 rfl) ⟨_, [], rfl, hl7, Acc.nil _ _⟩) ?_
  · rintro p Fp w' ⟨out, acc, rfl, h, -⟩ b hb
    exact h.idlt hb
  · rintro p Fp w' w'' ⟨out, acc, h1, h, h2⟩ e
    exact ⟨out, acc, h1, h.ext e, h2⟩
  · rintro p x Fp wa kv ⟨rest, htot⟩ ⟨out, acc, rfl, h, ha⟩ ⟨xa, xc, rfl⟩
    have hb := h.rb
    refine callV_round (n := 24) (hb.get 0 rfl) (congrArg Loop.params hrec.symm) (congrArg Loop.assign hrec.symm) (congrArg Loop.body hrec.symm) rfl (by rw [show rec.tmps = tm from congrArg Loop.tmps hrec.symm]; exact hfits) ?_
    have hready : rec.state = .ready := congrArg Loop.state hrec.symm
    have hpend : rec.pending = none := congrArg Loop.pending hrec.symm
    have hrr : ({ rec with state := .ready, pending := none } : Loop) = rec := by
      cases rec
      simp only at hready hpend
      rw [hready, hpend]
    have hbound : (p.foldl addT []).length + 1 ≤ 1000000 := by
      have h1 := foldT_len p []
      have h2 := pre_length f
      rw [htot] at h2
      simp at h1 h2
      omega
    have hstep : (p ++ [x]).foldl addT [] = addT (p.foldl addT []) x := by rw [List.foldl_append]; rfl
    clear hl7 hfits hrec he7
    obtain ⟨oa, oc, rfl⟩ := ha.shape
    generalize hT : p.foldl addT [] = T at *
    dsimp only
    repeat' (first | refine a_mov ?_ | refine a_asg ?_ | refine a_binN ?_ | refine a_notd ?_ | refine a_notb ?_ | refine a_nilc ?_ | refine a_fa ?_ | refine a_ext ?_ | refine a_lenv ?_ | refine a_lens ?_ | refine a_pick_t ?_ | refine a_pick_f ?_ | refine a_not ?_ | refine a_nilf ?_ | (refine o_nil (hK _ _ ?_); clear hK K) | refine wk_reg ?_ | refine wk_seq fun K hK => ?_ | (refine wk_skip (hK _ _ ?_); clear hK K) | (refine wk_label (hK _ _ ?_); clear hK K) | refine wk_scope ?_ | refine wk_block ?_ | refine wk_cond_t rfl ?_ | refine wk_cond_f rfl ?_ | (refine wk_exit ?_; (repeat (refine blockK_other rfl ?_)); refine blockK_same ?_; try ((repeat ((fail_if_success (refine hK _ _ ?_)); clear hK K)); refine hK _ _ ?_; clear hK K)) | (refine a_bin ?_ ?_ <;> intro _ <;> try (exfalso; omega)) | refine a_ld hl ?_ | (refine a_st hl ?_; clear hl; intro _ hl) | refine a_ix (fun _ => ?_) | fail)
    refine o_alloc hb [.int .i64 0, .string ⟨#[]⟩, .int .i64 0, .int .i64 0, .slice none 0 0] rfl rfl ?_
    clear hb
    intro b9 w8 hb9 hl
    refine o_putN (us := [.int .i64 (x).op, str (x).name, .int .i64 (x).cmp, .int .i64 (x).num, .slice xa x.kids.length xc]) hl rfl rfl rfl (by simp only [str_eq]; rfl) rfl (.all rfl rfl) ?_
    clear hl
    intro w9 hl
    refine o_nil ⟨_, hl.get 1 rfl, hready, ?_⟩
    intro w10 hw10
    replace hl := hl.put 1 rfl hw10
    have hl : LH wa _ w10 (((b9, .cells ([.int .i64 (x).op, str (x).name, .int .i64 (x).cmp, .int .i64 (x).num, .slice xa x.kids.length xc] : List Value).toArray 24 (0, 0)) :: teL f (.slice a f.kids.length c) (.slice oa T.length oc) b1 b3 bn D (D + 1) { rec with state := .busy }) ++ acc) := hl
    have go : ∀ (w' : World) (out' : Value) (acc' : List (Nat × Obj)), LH wa (fun b => b ∈ (teL f (.slice a f.kids.length c) (.slice oa T.length oc) b1 b3 bn D (D + 1) rec ++ acc).map (·.1)) w' (teL f (.slice a f.kids.length c) out' b1 b3 bn D (D + 1) { rec with state := .ready, pending := none } ++ acc') → Acc out' 1 9 (addT T x).length (strsL (addT T x)) acc' →
        ∃ Fp', (∃ out acc, Fp' = (fun b => b ∈ (teL f (.slice a f.kids.length c) out b1 b3 bn D (D + 1) rec ++ acc).map (·.1)) ∧ LH w (fun _ => False) w' (teL f (.slice a f.kids.length c) out b1 b3 bn D (D + 1) rec ++ acc) ∧ Acc out 1 9 ((p ++ [x]).foldl addT []).length (strsL ((p ++ [x]).foldl addT [])) acc) ∧ Later (fun b => b ∈ (teL f (.slice a f.kids.length c) (.slice oa T.length oc) b1 b3 bn D (D + 1) rec ++ acc).map (·.1)) Fp' wa w' := by
      intro w' out' acc' h' ha'
      rw [hrr] at h'
      rw [hstep]
      exact ⟨_, ⟨_, _, rfl, h.bk h', ha'⟩, h'.later⟩
    have hTs := LH.acc_sl hl ha
    unfold teL at hl
    by_cases h4 : x.op = 4
    · repeat' (first | refine a_mov ?_ | refine a_asg ?_ | refine a_binN ?_ | refine a_notd ?_ | refine a_notb ?_ | refine a_nilc ?_ | refine a_fa ?_ | refine a_ext ?_ | refine a_lenv ?_ | refine a_lens ?_ | refine a_pick_t ?_ | refine a_pick_f ?_ | refine a_not ?_ | refine a_nilf ?_ | (refine o_nil (hK _ _ ?_); clear hK K) | refine wk_reg ?_ | refine wk_seq fun K hK => ?_ | (refine wk_skip (hK _ _ ?_); clear hK K) | (refine wk_label (hK _ _ ?_); clear hK K) | refine wk_scope ?_ | refine wk_block ?_ | refine wk_cond_t rfl ?_ | refine wk_cond_f rfl ?_ | (refine wk_exit ?_; (repeat (refine blockK_other rfl ?_)); refine blockK_same ?_; try ((repeat ((fail_if_success (refine hK _ _ ?_)); clear hK K)); refine hK _ _ ?_; clear hK K)) | (refine a_bin ?_ ?_ <;> intro _ <;> try (exfalso; omega)) | refine a_ld hl ?_ | (refine a_st hl ?_; clear hl; intro _ hl) | refine a_ix (fun _ => ?_) | refine o_load rfl rfl rfl (hl.cell 4 rfl rfl) ?_)
      refine a_fn (contains_calls hTs (by omega) x.name) ?_
      rintro _ w11 ⟨rfl, rfl⟩
      cases hct : T.contains x.name
      · have hadd : addT T x = T ++ [x.name] := by unfold addT; rw [if_pos ⟨h4, hct⟩]
        repeat' (first | refine a_mov ?_ | refine a_asg ?_ | refine a_binN ?_ | refine a_notd ?_ | refine a_notb ?_ | refine a_nilc ?_ | refine a_fa ?_ | refine a_ext ?_ | refine a_lenv ?_ | refine a_lens ?_ | refine a_pick_t ?_ | refine a_pick_f ?_ | refine a_not ?_ | refine a_nilf ?_ | (refine o_nil (hK _ _ ?_); clear hK K) | refine wk_reg ?_ | refine wk_seq fun K hK => ?_ | (refine wk_skip (hK _ _ ?_); clear hK K) | (refine wk_label (hK _ _ ?_); clear hK K) | refine wk_scope ?_ | refine wk_block ?_ | refine wk_cond_t rfl ?_ | refine wk_cond_f rfl ?_ | (refine wk_exit ?_; (repeat (refine blockK_other rfl ?_)); refine blockK_same ?_; try ((repeat ((fail_if_success (refine hK _ _ ?_)); clear hK K)); refine hK _ _ ?_; clear hK K)) | (refine a_bin ?_ ?_ <;> intro _ <;> try (exfalso; omega)) | refine a_ld hl ?_ | (refine a_st hl ?_; clear hl; intro _ hl) | refine a_ix (fun _ => ?_) | refine o_load rfl rfl rfl (hl.cell 4 rfl rfl) ?_)
        refine o_buildSlice hl [str x.name] rfl rfl (by simp only [str_eq]; kernel_rfl) ?_
        intro b10 w12 hb10 hl2
        refine o_append (bl' := (b10, .cells #[str x.name] 9 (0, 0)) :: ((b9, .cells ([.int .i64 (x).op, str (x).name, .int .i64 (x).cmp, .int .i64 (x).num, .slice xa x.kids.length xc] : List Value).toArray 24 (0, 0)) :: teL f (.slice a f.kids.length c) (.slice oa T.length oc) b1 b3 bn D (D + 1) { rec with state := .busy })) (q := 1) (bytes := 16) (us := [str x.name]) hl2 ha (hl2.rowL (vs := [str x.name]) 0 0 1 rfl) rfl (str_one _) (by omega) (by omega) (by omega) rfl rfl rfl rfl rfl ?_
        clear hl hl2
        intro v' w13 acc' hl ha'
        obtain ⟨pa, pc, rfl⟩ := ha'.shape
        have hl : LH wa _ w13 ([_, _, _, _, _, _, _] ++ acc') := hl
        refine o_store hl 5 [.slice pa (T.length + 1) pc] rfl rfl rfl rfl rfl (by simp) rfl ?_
        clear hl
        intro w14 hl
        refine o_nil ⟨_, hl.get 2 rfl, fun w' hw' => .inl ⟨rfl, go w' (.slice pa (T.length + 1) pc) acc' ((hl.put 2 rfl hw').sub ((List.sublist_cons_self _ _).trans (List.sublist_cons_self _ _))) ?_⟩⟩
        rw [hadd, strsL_snoc, List.length_append]
        exact ha'
      · have hadd : addT T x = T := by unfold addT; rw [if_neg (by rw [hct]; simp)]
        repeat' (first | refine a_mov ?_ | refine a_asg ?_ | refine a_binN ?_ | refine a_notd ?_ | refine a_notb ?_ | refine a_nilc ?_ | refine a_fa ?_ | refine a_ext ?_ | refine a_lenv ?_ | refine a_lens ?_ | refine a_pick_t ?_ | refine a_pick_f ?_ | refine a_not ?_ | refine a_nilf ?_ | (refine o_nil (hK _ _ ?_); clear hK K) | refine wk_reg ?_ | refine wk_seq fun K hK => ?_ | (refine wk_skip (hK _ _ ?_); clear hK K) | (refine wk_label (hK _ _ ?_); clear hK K) | refine wk_scope ?_ | refine wk_block ?_ | refine wk_cond_t rfl ?_ | refine wk_cond_f rfl ?_ | (refine wk_exit ?_; (repeat (refine blockK_other rfl ?_)); refine blockK_same ?_; try ((repeat ((fail_if_success (refine hK _ _ ?_)); clear hK K)); refine hK _ _ ?_; clear hK K)) | (refine a_bin ?_ ?_ <;> intro _ <;> try (exfalso; omega)) | refine a_ld hl ?_ | (refine a_st hl ?_; clear hl; intro _ hl) | refine a_ix (fun _ => ?_) | fail)
        refine wk_skip ⟨_, hl.get 1 rfl, fun w' hw' => .inl ⟨rfl, go w' _ acc ((hl.put 1 rfl hw').sub (List.sublist_cons_self _ _)) ?_⟩⟩
        rw [hadd]
        exact ha
    · have hadd : addT T x = T := by unfold addT; rw [if_neg (fun h => h4 h.1)]
      repeat' (first | refine a_mov ?_ | refine a_asg ?_ | refine a_binN ?_ | refine a_notd ?_ | refine a_notb ?_ | refine a_nilc ?_ | refine a_fa ?_ | refine a_ext ?_ | refine a_lenv ?_ | refine a_lens ?_ | refine a_pick_t ?_ | refine a_pick_f ?_ | refine a_not ?_ | refine a_nilf ?_ | (refine o_nil (hK _ _ ?_); clear hK K) | refine wk_reg ?_ | refine wk_seq fun K hK => ?_ | (refine wk_skip (hK _ _ ?_); clear hK K) | (refine wk_label (hK _ _ ?_); clear hK K) | refine wk_scope ?_ | refine wk_block ?_ | refine wk_cond_t rfl ?_ | refine wk_cond_f rfl ?_ | (refine wk_exit ?_; (repeat (refine blockK_other rfl ?_)); refine blockK_same ?_; try ((repeat ((fail_if_success (refine hK _ _ ?_)); clear hK K)); refine hK _ _ ?_; clear hK K)) | (refine a_bin ?_ ?_ <;> intro _ <;> try (exfalso; omega)) | refine a_ld hl ?_ | (refine a_st hl ?_; clear hl; intro _ hl) | refine a_ix (fun _ => ?_) | fail)
      refine wk_skip ⟨_, hl.get 1 rfl, fun w' hw' => .inl ⟨rfl, go w' _ acc ((hl.put 1 rfl hw').sub (List.sublist_cons_self _ _)) ?_⟩⟩
      rw [hadd]
      exact ha
  · intro b hb
    have hsz := he7.size
    refine ⟨fun hm => ?_, Nat.lt_of_lt_of_le (hG b hb) hsz⟩
    have := hG _ hb
    rcases hl7.id hm with h | h
    · omega
    · exact h
  · rintro e w3 ⟨v, rfl, (⟨Fp', ⟨out, acc, -, h, ha⟩, -⟩ | h)⟩
    · refine ⟨v, rfl, rec, h.get 0 rfl, by rw [← hrec]; exact fun h => (nomatch h), ?_⟩
      intro w7 hw7
      have hp : rec.pending = none := by rw [← hrec]
      rw [hp]
      dsimp only
      refine hK _ _ ?_
      clear hK K
      have hl := h.put 0 rfl hw7
      have hl : LH w (fun _ => False) w7 (teL f (.slice a f.kids.length c) out b1 b3 bn D (D + 1) { rec with state := .exhausted } ++ acc) := hl
      unfold teL at hl
      obtain ⟨oa, oc, rfl⟩ := ha.shape
      repeat' (first | refine a_mov ?_ | refine a_asg ?_ | refine a_binN ?_ | refine a_notd ?_ | refine a_notb ?_ | refine a_nilc ?_ | refine a_fa ?_ | refine a_ext ?_ | refine a_lenv ?_ | refine a_lens ?_ | refine a_pick_t ?_ | refine a_pick_f ?_ | refine a_not ?_ | refine a_nilf ?_ | (refine o_nil (hK _ _ ?_); clear hK K) | refine wk_reg ?_ | refine wk_seq fun K hK => ?_ | (refine wk_skip (hK _ _ ?_); clear hK K) | (refine wk_label (hK _ _ ?_); clear hK K) | refine wk_scope ?_ | refine wk_block ?_ | refine wk_cond_t rfl ?_ | refine wk_cond_f rfl ?_ | (refine wk_exit ?_; (repeat (refine blockK_other rfl ?_)); refine blockK_same ?_; try ((repeat ((fail_if_success (refine hK _ _ ?_)); clear hK K)); refine hK _ _ ?_; clear hK K)) | (refine a_bin ?_ ?_ <;> intro _ <;> try (exfalso; omega)) | refine a_ld hl ?_ | (refine a_st hl ?_; clear hl; intro _ hl) | refine a_ix (fun _ => ?_) | refine o_load rfl rfl rfl (hl.cell 3 rfl rfl) ?_)
      refine wk_ret (retQ_res1 [.slice oa (termsOf f).length oc] rfl rfl (hl.get 1 rfl) ?_)
      intro w11 hw11
      replace hl := hl.put 1 rfl hw11
      have hl : LH w (fun _ => False) w11 ([_, _, _, _, _] ++ acc) := hl
      exact ⟨⟨by decide, rfl, trivial⟩, hl.acc_sl ha, hl.done⟩
    · exact h.elim

set_option maxHeartbeats 4000000 in
theorem refNamesOf_calls (w0 : World) (M G : Nat → Prop) (hGM : ∀ b, G b → ¬ M b) : ∀ (f : Fm) (kv : Value) (T : List (List UInt8)) (w : World) (bl acc : List (Nat × Obj)) (v : Value), KR w0 G f.kids kv → T.length + cnt f ≤ 1000000 → LH w0 M w (bl ++ acc) → Acc v 1 9 T.length (strsL T) acc →
    Calls Tryd.prog 42 #[.agg (fmL f kv).toArray, v] w (fun e w' => ∃ x, e = .returned x ∧ ∃ acc', LH w0 M w' (bl ++ acc') ∧ Acc x 1 9 ((pre f).foldl addT T).length (strsL ((pre f).foldl addT T)) acc') := by
  refine Fm.ind ?_
  intro f ih kv T w bl acc v hk hc hl0 ha
  obtain ⟨a, c, rfl, -⟩ := hk.shape
  obtain ⟨oa, oc, rfl⟩ := ha.shape
  have hce := cnt_eq f
  have hcl := len_cntL f.kids
  have hT0 : ((pre f).foldl addT T) = (preL f.kids).foldl addT (addT T f) := by rw [pre_eq]; rfl
  rw [hT0]
  refine calls_of Tryd.func42 rfl Tryd.ntmps42 rfl ?_
  refine wk_seq fun K hK => ?_
  refine wk_reg ?_
  refine o_box hl0 [.int .i64 (f).op, str (f).name, .int .i64 (f).cmp, .int .i64 (f).num, .slice a f.kids.length c] rfl rfl rfl ?_
  clear hl0
  intro b1 w1 hb1 hl
  have hl : LH w0 M w1 (((b1, Obj.cells ([.int .i64 (f).op, str (f).name, .int .i64 (f).cmp, .int .i64 (f).num, .slice a f.kids.length c] : List Value).toArray 24 (0, 0)) :: bl) ++ acc) := hl
  refine a_asg ?_
  refine o_nil (hK _ _ ?_)
  clear hK K
  refine wk_seq fun K hK => ?_
  refine wk_cut [] (fun y : Value × List (Nat × Obj) => [(1, y.1), (2, .pointer (some ⟨b1, 0, none⟩))]) (fun y w' => LH w0 M w' (((b1, Obj.cells ([.int .i64 (f).op, str (f).name, .int .i64 (f).cmp, .int .i64 (f).num, .slice a f.kids.length c] : List Value).toArray 24 (0, 0)) :: bl) ++ y.2) ∧ Acc y.1 1 9 (addT T f).length (strsL (addT T f)) y.2) ?_ ?_
  · by_cases h4 : f.op = 4
    · repeat' (first | refine a_mov ?_ | refine a_asg ?_ | refine a_binN ?_ | refine a_notd ?_ | refine a_notb ?_ | refine a_nilc ?_ | refine a_fa ?_ | refine a_ext ?_ | refine a_lenv ?_ | refine a_lens ?_ | refine a_pick_t ?_ | refine a_pick_f ?_ | refine a_not ?_ | refine a_nilf ?_ | (refine o_nil (hK _ _ ?_); clear hK K) | refine wk_reg ?_ | refine wk_seq fun K hK => ?_ | (refine wk_skip (hK _ _ ?_); clear hK K) | (refine wk_label (hK _ _ ?_); clear hK K) | refine wk_scope ?_ | refine wk_block ?_ | refine wk_cond_t rfl ?_ | refine wk_cond_f rfl ?_ | (refine wk_exit ?_; (repeat (refine blockK_other rfl ?_)); refine blockK_same ?_; try ((repeat ((fail_if_success (refine hK _ _ ?_)); clear hK K)); refine hK _ _ ?_; clear hK K)) | (refine a_bin ?_ ?_ <;> intro _ <;> try (exfalso; omega)) | refine a_ld hl ?_ | (refine a_st hl ?_; clear hl; intro _ hl) | refine a_ix (fun _ => ?_) | fail)
      refine a_fn (in_calls (LH.acc_sl hl ha) (by omega) f.name) ?_
      rintro _ w2 ⟨rfl, rfl⟩
      cases hct : T.contains f.name
      · have hadd : addT T f = T ++ [f.name] := by unfold addT; rw [if_pos ⟨h4, hct⟩]
        repeat' (first | refine a_mov ?_ | refine a_asg ?_ | refine a_binN ?_ | refine a_notd ?_ | refine a_notb ?_ | refine a_nilc ?_ | refine a_fa ?_ | refine a_ext ?_ | refine a_lenv ?_ | refine a_lens ?_ | refine a_pick_t ?_ | refine a_pick_f ?_ | refine a_not ?_ | refine a_nilf ?_ | (refine o_nil (hK _ _ ?_); clear hK K) | refine wk_reg ?_ | refine wk_seq fun K hK => ?_ | (refine wk_skip (hK _ _ ?_); clear hK K) | (refine wk_label (hK _ _ ?_); clear hK K) | refine wk_scope ?_ | refine wk_block ?_ | refine wk_cond_t rfl ?_ | refine wk_cond_f rfl ?_ | (refine wk_exit ?_; (repeat (refine blockK_other rfl ?_)); refine blockK_same ?_; try ((repeat ((fail_if_success (refine hK _ _ ?_)); clear hK K)); refine hK _ _ ?_; clear hK K)) | (refine a_bin ?_ ?_ <;> intro _ <;> try (exfalso; omega)) | refine a_ld hl ?_ | (refine a_st hl ?_; clear hl; intro _ hl) | refine a_ix (fun _ => ?_) | fail)
        refine o_buildSlice hl [str f.name] rfl rfl (by simp only [str_eq]; kernel_rfl) ?_
        intro b10 w3 hb10 hl2
        refine o_append (bl' := (b10, .cells #[str f.name] 9 (0, 0)) :: ((b1, Obj.cells ([.int .i64 (f).op, str (f).name, .int .i64 (f).cmp, .int .i64 (f).num, .slice a f.kids.length c] : List Value).toArray 24 (0, 0)) :: bl)) (q := 1) (bytes := 16) (us := [str f.name]) hl2 ha (hl2.rowL (vs := [str f.name]) 0 0 1 rfl) rfl (str_one _) (by omega) (by omega) (by omega) rfl rfl rfl rfl rfl ?_
        clear hl hl2
        intro v' w4 acc' hl ha'
        refine a_asg ?_
        refine o_nil ⟨(v', acc'), ⟨rfl, rfl, trivial⟩, rfl, hl.sub (List.sublist_cons_self _ _), ?_⟩
        rw [hadd, strsL_snoc, List.length_append]
        exact ha'
      · have hadd : addT T f = T := by unfold addT; rw [if_neg (by rw [hct]; simp)]
        repeat' (first | refine a_mov ?_ | refine a_asg ?_ | refine a_binN ?_ | refine a_notd ?_ | refine a_notb ?_ | refine a_nilc ?_ | refine a_fa ?_ | refine a_ext ?_ | refine a_lenv ?_ | refine a_lens ?_ | refine a_pick_t ?_ | refine a_pick_f ?_ | refine a_not ?_ | refine a_nilf ?_ | (refine o_nil (hK _ _ ?_); clear hK K) | refine wk_reg ?_ | refine wk_seq fun K hK => ?_ | (refine wk_skip (hK _ _ ?_); clear hK K) | (refine wk_label (hK _ _ ?_); clear hK K) | refine wk_scope ?_ | refine wk_block ?_ | refine wk_cond_t rfl ?_ | refine wk_cond_f rfl ?_ | (refine wk_exit ?_; (repeat (refine blockK_other rfl ?_)); refine blockK_same ?_; try ((repeat ((fail_if_success (refine hK _ _ ?_)); clear hK K)); refine hK _ _ ?_; clear hK K)) | (refine a_bin ?_ ?_ <;> intro _ <;> try (exfalso; omega)) | refine a_ld hl ?_ | (refine a_st hl ?_; clear hl; intro _ hl) | refine a_ix (fun _ => ?_) | fail)
        refine wk_skip ⟨(.slice oa T.length oc, acc), ⟨rfl, rfl, trivial⟩, rfl, hl, ?_⟩
        rw [hadd]
        exact ha
    · have hadd : addT T f = T := by unfold addT; rw [if_neg (fun h => h4 h.1)]
      repeat' (first | refine a_mov ?_ | refine a_asg ?_ | refine a_binN ?_ | refine a_notd ?_ | refine a_notb ?_ | refine a_nilc ?_ | refine a_fa ?_ | refine a_ext ?_ | refine a_lenv ?_ | refine a_lens ?_ | refine a_pick_t ?_ | refine a_pick_f ?_ | refine a_not ?_ | refine a_nilf ?_ | (refine o_nil (hK _ _ ?_); clear hK K) | refine wk_reg ?_ | refine wk_seq fun K hK => ?_ | (refine wk_skip (hK _ _ ?_); clear hK K) | (refine wk_label (hK _ _ ?_); clear hK K) | refine wk_scope ?_ | refine wk_block ?_ | refine wk_cond_t rfl ?_ | refine wk_cond_f rfl ?_ | (refine wk_exit ?_; (repeat (refine blockK_other rfl ?_)); refine blockK_same ?_; try ((repeat ((fail_if_success (refine hK _ _ ?_)); clear hK K)); refine hK _ _ ?_; clear hK K)) | (refine a_bin ?_ ?_ <;> intro _ <;> try (exfalso; omega)) | refine a_ld hl ?_ | (refine a_st hl ?_; clear hl; intro _ hl) | refine a_ix (fun _ => ?_) | fail)
      refine wk_skip ⟨(.slice oa T.length oc, acc), ⟨rfl, rfl, trivial⟩, rfl, hl, ?_⟩
      rw [hadd]
      exact ha
  clear hl ha
  rintro ⟨v1, acc1⟩ t w2 ⟨hl, ha⟩
  have hbT := addT_len T f
  generalize addT T f = T1 at *
  refine hK _ _ ?_
  clear hK K
  simp only at hl ha
  obtain ⟨oa1, oc1, rfl⟩ := ha.shape
  repeat' (first | refine a_mov ?_ | refine a_asg ?_ | refine a_binN ?_ | refine a_notd ?_ | refine a_notb ?_ | refine a_nilc ?_ | refine a_fa ?_ | refine a_ext ?_ | refine a_lenv ?_ | refine a_lens ?_ | refine a_pick_t ?_ | refine a_pick_f ?_ | refine a_not ?_ | refine a_nilf ?_ | (refine o_nil (hK _ _ ?_); clear hK K) | refine wk_reg ?_ | refine wk_seq fun K hK => ?_ | (refine wk_skip (hK _ _ ?_); clear hK K) | (refine wk_label (hK _ _ ?_); clear hK K) | refine wk_scope ?_ | refine wk_block ?_ | refine wk_cond_t rfl ?_ | refine wk_cond_f rfl ?_ | (refine wk_exit ?_; (repeat (refine blockK_other rfl ?_)); refine blockK_same ?_; try ((repeat ((fail_if_success (refine hK _ _ ?_)); clear hK K)); refine hK _ _ ?_; clear hK K)) | (refine a_bin ?_ ?_ <;> intro _ <;> try (exfalso; omega)) | refine a_ld hl ?_ | (refine a_st hl ?_; clear hl; intro _ hl) | refine a_ix (fun _ => ?_) | fail)
  refine wk_loopH [] rfl (fun y : Nat × Value × List (Nat × Obj) => [(1, y.2.1), (2, .pointer (some ⟨b1, 0, none⟩)), (5, .int .i64 (y.1 : Int))]) (fun y w' => y.1 ≤ f.kids.length ∧ LH w0 M w' (((b1, Obj.cells ([.int .i64 (f).op, str (f).name, .int .i64 (f).cmp, .int .i64 (f).num, .slice a f.kids.length c] : List Value).toArray 24 (0, 0)) :: bl) ++ y.2.2) ∧ Acc y.2.1 1 9 ((preL (f.kids.take y.1)).foldl addT T1).length (strsL ((preL (f.kids.take y.1)).foldl addT T1)) y.2.2) (fun y => f.kids.length - y.1) (0, .slice oa1 T1.length oc1, acc1) ⟨rfl, rfl, rfl, trivial⟩ ⟨Nat.zero_le _, hl, ha⟩ ?_
  clear hl ha
  rintro ⟨i, v2, acc2⟩ t w3 ⟨hi, hl, ha⟩
  simp only at hi hl ha
  obtain ⟨oa2, oc2, rfl⟩ := ha.shape
  by_cases hi1 : i < f.kids.length
  · obtain ⟨bk, ok, kv, hp, hg, hr, hkk⟩ := hk.atG hi1
    replace hr := hr.upd hl.upd (hGM _ hg)
    have hfs := foldT_preL f.kids i hi1 T1
    have hck := cnt_kid hi1
    have hpl := preL_length_of (fun k _ => pre_length k) (ks := f.kids.take i)
    have hfl := foldT_len (preL (f.kids.take i)) T1
    have ihk := ih f.kids[i] (List.getElem_mem hi1)
    generalize f.kids[i] = k at *
    repeat' (first | refine a_mov ?_ | refine a_asg ?_ | refine a_binN ?_ | refine a_notd ?_ | refine a_notb ?_ | refine a_nilc ?_ | refine a_fa ?_ | refine a_ext ?_ | refine a_lenv ?_ | refine a_lens ?_ | refine a_pick_t ?_ | refine a_pick_f ?_ | refine a_not ?_ | refine a_nilf ?_ | (refine o_nil (hK _ _ ?_); clear hK K) | refine wk_reg ?_ | refine wk_seq fun K hK => ?_ | (refine wk_skip (hK _ _ ?_); clear hK K) | (refine wk_label (hK _ _ ?_); clear hK K) | refine wk_scope ?_ | refine wk_block ?_ | refine wk_cond_t rfl ?_ | refine wk_cond_f rfl ?_ | (refine wk_exit ?_; (repeat (refine blockK_other rfl ?_)); refine blockK_same ?_; try ((repeat ((fail_if_success (refine hK _ _ ?_)); clear hK K)); refine hK _ _ ?_; clear hK K)) | (refine a_bin ?_ ?_ <;> intro _ <;> try (exfalso; omega)) | refine a_ld hl ?_ | (refine a_st hl ?_; clear hl; intro _ hl) | refine a_ix (fun _ => ?_) | refine a_idx (c := 5) i hp ?_ | refine a_all hr ?_)
    refine a_fn (ihk kv _ w3 _ acc2 _ hkk (by omega) hl ha) ?_
    rintro v3 w4 ⟨acc3, hl3, ha3⟩
    repeat' (first | refine a_mov ?_ | refine a_asg ?_ | refine a_binN ?_ | refine a_notd ?_ | refine a_notb ?_ | refine a_nilc ?_ | refine a_fa ?_ | refine a_ext ?_ | refine a_lenv ?_ | refine a_lens ?_ | refine a_pick_t ?_ | refine a_pick_f ?_ | refine a_not ?_ | refine a_nilf ?_ | (refine o_nil (hK _ _ ?_); clear hK K) | refine wk_reg ?_ | refine wk_seq fun K hK => ?_ | (refine wk_skip (hK _ _ ?_); clear hK K) | (refine wk_label (hK _ _ ?_); clear hK K) | refine wk_scope ?_ | refine wk_block ?_ | refine wk_cond_t rfl ?_ | refine wk_cond_f rfl ?_ | (refine wk_exit ?_; (repeat (refine blockK_other rfl ?_)); refine blockK_same ?_; try ((repeat ((fail_if_success (refine hK _ _ ?_)); clear hK K)); refine hK _ _ ?_; clear hK K)) | (refine a_bin ?_ ?_ <;> intro _ <;> try (exfalso; omega)) | refine a_ld hl ?_ | (refine a_st hl ?_; clear hl; intro _ hl) | refine a_ix (fun _ => ?_) | fail)
    refine o_nil ⟨(i + 1, v3, acc3), ⟨rfl, rfl, rfl, trivial⟩, rfl, ⟨hi1, hl3, ?_⟩, by simp only; omega⟩
    rw [hfs]
    exact ha3
  · have hke : i = f.kids.length := by omega
    generalize hTT : (preL (f.kids.take i)).foldl addT T1 = TT at *
    rw [hke, List.take_of_length_le (Nat.le_refl _)] at hTT
    repeat' (first | refine a_mov ?_ | refine a_asg ?_ | refine a_binN ?_ | refine a_notd ?_ | refine a_notb ?_ | refine a_nilc ?_ | refine a_fa ?_ | refine a_ext ?_ | refine a_lenv ?_ | refine a_lens ?_ | refine a_pick_t ?_ | refine a_pick_f ?_ | refine a_not ?_ | refine a_nilf ?_ | (refine o_nil (hK _ _ ?_); clear hK K) | refine wk_reg ?_ | refine wk_seq fun K hK => ?_ | (refine wk_skip (hK _ _ ?_); clear hK K) | (refine wk_label (hK _ _ ?_); clear hK K) | refine wk_scope ?_ | refine wk_block ?_ | refine wk_cond_t rfl ?_ | refine wk_cond_f rfl ?_ | (refine wk_exit ?_; (repeat (refine blockK_other rfl ?_)); refine blockK_same ?_; try ((repeat ((fail_if_success (refine hK _ _ ?_)); clear hK K)); refine hK _ _ ?_; clear hK K)) | (refine a_bin ?_ ?_ <;> intro _ <;> try (exfalso; omega)) | refine a_ld hl ?_ | (refine a_st hl ?_; clear hl; intro _ hl) | refine a_ix (fun _ => ?_) | fail)
    refine wk_ret (retQ_tmp1 Tryd.results42 (by decide) rfl (by conv => lhs; whnf) ?_)
    exact ⟨acc2, hl.sub (List.sublist_cons_self _ _), by rw [hTT]; exact ha⟩

set_option maxHeartbeats 1000000 in
theorem refTerms_calls (f : Fm) (w : World) (G : Nat → Prop) (kv : Value) (hk : KR w G f.kids kv) (hc : cnt f ≤ 1000000) :
    Calls Tryd.prog 19 #[.agg (fmL f kv).toArray] w (fun e w' => ∃ x, e = .returned x ∧ Sl w' x 1 (strsL (termsOf f)) ∧ Ext w w') := by
  obtain ⟨a, c, rfl, -⟩ := hk.shape
  refine calls_of Tryd.func19 rfl Tryd.ntmps19 rfl ?_
  refine wk_seq fun K hK => ?_
  refine wk_reg ?_
  refine o_box (LH.start w (fun _ => False)) [.int .i64 (f).op, str (f).name, .int .i64 (f).cmp, .int .i64 (f).num, .slice a f.kids.length c] rfl rfl rfl ?_
  intro b1 w1 hb1 hl
  repeat' (first | refine a_mov ?_ | refine a_asg ?_ | refine a_binN ?_ | refine a_notd ?_ | refine a_notb ?_ | refine a_nilc ?_ | refine a_fa ?_ | refine a_ext ?_ | refine a_lenv ?_ | refine a_lens ?_ | refine a_pick_t ?_ | refine a_pick_f ?_ | refine a_not ?_ | refine a_nilf ?_ | (refine o_nil (hK _ _ ?_); clear hK K) | refine wk_reg ?_ | refine wk_seq fun K hK => ?_ | (refine wk_skip (hK _ _ ?_); clear hK K) | (refine wk_label (hK _ _ ?_); clear hK K) | refine wk_scope ?_ | refine wk_block ?_ | refine wk_cond_t rfl ?_ | refine wk_cond_f rfl ?_ | (refine wk_exit ?_; (repeat (refine blockK_other rfl ?_)); refine blockK_same ?_; try ((repeat ((fail_if_success (refine hK _ _ ?_)); clear hK K)); refine hK _ _ ?_; clear hK K)) | (refine a_bin ?_ ?_ <;> intro _ <;> try (exfalso; omega)) | refine a_ld hl ?_ | (refine a_st hl ?_; clear hl; intro _ hl) | refine a_ix (fun _ => ?_) | refine a_all (hl.rowL (vs := [.int .i64 (f).op, str (f).name, .int .i64 (f).cmp, .int .i64 (f).num, .slice a f.kids.length c]) 0 0 5 rfl) ?_)
  have hl : LH w (fun _ => False) w1 ([(b1, Obj.cells ([.int .i64 (f).op, str (f).name, .int .i64 (f).cmp, .int .i64 (f).num, .slice a f.kids.length c] : List Value).toArray 24 (0, 0))] ++ []) := hl
  refine a_fn (refNamesOf_calls w (fun _ => False) G (fun _ _ h => h) f _ [] w1 _ [] (.slice none 0 0) hk (by simpa using hc) hl (Acc.nil _ _)) ?_
  rintro v2 w2 ⟨acc2, hl2, ha2⟩
  repeat' (first | refine a_mov ?_ | refine a_asg ?_ | refine a_binN ?_ | refine a_notd ?_ | refine a_notb ?_ | refine a_nilc ?_ | refine a_fa ?_ | refine a_ext ?_ | refine a_lenv ?_ | refine a_lens ?_ | refine a_pick_t ?_ | refine a_pick_f ?_ | refine a_not ?_ | refine a_nilf ?_ | (refine o_nil (hK _ _ ?_); clear hK K) | refine wk_reg ?_ | refine wk_seq fun K hK => ?_ | (refine wk_skip (hK _ _ ?_); clear hK K) | (refine wk_label (hK _ _ ?_); clear hK K) | refine wk_scope ?_ | refine wk_block ?_ | refine wk_cond_t rfl ?_ | refine wk_cond_f rfl ?_ | (refine wk_exit ?_; (repeat (refine blockK_other rfl ?_)); refine blockK_same ?_; try ((repeat ((fail_if_success (refine hK _ _ ?_)); clear hK K)); refine hK _ _ ?_; clear hK K)) | (refine a_bin ?_ ?_ <;> intro _ <;> try (exfalso; omega)) | refine a_ld hl ?_ | (refine a_st hl ?_; clear hl; intro _ hl) | refine a_ix (fun _ => ?_) | fail)
  refine wk_ret (retQ_tmp1 Tryd.results19 (by decide) rfl (by conv => lhs; whnf) ?_)
  exact ⟨hl2.acc_sl ha2, hl2.done⟩
end Go.Proofs
