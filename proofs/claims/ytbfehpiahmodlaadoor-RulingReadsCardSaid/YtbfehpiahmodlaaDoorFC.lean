/-
  Formulas: is a text a name, is a node formed.
-/
import Derived.Test.YtbfehpiahmodlaaDoorFA
import Derived.Test.YtbfehpiahmodlaaDoorFB
import Derived.Test.YtbfehpiahmodlaaDoorLD
set_option linter.unusedVariables false
set_option linter.unusedSimpArgs false
set_option linter.unnecessarySimpa false
set_option maxRecDepth 10000
namespace Go.Proofs
open Go Go.Pd Go.Lexs Go.Fin Go.Fo
attribute [local irreducible] OpsL W RetQ OpsQ OpsC

theorem toks_len4 (l : List Tok) : (toksL l).length = l.length * 4 := flat_length (f := tokL) (fun _ => rfl) l

set_option maxHeartbeats 2000000 in
theorem name_calls (s : List UInt8) (w : World) : Calls Tryd.prog 55 #[str s] w (fun e w' => ∃ x, e = .returned x ∧ x = .bool (Nm s) ∧ Ext w w') := by
  refine calls_of Tryd.func55 rfl Tryd.ntmps55 rfl ?_
  repeat' (first | refine a_mov ?_ | refine a_asg ?_ | refine a_binN ?_ | refine a_notd ?_ | refine a_notb ?_ | refine a_nilc ?_ | refine a_fa ?_ | refine a_ext ?_ | refine a_lenv ?_ | refine a_lens ?_ | refine a_pick_t ?_ | refine a_pick_f ?_ | refine a_not ?_ | refine a_nilf ?_ | (refine o_nil (hK _ _ ?_); clear hK K) | refine wk_reg ?_ | refine wk_seq fun K hK => ?_ | (refine wk_skip (hK _ _ ?_); clear hK K) | (refine wk_label (hK _ _ ?_); clear hK K) | refine wk_scope ?_ | refine wk_block ?_ | refine wk_cond_t rfl ?_ | refine wk_cond_f rfl ?_ | (refine wk_exit ?_; (repeat (refine blockK_other rfl ?_)); refine blockK_same ?_; try ((repeat ((fail_if_success (refine hK _ _ ?_)); clear hK K)); refine hK _ _ ?_; clear hK K)) | (refine a_bin ?_ ?_ <;> intro _ <;> try (exfalso; omega)) | refine a_ld hl ?_ | (refine a_st hl ?_; clear hl; intro _ hl) | refine a_ix (fun _ => ?_) | fail)
  refine o_fn (lex_calls s w) rfl (fun _ => rfl) rfl ?_
  rintro v w1 ⟨he, ho⟩
  have hnm := lex_name s
  cases hx : lex s with
  | bad e off =>
    rw [hx] at ho
    have ho : v = _ := ho
    subst ho
    have hf : Nm s = false := by
      cases h : Nm s
      · rfl
      · obtain ⟨t, ht, -⟩ := hnm.2 h
        rw [hx] at ht; cases ht
    have hne : e ≠ 0 := lex_err hx
    clear hnm hx
    repeat' (first | refine a_mov ?_ | refine a_asg ?_ | refine a_binN ?_ | refine a_notd ?_ | refine a_notb ?_ | refine a_nilc ?_ | refine a_fa ?_ | refine a_ext ?_ | refine a_lenv ?_ | refine a_lens ?_ | refine a_pick_t ?_ | refine a_pick_f ?_ | refine a_not ?_ | refine a_nilf ?_ | (refine o_nil (hK _ _ ?_); clear hK K) | refine wk_reg ?_ | refine wk_seq fun K hK => ?_ | (refine wk_skip (hK _ _ ?_); clear hK K) | (refine wk_label (hK _ _ ?_); clear hK K) | refine wk_scope ?_ | refine wk_block ?_ | refine wk_cond_t rfl ?_ | refine wk_cond_f rfl ?_ | (refine wk_exit ?_; (repeat (refine blockK_other rfl ?_)); refine blockK_same ?_; try ((repeat ((fail_if_success (refine hK _ _ ?_)); clear hK K)); refine hK _ _ ?_; clear hK K)) | (refine a_bin ?_ ?_ <;> intro _ <;> try (exfalso; omega)) | refine a_ld hl ?_ | (refine a_st hl ?_; clear hl; intro _ hl) | refine a_ix (fun _ => ?_) | fail)
    refine wk_ret (retQ_tmp1 Tryd.results55 (by decide) rfl (by conv => lhs; whnf) ?_)
    exact ⟨by rw [hf], he⟩
  | ok l =>
    rw [hx] at ho
    obtain ⟨sv, rfl, hsl⟩ := ho
    obtain ⟨pa, ca, rfl, -⟩ := hsl.shape (toks_len4 l) (by omega)
    by_cases h1 : l.length = 1
    · obtain ⟨t, rfl⟩ := List.length_eq_one_iff.1 h1
      obtain ⟨ba, oa, hpa, hra⟩ := hsl.at (m := 1) rfl (by omega) (by omega)
      have hr0 : Row w1 ba (oa + 0 * 4) [.int .i64 (t.kind : Int), str t.text, .int .i64 (t.num : Int), .int .i64 (t.pos : Int)] := hra.elem (f := tokL) (fun _ => rfl) (k := 0) (t := t) rfl
      have hnm2 : Nm s = true ↔ t.kind = 1 ∧ t.text = s := by
        rw [← hnm, hx]
        constructor
        · rintro ⟨u, hu, h⟩
          cases hu; exact h
        · intro h; exact ⟨t, rfl, h⟩
      have h11 : ([t] : List Tok).length = 1 := rfl
      rw [h11]
      clear hnm hx
      repeat' (first | refine a_mov ?_ | refine a_asg ?_ | refine a_binN ?_ | refine a_notd ?_ | refine a_notb ?_ | refine a_nilc ?_ | refine a_fa ?_ | refine a_ext ?_ | refine a_lenv ?_ | refine a_lens ?_ | refine a_pick_t ?_ | refine a_pick_f ?_ | refine a_not ?_ | refine a_nilf ?_ | (refine o_nil (hK _ _ ?_); clear hK K) | refine wk_reg ?_ | refine wk_seq fun K hK => ?_ | (refine wk_skip (hK _ _ ?_); clear hK K) | (refine wk_label (hK _ _ ?_); clear hK K) | refine wk_scope ?_ | refine wk_block ?_ | refine wk_cond_t rfl ?_ | refine wk_cond_f rfl ?_ | (refine wk_exit ?_; (repeat (refine blockK_other rfl ?_)); refine blockK_same ?_; try ((repeat ((fail_if_success (refine hK _ _ ?_)); clear hK K)); refine hK _ _ ?_; clear hK K)) | (refine a_bin ?_ ?_ <;> intro _ <;> try (exfalso; omega)) | refine a_ld hl ?_ | (refine a_st hl ?_; clear hl; intro _ hl) | refine a_ix (fun _ => ?_) | refine a_idx (c := 4) 0 hpa ?_ | refine a_row hr0 ?_ | refine o_eqs rfl rfl rfl ?_)
      all_goals (refine wk_ret (retQ_tmp1 Tryd.results55 (by decide) rfl (by conv => lhs; whnf) ?_))
      all_goals refine ⟨congrArg Value.bool ?_, he⟩
      · rw [Bool.eq_iff_iff, hnm2, decide_eq_true_eq]
        exact ⟨fun h => ⟨by omega, h⟩, And.right⟩
      · cases hq : Nm s
        · rfl
        · exact absurd (hnm2.1 hq).1 (by omega)
    · have hf : Nm s = false := by
        cases h : Nm s
        · rfl
        · obtain ⟨t, ht, -⟩ := hnm.2 h
          rw [hx] at ht
          cases ht
          exact absurd rfl h1
      clear hnm hx
      repeat' (first | refine a_mov ?_ | refine a_asg ?_ | refine a_binN ?_ | refine a_notd ?_ | refine a_notb ?_ | refine a_nilc ?_ | refine a_fa ?_ | refine a_ext ?_ | refine a_lenv ?_ | refine a_lens ?_ | refine a_pick_t ?_ | refine a_pick_f ?_ | refine a_not ?_ | refine a_nilf ?_ | (refine o_nil (hK _ _ ?_); clear hK K) | refine wk_reg ?_ | refine wk_seq fun K hK => ?_ | (refine wk_skip (hK _ _ ?_); clear hK K) | (refine wk_label (hK _ _ ?_); clear hK K) | refine wk_scope ?_ | refine wk_block ?_ | refine wk_cond_t rfl ?_ | refine wk_cond_f rfl ?_ | (refine wk_exit ?_; (repeat (refine blockK_other rfl ?_)); refine blockK_same ?_; try ((repeat ((fail_if_success (refine hK _ _ ?_)); clear hK K)); refine hK _ _ ?_; clear hK K)) | (refine a_bin ?_ ?_ <;> intro _ <;> try (exfalso; omega)) | refine a_ld hl ?_ | (refine a_st hl ?_; clear hl; intro _ hl) | refine a_ix (fun _ => ?_) | fail)
      refine wk_ret (retQ_tmp1 Tryd.results55 (by decide) rfl (by conv => lhs; whnf) ?_)
      exact ⟨by rw [hf], he⟩

def formedP (op : Int) (s : List UInt8) (cmp num : Int) (n : Nat) (nm : Bool) : Bool :=
  if (op ≠ 3 ∧ (cmp ≠ 0 ∨ num ≠ 0)) ∨ (op ≠ 3 ∧ op ≠ 4 ∧ s ≠ []) then false
  else if op = 1 ∨ op = 2 then decide (n = 0)
  else if op = 3 then decide (n = 0) && (nm && (decide (1 ≤ cmp) && decide (cmp ≤ 6)))
  else if op = 4 then decide (n = 0) && nm
  else if op = 5 then decide (n = 1)
  else if op = 6 ∨ op = 7 then decide (2 ≤ n)
  else false

set_option maxHeartbeats 4000000 in
theorem formedS_calls (f : Fm) (kv : Value) (w : World) (hk : ∃ a c, kv = .slice a f.kids.length c) (hc : f.kids.length ≤ 9223372036854775806) : Calls Tryd.prog 42 #[.agg (fmL f kv).toArray] w (fun e w' => ∃ x, e = .returned x ∧ x = .bool (formed f) ∧ Ext w w') := by
  obtain ⟨a, c, rfl⟩ := hk
  have hfm : formed f = formedP f.op f.name f.cmp f.num f.kids.length (Nm f.name) := rfl
  refine calls_of Tryd.func42 rfl Tryd.ntmps42 rfl ?_
  refine wk_seq fun K hK => ?_
  refine wk_reg ?_
  refine o_box (LH.start w (fun _ => False)) [.int .i64 (f).op, str (f).name, .int .i64 (f).cmp, .int .i64 (f).num, .slice a f.kids.length c] rfl rfl rfl ?_
  intro b w1 hb hl
  have hr : Row w1 b 0 [.int .i64 (f).op, str (f).name, .int .i64 (f).cmp, .int .i64 (f).num, .slice a f.kids.length c] := hl.rowL (vs := [.int .i64 (f).op, str (f).name, .int .i64 (f).cmp, .int .i64 (f).num, .slice a f.kids.length c]) 0 0 5 rfl
  have he1 := hl.done
  have hnc := name_calls f.name
  generalize Nm f.name = nm at *
  generalize f.op = op at *
  generalize f.name = s at *
  generalize f.cmp = cmp at *
  generalize f.num = num at *
  generalize f.kids.length = nk at *
  repeat' (first | refine a_mov ?_ | refine a_asg ?_ | refine a_binN ?_ | refine a_notd ?_ | refine a_notb ?_ | refine a_nilc ?_ | refine a_fa ?_ | refine a_ext ?_ | refine a_lenv ?_ | refine a_lens ?_ | refine a_pick_t ?_ | refine a_pick_f ?_ | refine a_not ?_ | refine a_nilf ?_ | (refine o_nil (hK _ _ ?_); clear hK K) | refine wk_reg ?_ | refine wk_seq fun K hK => ?_ | (refine wk_skip (hK _ _ ?_); clear hK K) | (refine wk_label (hK _ _ ?_); clear hK K) | refine wk_scope ?_ | refine wk_block ?_ | refine wk_cond_t rfl ?_ | refine wk_cond_f rfl ?_ | (refine wk_exit ?_; (repeat (refine blockK_other rfl ?_)); refine blockK_same ?_; try ((repeat ((fail_if_success (refine hK _ _ ?_)); clear hK K)); refine hK _ _ ?_; clear hK K)) | (refine a_bin ?_ ?_ <;> intro _ <;> try (exfalso; omega)) | refine a_ld hl ?_ | (refine a_st hl ?_; clear hl; intro _ hl) | refine a_ix (fun _ => ?_) | refine o_nesT (b := []) rfl rfl (by simp only [str_eq]; rfl) ?_ ?_ <;> intro hnm)
  all_goals try (refine a_fn (hnc w1) ?_; rintro _ w2 ⟨rfl, he2⟩; clear hl hnc; have he3 := he1.trans he2; have hr2 := hr.ext he2; clear hr; cases nm <;> repeat' (first | refine a_mov ?_ | refine a_asg ?_ | refine a_binN ?_ | refine a_notd ?_ | refine a_notb ?_ | refine a_nilc ?_ | refine a_fa ?_ | refine a_ext ?_ | refine a_lenv ?_ | refine a_lens ?_ | refine a_pick_t ?_ | refine a_pick_f ?_ | refine a_not ?_ | refine a_nilf ?_ | (refine o_nil (hK _ _ ?_); clear hK K) | refine wk_reg ?_ | refine wk_seq fun K hK => ?_ | (refine wk_skip (hK _ _ ?_); clear hK K) | (refine wk_label (hK _ _ ?_); clear hK K) | refine wk_scope ?_ | refine wk_block ?_ | refine wk_cond_t rfl ?_ | refine wk_cond_f rfl ?_ | (refine wk_exit ?_; (repeat (refine blockK_other rfl ?_)); refine blockK_same ?_; try ((repeat ((fail_if_success (refine hK _ _ ?_)); clear hK K)); refine hK _ _ ?_; clear hK K)) | (refine a_bin ?_ ?_ <;> intro _ <;> try (exfalso; omega)) | refine a_ld hl ?_ | (refine a_st hl ?_; clear hl; intro _ hl) | refine a_ix (fun _ => ?_) | refine a_row hr2 ?_))
  all_goals (refine wk_ret (retQ_tmp1 Tryd.results42 (by decide) rfl (by conv => lhs; whnf) ?_))
  all_goals refine ⟨congrArg Value.bool ?_, by first | exact he3 | exact he1⟩
  all_goals (rw [hfm]; clear hfm; unfold formedP)
  all_goals first | (simp_all; done) | (repeat' split; all_goals first | rfl | omega | (simp_all; done) | (simp_all; omega))

end Go.Proofs

/-
  Formulas: formula.check, formula.Check.
-/
set_option linter.unusedVariables false
set_option linter.unusedSimpArgs false
set_option linter.unnecessarySimpa false
set_option maxRecDepth 10000
namespace Go.Fo
open Go.Lexs Go.Fin
theorem idxI_neg (F : List Fact) (s : List UInt8) : idxI F s < 0 ↔ idx F s = none := by
  unfold idxI
  cases idx F s with
  | none => simp
  | some i => simp
end Go.Fo

namespace Go.Proofs
open Go Go.Pd Go.Lexs Go.Fin Go.Fo
attribute [local irreducible] OpsL W RetQ OpsQ OpsC

/-! ### Rounds over own blocks -/
theorem _root_.Go.Pd.LH.later {w w2 : World} {Fp : Nat → Prop} {l2 : List (Nat × Obj)} (h2 : LH w Fp w2 l2) : Later Fp (fun b => b ∈ l2.map (·.1)) w w2 := ⟨h2.upd, fun b hb => by
  obtain ⟨p, hp, rfl⟩ := List.mem_map.1 hb
  exact (h2.fresh p hp).symm⟩

/-- What a function that knows names answers, in this world and the later ones. -/
def KnownC (fv : Value) (known : List UInt8 → Bool) (w : World) : Prop := ∀ w', Ext w w' → ∀ s, CallV Tryd.prog fv #[str s] w' (fun v w2 => v = .bool (known s) ∧ Ext w' w2)

def ckL (f : Fm) (kv dv fv : Value) (b3 b4 b5 b6 bn D L : Nat) (rec : Loop) (e : Int) : List (Nat × Obj) :=
  [(L, .loop rec), (D, .deferred (some [])), (bn, .cells ([.int .i64 (f).op, str (f).name, .int .i64 (f).cmp, .int .i64 (f).num, kv] : List Value).toArray 25 (0, 0)), (b6, .cells #[.int .i64 e] 43 (0, 0)), (b5, .cells #[fv] 56 (0, 0)), (b4, .cells #[dv] 30 (0, 0)), (b3, .cells ([.int .i64 (f).op, str (f).name, .int .i64 (f).cmp, .int .i64 (f).num, kv] : List Value).toArray 25 (0, 0))]

theorem firstE_at {F : List Fact} {known : List UInt8 → Bool} {p rest : List Fm} {x : Fm} (h0 : firstE F known p = 0) (hx : nodeE F known x ≠ 0) : firstE F known (p ++ x :: rest) = nodeE F known x := by
  rw [firstE_app, if_neg (by simp [h0])]
  simp only [firstE, if_pos hx]
theorem firstE_go {F : List Fact} {known : List UInt8 → Bool} {p : List Fm} {x : Fm} (h0 : firstE F known p = 0) (hx : nodeE F known x = 0) : firstE F known (p ++ [x]) = 0 := by
  rw [firstE_app, if_neg (by simp [h0])]
  simp [firstE, hx]

set_option maxHeartbeats 8000000 in
theorem check_calls (F : List Fact) (known : List UInt8 → Bool) (hF : F.length ≤ 9223372036854775806) (f : Fm) (w : World) (G : Nat → Prop) (kv dv fv : Value) (hk : KR w G f.kids kv) (hG : ∀ b, G b → b < w.heap.size) (hs : Short f.kids) (hc : cnt f ≤ 1000000) (hd : Sl w dv 4 (factsL F)) (hkn : KnownC fv known w) (h1 : Cell1 fv) :
    Calls Tryd.prog 22 #[.agg (fmL f kv).toArray, .agg #[dv], fv] w (fun e w' => ∃ x, e = .returned x ∧ x = .int .i64 (checkE F known f : Int) ∧ Ext w w') := by
  obtain ⟨a, c, rfl, -⟩ := hk.shape
  obtain ⟨da, dc, rfl, -⟩ := hd.shape (factsL_len F) (by omega)
  refine calls_of Tryd.func22 rfl Tryd.ntmps22 rfl ?_
  refine wk_seq fun K hK => ?_
  refine wk_reg ?_
  refine o_box (LH.start w (fun _ => False)) [.int .i64 (f).op, str (f).name, .int .i64 (f).cmp, .int .i64 (f).num, .slice a f.kids.length c] rfl rfl rfl ?_
  intro b3 w1 hb3 hl
  refine o_box hl [.slice da F.length dc] rfl rfl rfl ?_
  clear hl
  intro b4 w2 hb4 hl
  refine o_box hl [fv] rfl rfl h1.1 ?_
  clear hl
  intro b5 w3 hb5 hl
  refine o_alloc hl [.int .i64 0] rfl rfl ?_
  clear hl
  intro b6 w4 hb6 hl
  repeat' (first | refine a_mov ?_ | refine a_asg ?_ | refine a_binN ?_ | refine a_notd ?_ | refine a_notb ?_ | refine a_nilc ?_ | refine a_fa ?_ | refine a_ext ?_ | refine a_lenv ?_ | refine a_lens ?_ | refine a_pick_t ?_ | refine a_pick_f ?_ | refine a_not ?_ | refine a_nilf ?_ | (refine o_nil (hK _ _ ?_); clear hK K) | refine wk_reg ?_ | refine wk_seq fun K hK => ?_ | (refine wk_skip (hK _ _ ?_); clear hK K) | (refine wk_label (hK _ _ ?_); clear hK K) | refine wk_scope ?_ | refine wk_block ?_ | refine wk_cond_t rfl ?_ | refine wk_cond_f rfl ?_ | (refine wk_exit ?_; (repeat (refine blockK_other rfl ?_)); refine blockK_same ?_; try ((repeat ((fail_if_success (refine hK _ _ ?_)); clear hK K)); refine hK _ _ ?_; clear hK K)) | (refine a_bin ?_ ?_ <;> intro _ <;> try (exfalso; omega)) | refine a_ld hl ?_ | (refine a_st hl ?_; clear hl; intro _ hl) | refine a_ix (fun _ => ?_) | refine a_all (hl.rowL (vs := [.int .i64 (f).op, str (f).name, .int .i64 (f).cmp, .int .i64 (f).num, .slice a f.kids.length c]) 3 0 5 rfl) ?_)
  refine a_fn (size_calls f w4 G _ (hk.ext hl.done) hc) ?_
  rintro _ w5 ⟨rfl, he5⟩
  replace hl := hl.ext he5
  clear he5
  by_cases hlg : 200 < cnt f ∨ 20 < dep f
  · have hck : checkE F known f = 2 := by unfold checkE; rw [if_pos hlg]
    repeat' (first | refine a_mov ?_ | refine a_asg ?_ | refine a_binN ?_ | refine a_notd ?_ | refine a_notb ?_ | refine a_nilc ?_ | refine a_fa ?_ | refine a_ext ?_ | refine a_lenv ?_ | refine a_lens ?_ | refine a_pick_t ?_ | refine a_pick_f ?_ | refine a_not ?_ | refine a_nilf ?_ | (refine o_nil (hK _ _ ?_); clear hK K) | refine wk_reg ?_ | refine wk_seq fun K hK => ?_ | (refine wk_skip (hK _ _ ?_); clear hK K) | (refine wk_label (hK _ _ ?_); clear hK K) | refine wk_scope ?_ | refine wk_block ?_ | refine wk_cond_t rfl ?_ | refine wk_cond_f rfl ?_ | (refine wk_exit ?_; (repeat (refine blockK_other rfl ?_)); refine blockK_same ?_; try ((repeat ((fail_if_success (refine hK _ _ ?_)); clear hK K)); refine hK _ _ ?_; clear hK K)) | (refine a_bin ?_ ?_ <;> intro _ <;> try (exfalso; omega)) | refine a_ld hl ?_ | (refine a_st hl ?_; clear hl; intro _ hl) | refine a_ix (fun _ => ?_) | fail)
    all_goals refine wk_ret (retQ_res [.int .i64 2] rfl rfl ⟨by decide, ⟨⟨b6, 0, none⟩, rfl, run_loadVar1 rfl (hl.cell 0 rfl rfl)⟩, trivial⟩ ⟨by rw [hck]; rfl, hl.done⟩)
  have hck : checkE F known f = firstE F known (pre f) := by unfold checkE; rw [if_neg hlg]
  repeat' (first | refine a_mov ?_ | refine a_asg ?_ | refine a_binN ?_ | refine a_notd ?_ | refine a_notb ?_ | refine a_nilc ?_ | refine a_fa ?_ | refine a_ext ?_ | refine a_lenv ?_ | refine a_lens ?_ | refine a_pick_t ?_ | refine a_pick_f ?_ | refine a_not ?_ | refine a_nilf ?_ | (refine o_nil (hK _ _ ?_); clear hK K) | refine wk_reg ?_ | refine wk_seq fun K hK => ?_ | (refine wk_skip (hK _ _ ?_); clear hK K) | (refine wk_label (hK _ _ ?_); clear hK K) | refine wk_scope ?_ | refine wk_block ?_ | refine wk_cond_t rfl ?_ | refine wk_cond_f rfl ?_ | (refine wk_exit ?_; (repeat (refine blockK_other rfl ?_)); refine blockK_same ?_; try ((repeat ((fail_if_success (refine hK _ _ ?_)); clear hK K)); refine hK _ _ ?_; clear hK K)) | (refine a_bin ?_ ?_ <;> intro _ <;> try (exfalso; omega)) | refine a_ld hl ?_ | (refine a_st hl ?_; clear hl; intro _ hl) | refine a_ix (fun _ => ?_) | refine a_all (hl.rowL (vs := [.int .i64 (f).op, str (f).name, .int .i64 (f).cmp, .int .i64 (f).num, .slice a f.kids.length c]) 3 0 5 rfl) ?_)
  refine a_fn (nodes_calls f _ w5 ⟨a, c, rfl⟩) ?_
  rintro _ w6 ⟨bn, rfl, hl6⟩
  replace hl := hl.join hl6
  clear hl6
  repeat' (first | refine a_mov ?_ | refine a_asg ?_ | refine a_binN ?_ | refine a_notd ?_ | refine a_notb ?_ | refine a_nilc ?_ | refine a_fa ?_ | refine a_ext ?_ | refine a_lenv ?_ | refine a_lens ?_ | refine a_pick_t ?_ | refine a_pick_f ?_ | refine a_not ?_ | refine a_nilf ?_ | (refine o_nil (hK _ _ ?_); clear hK K) | refine wk_reg ?_ | refine wk_seq fun K hK => ?_ | (refine wk_skip (hK _ _ ?_); clear hK K) | (refine wk_label (hK _ _ ?_); clear hK K) | refine wk_scope ?_ | refine wk_block ?_ | refine wk_cond_t rfl ?_ | refine wk_cond_f rfl ?_ | (refine wk_exit ?_; (repeat (refine blockK_other rfl ?_)); refine blockK_same ?_; try ((repeat ((fail_if_success (refine hK _ _ ?_)); clear hK K)); refine hK _ _ ?_; clear hK K)) | (refine a_bin ?_ ?_ <;> intro _ <;> try (exfalso; omega)) | refine a_ld hl ?_ | (refine a_st hl ?_; clear hl; intro _ hl) | refine a_ix (fun _ => ?_) | fail)
  refine wk_rangeFunc rfl (fun _ _ => rfl) ?_
  intro fn tm w7 hfits hheap
  generalize hD : w6.heap.size = D at hheap ⊢
  generalize hrec : Loop.mk _ _ _ _ _ _ _ _ = rec at hheap
  have hl7 : LH w (fun _ => False) w7 (ckL f (.slice a f.kids.length c) (.slice da F.length dc) fv b3 b4 b5 b6 bn D (D + 1) rec 0) := by
    have h1 := ((hl.alloc (.deferred (some []))).alloc (.loop rec)).heap hheap
    simp only [Array.size_push] at h1
    rw [hD] at h1
    exact h1
  clear hl hheap
  have he7 := hl7.done
  refine Calls.mono (nodes1_calls (.func (.yield (D + 1)) #[] #[]) f (.slice a f.kids.length c) bn
    (fun p Fp w' => Fp = (fun b => b ∈ (ckL f (.slice a f.kids.length c) (.slice da F.length dc) fv b3 b4 b5 b6 bn D (D + 1) rec 0).map (·.1)) ∧ firstE F known p = 0 ∧ LH w (fun _ => False) w' (ckL f (.slice a f.kids.length c) (.slice da F.length dc) fv b3 b4 b5 b6 bn D (D + 1) rec 0))
    (fun w' => firstE F known (pre f) ≠ 0 ∧ LH w (fun _ => False) w' (ckL f (.slice a f.kids.length c) (.slice da F.length dc) fv b3 b4 b5 b6 bn D (D + 1) { rec with state := .done, pending := some .ret } (firstE F known (pre f) : Int)))
    ?_ ?_ ?_ _ G w7 ⟨rfl, rfl⟩ (hk.ext he7) ?_ hs (hl7.rowL (vs := [.int .i64 (f).op, str (f).name, .int .i64 (f).cmp, .int .i64 (f).num, .slice a f.kids.length c]) 2 0 5 rfl) ⟨rfl, rfl, hl7⟩) ?_
  · rintro p Fp w' ⟨rfl, -, h⟩ b hb
    obtain ⟨q, hq, rfl⟩ := List.mem_map.1 hb
    exact h.lt hq
  · rintro p Fp w' w'' ⟨h1, h2, h⟩ e
    exact ⟨h1, h2, h.ext e⟩
  · rintro p x Fp wa kv ⟨rest, htot⟩ ⟨rfl, hp0, h⟩ ⟨xa, xc, rfl⟩
    have hb := h.rb
    refine callV_round (n := 63) (hb.get 0 rfl) (congrArg Loop.params hrec.symm) (congrArg Loop.assign hrec.symm) (congrArg Loop.body hrec.symm) rfl (by rw [show rec.tmps = tm from congrArg Loop.tmps hrec.symm]; exact hfits) ?_
    have hready : rec.state = .ready := congrArg Loop.state hrec.symm
    have hpend : rec.pending = none := congrArg Loop.pending hrec.symm
    have hrr : ({ rec with state := .ready, pending := none } : Loop) = rec := by
      cases rec
      simp only at hready hpend
      rw [hready, hpend]
    have hxs : x.kids.length ≤ 9223372036854775806 := by
      have hm : x ∈ pre f := htot ▸ List.mem_append_right _ List.mem_cons_self
      rw [pre_eq] at hm
      rcases List.mem_cons.1 hm with rfl | hm
      · exact hs.1
      · exact hs.2 x hm
    have hbad := fun hx => firstE_at (F := F) (known := known) (rest := rest) (x := x) hp0 hx
    have hgo := fun hx => firstE_go (F := F) (known := known) (x := x) hp0 hx
    rw [← htot] at hbad
    clear hl7 hfits hrec hp0 he7
    dsimp only
    repeat' (first | refine a_mov ?_ | refine a_asg ?_ | refine a_binN ?_ | refine a_notd ?_ | refine a_notb ?_ | refine a_nilc ?_ | refine a_fa ?_ | refine a_ext ?_ | refine a_lenv ?_ | refine a_lens ?_ | refine a_pick_t ?_ | refine a_pick_f ?_ | refine a_not ?_ | refine a_nilf ?_ | (refine o_nil (hK _ _ ?_); clear hK K) | refine wk_reg ?_ | refine wk_seq fun K hK => ?_ | (refine wk_skip (hK _ _ ?_); clear hK K) | (refine wk_label (hK _ _ ?_); clear hK K) | refine wk_scope ?_ | refine wk_block ?_ | refine wk_cond_t rfl ?_ | refine wk_cond_f rfl ?_ | (refine wk_exit ?_; (repeat (refine blockK_other rfl ?_)); refine blockK_same ?_; try ((repeat ((fail_if_success (refine hK _ _ ?_)); clear hK K)); refine hK _ _ ?_; clear hK K)) | (refine a_bin ?_ ?_ <;> intro _ <;> try (exfalso; omega)) | refine a_ld hl ?_ | (refine a_st hl ?_; clear hl; intro _ hl) | refine a_ix (fun _ => ?_) | fail)
    refine o_alloc hb [.int .i64 0, .string ⟨#[]⟩, .int .i64 0, .int .i64 0, .slice none 0 0] rfl rfl ?_
    clear hb
    intro b9 w8 hb9 hl
    refine o_putN (us := [.int .i64 (x).op, str (x).name, .int .i64 (x).cmp, .int .i64 (x).num, .slice xa x.kids.length xc]) hl rfl rfl rfl (by simp only [str_eq]; rfl) rfl (.all rfl rfl) ?_
    clear hl
    intro w9 hl
    refine o_nil ⟨_, hl.get 1 rfl, hready, ?_⟩
    intro w10 hw10
    replace hl := hl.put 1 rfl hw10
    have hl : LH wa _ w10 ((b9, .cells ([.int .i64 (x).op, str (x).name, .int .i64 (x).cmp, .int .i64 (x).num, .slice xa x.kids.length xc] : List Value).toArray 25 (0, 0)) :: ckL f (.slice a f.kids.length c) (.slice da F.length dc) fv b3 b4 b5 b6 bn D (D + 1) { rec with state := .busy } 0) := hl
    unfold ckL at hl
    have stop : ∀ (e : Nat) (w' : World), nodeE F known x = e → e ≠ 0 → LH wa (fun b => b ∈ (ckL f (.slice a f.kids.length c) (.slice da F.length dc) fv b3 b4 b5 b6 bn D (D + 1) rec 0).map (·.1)) w' ((b9, .cells ([.int .i64 (x).op, str (x).name, .int .i64 (x).cmp, .int .i64 (x).num, .slice xa x.kids.length xc] : List Value).toArray 25 (0, 0)) :: ckL f (.slice a f.kids.length c) (.slice da F.length dc) fv b3 b4 b5 b6 bn D (D + 1) { rec with state := .done, pending := some .ret } (e : Int)) →
        firstE F known (pre f) ≠ 0 ∧ LH w (fun _ => False) w' (ckL f (.slice a f.kids.length c) (.slice da F.length dc) fv b3 b4 b5 b6 bn D (D + 1) { rec with state := .done, pending := some .ret } (firstE F known (pre f) : Int)) := by
      intro e w' he h0 h'
      have h2 := hbad (by rw [he]; exact h0)
      rw [h2, he]
      exact ⟨h0, h.bk (h'.sub (List.sublist_cons_self _ _))⟩
    have go : ∀ (w' : World), nodeE F known x = 0 → LH wa (fun b => b ∈ (ckL f (.slice a f.kids.length c) (.slice da F.length dc) fv b3 b4 b5 b6 bn D (D + 1) rec 0).map (·.1)) w' ((b9, .cells ([.int .i64 (x).op, str (x).name, .int .i64 (x).cmp, .int .i64 (x).num, .slice xa x.kids.length xc] : List Value).toArray 25 (0, 0)) :: ckL f (.slice a f.kids.length c) (.slice da F.length dc) fv b3 b4 b5 b6 bn D (D + 1) { rec with state := .ready, pending := none } 0) →
        ∃ Fp', (Fp' = (fun b => b ∈ (ckL f (.slice a f.kids.length c) (.slice da F.length dc) fv b3 b4 b5 b6 bn D (D + 1) rec 0).map (·.1)) ∧ firstE F known (p ++ [x]) = 0 ∧ LH w (fun _ => False) w' (ckL f (.slice a f.kids.length c) (.slice da F.length dc) fv b3 b4 b5 b6 bn D (D + 1) rec 0)) ∧ Later (fun b => b ∈ (ckL f (.slice a f.kids.length c) (.slice da F.length dc) fv b3 b4 b5 b6 bn D (D + 1) rec 0).map (·.1)) Fp' wa w' := by
      intro w' h0 h'
      rw [hrr] at h'
      have h3 := h'.sub (List.sublist_cons_self _ _)
      exact ⟨_, ⟨rfl, hgo h0, h.bk h3⟩, h3.later⟩
    clear hbad hgo
    have hnode : nodeE F known x = if formed x = false then 1 else if x.op = 3 ∧ (x.num < 0 ∨ x.num > 1000000) then 10 else if (x.op = 3 ∧ idxI F x.name < 0) ∨ (x.op = 4 ∧ known x.name = false) then 7 else 0 := by
      unfold nodeE
      simp only [idxI_neg]
    repeat' (first | refine a_mov ?_ | refine a_asg ?_ | refine a_binN ?_ | refine a_notd ?_ | refine a_notb ?_ | refine a_nilc ?_ | refine a_fa ?_ | refine a_ext ?_ | refine a_lenv ?_ | refine a_lens ?_ | refine a_pick_t ?_ | refine a_pick_f ?_ | refine a_not ?_ | refine a_nilf ?_ | (refine o_nil (hK _ _ ?_); clear hK K) | refine wk_reg ?_ | refine wk_seq fun K hK => ?_ | (refine wk_skip (hK _ _ ?_); clear hK K) | (refine wk_label (hK _ _ ?_); clear hK K) | refine wk_scope ?_ | refine wk_block ?_ | refine wk_cond_t rfl ?_ | refine wk_cond_f rfl ?_ | (refine wk_exit ?_; (repeat (refine blockK_other rfl ?_)); refine blockK_same ?_; try ((repeat ((fail_if_success (refine hK _ _ ?_)); clear hK K)); refine hK _ _ ?_; clear hK K)) | (refine a_bin ?_ ?_ <;> intro _ <;> try (exfalso; omega)) | refine a_ld hl ?_ | (refine a_st hl ?_; clear hl; intro _ hl) | refine a_ix (fun _ => ?_) | refine a_all (hl.rowL (vs := [.int .i64 (x).op, str (x).name, .int .i64 (x).cmp, .int .i64 (x).num, .slice xa x.kids.length xc]) 0 0 5 rfl) ?_)
    refine a_fn (formedS_calls x _ w10 ⟨xa, xc, rfl⟩ hxs) ?_
    rintro _ w11 ⟨rfl, he11⟩
    replace hl := hl.ext he11
    clear he11
    cases hfo : formed x
    · rw [hfo, if_pos rfl] at hnode
      repeat' (first | refine a_mov ?_ | refine a_asg ?_ | refine a_binN ?_ | refine a_notd ?_ | refine a_notb ?_ | refine a_nilc ?_ | refine a_fa ?_ | refine a_ext ?_ | refine a_lenv ?_ | refine a_lens ?_ | refine a_pick_t ?_ | refine a_pick_f ?_ | refine a_not ?_ | refine a_nilf ?_ | (refine o_nil (hK _ _ ?_); clear hK K) | refine wk_reg ?_ | refine wk_seq fun K hK => ?_ | (refine wk_skip (hK _ _ ?_); clear hK K) | (refine wk_label (hK _ _ ?_); clear hK K) | refine wk_scope ?_ | refine wk_block ?_ | refine wk_cond_t rfl ?_ | refine wk_cond_f rfl ?_ | (refine wk_exit ?_; (repeat (refine blockK_other rfl ?_)); refine blockK_same ?_; try ((repeat ((fail_if_success (refine hK _ _ ?_)); clear hK K)); refine hK _ _ ?_; clear hK K)) | (refine a_bin ?_ ?_ <;> intro _ <;> try (exfalso; omega)) | refine a_ld hl ?_ | (refine a_st hl ?_; clear hl; intro _ hl) | refine a_ix (fun _ => ?_) | fail)
      refine wk_ret ⟨_, hl.get 1 rfl, fun w' hw' => .inr ⟨rfl, stop 1 _ hnode (by decide) (hl.put 1 rfl hw')⟩⟩
    rw [hfo, if_neg (by decide)] at hnode
    have hew : Ext w w11 := (h.bk (hl.sub (List.sublist_cons_self _ _))).done
    repeat' (first | refine a_mov ?_ | refine a_asg ?_ | refine a_binN ?_ | refine a_notd ?_ | refine a_notb ?_ | refine a_nilc ?_ | refine a_fa ?_ | refine a_ext ?_ | refine a_lenv ?_ | refine a_lens ?_ | refine a_pick_t ?_ | refine a_pick_f ?_ | refine a_not ?_ | refine a_nilf ?_ | (refine o_nil (hK _ _ ?_); clear hK K) | refine wk_reg ?_ | refine wk_seq fun K hK => ?_ | (refine wk_skip (hK _ _ ?_); clear hK K) | (refine wk_label (hK _ _ ?_); clear hK K) | refine wk_scope ?_ | refine wk_block ?_ | refine wk_cond_t rfl ?_ | refine wk_cond_f rfl ?_ | (refine wk_exit ?_; (repeat (refine blockK_other rfl ?_)); refine blockK_same ?_; try ((repeat ((fail_if_success (refine hK _ _ ?_)); clear hK K)); refine hK _ _ ?_; clear hK K)) | (refine a_bin ?_ ?_ <;> intro _ <;> try (exfalso; omega)) | refine a_ld hl ?_ | (refine a_st hl ?_; clear hl; intro _ hl) | refine a_ix (fun _ => ?_) | refine a_all (hl.rowL (vs := [.slice da F.length dc]) 6 0 1 rfl) ?_)
    · refine wk_ret ⟨_, hl.get 1 rfl, fun w' hw' => .inr ⟨rfl, stop 10 _ (by rw [hnode, if_pos (by omega)]) (by decide) (hl.put 1 rfl hw')⟩⟩
    · refine wk_ret ⟨_, hl.get 1 rfl, fun w' hw' => .inr ⟨rfl, stop 10 _ (by rw [hnode, if_pos (by omega)]) (by decide) (hl.put 1 rfl hw')⟩⟩
    · refine a_fn (factIndex_calls (hd.ext hew) hF x.name) ?_
      rintro _ w12 ⟨rfl, he12⟩
      replace hl := hl.ext he12
      generalize idxI F x.name = ix at *
      repeat' (first | refine a_mov ?_ | refine a_asg ?_ | refine a_binN ?_ | refine a_notd ?_ | refine a_notb ?_ | refine a_nilc ?_ | refine a_fa ?_ | refine a_ext ?_ | refine a_lenv ?_ | refine a_lens ?_ | refine a_pick_t ?_ | refine a_pick_f ?_ | refine a_not ?_ | refine a_nilf ?_ | (refine o_nil (hK _ _ ?_); clear hK K) | refine wk_reg ?_ | refine wk_seq fun K hK => ?_ | (refine wk_skip (hK _ _ ?_); clear hK K) | (refine wk_label (hK _ _ ?_); clear hK K) | refine wk_scope ?_ | refine wk_block ?_ | refine wk_cond_t rfl ?_ | refine wk_cond_f rfl ?_ | (refine wk_exit ?_; (repeat (refine blockK_other rfl ?_)); refine blockK_same ?_; try ((repeat ((fail_if_success (refine hK _ _ ?_)); clear hK K)); refine hK _ _ ?_; clear hK K)) | (refine a_bin ?_ ?_ <;> intro _ <;> try (exfalso; omega)) | refine a_ld hl ?_ | (refine a_st hl ?_; clear hl; intro _ hl) | refine a_ix (fun _ => ?_) | fail)
      · refine wk_ret ⟨_, hl.get 1 rfl, fun w' hw' => .inr ⟨rfl, stop 7 _ (by rw [hnode, if_neg (by omega), if_pos (by omega)]) (by decide) (hl.put 1 rfl hw')⟩⟩
      · refine wk_skip ⟨_, hl.get 1 rfl, fun w' hw' => .inl ⟨rfl, go _ (by rw [hnode, if_neg (by omega), if_neg (by omega)]) (hl.put 1 rfl hw')⟩⟩
    · refine o_callv (fv := fv) (args := #[str x.name]) rfl rfl rfl (hkn w11 hew x.name) ?_
      rintro _ w12 ⟨rfl, he12⟩
      replace hl := hl.ext he12
      cases hkx : known x.name
      · repeat' (first | refine a_mov ?_ | refine a_asg ?_ | refine a_binN ?_ | refine a_notd ?_ | refine a_notb ?_ | refine a_nilc ?_ | refine a_fa ?_ | refine a_ext ?_ | refine a_lenv ?_ | refine a_lens ?_ | refine a_pick_t ?_ | refine a_pick_f ?_ | refine a_not ?_ | refine a_nilf ?_ | (refine o_nil (hK _ _ ?_); clear hK K) | refine wk_reg ?_ | refine wk_seq fun K hK => ?_ | (refine wk_skip (hK _ _ ?_); clear hK K) | (refine wk_label (hK _ _ ?_); clear hK K) | refine wk_scope ?_ | refine wk_block ?_ | refine wk_cond_t rfl ?_ | refine wk_cond_f rfl ?_ | (refine wk_exit ?_; (repeat (refine blockK_other rfl ?_)); refine blockK_same ?_; try ((repeat ((fail_if_success (refine hK _ _ ?_)); clear hK K)); refine hK _ _ ?_; clear hK K)) | (refine a_bin ?_ ?_ <;> intro _ <;> try (exfalso; omega)) | refine a_ld hl ?_ | (refine a_st hl ?_; clear hl; intro _ hl) | refine a_ix (fun _ => ?_) | fail)
        refine wk_ret ⟨_, hl.get 1 rfl, fun w' hw' => .inr ⟨rfl, stop 7 _ (by rw [hnode, if_neg (by omega), if_pos (.inr ⟨by omega, hkx⟩)]) (by decide) (hl.put 1 rfl hw')⟩⟩
      · repeat' (first | refine a_mov ?_ | refine a_asg ?_ | refine a_binN ?_ | refine a_notd ?_ | refine a_notb ?_ | refine a_nilc ?_ | refine a_fa ?_ | refine a_ext ?_ | refine a_lenv ?_ | refine a_lens ?_ | refine a_pick_t ?_ | refine a_pick_f ?_ | refine a_not ?_ | refine a_nilf ?_ | (refine o_nil (hK _ _ ?_); clear hK K) | refine wk_reg ?_ | refine wk_seq fun K hK => ?_ | (refine wk_skip (hK _ _ ?_); clear hK K) | (refine wk_label (hK _ _ ?_); clear hK K) | refine wk_scope ?_ | refine wk_block ?_ | refine wk_cond_t rfl ?_ | refine wk_cond_f rfl ?_ | (refine wk_exit ?_; (repeat (refine blockK_other rfl ?_)); refine blockK_same ?_; try ((repeat ((fail_if_success (refine hK _ _ ?_)); clear hK K)); refine hK _ _ ?_; clear hK K)) | (refine a_bin ?_ ?_ <;> intro _ <;> try (exfalso; omega)) | refine a_ld hl ?_ | (refine a_st hl ?_; clear hl; intro _ hl) | refine a_ix (fun _ => ?_) | fail)
        refine wk_skip ⟨_, hl.get 1 rfl, fun w' hw' => .inl ⟨rfl, go _ (by rw [hnode, if_neg (by omega), if_neg (by rw [hkx]; exact fun h => h.elim (fun h => by omega) (fun h => by cases h.2))]) (hl.put 1 rfl hw')⟩⟩
    · refine wk_skip ⟨_, hl.get 1 rfl, fun w' hw' => .inl ⟨rfl, go _ (by rw [hnode, if_neg (by omega), if_neg (by omega)]) (hl.put 1 rfl hw')⟩⟩
  · intro b hb
    have hsz := he7.size
    refine ⟨fun hm => ?_, Nat.lt_of_lt_of_le (hG b hb) hsz⟩
    obtain ⟨q, hq, rfl⟩ := List.mem_map.1 hm
    have := hG _ hb
    rcases hl7.fresh q hq with h | h
    · omega
    · exact h
  · rintro e w3 ⟨v, rfl, (⟨Fp', ⟨-, h0, h⟩, -⟩ | ⟨hn, h⟩)⟩
    · refine ⟨v, rfl, rec, h.get 0 rfl, by rw [← hrec]; exact fun h => (nomatch h), ?_⟩
      intro w7 hw7
      have hp : rec.pending = none := by rw [← hrec]
      rw [hp]
      dsimp only
      refine hK _ _ ?_
      clear hK K
      have hl := h.put 0 rfl hw7
      have hl : LH w (fun _ => False) w7 (ckL f (.slice a f.kids.length c) (.slice da F.length dc) fv b3 b4 b5 b6 bn D (D + 1) { rec with state := .exhausted } 0) := hl
      unfold ckL at hl
      rw [h0] at hck
      repeat' (first | refine a_mov ?_ | refine a_asg ?_ | refine a_binN ?_ | refine a_notd ?_ | refine a_notb ?_ | refine a_nilc ?_ | refine a_fa ?_ | refine a_ext ?_ | refine a_lenv ?_ | refine a_lens ?_ | refine a_pick_t ?_ | refine a_pick_f ?_ | refine a_not ?_ | refine a_nilf ?_ | (refine o_nil (hK _ _ ?_); clear hK K) | refine wk_reg ?_ | refine wk_seq fun K hK => ?_ | (refine wk_skip (hK _ _ ?_); clear hK K) | (refine wk_label (hK _ _ ?_); clear hK K) | refine wk_scope ?_ | refine wk_block ?_ | refine wk_cond_t rfl ?_ | refine wk_cond_f rfl ?_ | (refine wk_exit ?_; (repeat (refine blockK_other rfl ?_)); refine blockK_same ?_; try ((repeat ((fail_if_success (refine hK _ _ ?_)); clear hK K)); refine hK _ _ ?_; clear hK K)) | (refine a_bin ?_ ?_ <;> intro _ <;> try (exfalso; omega)) | refine a_ld hl ?_ | (refine a_st hl ?_; clear hl; intro _ hl) | refine a_ix (fun _ => ?_) | fail)
      refine wk_ret (retQ_res1 [.int .i64 0] rfl rfl (hl.get 1 rfl) ?_)
      intro w11 hw11
      replace hl := hl.put 1 rfl hw11
      exact ⟨⟨by decide, ⟨⟨b6, 0, none⟩, rfl, run_loadVar1 rfl (hl.cell 3 rfl rfl)⟩, trivial⟩, by rw [hck]; rfl, hl.done⟩
    · refine ⟨v, rfl, _, h.get 0 rfl, fun h => (nomatch h), ?_⟩
      intro w7 hw7
      dsimp only
      have hl := h.put 0 rfl hw7
      have hl : LH w (fun _ => False) w7 (ckL f (.slice a f.kids.length c) (.slice da F.length dc) fv b3 b4 b5 b6 bn D (D + 1) { rec with state := .exhausted, pending := some .ret } (firstE F known (pre f) : Int)) := hl
      unfold ckL at hl
      refine wk_ret (retQ_res1 [.int .i64 (firstE F known (pre f) : Int)] rfl rfl (hl.get 1 rfl) ?_)
      intro w11 hw11
      replace hl := hl.put 1 rfl hw11
      exact ⟨⟨by decide, ⟨⟨b6, 0, none⟩, rfl, run_loadVar1 rfl (hl.cell 3 rfl rfl)⟩, trivial⟩, by rw [hck]; rfl, hl.done⟩

/-- Names that are among terms. -/
theorem among_calls {T : List (List UInt8)} {tv : Value} {b : Nat} {w : World} (hT : T.length ≤ 9223372036854775806) (hv : Sl w tv 1 (strsL T)) (hb : Row w b 0 [tv]) (s : List UInt8) :
    Calls Tryd.prog 23 #[str s, .pointer (some ⟨b, 0, none⟩)] w (fun e w' => ∃ x, e = .returned x ∧ x = .bool (T.contains s) ∧ Ext w w') := by
  obtain ⟨pa, ca, rfl, -⟩ := hv.shape (strsL_len T) (by omega)
  refine calls_of Tryd.func23 rfl Tryd.ntmps23 rfl ?_
  repeat' (first | refine a_mov ?_ | refine a_asg ?_ | refine a_binN ?_ | refine a_notd ?_ | refine a_notb ?_ | refine a_nilc ?_ | refine a_fa ?_ | refine a_ext ?_ | refine a_lenv ?_ | refine a_lens ?_ | refine a_pick_t ?_ | refine a_pick_f ?_ | refine a_not ?_ | refine a_nilf ?_ | (refine o_nil (hK _ _ ?_); clear hK K) | refine wk_reg ?_ | refine wk_seq fun K hK => ?_ | (refine wk_skip (hK _ _ ?_); clear hK K) | (refine wk_label (hK _ _ ?_); clear hK K) | refine wk_scope ?_ | refine wk_block ?_ | refine wk_cond_t rfl ?_ | refine wk_cond_f rfl ?_ | (refine wk_exit ?_; (repeat (refine blockK_other rfl ?_)); refine blockK_same ?_; try ((repeat ((fail_if_success (refine hK _ _ ?_)); clear hK K)); refine hK _ _ ?_; clear hK K)) | (refine a_bin ?_ ?_ <;> intro _ <;> try (exfalso; omega)) | refine a_ld hl ?_ | (refine a_st hl ?_; clear hl; intro _ hl) | refine a_ix (fun _ => ?_) | refine a_row hb ?_)
  refine a_fn (contains_calls hv hT s) ?_
  rintro _ w2 ⟨rfl, rfl⟩
  repeat' (first | refine a_mov ?_ | refine a_asg ?_ | refine a_binN ?_ | refine a_notd ?_ | refine a_notb ?_ | refine a_nilc ?_ | refine a_fa ?_ | refine a_ext ?_ | refine a_lenv ?_ | refine a_lens ?_ | refine a_pick_t ?_ | refine a_pick_f ?_ | refine a_not ?_ | refine a_nilf ?_ | (refine o_nil (hK _ _ ?_); clear hK K) | refine wk_reg ?_ | refine wk_seq fun K hK => ?_ | (refine wk_skip (hK _ _ ?_); clear hK K) | (refine wk_label (hK _ _ ?_); clear hK K) | refine wk_scope ?_ | refine wk_block ?_ | refine wk_cond_t rfl ?_ | refine wk_cond_f rfl ?_ | (refine wk_exit ?_; (repeat (refine blockK_other rfl ?_)); refine blockK_same ?_; try ((repeat ((fail_if_success (refine hK _ _ ?_)); clear hK K)); refine hK _ _ ?_; clear hK K)) | (refine a_bin ?_ ?_ <;> intro _ <;> try (exfalso; omega)) | refine a_ld hl ?_ | (refine a_st hl ?_; clear hl; intro _ hl) | refine a_ix (fun _ => ?_) | fail)
  refine wk_ret (retQ_tmp1 Tryd.results23 (by decide) rfl (by conv => lhs; whnf) ?_)
  exact ⟨rfl, .refl _ _⟩

set_option maxHeartbeats 1000000 in
theorem Check_calls (F : List Fact) (T : List (List UInt8)) (hF : F.length ≤ 9223372036854775806) (hT : T.length ≤ 9223372036854775806) (f : Fm) (w : World) (G : Nat → Prop) (kv dv tv : Value) (hk : KR w G f.kids kv) (hG : ∀ b, G b → b < w.heap.size) (hs : Short f.kids) (hc : cnt f ≤ 1000000) (hd : Sl w dv 4 (factsL F)) (hv : Sl w tv 1 (strsL T)) :
    Calls Tryd.prog 11 #[.agg (fmL f kv).toArray, .agg #[dv], tv] w (fun e w' => ∃ x, e = .returned x ∧ x = .int .i64 (checkE F (fun s => T.contains s) f : Int) ∧ Ext w w') := by
  obtain ⟨a, c, rfl, -⟩ := hk.shape
  obtain ⟨da, dc, rfl, -⟩ := hd.shape (factsL_len F) (by omega)
  obtain ⟨ta, tc, rfl, -⟩ := hv.shape (strsL_len T) (by omega)
  refine calls_of Tryd.func11 rfl Tryd.ntmps11 rfl ?_
  refine wk_seq fun K hK => ?_
  refine wk_reg ?_
  refine o_box (LH.start w (fun _ => False)) [.int .i64 (f).op, str (f).name, .int .i64 (f).cmp, .int .i64 (f).num, .slice a f.kids.length c] rfl rfl rfl ?_
  intro b3 w1 hb3 hl
  refine o_box hl [.slice da F.length dc] rfl rfl rfl ?_
  clear hl
  intro b4 w2 hb4 hl
  refine o_box hl [.slice ta T.length tc] rfl rfl rfl ?_
  clear hl
  intro b5 w3 hb5 hl
  repeat' (first | refine a_mov ?_ | refine a_asg ?_ | refine a_binN ?_ | refine a_notd ?_ | refine a_notb ?_ | refine a_nilc ?_ | refine a_fa ?_ | refine a_ext ?_ | refine a_lenv ?_ | refine a_lens ?_ | refine a_pick_t ?_ | refine a_pick_f ?_ | refine a_not ?_ | refine a_nilf ?_ | (refine o_nil (hK _ _ ?_); clear hK K) | refine wk_reg ?_ | refine wk_seq fun K hK => ?_ | (refine wk_skip (hK _ _ ?_); clear hK K) | (refine wk_label (hK _ _ ?_); clear hK K) | refine wk_scope ?_ | refine wk_block ?_ | refine wk_cond_t rfl ?_ | refine wk_cond_f rfl ?_ | (refine wk_exit ?_; (repeat (refine blockK_other rfl ?_)); refine blockK_same ?_; try ((repeat ((fail_if_success (refine hK _ _ ?_)); clear hK K)); refine hK _ _ ?_; clear hK K)) | (refine a_bin ?_ ?_ <;> intro _ <;> try (exfalso; omega)) | refine a_ld hl ?_ | (refine a_st hl ?_; clear hl; intro _ hl) | refine a_ix (fun _ => ?_) | refine a_all (hl.rowL (vs := [.int .i64 (f).op, str (f).name, .int .i64 (f).cmp, .int .i64 (f).num, .slice a f.kids.length c]) 2 0 5 rfl) ?_ | refine a_all (hl.rowL (vs := [.slice da F.length dc]) 1 0 1 rfl) ?_)
  refine o_mf [] [.pointer (some ⟨b5, 0, none⟩)] rfl rfl rfl ?_
  have he := hl.done
  have hrow : Row w3 b5 0 [.slice ta T.length tc] := hl.rowL (vs := [.slice ta T.length tc]) 0 0 1 rfl
  refine a_fn (check_calls F (fun s => T.contains s) hF f w3 G _ _ (.func (.func 23) #[] #[.pointer (some ⟨b5, 0, none⟩)]) (hk.ext he) (fun b hb => Nat.lt_of_lt_of_le (hG b hb) he.size) hs hc (hd.ext he) ?_ ⟨rfl, rfl⟩) ?_
  · intro w' hw' s
    refine callV_func (args := #[str s]) (fun _ => rfl) (Calls.mono (among_calls hT (hv.ext (he.trans hw')) (hrow.ext hw') s) ?_)
    rintro e w2 ⟨x, h1, h2, h3⟩
    exact ⟨x, h1, h2, h3⟩
  · rintro _ w4 ⟨rfl, he4⟩
    repeat' (first | refine a_mov ?_ | refine a_asg ?_ | refine a_binN ?_ | refine a_notd ?_ | refine a_notb ?_ | refine a_nilc ?_ | refine a_fa ?_ | refine a_ext ?_ | refine a_lenv ?_ | refine a_lens ?_ | refine a_pick_t ?_ | refine a_pick_f ?_ | refine a_not ?_ | refine a_nilf ?_ | (refine o_nil (hK _ _ ?_); clear hK K) | refine wk_reg ?_ | refine wk_seq fun K hK => ?_ | (refine wk_skip (hK _ _ ?_); clear hK K) | (refine wk_label (hK _ _ ?_); clear hK K) | refine wk_scope ?_ | refine wk_block ?_ | refine wk_cond_t rfl ?_ | refine wk_cond_f rfl ?_ | (refine wk_exit ?_; (repeat (refine blockK_other rfl ?_)); refine blockK_same ?_; try ((repeat ((fail_if_success (refine hK _ _ ?_)); clear hK K)); refine hK _ _ ?_; clear hK K)) | (refine a_bin ?_ ?_ <;> intro _ <;> try (exfalso; omega)) | refine a_ld hl ?_ | (refine a_st hl ?_; clear hl; intro _ hl) | refine a_ix (fun _ => ?_) | fail)
    refine wk_ret (retQ_tmp1 Tryd.results11 (by decide) rfl (by conv => lhs; whnf) ?_)
    exact ⟨rfl, he.trans he4⟩
end Go.Proofs
