/-
  Formulas: the reference's look at a formula's nodes.
-/
import Derived.Test.YtibaknilaboepaaDoorFC
import Derived.Test.YtibaknilaboepaaDoorFB
set_option linter.unusedVariables false
set_option linter.unusedSimpArgs false
set_option linter.unnecessarySimpa false
set_option maxRecDepth 10000
namespace Go.Proofs
open Go Go.Pd Go.Lexs Go.Fin Go.Fo
attribute [local irreducible] OpsL W RetQ OpsQ OpsC

theorem firstE_pre (F : List Fact) (known : List UInt8 → Bool) (f : Fm) : firstE F known (pre f) = if nodeE F known f ≠ 0 then nodeE F known f else firstE F known (preL f.kids) := by
  rw [pre_eq, firstE]

theorem firstE_split {F : List Fact} {known : List UInt8 → Bool} {ks : List Fm} {i : Nat} (hi : i < ks.length) (h0 : firstE F known (preL (ks.take i)) = 0) :
    (firstE F known (pre ks[i]) ≠ 0 → firstE F known (preL ks) = firstE F known (pre ks[i])) ∧ (firstE F known (pre ks[i]) = 0 → firstE F known (preL (ks.take (i + 1))) = 0) := by
  rw [preL_split hi, preL_take_succ hi]
  simp only [firstE_app, h0]
  constructor
  · intro h; simp [h]
  · intro h; simp [h]

/-- No text of the nodes is longer than a text can be. -/
def Texty (l : List Fm) : Prop := ∀ x ∈ l, x.name.length ≤ 9223372036854775806

theorem Texty.kid {ks : List Fm} (h : Texty (preL ks)) {i : Nat} (hi : i < ks.length) : Texty (pre ks[i]) := fun x hx => h x (by
  rw [preL_split hi]
  exact List.mem_append_right _ (List.mem_append_left _ hx))

set_option maxHeartbeats 4000000 in
theorem refNode_calls (F : List Fact) (T : List (List UInt8)) (all : Bool) (hF : F.length ≤ 9223372036854775806) (hT : T.length ≤ 9223372036854775806) :
    ∀ (f : Fm) (w : World) (G : Nat → Prop) (kv dv tv : Value), KR w G f.kids kv → Short f.kids → Texty (pre f) → Sl w dv 4 (factsL F) → Sl w tv 1 (strsL T) →
      Calls Tryd.prog 40 #[.agg (fmL f kv).toArray, .agg #[dv], tv, .bool all] w (fun e w' => ∃ x, e = .returned x ∧ x = .int .i64 (firstE F (fun s => all || T.contains s) (pre f) : Nat) ∧ Ext w w') := by
  refine Fm.ind ?_
  intro f ih w G kv dv tv hk hs ht hd hv
  have hlen := hs.1
  have hnl := ht f (by rw [pre_eq]; exact List.mem_cons_self)
  have htk : Texty (preL f.kids) := fun x hx => ht x (by rw [pre_eq]; exact List.mem_cons_of_mem _ hx)
  clear ht
  have hpe := firstE_pre F (fun s => all || T.contains s) f
  have hix := fun w dv (hd : Sl w dv 4 (factsL F)) => refIndex_calls hd hF f.name
  have hin := fun w tv (hd : Sl w tv 1 (strsL T)) => in_calls hd hT f.name
  have hne : nodeE F (fun s => all || T.contains s) f = if formed f = false then 1 else if f.op = 3 ∧ (f.num < 0 ∨ f.num > 1000000) then 10 else if (f.op = 3 ∧ idxI F f.name < 0) ∨ (f.op = 4 ∧ (all || T.contains f.name) = false) then 7 else 0 := by
    unfold nodeE idxI
    cases idx F f.name with
    | none => simp
    | some k =>
      have h0 : ¬ ((k : Nat) : Int) < 0 := by omega
      simp [h0]
  generalize nodeE F (fun s => all || T.contains s) f = ne at *
  generalize firstE F (fun s => all || T.contains s) (pre f) = r at *
  obtain ⟨a, c, rfl, -⟩ := hk.shape
  obtain ⟨da, dc, rfl, -⟩ := hd.shape (factsL_len F) (by omega)
  refine calls_of Tryd.func40 rfl Tryd.ntmps40 rfl ?_
  refine wk_seq fun K hK => ?_
  refine wk_reg ?_
  refine o_box (LH.start w (fun _ => False)) [.int .i64 (f).op, str (f).name, .int .i64 (f).cmp, .int .i64 (f).num, .slice a f.kids.length c] rfl rfl rfl ?_
  intro b1 w1 hb1 hl
  refine o_box hl [.slice da F.length dc] rfl rfl rfl ?_
  clear hl
  intro b2 w2 hb2 hl
  have he := hl.done
  repeat' (first | refine a_mov ?_ | refine a_asg ?_ | refine a_binN ?_ | refine a_notd ?_ | refine a_notb ?_ | refine a_nilc ?_ | refine a_fa ?_ | refine a_ext ?_ | refine a_lenv ?_ | refine a_lens ?_ | refine a_pick_t ?_ | refine a_pick_f ?_ | refine a_not ?_ | refine a_nilf ?_ | (refine o_nil (hK _ _ ?_); clear hK K) | refine wk_reg ?_ | refine wk_seq fun K hK => ?_ | (refine wk_skip (hK _ _ ?_); clear hK K) | (refine wk_label (hK _ _ ?_); clear hK K) | refine wk_scope ?_ | refine wk_block ?_ | refine wk_cond_t rfl ?_ | refine wk_cond_f rfl ?_ | (refine wk_exit ?_; (repeat (refine blockK_other rfl ?_)); refine blockK_same ?_; try ((repeat ((fail_if_success (refine hK _ _ ?_)); clear hK K)); refine hK _ _ ?_; clear hK K)) | (refine a_bin ?_ ?_ <;> intro _ <;> try (exfalso; omega)) | refine a_ld hl ?_ | (refine a_st hl ?_; clear hl; intro _ hl) | refine a_ix (fun _ => ?_) | refine a_all (hl.rowL (vs := [.int .i64 (f).op, str (f).name, .int .i64 (f).cmp, .int .i64 (f).num, .slice a f.kids.length c]) 1 0 5 rfl) ?_)
  refine a_fn (refFormed_calls f (.slice a f.kids.length c) w2 G (hk.ext he) hlen hnl) ?_
  rintro _ w3 ⟨rfl, he3⟩
  replace hl := hl.ext he3
  clear he he3
  have he := hl.done
  cases hf : formed f
  · rw [hf] at hne
    simp only [if_true] at hne
    subst hne
    repeat' (first | refine a_mov ?_ | refine a_asg ?_ | refine a_binN ?_ | refine a_notd ?_ | refine a_notb ?_ | refine a_nilc ?_ | refine a_fa ?_ | refine a_ext ?_ | refine a_lenv ?_ | refine a_lens ?_ | refine a_pick_t ?_ | refine a_pick_f ?_ | refine a_not ?_ | refine a_nilf ?_ | (refine o_nil (hK _ _ ?_); clear hK K) | refine wk_reg ?_ | refine wk_seq fun K hK => ?_ | (refine wk_skip (hK _ _ ?_); clear hK K) | (refine wk_label (hK _ _ ?_); clear hK K) | refine wk_scope ?_ | refine wk_block ?_ | refine wk_cond_t rfl ?_ | refine wk_cond_f rfl ?_ | (refine wk_exit ?_; (repeat (refine blockK_other rfl ?_)); refine blockK_same ?_; try ((repeat ((fail_if_success (refine hK _ _ ?_)); clear hK K)); refine hK _ _ ?_; clear hK K)) | (refine a_bin ?_ ?_ <;> intro _ <;> try (exfalso; omega)) | refine a_ld hl ?_ | (refine a_st hl ?_; clear hl; intro _ hl) | refine a_ix (fun _ => ?_) | fail)
    refine wk_ret (retQ_tmp1 Tryd.results40 (by decide) rfl (by conv => lhs; whnf) ?_)
    exact ⟨by rw [hpe]; rfl, he⟩
  rw [hf] at hne
  simp only [Bool.true_eq_false, if_false] at hne
  have hix := fun w' (h : Ext w w') => hix w' _ (hd.ext h)
  generalize idxI F f.name = ix at *
  have hin := fun w' (h : Ext w w') => hin w' _ (hv.ext h)
  generalize T.contains f.name = hc at *
  have hall : all = true ∨ all = false := by cases all <;> simp
  rcases hall with hall | hall
  all_goals rw [hall]
  all_goals repeat' (first | refine a_mov ?_ | refine a_asg ?_ | refine a_binN ?_ | refine a_notd ?_ | refine a_notb ?_ | refine a_nilc ?_ | refine a_fa ?_ | refine a_ext ?_ | refine a_lenv ?_ | refine a_lens ?_ | refine a_pick_t ?_ | refine a_pick_f ?_ | refine a_not ?_ | refine a_nilf ?_ | (refine o_nil (hK _ _ ?_); clear hK K) | refine wk_reg ?_ | refine wk_seq fun K hK => ?_ | (refine wk_skip (hK _ _ ?_); clear hK K) | (refine wk_label (hK _ _ ?_); clear hK K) | refine wk_scope ?_ | refine wk_block ?_ | refine wk_cond_t rfl ?_ | refine wk_cond_f rfl ?_ | (refine wk_exit ?_; (repeat (refine blockK_other rfl ?_)); refine blockK_same ?_; try ((repeat ((fail_if_success (refine hK _ _ ?_)); clear hK K)); refine hK _ _ ?_; clear hK K)) | (refine a_bin ?_ ?_ <;> intro _ <;> try (exfalso; omega)) | refine a_ld hl ?_ | (refine a_st hl ?_; clear hl; intro _ hl) | refine a_ix (fun _ => ?_) | refine a_row (hl.rowL (vs := [.slice da F.length dc]) 0 0 1 rfl) ?_ | refine a_all (hl.rowL (vs := [.slice da F.length dc]) 0 0 1 rfl) ?_)
  all_goals try (refine a_fn (hix w3 he) ?_; rintro _ w4 ⟨rfl, he4⟩; replace hl := hl.ext he4; clear he he4; have he := hl.done; repeat' (first | refine a_mov ?_ | refine a_asg ?_ | refine a_binN ?_ | refine a_notd ?_ | refine a_notb ?_ | refine a_nilc ?_ | refine a_fa ?_ | refine a_ext ?_ | refine a_lenv ?_ | refine a_lens ?_ | refine a_pick_t ?_ | refine a_pick_f ?_ | refine a_not ?_ | refine a_nilf ?_ | (refine o_nil (hK _ _ ?_); clear hK K) | refine wk_reg ?_ | refine wk_seq fun K hK => ?_ | (refine wk_skip (hK _ _ ?_); clear hK K) | (refine wk_label (hK _ _ ?_); clear hK K) | refine wk_scope ?_ | refine wk_block ?_ | refine wk_cond_t rfl ?_ | refine wk_cond_f rfl ?_ | (refine wk_exit ?_; (repeat (refine blockK_other rfl ?_)); refine blockK_same ?_; try ((repeat ((fail_if_success (refine hK _ _ ?_)); clear hK K)); refine hK _ _ ?_; clear hK K)) | (refine a_bin ?_ ?_ <;> intro _ <;> try (exfalso; omega)) | refine a_ld hl ?_ | (refine a_st hl ?_; clear hl; intro _ hl) | refine a_ix (fun _ => ?_)))
  all_goals try (refine a_fn (hin _ he) ?_; rintro _ w5 ⟨rfl, he5⟩; obtain rfl := he5; clear hin hix; cases hc <;> repeat' (first | refine a_mov ?_ | refine a_asg ?_ | refine a_binN ?_ | refine a_notd ?_ | refine a_notb ?_ | refine a_nilc ?_ | refine a_fa ?_ | refine a_ext ?_ | refine a_lenv ?_ | refine a_lens ?_ | refine a_pick_t ?_ | refine a_pick_f ?_ | refine a_not ?_ | refine a_nilf ?_ | (refine o_nil (hK _ _ ?_); clear hK K) | refine wk_reg ?_ | refine wk_seq fun K hK => ?_ | (refine wk_skip (hK _ _ ?_); clear hK K) | (refine wk_label (hK _ _ ?_); clear hK K) | refine wk_scope ?_ | refine wk_block ?_ | refine wk_cond_t rfl ?_ | refine wk_cond_f rfl ?_ | (refine wk_exit ?_; (repeat (refine blockK_other rfl ?_)); refine blockK_same ?_; try ((repeat ((fail_if_success (refine hK _ _ ?_)); clear hK K)); refine hK _ _ ?_; clear hK K)) | (refine a_bin ?_ ?_ <;> intro _ <;> try (exfalso; omega)) | refine a_ld hl ?_ | (refine a_st hl ?_; clear hl; intro _ hl) | refine a_ix (fun _ => ?_)))
  all_goals try (refine wk_ret (retQ_tmp1 Tryd.results40 (by decide) rfl (by conv => lhs; whnf) ?_); refine ⟨?_, he⟩; first | (have h1 : ne = 10 := by { rw [hne, if_pos (by omega)] }; rw [hpe, h1]; rfl) | (have h1 : ne = 7 := by { rw [hne, if_neg (by omega), if_pos (by first | exact .inl (by omega) | exact .inr ⟨by omega, by rw [hall]; rfl⟩)] }; rw [hpe, h1]; rfl))
  all_goals have h0 : ne = 0 := by rw [hne, if_neg (by omega), if_neg (by rintro (h | ⟨h1, h2⟩) <;> first | omega | simp_all)]
  all_goals (rw [h0] at hpe; simp only [ne_eq, not_true_eq_false, if_false] at hpe; clear hne h0; try clear hin; try clear hix)
  all_goals refine wk_loopH [] rfl (fun i : Nat => [(2, tv), (3, .bool all), (4, .pointer (some ⟨b1, 0, none⟩)), (5, .pointer (some ⟨b2, 0, none⟩)), (9, .int .i64 (i : Int))]) (fun i w' => (i ≤ f.kids.length ∧ firstE F (fun s => all || T.contains s) (preL (f.kids.take i)) = 0) ∧ LH w (fun _ => False) w' [(b2, Obj.cells #[.slice da F.length dc] 27 (0, 0)), (b1, Obj.cells ([.int .i64 (f).op, str (f).name, .int .i64 (f).cmp, .int .i64 (f).num, .slice a f.kids.length c] : List Value).toArray 24 (0, 0))]) (fun i => f.kids.length - i) 0 ⟨rfl, by rw [hall]; rfl, rfl, rfl, rfl, trivial⟩ ⟨⟨by omega, rfl⟩, hl⟩ ?_
  all_goals (clear hl he; rintro i t wl ⟨⟨hi, hpre⟩, hl⟩; have he := hl.done; by_cases hi1 : i < f.kids.length)
  all_goals first
    | (have hke : i = f.kids.length := by omega
       rw [hke, List.take_of_length_le (Nat.le_refl _)] at hpre
       repeat' (first | refine a_mov ?_ | refine a_asg ?_ | refine a_binN ?_ | refine a_notd ?_ | refine a_notb ?_ | refine a_nilc ?_ | refine a_fa ?_ | refine a_ext ?_ | refine a_lenv ?_ | refine a_lens ?_ | refine a_pick_t ?_ | refine a_pick_f ?_ | refine a_not ?_ | refine a_nilf ?_ | (refine o_nil (hK _ _ ?_); clear hK K) | refine wk_reg ?_ | refine wk_seq fun K hK => ?_ | (refine wk_skip (hK _ _ ?_); clear hK K) | (refine wk_label (hK _ _ ?_); clear hK K) | refine wk_scope ?_ | refine wk_block ?_ | refine wk_cond_t rfl ?_ | refine wk_cond_f rfl ?_ | (refine wk_exit ?_; (repeat (refine blockK_other rfl ?_)); refine blockK_same ?_; try ((repeat ((fail_if_success (refine hK _ _ ?_)); clear hK K)); refine hK _ _ ?_; clear hK K)) | (refine a_bin ?_ ?_ <;> intro _ <;> try (exfalso; omega)) | refine a_ld hl ?_ | (refine a_st hl ?_; clear hl; intro _ hl) | refine a_ix (fun _ => ?_) | fail)
       refine wk_ret (retQ_tmp1 Tryd.results40 (by decide) rfl (by conv => lhs; whnf) ?_)
       exact ⟨by rw [hpe, hpre]; rfl, he⟩)
    | (obtain ⟨bk, ok, kv, hp, hr, hkk⟩ := (hk.ext he).at hi1
       have ihk := fun w' (e : Ext wl w') => ih f.kids[i] (List.getElem_mem hi1) w' G kv (.slice da F.length dc) tv (hkk.ext e) (hs.kid hi1) (htk.kid hi1) ((hd.ext he).ext e) ((hv.ext he).ext e)
       obtain ⟨hn1, hn2⟩ := firstE_split hi1 hpre
       clear ih
       generalize f.kids[i] = k at *
       generalize firstE F (fun s => all || T.contains s) (pre k) = rk at *
       repeat' (first | refine a_mov ?_ | refine a_asg ?_ | refine a_binN ?_ | refine a_notd ?_ | refine a_notb ?_ | refine a_nilc ?_ | refine a_fa ?_ | refine a_ext ?_ | refine a_lenv ?_ | refine a_lens ?_ | refine a_pick_t ?_ | refine a_pick_f ?_ | refine a_not ?_ | refine a_nilf ?_ | (refine o_nil (hK _ _ ?_); clear hK K) | refine wk_reg ?_ | refine wk_seq fun K hK => ?_ | (refine wk_skip (hK _ _ ?_); clear hK K) | (refine wk_label (hK _ _ ?_); clear hK K) | refine wk_scope ?_ | refine wk_block ?_ | refine wk_cond_t rfl ?_ | refine wk_cond_f rfl ?_ | (refine wk_exit ?_; (repeat (refine blockK_other rfl ?_)); refine blockK_same ?_; try ((repeat ((fail_if_success (refine hK _ _ ?_)); clear hK K)); refine hK _ _ ?_; clear hK K)) | (refine a_bin ?_ ?_ <;> intro _ <;> try (exfalso; omega)) | refine a_ld hl ?_ | (refine a_st hl ?_; clear hl; intro _ hl) | refine a_ix (fun _ => ?_) | fail)
       refine wk_quiet [0, 1, 2, 3, 4, 5, 6, 7, 8, 9] ?_
       repeat' (first | refine q_mov ?_ | refine q_asg ?_ | refine q_fa ?_ | refine q_ext ?_ | refine q_binN ?_ | refine q_notd ?_ | refine q_notb ?_ | refine q_pick_t ?_ | refine q_pick_f ?_ | refine q_nilc ?_ | refine q_skip ?_ | refine q_lens ?_ | refine q_lenv ?_ | refine q_nil ?_ | refine q_ix (fun _ => ?_) | (refine q_bin ?_ ?_ <;> intro _ <;> try (exfalso; omega)) | refine q_ld (fun w_ hw_ => hl.ext hw_) ?_ | refine q_idx (c := 5) i hp ?_ | refine q_all (fun w_ hw_ => hr.ext hw_) ?_ | refine q_all (fun w_ hw_ => (hl.ext hw_).rowL (vs := [.slice da F.length dc]) 0 0 1 rfl) ?_ | refine q_fn (v := .int .i64 (rk : Int)) ihk ?_ | fail)
       intro wm hwm
       refine hK _ _ ?_
       clear hK K
       repeat' (first | refine a_mov ?_ | refine a_asg ?_ | refine a_binN ?_ | refine a_notd ?_ | refine a_notb ?_ | refine a_nilc ?_ | refine a_fa ?_ | refine a_ext ?_ | refine a_lenv ?_ | refine a_lens ?_ | refine a_pick_t ?_ | refine a_pick_f ?_ | refine a_not ?_ | refine a_nilf ?_ | (refine o_nil (hK _ _ ?_); clear hK K) | refine wk_reg ?_ | refine wk_seq fun K hK => ?_ | (refine wk_skip (hK _ _ ?_); clear hK K) | (refine wk_label (hK _ _ ?_); clear hK K) | refine wk_scope ?_ | refine wk_block ?_ | refine wk_cond_t rfl ?_ | refine wk_cond_f rfl ?_ | (refine wk_exit ?_; (repeat (refine blockK_other rfl ?_)); refine blockK_same ?_; try ((repeat ((fail_if_success (refine hK _ _ ?_)); clear hK K)); refine hK _ _ ?_; clear hK K)) | (refine a_bin ?_ ?_ <;> intro _ <;> try (exfalso; omega)) | refine a_ld hl ?_ | (refine a_st hl ?_; clear hl; intro _ hl) | refine a_ix (fun _ => ?_) | fail)
       all_goals first
         | (refine wk_ret (retQ_tmp1 Tryd.results40 (by decide) rfl (by conv => lhs; whnf) ?_)
            exact ⟨by rw [hpe, hn1 (by omega)], he.trans hwm⟩)
         | exact o_nil ⟨i + 1, ⟨rfl, rfl, rfl, rfl, rfl, trivial⟩, rfl, ⟨⟨hi1, hn2 (by omega)⟩, hl.ext hwm⟩, by omega⟩)
end Go.Proofs

/-
  Formulas: the reference's Check.
-/
set_option linter.unusedVariables false
set_option linter.unusedSimpArgs false
set_option linter.unnecessarySimpa false
set_option maxRecDepth 10000
namespace Go.Proofs
open Go Go.Pd Go.Lexs Go.Fin Go.Fo
attribute [local irreducible] OpsL W RetQ OpsQ OpsC

set_option maxHeartbeats 1000000 in
theorem large_calls (f : Fm) (w : World) (G : Nat → Prop) (kv : Value) (hk : KR w G f.kids kv) (hc : cnt f ≤ 1000000) :
    Calls Tryd.prog 39 #[.agg (fmL f kv).toArray] w (fun e w' => ∃ x, e = .returned x ∧ x = .bool (decide (200 < cnt f ∨ 20 < dep f)) ∧ Ext w w') := by
  have hdc := dep_le_cnt f
  obtain ⟨a, c, rfl, -⟩ := hk.shape
  refine calls_of Tryd.func39 rfl Tryd.ntmps39 rfl ?_
  refine wk_seq fun K hK => ?_
  refine wk_reg ?_
  refine o_box (LH.start w (fun _ => False)) [.int .i64 (f).op, str (f).name, .int .i64 (f).cmp, .int .i64 (f).num, .slice a f.kids.length c] rfl rfl rfl ?_
  intro b1 w1 hb1 hl
  have he := hl.done
  repeat' (first | refine a_mov ?_ | refine a_asg ?_ | refine a_binN ?_ | refine a_notd ?_ | refine a_notb ?_ | refine a_nilc ?_ | refine a_fa ?_ | refine a_ext ?_ | refine a_lenv ?_ | refine a_lens ?_ | refine a_pick_t ?_ | refine a_pick_f ?_ | refine a_not ?_ | refine a_nilf ?_ | (refine o_nil (hK _ _ ?_); clear hK K) | refine wk_reg ?_ | refine wk_seq fun K hK => ?_ | (refine wk_skip (hK _ _ ?_); clear hK K) | (refine wk_label (hK _ _ ?_); clear hK K) | refine wk_scope ?_ | refine wk_block ?_ | refine wk_cond_t rfl ?_ | refine wk_cond_f rfl ?_ | (refine wk_exit ?_; (repeat (refine blockK_other rfl ?_)); refine blockK_same ?_; try ((repeat ((fail_if_success (refine hK _ _ ?_)); clear hK K)); refine hK _ _ ?_; clear hK K)) | (refine a_bin ?_ ?_ <;> intro _ <;> try (exfalso; omega)) | refine a_ld hl ?_ | (refine a_st hl ?_; clear hl; intro _ hl) | refine a_ix (fun _ => ?_) | refine a_all (hl.rowL (vs := [.int .i64 (f).op, str (f).name, .int .i64 (f).cmp, .int .i64 (f).num, .slice a f.kids.length c]) 0 0 5 rfl) ?_)
  refine a_fn (refSize_calls f w1 G (.slice a f.kids.length c) (hk.ext he) hc) ?_
  rintro _ w2 ⟨rfl, he2⟩
  generalize cnt f = n at *
  generalize dep f = d at *
  repeat' (first | refine a_mov ?_ | refine a_asg ?_ | refine a_binN ?_ | refine a_notd ?_ | refine a_notb ?_ | refine a_nilc ?_ | refine a_fa ?_ | refine a_ext ?_ | refine a_lenv ?_ | refine a_lens ?_ | refine a_pick_t ?_ | refine a_pick_f ?_ | refine a_not ?_ | refine a_nilf ?_ | (refine o_nil (hK _ _ ?_); clear hK K) | refine wk_reg ?_ | refine wk_seq fun K hK => ?_ | (refine wk_skip (hK _ _ ?_); clear hK K) | (refine wk_label (hK _ _ ?_); clear hK K) | refine wk_scope ?_ | refine wk_block ?_ | refine wk_cond_t rfl ?_ | refine wk_cond_f rfl ?_ | (refine wk_exit ?_; (repeat (refine blockK_other rfl ?_)); refine blockK_same ?_; try ((repeat ((fail_if_success (refine hK _ _ ?_)); clear hK K)); refine hK _ _ ?_; clear hK K)) | (refine a_bin ?_ ?_ <;> intro _ <;> try (exfalso; omega)) | refine a_ld hl ?_ | (refine a_st hl ?_; clear hl; intro _ hl) | refine a_ix (fun _ => ?_) | fail)
  all_goals (refine wk_ret (retQ_tmp1 Tryd.results39 (by decide) rfl (by conv => lhs; whnf) ?_))
  all_goals refine ⟨congrArg Value.bool ?_, he.trans he2⟩
  all_goals first | (rw [decide_eq_true]; omega) | (rw [decide_eq_false]; omega)

set_option maxHeartbeats 1000000 in
theorem refCheck_calls (F : List Fact) (T : List (List UInt8)) (hF : F.length ≤ 9223372036854775806) (hT : T.length ≤ 9223372036854775806)
    (f : Fm) (w : World) (G : Nat → Prop) (kv dv tv : Value) (hk : KR w G f.kids kv) (hs : Short f.kids) (ht : Texty (pre f)) (hd : Sl w dv 4 (factsL F)) (hv : Sl w tv 1 (strsL T)) (hc : cnt f ≤ 1000000) :
    Calls Tryd.prog 16 #[.agg (fmL f kv).toArray, .agg #[dv], tv] w (fun e w' => ∃ x, e = .returned x ∧ x = .int .i64 (checkE F (fun s => T.contains s) f : Nat) ∧ Ext w w') := by
  obtain ⟨a, c, rfl, -⟩ := hk.shape
  obtain ⟨da, dc, rfl, -⟩ := hd.shape (factsL_len F) (by omega)
  refine calls_of Tryd.func16 rfl Tryd.ntmps16 rfl ?_
  refine wk_seq fun K hK => ?_
  refine wk_reg ?_
  refine o_box (LH.start w (fun _ => False)) [.int .i64 (f).op, str (f).name, .int .i64 (f).cmp, .int .i64 (f).num, .slice a f.kids.length c] rfl rfl rfl ?_
  intro b1 w1 hb1 hl
  refine o_box hl [.slice da F.length dc] rfl rfl rfl ?_
  clear hl
  intro b2 w2 hb2 hl
  have he := hl.done
  repeat' (first | refine a_mov ?_ | refine a_asg ?_ | refine a_binN ?_ | refine a_notd ?_ | refine a_notb ?_ | refine a_nilc ?_ | refine a_fa ?_ | refine a_ext ?_ | refine a_lenv ?_ | refine a_lens ?_ | refine a_pick_t ?_ | refine a_pick_f ?_ | refine a_not ?_ | refine a_nilf ?_ | (refine o_nil (hK _ _ ?_); clear hK K) | refine wk_reg ?_ | refine wk_seq fun K hK => ?_ | (refine wk_skip (hK _ _ ?_); clear hK K) | (refine wk_label (hK _ _ ?_); clear hK K) | refine wk_scope ?_ | refine wk_block ?_ | refine wk_cond_t rfl ?_ | refine wk_cond_f rfl ?_ | (refine wk_exit ?_; (repeat (refine blockK_other rfl ?_)); refine blockK_same ?_; try ((repeat ((fail_if_success (refine hK _ _ ?_)); clear hK K)); refine hK _ _ ?_; clear hK K)) | (refine a_bin ?_ ?_ <;> intro _ <;> try (exfalso; omega)) | refine a_ld hl ?_ | (refine a_st hl ?_; clear hl; intro _ hl) | refine a_ix (fun _ => ?_) | refine a_all (hl.rowL (vs := [.int .i64 (f).op, str (f).name, .int .i64 (f).cmp, .int .i64 (f).num, .slice a f.kids.length c]) 1 0 5 rfl) ?_)
  refine a_fn (large_calls f w2 G (.slice a f.kids.length c) (hk.ext he) hc) ?_
  rintro _ w3 ⟨rfl, he3⟩
  replace hl := hl.ext he3
  clear he he3
  have he := hl.done
  by_cases hlg : 200 < cnt f ∨ 20 < dep f
  · rw [decide_eq_true hlg]
    repeat' (first | refine a_mov ?_ | refine a_asg ?_ | refine a_binN ?_ | refine a_notd ?_ | refine a_notb ?_ | refine a_nilc ?_ | refine a_fa ?_ | refine a_ext ?_ | refine a_lenv ?_ | refine a_lens ?_ | refine a_pick_t ?_ | refine a_pick_f ?_ | refine a_not ?_ | refine a_nilf ?_ | (refine o_nil (hK _ _ ?_); clear hK K) | refine wk_reg ?_ | refine wk_seq fun K hK => ?_ | (refine wk_skip (hK _ _ ?_); clear hK K) | (refine wk_label (hK _ _ ?_); clear hK K) | refine wk_scope ?_ | refine wk_block ?_ | refine wk_cond_t rfl ?_ | refine wk_cond_f rfl ?_ | (refine wk_exit ?_; (repeat (refine blockK_other rfl ?_)); refine blockK_same ?_; try ((repeat ((fail_if_success (refine hK _ _ ?_)); clear hK K)); refine hK _ _ ?_; clear hK K)) | (refine a_bin ?_ ?_ <;> intro _ <;> try (exfalso; omega)) | refine a_ld hl ?_ | (refine a_st hl ?_; clear hl; intro _ hl) | refine a_ix (fun _ => ?_) | fail)
    refine wk_ret (retQ_tmp1 Tryd.results16 (by decide) rfl (by conv => lhs; whnf) ?_)
    exact ⟨by unfold checkE; rw [if_pos hlg]; rfl, he⟩
  · rw [decide_eq_false hlg]
    repeat' (first | refine a_mov ?_ | refine a_asg ?_ | refine a_binN ?_ | refine a_notd ?_ | refine a_notb ?_ | refine a_nilc ?_ | refine a_fa ?_ | refine a_ext ?_ | refine a_lenv ?_ | refine a_lens ?_ | refine a_pick_t ?_ | refine a_pick_f ?_ | refine a_not ?_ | refine a_nilf ?_ | (refine o_nil (hK _ _ ?_); clear hK K) | refine wk_reg ?_ | refine wk_seq fun K hK => ?_ | (refine wk_skip (hK _ _ ?_); clear hK K) | (refine wk_label (hK _ _ ?_); clear hK K) | refine wk_scope ?_ | refine wk_block ?_ | refine wk_cond_t rfl ?_ | refine wk_cond_f rfl ?_ | (refine wk_exit ?_; (repeat (refine blockK_other rfl ?_)); refine blockK_same ?_; try ((repeat ((fail_if_success (refine hK _ _ ?_)); clear hK K)); refine hK _ _ ?_; clear hK K)) | (refine a_bin ?_ ?_ <;> intro _ <;> try (exfalso; omega)) | refine a_ld hl ?_ | (refine a_st hl ?_; clear hl; intro _ hl) | refine a_ix (fun _ => ?_) | refine a_all (hl.rowL (vs := [.int .i64 (f).op, str (f).name, .int .i64 (f).cmp, .int .i64 (f).num, .slice a f.kids.length c]) 1 0 5 rfl) ?_ | refine a_all (hl.rowL (vs := [.slice da F.length dc]) 0 0 1 rfl) ?_)
    refine a_fn (refNode_calls F T false hF hT f w3 G (.slice a f.kids.length c) (.slice da F.length dc) tv (hk.ext he) hs ht (hd.ext he) (hv.ext he)) ?_
    rintro _ w4 ⟨rfl, he4⟩
    repeat' (first | refine a_mov ?_ | refine a_asg ?_ | refine a_binN ?_ | refine a_notd ?_ | refine a_notb ?_ | refine a_nilc ?_ | refine a_fa ?_ | refine a_ext ?_ | refine a_lenv ?_ | refine a_lens ?_ | refine a_pick_t ?_ | refine a_pick_f ?_ | refine a_not ?_ | refine a_nilf ?_ | (refine o_nil (hK _ _ ?_); clear hK K) | refine wk_reg ?_ | refine wk_seq fun K hK => ?_ | (refine wk_skip (hK _ _ ?_); clear hK K) | (refine wk_label (hK _ _ ?_); clear hK K) | refine wk_scope ?_ | refine wk_block ?_ | refine wk_cond_t rfl ?_ | refine wk_cond_f rfl ?_ | (refine wk_exit ?_; (repeat (refine blockK_other rfl ?_)); refine blockK_same ?_; try ((repeat ((fail_if_success (refine hK _ _ ?_)); clear hK K)); refine hK _ _ ?_; clear hK K)) | (refine a_bin ?_ ?_ <;> intro _ <;> try (exfalso; omega)) | refine a_ld hl ?_ | (refine a_st hl ?_; clear hl; intro _ hl) | refine a_ix (fun _ => ?_) | fail)
    refine wk_ret (retQ_tmp1 Tryd.results16 (by decide) rfl (by conv => lhs; whnf) ?_)
    refine ⟨?_, he.trans he4⟩
    unfold checkE
    rw [if_neg hlg]
    simp only [Bool.false_or]
end Go.Proofs

/-
  Cases in memory; does a case fit (the reference).
-/
set_option linter.unusedVariables false
set_option linter.unusedSimpArgs false
set_option linter.unnecessarySimpa false
set_option maxRecDepth 10000
namespace Go.Fo
open Go.Lexs Go.Fin

theorem fitsC_iff : ∀ (F : List Fact) (c : List Int), fitsC F c = true ↔ c.length = F.length ∧ ∀ i (h : i < F.length) (h' : i < c.length), F[i].lo ≤ c[i] ∧ c[i] ≤ F[i].hi
  | [], [] => by simp [fitsC]
  | [], _ :: _ => by simp [fitsC]
  | _ :: _, [] => by simp [fitsC]
  | f :: F, z :: c => by
    simp only [fitsC, Bool.and_eq_true, decide_eq_true_eq, fitsC_iff F c, List.length_cons, Nat.add_right_cancel_iff]
    constructor
    · rintro ⟨⟨h1, h2⟩, h3, h4⟩
      refine ⟨h3, fun i h h' => ?_⟩
      cases i with
      | zero => exact ⟨h1, h2⟩
      | succ i => exact h4 i (by omega) (by omega)
    · rintro ⟨h1, h2⟩
      refine ⟨h2 0 (by omega) (by omega), h1, fun i h h' => h2 (i + 1) (by omega) (by omega)⟩

theorem fitsC_false {F : List Fact} {c : List Int} {i : Nat} (h : i < F.length) (h' : i < c.length) (hn : ¬ (F[i].lo ≤ c[i] ∧ c[i] ≤ F[i].hi)) : fitsC F c = false := by
  cases he : fitsC F c
  · rfl
  · exact absurd (((fitsC_iff F c).1 he).2 i h h') hn
theorem fitsC_len {F : List Fact} {c : List Int} (h : c.length ≠ F.length) : fitsC F c = false := by
  cases he : fitsC F c
  · rfl
  · exact absurd ((fitsC_iff F c).1 he).1 h
end Go.Fo

namespace Go.Proofs
open Go Go.Pd Go.Lexs Go.Fin Go.Fo
attribute [local irreducible] OpsL W RetQ OpsQ OpsC

def intL (z : Int) : List Value := [.int .i64 z]
theorem intL_len (z : Int) : (intL z).length = 1 := rfl
def intsL (c : List Int) : List Value := c.flatMap intL
theorem intsL_len (c : List Int) : (intsL c).length = c.length * 1 := flat_length intL_len c

theorem Sl.intAt {w : World} {a : Option Addr} {m n : Nat} {c : List Int} (hv : Sl w (.slice a m n) 1 (intsL c)) (hm : m = c.length) {k : Nat} (hk : k < c.length) : ∃ b o, a = some ⟨b, o, none⟩ ∧ Row w b (o + k * 1) [.int .i64 c[k]] := by
  subst hm
  obtain ⟨b, o, hp, hr⟩ := hv.at (intsL_len c) (by omega) (by omega)
  exact ⟨b, o, hp, hr.elem intL_len (k := k) (t := c[k]) (by simp)⟩

set_option maxHeartbeats 2000000 in
theorem refFits_calls {F : List Fact} {c : List Int} {v cv : Value} {w : World} (hd : Sl w v 4 (factsL F)) (hv : Sl w cv 1 (intsL c)) (hF : F.length ≤ 9223372036854775806) (hC : c.length ≤ 9223372036854775806) :
    Calls Tryd.prog 53 #[.agg #[v], cv] w (fun e w' => ∃ x, e = .returned x ∧ x = .bool (fitsC F c) ∧ Ext w w') := by
  obtain ⟨pa, ca, rfl, -⟩ := hd.shape (factsL_len F) (by omega)
  obtain ⟨pc, cc, rfl, -⟩ := hv.shape (intsL_len c) (by omega)
  refine calls_of Tryd.func53 rfl Tryd.ntmps53 rfl ?_
  refine wk_seq fun K hK => ?_
  refine wk_reg ?_
  refine o_box (LH.start w (fun _ => False)) [.slice pa F.length ca] rfl rfl rfl ?_
  intro b w1 hb hl
  have he := hl.done
  have hr0 : Row w1 b 0 [.slice pa F.length ca] := hl.rowL (vs := [.slice pa F.length ca]) 0 0 1 rfl
  have hd1 := hd.ext he
  have hv1 := hv.ext he
  clear hl hd hv
  repeat' (first | refine a_mov ?_ | refine a_asg ?_ | refine a_binN ?_ | refine a_notd ?_ | refine a_notb ?_ | refine a_nilc ?_ | refine a_fa ?_ | refine a_ext ?_ | refine a_lenv ?_ | refine a_lens ?_ | refine a_pick_t ?_ | refine a_pick_f ?_ | refine a_not ?_ | refine a_nilf ?_ | (refine o_nil (hK _ _ ?_); clear hK K) | refine wk_reg ?_ | refine wk_seq fun K hK => ?_ | (refine wk_skip (hK _ _ ?_); clear hK K) | (refine wk_label (hK _ _ ?_); clear hK K) | refine wk_scope ?_ | refine wk_block ?_ | refine wk_cond_t rfl ?_ | refine wk_cond_f rfl ?_ | (refine wk_exit ?_; (repeat (refine blockK_other rfl ?_)); refine blockK_same ?_; try ((repeat ((fail_if_success (refine hK _ _ ?_)); clear hK K)); refine hK _ _ ?_; clear hK K)) | (refine a_bin ?_ ?_ <;> intro _ <;> try (exfalso; omega)) | refine a_ld hl ?_ | (refine a_st hl ?_; clear hl; intro _ hl) | refine a_ix (fun _ => ?_) | refine a_row hr0 ?_)
  · refine wk_ret (retQ_tmp1 Tryd.results53 (by decide) rfl (by conv => lhs; whnf) ?_)
    exact ⟨by rw [fitsC_len (by omega)], he⟩
  have hlen : c.length = F.length := by omega
  refine wk_loopH [] rfl (fun k : Nat => [(1, .slice pc c.length cc), (2, .pointer (some ⟨b, 0, none⟩)), (5, .int .i64 (k : Int))]) (fun k w' => (k ≤ F.length ∧ ∀ i (h : i < F.length) (h' : i < c.length), i < k → F[i].lo ≤ c[i] ∧ c[i] ≤ F[i].hi) ∧ Ext w1 w') (fun k => F.length - k) 0 ⟨rfl, rfl, rfl, trivial⟩ ⟨⟨by omega, fun j _ _ h => by omega⟩, .refl _ _⟩ ?_
  rintro k t w2 ⟨⟨hk, hno⟩, hw⟩
  replace hr0 := hr0.ext hw
  replace hd1 := hd1.ext hw
  replace hv1 := hv1.ext hw
  replace he := he.trans hw
  by_cases hk1 : k < F.length
  · have hk2 : k < c.length := by omega
    obtain ⟨bf, of, hpf, hrf⟩ := Sl.fact hd1 rfl hk1
    obtain ⟨bc, oc, hpc, hrc⟩ := Sl.intAt hv1 rfl hk2
    have hbad := fitsC_false hk1 hk2
    have hgood : (F[k].lo ≤ c[k] ∧ c[k] ≤ F[k].hi) → ∀ i (h : i < F.length) (h' : i < c.length), i < k + 1 → F[i].lo ≤ c[i] ∧ c[i] ≤ F[i].hi := fun h i hi hi' hik => by
      by_cases e : i = k
      · subst e; exact h
      · exact hno i hi hi' (by omega)
    clear hno
    generalize F[k] = f at *
    generalize c[k] = z at *
    repeat' (first | refine a_mov ?_ | refine a_asg ?_ | refine a_binN ?_ | refine a_notd ?_ | refine a_notb ?_ | refine a_nilc ?_ | refine a_fa ?_ | refine a_ext ?_ | refine a_lenv ?_ | refine a_lens ?_ | refine a_pick_t ?_ | refine a_pick_f ?_ | refine a_not ?_ | refine a_nilf ?_ | (refine o_nil (hK _ _ ?_); clear hK K) | refine wk_reg ?_ | refine wk_seq fun K hK => ?_ | (refine wk_skip (hK _ _ ?_); clear hK K) | (refine wk_label (hK _ _ ?_); clear hK K) | refine wk_scope ?_ | refine wk_block ?_ | refine wk_cond_t rfl ?_ | refine wk_cond_f rfl ?_ | (refine wk_exit ?_; (repeat (refine blockK_other rfl ?_)); refine blockK_same ?_; try ((repeat ((fail_if_success (refine hK _ _ ?_)); clear hK K)); refine hK _ _ ?_; clear hK K)) | (refine a_bin ?_ ?_ <;> intro _ <;> try (exfalso; omega)) | refine a_ld hl ?_ | (refine a_st hl ?_; clear hl; intro _ hl) | refine a_ix (fun _ => ?_) | fail)
    by_cases hlo : z < f.lo
    · have hbad := hbad (by omega)
      refine wk_quiet [0, 1, 2, 3, 4, 5, 6, 7, 8, 9, 10, 11, 12, 13, 14, 15, 16, 17, 18, 19, 20, 21, 22, 23] ?_
      repeat' (first | refine q_mov ?_ | refine q_asg ?_ | refine q_fa ?_ | refine q_ext ?_ | refine q_binN ?_ | refine q_notd ?_ | refine q_notb ?_ | refine q_pick_t ?_ | refine q_pick_f ?_ | refine q_nilc ?_ | refine q_skip ?_ | refine q_lens ?_ | refine q_lenv ?_ | refine q_nil ?_ | refine q_ix (fun _ => ?_) | (refine q_bin ?_ ?_ <;> intro _ <;> try (exfalso; omega)) | refine q_idx (c := 1) k hpc ?_ | refine q_idx (c := 4) k hpf ?_ | refine q_row (fun w_ hw_ => hr0.ext hw_) ?_ | refine q_row (fun w_ hw_ => hrc.ext hw_) ?_ | refine q_row (fun w_ hw_ => hrf.ext hw_) ?_ | fail)
      intro wm hwm
      refine hK _ _ ?_
      clear hK K
      repeat' (first | refine a_mov ?_ | refine a_asg ?_ | refine a_binN ?_ | refine a_notd ?_ | refine a_notb ?_ | refine a_nilc ?_ | refine a_fa ?_ | refine a_ext ?_ | refine a_lenv ?_ | refine a_lens ?_ | refine a_pick_t ?_ | refine a_pick_f ?_ | refine a_not ?_ | refine a_nilf ?_ | (refine o_nil (hK _ _ ?_); clear hK K) | refine wk_reg ?_ | refine wk_seq fun K hK => ?_ | (refine wk_skip (hK _ _ ?_); clear hK K) | (refine wk_label (hK _ _ ?_); clear hK K) | refine wk_scope ?_ | refine wk_block ?_ | refine wk_cond_t rfl ?_ | refine wk_cond_f rfl ?_ | (refine wk_exit ?_; (repeat (refine blockK_other rfl ?_)); refine blockK_same ?_; try ((repeat ((fail_if_success (refine hK _ _ ?_)); clear hK K)); refine hK _ _ ?_; clear hK K)) | (refine a_bin ?_ ?_ <;> intro _ <;> try (exfalso; omega)) | refine a_ld hl ?_ | (refine a_st hl ?_; clear hl; intro _ hl) | refine a_ix (fun _ => ?_) | fail)
      refine wk_ret (retQ_tmp1 Tryd.results53 (by decide) rfl (by conv => lhs; whnf) ?_)
      exact ⟨by rw [hbad], he.trans hwm⟩
    by_cases hhi : z > f.hi
    · have hbad := hbad (by omega)
      refine wk_quiet [0, 1, 2, 3, 4, 5, 6, 7, 8, 9, 10, 11, 12, 13, 14, 15, 16, 17, 18, 19, 20, 21, 22, 23] ?_
      repeat' (first | refine q_mov ?_ | refine q_asg ?_ | refine q_fa ?_ | refine q_ext ?_ | refine q_binN ?_ | refine q_notd ?_ | refine q_notb ?_ | refine q_pick_t ?_ | refine q_pick_f ?_ | refine q_nilc ?_ | refine q_skip ?_ | refine q_lens ?_ | refine q_lenv ?_ | refine q_nil ?_ | refine q_ix (fun _ => ?_) | (refine q_bin ?_ ?_ <;> intro _ <;> try (exfalso; omega)) | refine q_idx (c := 1) k hpc ?_ | refine q_idx (c := 4) k hpf ?_ | refine q_row (fun w_ hw_ => hr0.ext hw_) ?_ | refine q_row (fun w_ hw_ => hrc.ext hw_) ?_ | refine q_row (fun w_ hw_ => hrf.ext hw_) ?_ | fail)
      intro wm hwm
      refine hK _ _ ?_
      clear hK K
      repeat' (first | refine a_mov ?_ | refine a_asg ?_ | refine a_binN ?_ | refine a_notd ?_ | refine a_notb ?_ | refine a_nilc ?_ | refine a_fa ?_ | refine a_ext ?_ | refine a_lenv ?_ | refine a_lens ?_ | refine a_pick_t ?_ | refine a_pick_f ?_ | refine a_not ?_ | refine a_nilf ?_ | (refine o_nil (hK _ _ ?_); clear hK K) | refine wk_reg ?_ | refine wk_seq fun K hK => ?_ | (refine wk_skip (hK _ _ ?_); clear hK K) | (refine wk_label (hK _ _ ?_); clear hK K) | refine wk_scope ?_ | refine wk_block ?_ | refine wk_cond_t rfl ?_ | refine wk_cond_f rfl ?_ | (refine wk_exit ?_; (repeat (refine blockK_other rfl ?_)); refine blockK_same ?_; try ((repeat ((fail_if_success (refine hK _ _ ?_)); clear hK K)); refine hK _ _ ?_; clear hK K)) | (refine a_bin ?_ ?_ <;> intro _ <;> try (exfalso; omega)) | refine a_ld hl ?_ | (refine a_st hl ?_; clear hl; intro _ hl) | refine a_ix (fun _ => ?_) | fail)
      refine wk_ret (retQ_tmp1 Tryd.results53 (by decide) rfl (by conv => lhs; whnf) ?_)
      exact ⟨by rw [hbad], he.trans hwm⟩
    · refine wk_quiet [0, 1, 2, 3, 4, 5, 6, 7, 8, 9, 10, 11, 12, 13, 14, 15, 16, 17, 18, 19, 20, 21, 22, 23] ?_
      repeat' (first | refine q_mov ?_ | refine q_asg ?_ | refine q_fa ?_ | refine q_ext ?_ | refine q_binN ?_ | refine q_notd ?_ | refine q_notb ?_ | refine q_pick_t ?_ | refine q_pick_f ?_ | refine q_nilc ?_ | refine q_skip ?_ | refine q_lens ?_ | refine q_lenv ?_ | refine q_nil ?_ | refine q_ix (fun _ => ?_) | (refine q_bin ?_ ?_ <;> intro _ <;> try (exfalso; omega)) | refine q_idx (c := 1) k hpc ?_ | refine q_idx (c := 4) k hpf ?_ | refine q_row (fun w_ hw_ => hr0.ext hw_) ?_ | refine q_row (fun w_ hw_ => hrc.ext hw_) ?_ | refine q_row (fun w_ hw_ => hrf.ext hw_) ?_ | fail)
      intro wm hwm
      refine hK _ _ ?_
      clear hK K
      repeat' (first | refine a_mov ?_ | refine a_asg ?_ | refine a_binN ?_ | refine a_notd ?_ | refine a_notb ?_ | refine a_nilc ?_ | refine a_fa ?_ | refine a_ext ?_ | refine a_lenv ?_ | refine a_lens ?_ | refine a_pick_t ?_ | refine a_pick_f ?_ | refine a_not ?_ | refine a_nilf ?_ | (refine o_nil (hK _ _ ?_); clear hK K) | refine wk_reg ?_ | refine wk_seq fun K hK => ?_ | (refine wk_skip (hK _ _ ?_); clear hK K) | (refine wk_label (hK _ _ ?_); clear hK K) | refine wk_scope ?_ | refine wk_block ?_ | refine wk_cond_t rfl ?_ | refine wk_cond_f rfl ?_ | (refine wk_exit ?_; (repeat (refine blockK_other rfl ?_)); refine blockK_same ?_; try ((repeat ((fail_if_success (refine hK _ _ ?_)); clear hK K)); refine hK _ _ ?_; clear hK K)) | (refine a_bin ?_ ?_ <;> intro _ <;> try (exfalso; omega)) | refine a_ld hl ?_ | (refine a_st hl ?_; clear hl; intro _ hl) | refine a_ix (fun _ => ?_) | fail)
      exact o_nil ⟨k + 1, ⟨rfl, rfl, rfl, trivial⟩, rfl, ⟨⟨hk1, hgood (by omega)⟩, hw.trans hwm⟩, by omega⟩
  · have hall := (fitsC_iff F c).2 ⟨hlen, fun i h h' => hno i h h' (by omega)⟩
    clear hno
    repeat' (first | refine a_mov ?_ | refine a_asg ?_ | refine a_binN ?_ | refine a_notd ?_ | refine a_notb ?_ | refine a_nilc ?_ | refine a_fa ?_ | refine a_ext ?_ | refine a_lenv ?_ | refine a_lens ?_ | refine a_pick_t ?_ | refine a_pick_f ?_ | refine a_not ?_ | refine a_nilf ?_ | (refine o_nil (hK _ _ ?_); clear hK K) | refine wk_reg ?_ | refine wk_seq fun K hK => ?_ | (refine wk_skip (hK _ _ ?_); clear hK K) | (refine wk_label (hK _ _ ?_); clear hK K) | refine wk_scope ?_ | refine wk_block ?_ | refine wk_cond_t rfl ?_ | refine wk_cond_f rfl ?_ | (refine wk_exit ?_; (repeat (refine blockK_other rfl ?_)); refine blockK_same ?_; try ((repeat ((fail_if_success (refine hK _ _ ?_)); clear hK K)); refine hK _ _ ?_; clear hK K)) | (refine a_bin ?_ ?_ <;> intro _ <;> try (exfalso; omega)) | refine a_ld hl ?_ | (refine a_st hl ?_; clear hl; intro _ hl) | refine a_ix (fun _ => ?_) | refine a_row hr0 ?_)
    refine wk_ret (retQ_tmp1 Tryd.results53 (by decide) rfl (by conv => lhs; whnf) ?_)
    exact ⟨by rw [hall], he⟩
end Go.Proofs

/-
  Formulas: the reference's Compare and Formed.
-/
set_option linter.unusedVariables false
set_option linter.unusedSimpArgs false
set_option linter.unnecessarySimpa false
set_option maxRecDepth 10000
namespace Go.Proofs
open Go Go.Pd Go.Lexs Go.Fin Go.Fo
attribute [local irreducible] OpsL W RetQ OpsQ OpsC

set_option maxHeartbeats 2000000 in
theorem refCompare_calls (a how b : Int) (w : World) (h1 : 1 ≤ how) (h6 : how ≤ 6) :
    Calls Tryd.prog 65 #[.int .i64 a, .int .i64 how, .int .i64 b] w (fun e w' => ∃ x, e = .returned x ∧ x = .bool (cmpB a how b) ∧ w' = w) := by
  refine calls_of Tryd.func65 rfl Tryd.ntmps65 rfl ?_
  repeat' (first | refine a_mov ?_ | refine a_asg ?_ | refine a_binN ?_ | refine a_notd ?_ | refine a_notb ?_ | refine a_nilc ?_ | refine a_fa ?_ | refine a_ext ?_ | refine a_lenv ?_ | refine a_lens ?_ | refine a_pick_t ?_ | refine a_pick_f ?_ | refine a_not ?_ | refine a_nilf ?_ | (refine o_nil (hK _ _ ?_); clear hK K) | refine wk_reg ?_ | refine wk_seq fun K hK => ?_ | (refine wk_skip (hK _ _ ?_); clear hK K) | (refine wk_label (hK _ _ ?_); clear hK K) | refine wk_scope ?_ | refine wk_block ?_ | refine wk_cond_t rfl ?_ | refine wk_cond_f rfl ?_ | (refine wk_exit ?_; (repeat (refine blockK_other rfl ?_)); refine blockK_same ?_; try ((repeat ((fail_if_success (refine hK _ _ ?_)); clear hK K)); refine hK _ _ ?_; clear hK K)) | (refine a_bin ?_ ?_ <;> intro _ <;> try (exfalso; omega)) | refine a_ld hl ?_ | (refine a_st hl ?_; clear hl; intro _ hl) | refine a_ix (fun _ => ?_) | fail)
  all_goals (refine wk_ret (retQ_tmp1 Tryd.results65 (by decide) rfl (by conv => lhs; whnf) ?_))
  all_goals refine ⟨congrArg Value.bool ?_, rfl⟩
  all_goals unfold cmpB
  all_goals (cases hz : ((decide (how = 1) && decide (a = b)) || (decide (how = 2) && decide (a ≠ b)) || (decide (how = 3) && decide (a < b)) || (decide (how = 4) && decide (a ≤ b)) || (decide (how = 5) && decide (a > b)) || (decide (how = 6) && decide (a ≥ b))) <;> simp only [Bool.or_eq_true, Bool.and_eq_true, decide_eq_true_eq, Bool.or_eq_false_iff, Bool.and_eq_false_iff, decide_eq_false_iff_not] at hz <;> first | rfl | (exfalso; omega))

set_option maxHeartbeats 1000000 in
theorem refFormedAll_calls (F : List Fact) (hF : F.length ≤ 9223372036854775806)
    (f : Fm) (w : World) (G : Nat → Prop) (kv dv : Value) (hk : KR w G f.kids kv) (hs : Short f.kids) (ht : Texty (pre f)) (hd : Sl w dv 4 (factsL F)) (hc : cnt f ≤ 1000000) :
    Calls Tryd.prog 52 #[.agg (fmL f kv).toArray, .agg #[dv]] w (fun e w' => ∃ x, e = .returned x ∧ x = .bool (decide (checkE F (fun _ => true) f = 0)) ∧ Ext w w') := by
  obtain ⟨a, c, rfl, -⟩ := hk.shape
  obtain ⟨da, dc, rfl, -⟩ := hd.shape (factsL_len F) (by omega)
  refine calls_of Tryd.func52 rfl Tryd.ntmps52 rfl ?_
  refine wk_seq fun K hK => ?_
  refine wk_reg ?_
  refine o_box (LH.start w (fun _ => False)) [.int .i64 (f).op, str (f).name, .int .i64 (f).cmp, .int .i64 (f).num, .slice a f.kids.length c] rfl rfl rfl ?_
  intro b1 w1 hb1 hl
  refine o_box hl [.slice da F.length dc] rfl rfl rfl ?_
  clear hl
  intro b2 w2 hb2 hl
  have he := hl.done
  repeat' (first | refine a_mov ?_ | refine a_asg ?_ | refine a_binN ?_ | refine a_notd ?_ | refine a_notb ?_ | refine a_nilc ?_ | refine a_fa ?_ | refine a_ext ?_ | refine a_lenv ?_ | refine a_lens ?_ | refine a_pick_t ?_ | refine a_pick_f ?_ | refine a_not ?_ | refine a_nilf ?_ | (refine o_nil (hK _ _ ?_); clear hK K) | refine wk_reg ?_ | refine wk_seq fun K hK => ?_ | (refine wk_skip (hK _ _ ?_); clear hK K) | (refine wk_label (hK _ _ ?_); clear hK K) | refine wk_scope ?_ | refine wk_block ?_ | refine wk_cond_t rfl ?_ | refine wk_cond_f rfl ?_ | (refine wk_exit ?_; (repeat (refine blockK_other rfl ?_)); refine blockK_same ?_; try ((repeat ((fail_if_success (refine hK _ _ ?_)); clear hK K)); refine hK _ _ ?_; clear hK K)) | (refine a_bin ?_ ?_ <;> intro _ <;> try (exfalso; omega)) | refine a_ld hl ?_ | (refine a_st hl ?_; clear hl; intro _ hl) | refine a_ix (fun _ => ?_) | refine a_all (hl.rowL (vs := [.int .i64 (f).op, str (f).name, .int .i64 (f).cmp, .int .i64 (f).num, .slice a f.kids.length c]) 1 0 5 rfl) ?_)
  refine a_fn (large_calls f w2 G (.slice a f.kids.length c) (hk.ext he) hc) ?_
  rintro _ w3 ⟨rfl, he3⟩
  replace hl := hl.ext he3
  clear he he3
  have he := hl.done
  by_cases hlg : 200 < cnt f ∨ 20 < dep f
  · rw [decide_eq_true hlg]
    repeat' (first | refine a_mov ?_ | refine a_asg ?_ | refine a_binN ?_ | refine a_notd ?_ | refine a_notb ?_ | refine a_nilc ?_ | refine a_fa ?_ | refine a_ext ?_ | refine a_lenv ?_ | refine a_lens ?_ | refine a_pick_t ?_ | refine a_pick_f ?_ | refine a_not ?_ | refine a_nilf ?_ | (refine o_nil (hK _ _ ?_); clear hK K) | refine wk_reg ?_ | refine wk_seq fun K hK => ?_ | (refine wk_skip (hK _ _ ?_); clear hK K) | (refine wk_label (hK _ _ ?_); clear hK K) | refine wk_scope ?_ | refine wk_block ?_ | refine wk_cond_t rfl ?_ | refine wk_cond_f rfl ?_ | (refine wk_exit ?_; (repeat (refine blockK_other rfl ?_)); refine blockK_same ?_; try ((repeat ((fail_if_success (refine hK _ _ ?_)); clear hK K)); refine hK _ _ ?_; clear hK K)) | (refine a_bin ?_ ?_ <;> intro _ <;> try (exfalso; omega)) | refine a_ld hl ?_ | (refine a_st hl ?_; clear hl; intro _ hl) | refine a_ix (fun _ => ?_) | fail)
    refine wk_ret (retQ_tmp1 Tryd.results52 (by decide) rfl (by conv => lhs; whnf) ?_)
    exact ⟨by unfold checkE; rw [if_pos hlg]; rfl, he⟩
  · rw [decide_eq_false hlg]
    repeat' (first | refine a_mov ?_ | refine a_asg ?_ | refine a_binN ?_ | refine a_notd ?_ | refine a_notb ?_ | refine a_nilc ?_ | refine a_fa ?_ | refine a_ext ?_ | refine a_lenv ?_ | refine a_lens ?_ | refine a_pick_t ?_ | refine a_pick_f ?_ | refine a_not ?_ | refine a_nilf ?_ | (refine o_nil (hK _ _ ?_); clear hK K) | refine wk_reg ?_ | refine wk_seq fun K hK => ?_ | (refine wk_skip (hK _ _ ?_); clear hK K) | (refine wk_label (hK _ _ ?_); clear hK K) | refine wk_scope ?_ | refine wk_block ?_ | refine wk_cond_t rfl ?_ | refine wk_cond_f rfl ?_ | (refine wk_exit ?_; (repeat (refine blockK_other rfl ?_)); refine blockK_same ?_; try ((repeat ((fail_if_success (refine hK _ _ ?_)); clear hK K)); refine hK _ _ ?_; clear hK K)) | (refine a_bin ?_ ?_ <;> intro _ <;> try (exfalso; omega)) | refine a_ld hl ?_ | (refine a_st hl ?_; clear hl; intro _ hl) | refine a_ix (fun _ => ?_) | refine a_all (hl.rowL (vs := [.int .i64 (f).op, str (f).name, .int .i64 (f).cmp, .int .i64 (f).num, .slice a f.kids.length c]) 1 0 5 rfl) ?_ | refine a_all (hl.rowL (vs := [.slice da F.length dc]) 0 0 1 rfl) ?_)
    refine a_fn (refNode_calls F [] true hF (by simp) f w3 G (.slice a f.kids.length c) (.slice da F.length dc) (.slice none 0 0) (hk.ext he) hs ht (hd.ext he) (.nil _ _)) ?_
    rintro _ w4 ⟨rfl, he4⟩
    have hck : checkE F (fun _ => true) f = firstE F (fun s => true || ([] : List (List UInt8)).contains s) (pre f) := by
      unfold checkE
      rw [if_neg hlg]
      simp only [Bool.true_or]
    rw [hck]
    generalize firstE F (fun s => true || ([] : List (List UInt8)).contains s) (pre f) = r at *
    repeat' (first | refine a_mov ?_ | refine a_asg ?_ | refine a_binN ?_ | refine a_notd ?_ | refine a_notb ?_ | refine a_nilc ?_ | refine a_fa ?_ | refine a_ext ?_ | refine a_lenv ?_ | refine a_lens ?_ | refine a_pick_t ?_ | refine a_pick_f ?_ | refine a_not ?_ | refine a_nilf ?_ | (refine o_nil (hK _ _ ?_); clear hK K) | refine wk_reg ?_ | refine wk_seq fun K hK => ?_ | (refine wk_skip (hK _ _ ?_); clear hK K) | (refine wk_label (hK _ _ ?_); clear hK K) | refine wk_scope ?_ | refine wk_block ?_ | refine wk_cond_t rfl ?_ | refine wk_cond_f rfl ?_ | (refine wk_exit ?_; (repeat (refine blockK_other rfl ?_)); refine blockK_same ?_; try ((repeat ((fail_if_success (refine hK _ _ ?_)); clear hK K)); refine hK _ _ ?_; clear hK K)) | (refine a_bin ?_ ?_ <;> intro _ <;> try (exfalso; omega)) | refine a_ld hl ?_ | (refine a_st hl ?_; clear hl; intro _ hl) | refine a_ix (fun _ => ?_) | fail)
    all_goals (refine wk_ret (retQ_tmp1 Tryd.results52 (by decide) rfl (by conv => lhs; whnf) ?_))
    all_goals refine ⟨congrArg Value.bool ?_, he.trans he4⟩
    all_goals first | (rw [decide_eq_true]; omega) | (rw [decide_eq_false]; omega)
end Go.Proofs

/-
  Formulas: the reference's Value.
-/
set_option linter.unusedVariables false
set_option linter.unusedSimpArgs false
set_option linter.unnecessarySimpa false
set_option maxRecDepth 10000
namespace Go.Fo
open Go.Lexs Go.Fin

theorem evalAll_eq (F : List Fact) (c : List Int) (T : List (List UInt8)) : ∀ ks : List Fm, evalAll F c T ks = ks.all (eval F c T)
  | [] => rfl
  | k :: ks => by rw [evalAll, evalAll_eq F c T ks, List.all_cons]
theorem evalAny_eq (F : List Fact) (c : List Int) (T : List (List UInt8)) : ∀ ks : List Fm, evalAny F c T ks = ks.any (eval F c T)
  | [] => rfl
  | k :: ks => by rw [evalAny, evalAny_eq F c T ks, List.any_cons]
theorem evalFirst_eq (F : List Fact) (c : List Int) (T : List (List UInt8)) (ks : List Fm) (h : 0 < ks.length) : evalFirst F c T ks = eval F c T ks[0] := by
  cases ks with
  | nil => simp at h
  | cons k ks => simp [evalFirst]
theorem eval_eq (F : List Fact) (c : List Int) (T : List (List UInt8)) (f : Fm) : eval F c T f =
    if f.op = 3 then cmpB (valAt F c f.name) f.cmp f.num else if f.op = 4 then T.contains f.name else if f.op = 5 then !(evalFirst F c T f.kids)
    else if f.op = 6 then f.kids.all (eval F c T) else if f.op = 7 then f.kids.any (eval F c T) else decide (f.op = 1) := by
  cases f with
  | node o s cm n ks =>
    show eval F c T (.node o s cm n ks) = _
    rw [eval, evalAll_eq, evalAny_eq]
    rfl

theorem any_split {p : Fm → Bool} {ks : List Fm} {i : Nat} (hi : i < ks.length) (h0 : (ks.take i).any p = false) : (p ks[i] = true → ks.any p = true) ∧ (p ks[i] = false → (ks.take (i + 1)).any p = false) := by
  refine ⟨fun h => List.any_eq_true.2 ⟨_, List.getElem_mem hi, h⟩, fun h => ?_⟩
  rw [List.take_succ_eq_append_getElem hi, List.any_append, h0]
  simp [h]
theorem all_split {p : Fm → Bool} {ks : List Fm} {i : Nat} (hi : i < ks.length) (h0 : (ks.take i).all p = true) : (p ks[i] = false → ks.all p = false) ∧ (p ks[i] = true → (ks.take (i + 1)).all p = true) := by
  refine ⟨fun h => List.all_eq_false.2 ⟨_, List.getElem_mem hi, by simp [h]⟩, fun h => ?_⟩
  rw [List.take_succ_eq_append_getElem hi, List.all_append, h0]
  simp [h]

/-- Every node of a formula is right. -/
def Right (F : List Fact) (f : Fm) : Prop := firstE F (fun _ => true) (pre f) = 0

theorem Right.node {F : List Fact} {f : Fm} (h : Right F f) : nodeE F (fun _ => true) f = 0 := by
  unfold Right at h
  rw [pre_eq, firstE] at h
  by_cases h0 : nodeE F (fun _ => true) f = 0
  · exact h0
  · rw [if_pos h0] at h; exact absurd h h0
theorem Right.kids {F : List Fact} {f : Fm} (h : Right F f) : firstE F (fun _ => true) (preL f.kids) = 0 := by
  have h0 := h.node
  unfold Right at h
  rw [pre_eq, firstE, if_neg (by simp [h0])] at h
  exact h
theorem preL_split' {ks : List Fm} {i : Nat} (hi : i < ks.length) : preL ks = preL (ks.take i) ++ (pre ks[i] ++ preL (ks.drop (i + 1))) := by
  have h1 := preL_app (ks.take (i + 1)) (ks.drop (i + 1))
  rw [List.take_append_drop, List.take_succ_eq_append_getElem hi, preL_snoc] at h1
  rw [h1, List.append_assoc]
theorem Right.kid {F : List Fact} {f : Fm} (h : Right F f) {i : Nat} (hi : i < f.kids.length) : Right F f.kids[i] := by
  have h1 := h.kids
  rw [preL_split' hi] at h1
  simp only [firstE_app] at h1
  unfold Right
  split at h1
  · contradiction
  · split at h1
    · contradiction
    · simp_all
end Go.Fo

namespace Go.Proofs
open Go Go.Pd Go.Lexs Go.Fin Go.Fo
attribute [local irreducible] OpsL W RetQ OpsQ OpsC

set_option maxHeartbeats 4000000 in
theorem refValue_calls (F : List Fact) (c : List Int) (T : List (List UInt8)) (hF : F.length ≤ 9223372036854775806) (hT : T.length ≤ 9223372036854775806) (hcF : c.length = F.length) :
    ∀ (f : Fm) (w : World) (G : Nat → Prop) (kv dv cv tv : Value), Right F f → KR w G f.kids kv → Short f.kids → Sl w dv 4 (factsL F) → Sl w cv 1 (intsL c) → Sl w tv 1 (strsL T) →
      Calls Tryd.prog 54 #[.agg (fmL f kv).toArray, .agg #[dv], cv, tv] w (fun e w' => ∃ x, e = .returned x ∧ x = .bool (eval F c T f) ∧ Ext w w') := by
  refine Fm.ind ?_
  intro f ih w G kv dv cv tv hR hk hs hd hc hv
  have hlen := hs.1
  have hnode := hR.node
  have hev := eval_eq F c T f
  obtain ⟨a, cp, rfl, -⟩ := hk.shape
  obtain ⟨da, dc, rfl, -⟩ := hd.shape (factsL_len F) (by omega)
  obtain ⟨ca, cc, rfl, -⟩ := hc.shape (intsL_len c) (by omega)
  have hop : f.op = 1 ∨ (f.op = 2 ∧ f.kids.length = 0) ∨ (f.op = 3 ∧ 1 ≤ f.cmp ∧ f.cmp ≤ 6 ∧ ∃ i, idx F f.name = some i) ∨ f.op = 4 ∨ (f.op = 5 ∧ f.kids.length = 1) ∨ f.op = 6 ∨ f.op = 7 := by
    unfold nodeE at hnode
    split at hnode
    · cases hnode
    · rename_i hf
      split at hnode
      · cases hnode
      · split at hnode
        · cases hnode
        · rename_i hx
          have hf : formed f = true := by simpa using hf
          unfold formed at hf
          split at hf
          · cases hf
          · split at hf
            · simp only [decide_eq_true_eq] at hf; omega
            · split at hf
              · simp only [Bool.and_eq_true, decide_eq_true_eq] at hf
                refine .inr (.inr (.inl ⟨by assumption, hf.2.2.1, hf.2.2.2, ?_⟩))
                cases hi : idx F f.name with
                | none => exact absurd (.inl ⟨by assumption, hi⟩) hx
                | some i => exact ⟨i, rfl⟩
              · split at hf
                · omega
                · split at hf
                  · simp only [decide_eq_true_eq] at hf; omega
                  · split at hf
                    · omega
                    · cases hf
  refine calls_of Tryd.func54 rfl Tryd.ntmps54 rfl ?_
  refine wk_seq fun K hK => ?_
  refine wk_reg ?_
  refine o_box (LH.start w (fun _ => False)) [.int .i64 (f).op, str (f).name, .int .i64 (f).cmp, .int .i64 (f).num, .slice a f.kids.length cp] rfl rfl rfl ?_
  intro b1 w1 hb1 hl
  refine o_box hl [.slice da F.length dc] rfl rfl rfl ?_
  clear hl
  intro b2 w2 hb2 hl
  have he := hl.done
  have hkids : ∀ i (hi : i < f.kids.length) w' (kv : Value), Ext w w' → KR w' G f.kids[i].kids kv → Calls Tryd.prog 54 #[.agg (fmL f.kids[i] kv).toArray, .agg #[.slice da F.length dc], .slice ca c.length cc, tv] w' (fun e w2 => ∃ x, e = .returned x ∧ x = .bool (eval F c T f.kids[i]) ∧ Ext w' w2) :=
    fun i hi w' kv e h => ih _ (List.getElem_mem hi) w' G kv _ _ tv (hR.kid hi) h (hs.kid hi) (hd.ext e) (hc.ext e) (hv.ext e)
  clear ih hs
  have hany : f.op = 2 ∧ f.kids.length = 0 ∨ f.op = 7 → eval F c T f = f.kids.any (eval F c T) := by
    rintro (⟨h1, h2⟩ | h1)
    · rw [hev, List.eq_nil_of_length_eq_zero h2]; simp [h1]
    · rw [hev]; simp [h1]
  rcases hop with h1 | h1 | ⟨h1, h2, h3, i, hi⟩ | h1 | ⟨h1, h2⟩ | h1 | h1
  · have hv1 : eval F c T f = true := by rw [hev]; simp [h1]
    clear hany hev
    repeat' (first | refine a_mov ?_ | refine a_asg ?_ | refine a_binN ?_ | refine a_notd ?_ | refine a_notb ?_ | refine a_nilc ?_ | refine a_fa ?_ | refine a_ext ?_ | refine a_lenv ?_ | refine a_lens ?_ | refine a_pick_t ?_ | refine a_pick_f ?_ | refine a_not ?_ | refine a_nilf ?_ | (refine o_nil (hK _ _ ?_); clear hK K) | refine wk_reg ?_ | refine wk_seq fun K hK => ?_ | (refine wk_skip (hK _ _ ?_); clear hK K) | (refine wk_label (hK _ _ ?_); clear hK K) | refine wk_scope ?_ | refine wk_block ?_ | refine wk_cond_t rfl ?_ | refine wk_cond_f rfl ?_ | (refine wk_exit ?_; (repeat (refine blockK_other rfl ?_)); refine blockK_same ?_; try ((repeat ((fail_if_success (refine hK _ _ ?_)); clear hK K)); refine hK _ _ ?_; clear hK K)) | (refine a_bin ?_ ?_ <;> intro _ <;> try (exfalso; omega)) | refine a_ld hl ?_ | (refine a_st hl ?_; clear hl; intro _ hl) | refine a_ix (fun _ => ?_) | fail)
    refine wk_ret (retQ_tmp1 Tryd.results54 (by decide) rfl (by conv => lhs; whnf) ?_)
    exact ⟨by rw [hv1], he⟩
  rotate_left
  · have hix : idxI F f.name = (i : Int) := by simp only [idxI, hi]
    have hilt := idx_lt hi
    have hv1 : eval F c T f = cmpB c[i] f.cmp f.num := by
      rw [hev, if_pos h1]
      unfold valAt
      rw [hi]
      simp [List.getD, show i < c.length by omega]
    clear hany hev
    obtain ⟨bc, oc, hpc, hrc⟩ := Sl.intAt (hc.ext he) rfl (show i < c.length by omega)
    have hidx := fun w' (hw' : Ext w2 w') => refIndex_calls ((hd.ext he).ext hw') hF f.name
    rw [hix] at hidx
    have hcmp : ∀ w', Ext w2 w' → Calls Tryd.prog 65 #[.int .i64 c[i], .int .i64 f.cmp, .int .i64 f.num] w' (fun e w3 => ∃ x, e = .returned x ∧ x = .bool (cmpB c[i] f.cmp f.num) ∧ Ext w' w3) := fun w' hw' => by
      refine Calls.mono (refCompare_calls c[i] f.cmp f.num w' h2 h3) ?_
      rintro e w3 ⟨x, hx, hy, rfl⟩
      exact ⟨x, hx, hy, .refl _ _⟩
    generalize c[i] = z at *
    repeat' (first | refine a_mov ?_ | refine a_asg ?_ | refine a_binN ?_ | refine a_notd ?_ | refine a_notb ?_ | refine a_nilc ?_ | refine a_fa ?_ | refine a_ext ?_ | refine a_lenv ?_ | refine a_lens ?_ | refine a_pick_t ?_ | refine a_pick_f ?_ | refine a_not ?_ | refine a_nilf ?_ | (refine o_nil (hK _ _ ?_); clear hK K) | refine wk_reg ?_ | refine wk_seq fun K hK => ?_ | (refine wk_skip (hK _ _ ?_); clear hK K) | (refine wk_label (hK _ _ ?_); clear hK K) | refine wk_scope ?_ | refine wk_block ?_ | refine wk_cond_t rfl ?_ | refine wk_cond_f rfl ?_ | (refine wk_exit ?_; (repeat (refine blockK_other rfl ?_)); refine blockK_same ?_; try ((repeat ((fail_if_success (refine hK _ _ ?_)); clear hK K)); refine hK _ _ ?_; clear hK K)) | (refine a_bin ?_ ?_ <;> intro _ <;> try (exfalso; omega)) | refine a_ld hl ?_ | (refine a_st hl ?_; clear hl; intro _ hl) | refine a_ix (fun _ => ?_) | fail)
    refine wk_quiet [0, 1, 2, 3, 4, 5, 6, 7, 8, 9, 10, 11, 12] ?_
    repeat' (first | refine q_mov ?_ | refine q_asg ?_ | refine q_fa ?_ | refine q_ext ?_ | refine q_binN ?_ | refine q_notd ?_ | refine q_notb ?_ | refine q_pick_t ?_ | refine q_pick_f ?_ | refine q_nilc ?_ | refine q_skip ?_ | refine q_lens ?_ | refine q_lenv ?_ | refine q_nil ?_ | refine q_ix (fun _ => ?_) | (refine q_bin ?_ ?_ <;> intro _ <;> try (exfalso; omega)) | refine q_ld (fun w_ hw_ => hl.ext hw_) ?_ | refine q_all (fun w_ hw_ => (hl.ext hw_).rowL (vs := [.slice da F.length dc]) 0 0 1 rfl) ?_ | refine q_idx (c := 1) i hpc ?_ | refine q_row (fun w_ hw_ => hrc.ext hw_) ?_ | refine q_fn (v := .int .i64 (i : Int)) hidx ?_ | refine q_fn (v := .bool (cmpB z f.cmp f.num)) hcmp ?_ | fail)
    intro wm hwm
    refine hK _ _ ?_
    clear hK K
    repeat' (first | refine a_mov ?_ | refine a_asg ?_ | refine a_binN ?_ | refine a_notd ?_ | refine a_notb ?_ | refine a_nilc ?_ | refine a_fa ?_ | refine a_ext ?_ | refine a_lenv ?_ | refine a_lens ?_ | refine a_pick_t ?_ | refine a_pick_f ?_ | refine a_not ?_ | refine a_nilf ?_ | (refine o_nil (hK _ _ ?_); clear hK K) | refine wk_reg ?_ | refine wk_seq fun K hK => ?_ | (refine wk_skip (hK _ _ ?_); clear hK K) | (refine wk_label (hK _ _ ?_); clear hK K) | refine wk_scope ?_ | refine wk_block ?_ | refine wk_cond_t rfl ?_ | refine wk_cond_f rfl ?_ | (refine wk_exit ?_; (repeat (refine blockK_other rfl ?_)); refine blockK_same ?_; try ((repeat ((fail_if_success (refine hK _ _ ?_)); clear hK K)); refine hK _ _ ?_; clear hK K)) | (refine a_bin ?_ ?_ <;> intro _ <;> try (exfalso; omega)) | refine a_ld hl ?_ | (refine a_st hl ?_; clear hl; intro _ hl) | refine a_ix (fun _ => ?_) | fail)
    refine wk_ret (retQ_tmp1 Tryd.results54 (by decide) rfl (by conv => lhs; whnf) ?_)
    exact ⟨by rw [hv1], he.trans hwm⟩
  · have hv1 : eval F c T f = T.contains f.name := by rw [hev]; simp [h1]
    clear hany hev
    repeat' (first | refine a_mov ?_ | refine a_asg ?_ | refine a_binN ?_ | refine a_notd ?_ | refine a_notb ?_ | refine a_nilc ?_ | refine a_fa ?_ | refine a_ext ?_ | refine a_lenv ?_ | refine a_lens ?_ | refine a_pick_t ?_ | refine a_pick_f ?_ | refine a_not ?_ | refine a_nilf ?_ | (refine o_nil (hK _ _ ?_); clear hK K) | refine wk_reg ?_ | refine wk_seq fun K hK => ?_ | (refine wk_skip (hK _ _ ?_); clear hK K) | (refine wk_label (hK _ _ ?_); clear hK K) | refine wk_scope ?_ | refine wk_block ?_ | refine wk_cond_t rfl ?_ | refine wk_cond_f rfl ?_ | (refine wk_exit ?_; (repeat (refine blockK_other rfl ?_)); refine blockK_same ?_; try ((repeat ((fail_if_success (refine hK _ _ ?_)); clear hK K)); refine hK _ _ ?_; clear hK K)) | (refine a_bin ?_ ?_ <;> intro _ <;> try (exfalso; omega)) | refine a_ld hl ?_ | (refine a_st hl ?_; clear hl; intro _ hl) | refine a_ix (fun _ => ?_) | fail)
    refine a_fn (in_calls (hv.ext he) hT f.name) ?_
    rintro _ w5 ⟨rfl, he5⟩
    obtain rfl := he5
    repeat' (first | refine a_mov ?_ | refine a_asg ?_ | refine a_binN ?_ | refine a_notd ?_ | refine a_notb ?_ | refine a_nilc ?_ | refine a_fa ?_ | refine a_ext ?_ | refine a_lenv ?_ | refine a_lens ?_ | refine a_pick_t ?_ | refine a_pick_f ?_ | refine a_not ?_ | refine a_nilf ?_ | (refine o_nil (hK _ _ ?_); clear hK K) | refine wk_reg ?_ | refine wk_seq fun K hK => ?_ | (refine wk_skip (hK _ _ ?_); clear hK K) | (refine wk_label (hK _ _ ?_); clear hK K) | refine wk_scope ?_ | refine wk_block ?_ | refine wk_cond_t rfl ?_ | refine wk_cond_f rfl ?_ | (refine wk_exit ?_; (repeat (refine blockK_other rfl ?_)); refine blockK_same ?_; try ((repeat ((fail_if_success (refine hK _ _ ?_)); clear hK K)); refine hK _ _ ?_; clear hK K)) | (refine a_bin ?_ ?_ <;> intro _ <;> try (exfalso; omega)) | refine a_ld hl ?_ | (refine a_st hl ?_; clear hl; intro _ hl) | refine a_ix (fun _ => ?_) | fail)
    refine wk_ret (retQ_tmp1 Tryd.results54 (by decide) rfl (by conv => lhs; whnf) ?_)
    exact ⟨by rw [hv1], he⟩
  · have hv1 : eval F c T f = !(evalFirst F c T f.kids) := by rw [hev]; simp [h1]
    clear hany hev
    obtain ⟨bk, ok, kv, hp, hr, hkk⟩ := (hk.ext he).at (i := 0) (by omega)
    have ihk := fun w' (e : Ext w2 w') => hkids 0 (by omega) w' kv (he.trans e) (hkk.ext e)
    have hfi := evalFirst_eq F c T f.kids (by omega)
    rw [hfi] at hv1
    clear hkids
    have h20 : 0 < f.kids.length := by omega
    generalize f.kids[0]'h20 = k at *
    generalize eval F c T k = ek at *
    repeat' (first | refine a_mov ?_ | refine a_asg ?_ | refine a_binN ?_ | refine a_notd ?_ | refine a_notb ?_ | refine a_nilc ?_ | refine a_fa ?_ | refine a_ext ?_ | refine a_lenv ?_ | refine a_lens ?_ | refine a_pick_t ?_ | refine a_pick_f ?_ | refine a_not ?_ | refine a_nilf ?_ | (refine o_nil (hK _ _ ?_); clear hK K) | refine wk_reg ?_ | refine wk_seq fun K hK => ?_ | (refine wk_skip (hK _ _ ?_); clear hK K) | (refine wk_label (hK _ _ ?_); clear hK K) | refine wk_scope ?_ | refine wk_block ?_ | refine wk_cond_t rfl ?_ | refine wk_cond_f rfl ?_ | (refine wk_exit ?_; (repeat (refine blockK_other rfl ?_)); refine blockK_same ?_; try ((repeat ((fail_if_success (refine hK _ _ ?_)); clear hK K)); refine hK _ _ ?_; clear hK K)) | (refine a_bin ?_ ?_ <;> intro _ <;> try (exfalso; omega)) | refine a_ld hl ?_ | (refine a_st hl ?_; clear hl; intro _ hl) | refine a_ix (fun _ => ?_) | fail)
    refine wk_quiet [0, 1, 2, 3, 4, 5, 6, 7, 8, 9] ?_
    repeat' (first | refine q_mov ?_ | refine q_asg ?_ | refine q_fa ?_ | refine q_ext ?_ | refine q_binN ?_ | refine q_notd ?_ | refine q_notb ?_ | refine q_pick_t ?_ | refine q_pick_f ?_ | refine q_nilc ?_ | refine q_skip ?_ | refine q_lens ?_ | refine q_lenv ?_ | refine q_nil ?_ | refine q_ix (fun _ => ?_) | (refine q_bin ?_ ?_ <;> intro _ <;> try (exfalso; omega)) | refine q_ld (fun w_ hw_ => hl.ext hw_) ?_ | refine q_idx (c := 5) 0 hp ?_ | refine q_all (fun w_ hw_ => hr.ext hw_) ?_ | refine q_all (fun w_ hw_ => (hl.ext hw_).rowL (vs := [.slice da F.length dc]) 0 0 1 rfl) ?_ | refine q_fn (v := .bool ek) ihk ?_ | fail)
    intro wm hwm
    refine hK _ _ ?_
    clear hK K
    repeat' (first | refine a_mov ?_ | refine a_asg ?_ | refine a_binN ?_ | refine a_notd ?_ | refine a_notb ?_ | refine a_nilc ?_ | refine a_fa ?_ | refine a_ext ?_ | refine a_lenv ?_ | refine a_lens ?_ | refine a_pick_t ?_ | refine a_pick_f ?_ | refine a_not ?_ | refine a_nilf ?_ | (refine o_nil (hK _ _ ?_); clear hK K) | refine wk_reg ?_ | refine wk_seq fun K hK => ?_ | (refine wk_skip (hK _ _ ?_); clear hK K) | (refine wk_label (hK _ _ ?_); clear hK K) | refine wk_scope ?_ | refine wk_block ?_ | refine wk_cond_t rfl ?_ | refine wk_cond_f rfl ?_ | (refine wk_exit ?_; (repeat (refine blockK_other rfl ?_)); refine blockK_same ?_; try ((repeat ((fail_if_success (refine hK _ _ ?_)); clear hK K)); refine hK _ _ ?_; clear hK K)) | (refine a_bin ?_ ?_ <;> intro _ <;> try (exfalso; omega)) | refine a_ld hl ?_ | (refine a_st hl ?_; clear hl; intro _ hl) | refine a_ix (fun _ => ?_) | fail)
    refine wk_ret (retQ_tmp1 Tryd.results54 (by decide) rfl (by conv => lhs; whnf) ?_)
    exact ⟨by rw [hv1], he.trans hwm⟩
  · have hv1 : eval F c T f = f.kids.all (eval F c T) := by rw [hev]; simp [h1]
    clear hany hev
    repeat' (first | refine a_mov ?_ | refine a_asg ?_ | refine a_binN ?_ | refine a_notd ?_ | refine a_notb ?_ | refine a_nilc ?_ | refine a_fa ?_ | refine a_ext ?_ | refine a_lenv ?_ | refine a_lens ?_ | refine a_pick_t ?_ | refine a_pick_f ?_ | refine a_not ?_ | refine a_nilf ?_ | (refine o_nil (hK _ _ ?_); clear hK K) | refine wk_reg ?_ | refine wk_seq fun K hK => ?_ | (refine wk_skip (hK _ _ ?_); clear hK K) | (refine wk_label (hK _ _ ?_); clear hK K) | refine wk_scope ?_ | refine wk_block ?_ | refine wk_cond_t rfl ?_ | refine wk_cond_f rfl ?_ | (refine wk_exit ?_; (repeat (refine blockK_other rfl ?_)); refine blockK_same ?_; try ((repeat ((fail_if_success (refine hK _ _ ?_)); clear hK K)); refine hK _ _ ?_; clear hK K)) | (refine a_bin ?_ ?_ <;> intro _ <;> try (exfalso; omega)) | refine a_ld hl ?_ | (refine a_st hl ?_; clear hl; intro _ hl) | refine a_ix (fun _ => ?_) | fail)
    refine wk_loopH [] rfl (fun i : Nat => [(2, .slice ca c.length cc), (3, tv), (4, .pointer (some ⟨b1, 0, none⟩)), (5, .pointer (some ⟨b2, 0, none⟩)), (9, .int .i64 (i : Int))]) (fun i w' => (i ≤ f.kids.length ∧ (f.kids.take i).all (eval F c T) = true) ∧ LH w (fun _ => False) w' [(b2, Obj.cells #[.slice da F.length dc] 27 (0, 0)), (b1, Obj.cells ([.int .i64 (f).op, str (f).name, .int .i64 (f).cmp, .int .i64 (f).num, .slice a f.kids.length cp] : List Value).toArray 24 (0, 0))]) (fun i => f.kids.length - i) 0 ⟨rfl, rfl, rfl, rfl, rfl, trivial⟩ ⟨⟨by omega, rfl⟩, hl⟩ ?_
    clear hl he
    rintro i t wl ⟨⟨hi, hpre⟩, hl⟩
    have he := hl.done
    by_cases hi1 : i < f.kids.length
    · obtain ⟨bk, ok, kv, hp, hr, hkk⟩ := (hk.ext he).at hi1
      have ihk := fun w' (e : Ext wl w') => hkids i hi1 w' kv (he.trans e) (hkk.ext e)
      obtain ⟨hn1, hn2⟩ := all_split hi1 hpre
      clear hkids
      generalize f.kids[i] = k at *
      cases hek : eval F c T k
      all_goals (rw [hek] at ihk hn1 hn2)
      all_goals (repeat' (first | refine a_mov ?_ | refine a_asg ?_ | refine a_binN ?_ | refine a_notd ?_ | refine a_notb ?_ | refine a_nilc ?_ | refine a_fa ?_ | refine a_ext ?_ | refine a_lenv ?_ | refine a_lens ?_ | refine a_pick_t ?_ | refine a_pick_f ?_ | refine a_not ?_ | refine a_nilf ?_ | (refine o_nil (hK _ _ ?_); clear hK K) | refine wk_reg ?_ | refine wk_seq fun K hK => ?_ | (refine wk_skip (hK _ _ ?_); clear hK K) | (refine wk_label (hK _ _ ?_); clear hK K) | refine wk_scope ?_ | refine wk_block ?_ | refine wk_cond_t rfl ?_ | refine wk_cond_f rfl ?_ | (refine wk_exit ?_; (repeat (refine blockK_other rfl ?_)); refine blockK_same ?_; try ((repeat ((fail_if_success (refine hK _ _ ?_)); clear hK K)); refine hK _ _ ?_; clear hK K)) | (refine a_bin ?_ ?_ <;> intro _ <;> try (exfalso; omega)) | refine a_ld hl ?_ | (refine a_st hl ?_; clear hl; intro _ hl) | refine a_ix (fun _ => ?_) | fail))
      all_goals (refine wk_quiet [0, 1, 2, 3, 4, 5, 6, 7, 8, 9] ?_)
      all_goals repeat' (first | refine q_mov ?_ | refine q_asg ?_ | refine q_fa ?_ | refine q_ext ?_ | refine q_binN ?_ | refine q_notd ?_ | refine q_notb ?_ | refine q_pick_t ?_ | refine q_pick_f ?_ | refine q_nilc ?_ | refine q_skip ?_ | refine q_lens ?_ | refine q_lenv ?_ | refine q_nil ?_ | refine q_ix (fun _ => ?_) | (refine q_bin ?_ ?_ <;> intro _ <;> try (exfalso; omega)) | refine q_ld (fun w_ hw_ => hl.ext hw_) ?_ | refine q_idx (c := 5) i hp ?_ | refine q_all (fun w_ hw_ => hr.ext hw_) ?_ | refine q_all (fun w_ hw_ => (hl.ext hw_).rowL (vs := [.slice da F.length dc]) 0 0 1 rfl) ?_ | refine q_fn (v := .bool false) ihk ?_ | refine q_fn (v := .bool true) ihk ?_ | fail)
      all_goals (intro wm hwm; refine hK _ _ ?_; clear hK K)
      all_goals (repeat' (first | refine a_mov ?_ | refine a_asg ?_ | refine a_binN ?_ | refine a_notd ?_ | refine a_notb ?_ | refine a_nilc ?_ | refine a_fa ?_ | refine a_ext ?_ | refine a_lenv ?_ | refine a_lens ?_ | refine a_pick_t ?_ | refine a_pick_f ?_ | refine a_not ?_ | refine a_nilf ?_ | (refine o_nil (hK _ _ ?_); clear hK K) | refine wk_reg ?_ | refine wk_seq fun K hK => ?_ | (refine wk_skip (hK _ _ ?_); clear hK K) | (refine wk_label (hK _ _ ?_); clear hK K) | refine wk_scope ?_ | refine wk_block ?_ | refine wk_cond_t rfl ?_ | refine wk_cond_f rfl ?_ | (refine wk_exit ?_; (repeat (refine blockK_other rfl ?_)); refine blockK_same ?_; try ((repeat ((fail_if_success (refine hK _ _ ?_)); clear hK K)); refine hK _ _ ?_; clear hK K)) | (refine a_bin ?_ ?_ <;> intro _ <;> try (exfalso; omega)) | refine a_ld hl ?_ | (refine a_st hl ?_; clear hl; intro _ hl) | refine a_ix (fun _ => ?_) | fail))
      all_goals first
        | (refine wk_ret (retQ_tmp1 Tryd.results54 (by decide) rfl (by conv => lhs; whnf) ?_)
           exact ⟨by rw [hv1, hn1 rfl], he.trans hwm⟩)
        | exact o_nil ⟨i + 1, ⟨rfl, rfl, rfl, rfl, rfl, trivial⟩, rfl, ⟨⟨hi1, hn2 rfl⟩, hl.ext hwm⟩, by omega⟩
    · have hke : i = f.kids.length := by omega
      rw [hke, List.take_of_length_le (Nat.le_refl _)] at hpre
      repeat' (first | refine a_mov ?_ | refine a_asg ?_ | refine a_binN ?_ | refine a_notd ?_ | refine a_notb ?_ | refine a_nilc ?_ | refine a_fa ?_ | refine a_ext ?_ | refine a_lenv ?_ | refine a_lens ?_ | refine a_pick_t ?_ | refine a_pick_f ?_ | refine a_not ?_ | refine a_nilf ?_ | (refine o_nil (hK _ _ ?_); clear hK K) | refine wk_reg ?_ | refine wk_seq fun K hK => ?_ | (refine wk_skip (hK _ _ ?_); clear hK K) | (refine wk_label (hK _ _ ?_); clear hK K) | refine wk_scope ?_ | refine wk_block ?_ | refine wk_cond_t rfl ?_ | refine wk_cond_f rfl ?_ | (refine wk_exit ?_; (repeat (refine blockK_other rfl ?_)); refine blockK_same ?_; try ((repeat ((fail_if_success (refine hK _ _ ?_)); clear hK K)); refine hK _ _ ?_; clear hK K)) | (refine a_bin ?_ ?_ <;> intro _ <;> try (exfalso; omega)) | refine a_ld hl ?_ | (refine a_st hl ?_; clear hl; intro _ hl) | refine a_ix (fun _ => ?_) | fail)
      refine wk_ret (retQ_tmp1 Tryd.results54 (by decide) rfl (by conv => lhs; whnf) ?_)
      exact ⟨by rw [hv1, hpre], he⟩
  · have hv1 := hany (.inr h1)
    clear hany hev
    repeat' (first | refine a_mov ?_ | refine a_asg ?_ | refine a_binN ?_ | refine a_notd ?_ | refine a_notb ?_ | refine a_nilc ?_ | refine a_fa ?_ | refine a_ext ?_ | refine a_lenv ?_ | refine a_lens ?_ | refine a_pick_t ?_ | refine a_pick_f ?_ | refine a_not ?_ | refine a_nilf ?_ | (refine o_nil (hK _ _ ?_); clear hK K) | refine wk_reg ?_ | refine wk_seq fun K hK => ?_ | (refine wk_skip (hK _ _ ?_); clear hK K) | (refine wk_label (hK _ _ ?_); clear hK K) | refine wk_scope ?_ | refine wk_block ?_ | refine wk_cond_t rfl ?_ | refine wk_cond_f rfl ?_ | (refine wk_exit ?_; (repeat (refine blockK_other rfl ?_)); refine blockK_same ?_; try ((repeat ((fail_if_success (refine hK _ _ ?_)); clear hK K)); refine hK _ _ ?_; clear hK K)) | (refine a_bin ?_ ?_ <;> intro _ <;> try (exfalso; omega)) | refine a_ld hl ?_ | (refine a_st hl ?_; clear hl; intro _ hl) | refine a_ix (fun _ => ?_) | fail)
    refine wk_loopH [] rfl (fun i : Nat => [(2, .slice ca c.length cc), (3, tv), (4, .pointer (some ⟨b1, 0, none⟩)), (5, .pointer (some ⟨b2, 0, none⟩)), (10, .int .i64 (i : Int))]) (fun i w' => (i ≤ f.kids.length ∧ (f.kids.take i).any (eval F c T) = false) ∧ LH w (fun _ => False) w' [(b2, Obj.cells #[.slice da F.length dc] 27 (0, 0)), (b1, Obj.cells ([.int .i64 (f).op, str (f).name, .int .i64 (f).cmp, .int .i64 (f).num, .slice a f.kids.length cp] : List Value).toArray 24 (0, 0))]) (fun i => f.kids.length - i) 0 ⟨rfl, rfl, rfl, rfl, rfl, trivial⟩ ⟨⟨by omega, rfl⟩, hl⟩ ?_
    clear hl he
    rintro i t wl ⟨⟨hi, hpre⟩, hl⟩
    have he := hl.done
    by_cases hi1 : i < f.kids.length
    · obtain ⟨bk, ok, kv, hp, hr, hkk⟩ := (hk.ext he).at hi1
      have ihk := fun w' (e : Ext wl w') => hkids i hi1 w' kv (he.trans e) (hkk.ext e)
      obtain ⟨hn1, hn2⟩ := any_split hi1 hpre
      clear hkids
      generalize f.kids[i] = k at *
      cases hek : eval F c T k
      all_goals (rw [hek] at ihk hn1 hn2)
      all_goals (repeat' (first | refine a_mov ?_ | refine a_asg ?_ | refine a_binN ?_ | refine a_notd ?_ | refine a_notb ?_ | refine a_nilc ?_ | refine a_fa ?_ | refine a_ext ?_ | refine a_lenv ?_ | refine a_lens ?_ | refine a_pick_t ?_ | refine a_pick_f ?_ | refine a_not ?_ | refine a_nilf ?_ | (refine o_nil (hK _ _ ?_); clear hK K) | refine wk_reg ?_ | refine wk_seq fun K hK => ?_ | (refine wk_skip (hK _ _ ?_); clear hK K) | (refine wk_label (hK _ _ ?_); clear hK K) | refine wk_scope ?_ | refine wk_block ?_ | refine wk_cond_t rfl ?_ | refine wk_cond_f rfl ?_ | (refine wk_exit ?_; (repeat (refine blockK_other rfl ?_)); refine blockK_same ?_; try ((repeat ((fail_if_success (refine hK _ _ ?_)); clear hK K)); refine hK _ _ ?_; clear hK K)) | (refine a_bin ?_ ?_ <;> intro _ <;> try (exfalso; omega)) | refine a_ld hl ?_ | (refine a_st hl ?_; clear hl; intro _ hl) | refine a_ix (fun _ => ?_) | fail))
      all_goals (refine wk_quiet [0, 1, 2, 3, 4, 5, 6, 7, 8] ?_)
      all_goals repeat' (first | refine q_mov ?_ | refine q_asg ?_ | refine q_fa ?_ | refine q_ext ?_ | refine q_binN ?_ | refine q_notd ?_ | refine q_notb ?_ | refine q_pick_t ?_ | refine q_pick_f ?_ | refine q_nilc ?_ | refine q_skip ?_ | refine q_lens ?_ | refine q_lenv ?_ | refine q_nil ?_ | refine q_ix (fun _ => ?_) | (refine q_bin ?_ ?_ <;> intro _ <;> try (exfalso; omega)) | refine q_ld (fun w_ hw_ => hl.ext hw_) ?_ | refine q_idx (c := 5) i hp ?_ | refine q_all (fun w_ hw_ => hr.ext hw_) ?_ | refine q_all (fun w_ hw_ => (hl.ext hw_).rowL (vs := [.slice da F.length dc]) 0 0 1 rfl) ?_ | refine q_fn (v := .bool false) ihk ?_ | refine q_fn (v := .bool true) ihk ?_ | fail)
      all_goals (intro wm hwm; refine hK _ _ ?_; clear hK K)
      all_goals (repeat' (first | refine a_mov ?_ | refine a_asg ?_ | refine a_binN ?_ | refine a_notd ?_ | refine a_notb ?_ | refine a_nilc ?_ | refine a_fa ?_ | refine a_ext ?_ | refine a_lenv ?_ | refine a_lens ?_ | refine a_pick_t ?_ | refine a_pick_f ?_ | refine a_not ?_ | refine a_nilf ?_ | (refine o_nil (hK _ _ ?_); clear hK K) | refine wk_reg ?_ | refine wk_seq fun K hK => ?_ | (refine wk_skip (hK _ _ ?_); clear hK K) | (refine wk_label (hK _ _ ?_); clear hK K) | refine wk_scope ?_ | refine wk_block ?_ | refine wk_cond_t rfl ?_ | refine wk_cond_f rfl ?_ | (refine wk_exit ?_; (repeat (refine blockK_other rfl ?_)); refine blockK_same ?_; try ((repeat ((fail_if_success (refine hK _ _ ?_)); clear hK K)); refine hK _ _ ?_; clear hK K)) | (refine a_bin ?_ ?_ <;> intro _ <;> try (exfalso; omega)) | refine a_ld hl ?_ | (refine a_st hl ?_; clear hl; intro _ hl) | refine a_ix (fun _ => ?_) | fail))
      all_goals first
        | (refine wk_ret (retQ_tmp1 Tryd.results54 (by decide) rfl (by conv => lhs; whnf) ?_)
           exact ⟨by rw [hv1, hn1 rfl], he.trans hwm⟩)
        | exact o_nil ⟨i + 1, ⟨rfl, rfl, rfl, rfl, rfl, trivial⟩, rfl, ⟨⟨hi1, hn2 rfl⟩, hl.ext hwm⟩, by omega⟩
    · have hke : i = f.kids.length := by omega
      rw [hke, List.take_of_length_le (Nat.le_refl _)] at hpre
      repeat' (first | refine a_mov ?_ | refine a_asg ?_ | refine a_binN ?_ | refine a_notd ?_ | refine a_notb ?_ | refine a_nilc ?_ | refine a_fa ?_ | refine a_ext ?_ | refine a_lenv ?_ | refine a_lens ?_ | refine a_pick_t ?_ | refine a_pick_f ?_ | refine a_not ?_ | refine a_nilf ?_ | (refine o_nil (hK _ _ ?_); clear hK K) | refine wk_reg ?_ | refine wk_seq fun K hK => ?_ | (refine wk_skip (hK _ _ ?_); clear hK K) | (refine wk_label (hK _ _ ?_); clear hK K) | refine wk_scope ?_ | refine wk_block ?_ | refine wk_cond_t rfl ?_ | refine wk_cond_f rfl ?_ | (refine wk_exit ?_; (repeat (refine blockK_other rfl ?_)); refine blockK_same ?_; try ((repeat ((fail_if_success (refine hK _ _ ?_)); clear hK K)); refine hK _ _ ?_; clear hK K)) | (refine a_bin ?_ ?_ <;> intro _ <;> try (exfalso; omega)) | refine a_ld hl ?_ | (refine a_st hl ?_; clear hl; intro _ hl) | refine a_ix (fun _ => ?_) | fail)
      refine wk_ret (retQ_tmp1 Tryd.results54 (by decide) rfl (by conv => lhs; whnf) ?_)
      exact ⟨by rw [hv1, hpre], he⟩
  · have hv1 := hany (.inl h1)
    have h0 : f.kids = [] := List.eq_nil_of_length_eq_zero h1.2
    clear hany hev
    repeat' (first | refine a_mov ?_ | refine a_asg ?_ | refine a_binN ?_ | refine a_notd ?_ | refine a_notb ?_ | refine a_nilc ?_ | refine a_fa ?_ | refine a_ext ?_ | refine a_lenv ?_ | refine a_lens ?_ | refine a_pick_t ?_ | refine a_pick_f ?_ | refine a_not ?_ | refine a_nilf ?_ | (refine o_nil (hK _ _ ?_); clear hK K) | refine wk_reg ?_ | refine wk_seq fun K hK => ?_ | (refine wk_skip (hK _ _ ?_); clear hK K) | (refine wk_label (hK _ _ ?_); clear hK K) | refine wk_scope ?_ | refine wk_block ?_ | refine wk_cond_t rfl ?_ | refine wk_cond_f rfl ?_ | (refine wk_exit ?_; (repeat (refine blockK_other rfl ?_)); refine blockK_same ?_; try ((repeat ((fail_if_success (refine hK _ _ ?_)); clear hK K)); refine hK _ _ ?_; clear hK K)) | (refine a_bin ?_ ?_ <;> intro _ <;> try (exfalso; omega)) | refine a_ld hl ?_ | (refine a_st hl ?_; clear hl; intro _ hl) | refine a_ix (fun _ => ?_) | fail)
    refine wk_loopH [] rfl (fun i : Nat => [(2, .slice ca c.length cc), (3, tv), (4, .pointer (some ⟨b1, 0, none⟩)), (5, .pointer (some ⟨b2, 0, none⟩)), (10, .int .i64 (i : Int))]) (fun i w' => (i ≤ f.kids.length ∧ (f.kids.take i).any (eval F c T) = false) ∧ LH w (fun _ => False) w' [(b2, Obj.cells #[.slice da F.length dc] 27 (0, 0)), (b1, Obj.cells ([.int .i64 (f).op, str (f).name, .int .i64 (f).cmp, .int .i64 (f).num, .slice a f.kids.length cp] : List Value).toArray 24 (0, 0))]) (fun i => f.kids.length - i) 0 ⟨rfl, rfl, rfl, rfl, rfl, trivial⟩ ⟨⟨by omega, rfl⟩, hl⟩ ?_
    clear hl he
    rintro i t wl ⟨⟨hi, hpre⟩, hl⟩
    have he := hl.done
    by_cases hi1 : i < f.kids.length
    · obtain ⟨bk, ok, kv, hp, hr, hkk⟩ := (hk.ext he).at hi1
      have ihk := fun w' (e : Ext wl w') => hkids i hi1 w' kv (he.trans e) (hkk.ext e)
      obtain ⟨hn1, hn2⟩ := any_split hi1 hpre
      clear hkids
      generalize f.kids[i] = k at *
      cases hek : eval F c T k
      all_goals (rw [hek] at ihk hn1 hn2)
      all_goals (repeat' (first | refine a_mov ?_ | refine a_asg ?_ | refine a_binN ?_ | refine a_notd ?_ | refine a_notb ?_ | refine a_nilc ?_ | refine a_fa ?_ | refine a_ext ?_ | refine a_lenv ?_ | refine a_lens ?_ | refine a_pick_t ?_ | refine a_pick_f ?_ | refine a_not ?_ | refine a_nilf ?_ | (refine o_nil (hK _ _ ?_); clear hK K) | refine wk_reg ?_ | refine wk_seq fun K hK => ?_ | (refine wk_skip (hK _ _ ?_); clear hK K) | (refine wk_label (hK _ _ ?_); clear hK K) | refine wk_scope ?_ | refine wk_block ?_ | refine wk_cond_t rfl ?_ | refine wk_cond_f rfl ?_ | (refine wk_exit ?_; (repeat (refine blockK_other rfl ?_)); refine blockK_same ?_; try ((repeat ((fail_if_success (refine hK _ _ ?_)); clear hK K)); refine hK _ _ ?_; clear hK K)) | (refine a_bin ?_ ?_ <;> intro _ <;> try (exfalso; omega)) | refine a_ld hl ?_ | (refine a_st hl ?_; clear hl; intro _ hl) | refine a_ix (fun _ => ?_) | fail))
      all_goals (refine wk_quiet [0, 1, 2, 3, 4, 5, 6, 7, 8] ?_)
      all_goals repeat' (first | refine q_mov ?_ | refine q_asg ?_ | refine q_fa ?_ | refine q_ext ?_ | refine q_binN ?_ | refine q_notd ?_ | refine q_notb ?_ | refine q_pick_t ?_ | refine q_pick_f ?_ | refine q_nilc ?_ | refine q_skip ?_ | refine q_lens ?_ | refine q_lenv ?_ | refine q_nil ?_ | refine q_ix (fun _ => ?_) | (refine q_bin ?_ ?_ <;> intro _ <;> try (exfalso; omega)) | refine q_ld (fun w_ hw_ => hl.ext hw_) ?_ | refine q_idx (c := 5) i hp ?_ | refine q_all (fun w_ hw_ => hr.ext hw_) ?_ | refine q_all (fun w_ hw_ => (hl.ext hw_).rowL (vs := [.slice da F.length dc]) 0 0 1 rfl) ?_ | refine q_fn (v := .bool false) ihk ?_ | refine q_fn (v := .bool true) ihk ?_ | fail)
      all_goals (intro wm hwm; refine hK _ _ ?_; clear hK K)
      all_goals (repeat' (first | refine a_mov ?_ | refine a_asg ?_ | refine a_binN ?_ | refine a_notd ?_ | refine a_notb ?_ | refine a_nilc ?_ | refine a_fa ?_ | refine a_ext ?_ | refine a_lenv ?_ | refine a_lens ?_ | refine a_pick_t ?_ | refine a_pick_f ?_ | refine a_not ?_ | refine a_nilf ?_ | (refine o_nil (hK _ _ ?_); clear hK K) | refine wk_reg ?_ | refine wk_seq fun K hK => ?_ | (refine wk_skip (hK _ _ ?_); clear hK K) | (refine wk_label (hK _ _ ?_); clear hK K) | refine wk_scope ?_ | refine wk_block ?_ | refine wk_cond_t rfl ?_ | refine wk_cond_f rfl ?_ | (refine wk_exit ?_; (repeat (refine blockK_other rfl ?_)); refine blockK_same ?_; try ((repeat ((fail_if_success (refine hK _ _ ?_)); clear hK K)); refine hK _ _ ?_; clear hK K)) | (refine a_bin ?_ ?_ <;> intro _ <;> try (exfalso; omega)) | refine a_ld hl ?_ | (refine a_st hl ?_; clear hl; intro _ hl) | refine a_ix (fun _ => ?_) | fail))
      all_goals first
        | (refine wk_ret (retQ_tmp1 Tryd.results54 (by decide) rfl (by conv => lhs; whnf) ?_)
           exact ⟨by rw [hv1, hn1 rfl], he.trans hwm⟩)
        | exact o_nil ⟨i + 1, ⟨rfl, rfl, rfl, rfl, rfl, trivial⟩, rfl, ⟨⟨hi1, hn2 rfl⟩, hl.ext hwm⟩, by omega⟩
    · have hke : i = f.kids.length := by omega
      rw [hke, List.take_of_length_le (Nat.le_refl _)] at hpre
      repeat' (first | refine a_mov ?_ | refine a_asg ?_ | refine a_binN ?_ | refine a_notd ?_ | refine a_notb ?_ | refine a_nilc ?_ | refine a_fa ?_ | refine a_ext ?_ | refine a_lenv ?_ | refine a_lens ?_ | refine a_pick_t ?_ | refine a_pick_f ?_ | refine a_not ?_ | refine a_nilf ?_ | (refine o_nil (hK _ _ ?_); clear hK K) | refine wk_reg ?_ | refine wk_seq fun K hK => ?_ | (refine wk_skip (hK _ _ ?_); clear hK K) | (refine wk_label (hK _ _ ?_); clear hK K) | refine wk_scope ?_ | refine wk_block ?_ | refine wk_cond_t rfl ?_ | refine wk_cond_f rfl ?_ | (refine wk_exit ?_; (repeat (refine blockK_other rfl ?_)); refine blockK_same ?_; try ((repeat ((fail_if_success (refine hK _ _ ?_)); clear hK K)); refine hK _ _ ?_; clear hK K)) | (refine a_bin ?_ ?_ <;> intro _ <;> try (exfalso; omega)) | refine a_ld hl ?_ | (refine a_st hl ?_; clear hl; intro _ hl) | refine a_ix (fun _ => ?_) | fail)
      refine wk_ret (retQ_tmp1 Tryd.results54 (by decide) rfl (by conv => lhs; whnf) ?_)
      exact ⟨by rw [hv1, hpre], he⟩
end Go.Proofs

/-
  Formulas: the reference's Holds.
-/
set_option linter.unusedVariables false
set_option linter.unusedSimpArgs false
set_option linter.unnecessarySimpa false
set_option maxRecDepth 10000
namespace Go.Proofs
open Go Go.Pd Go.Lexs Go.Fin Go.Fo
attribute [local irreducible] OpsL W RetQ OpsQ OpsC

theorem checkE_right {F : List Fact} {f : Fm} (h : checkE F (fun _ => true) f = 0) : Right F f := by
  unfold checkE at h
  split at h
  · cases h
  · exact h

set_option maxHeartbeats 2000000 in
theorem refHolds_calls (F : List Fact) (c : List Int) (T : List (List UInt8)) (hF : F.length ≤ 9223372036854775806) (hC : c.length ≤ 9223372036854775806) (hT : T.length ≤ 9223372036854775806)
    (f : Fm) (w : World) (G : Nat → Prop) (kv dv cv tv : Value) (hk : KR w G f.kids kv) (hs : Short f.kids) (ht : Texty (pre f)) (hcn : cnt f ≤ 1000000) (hd : Sl w dv 4 (factsL F)) (hc : Sl w cv 1 (intsL c)) (hv : Sl w tv 1 (strsL T)) :
    Calls Tryd.prog 26 #[.agg (fmL f kv).toArray, .agg #[dv], cv, tv] w (fun e w' => ∃ x, e = .returned x ∧ x = .bool (decide (checkE F (fun _ => true) f = 0) && (fitsC F c && eval F c T f)) ∧ Ext w w') := by
  obtain ⟨a, cp, rfl, -⟩ := hk.shape
  obtain ⟨da, dc, rfl, -⟩ := hd.shape (factsL_len F) (by omega)
  obtain ⟨ca, cc, rfl, -⟩ := hc.shape (intsL_len c) (by omega)
  refine calls_of Tryd.func26 rfl Tryd.ntmps26 rfl ?_
  refine wk_seq fun K hK => ?_
  refine wk_reg ?_
  refine o_box (LH.start w (fun _ => False)) [.int .i64 (f).op, str (f).name, .int .i64 (f).cmp, .int .i64 (f).num, .slice a f.kids.length cp] rfl rfl rfl ?_
  intro b1 w1 hb1 hl
  refine o_box hl [.slice da F.length dc] rfl rfl rfl ?_
  clear hl
  intro b2 w2 hb2 hl
  have he := hl.done
  repeat' (first | refine a_mov ?_ | refine a_asg ?_ | refine a_binN ?_ | refine a_notd ?_ | refine a_notb ?_ | refine a_nilc ?_ | refine a_fa ?_ | refine a_ext ?_ | refine a_lenv ?_ | refine a_lens ?_ | refine a_pick_t ?_ | refine a_pick_f ?_ | refine a_not ?_ | refine a_nilf ?_ | (refine o_nil (hK _ _ ?_); clear hK K) | refine wk_reg ?_ | refine wk_seq fun K hK => ?_ | (refine wk_skip (hK _ _ ?_); clear hK K) | (refine wk_label (hK _ _ ?_); clear hK K) | refine wk_scope ?_ | refine wk_block ?_ | refine wk_cond_t rfl ?_ | refine wk_cond_f rfl ?_ | (refine wk_exit ?_; (repeat (refine blockK_other rfl ?_)); refine blockK_same ?_; try ((repeat ((fail_if_success (refine hK _ _ ?_)); clear hK K)); refine hK _ _ ?_; clear hK K)) | (refine a_bin ?_ ?_ <;> intro _ <;> try (exfalso; omega)) | refine a_ld hl ?_ | (refine a_st hl ?_; clear hl; intro _ hl) | refine a_ix (fun _ => ?_) | refine a_all (hl.rowL (vs := [.int .i64 (f).op, str (f).name, .int .i64 (f).cmp, .int .i64 (f).num, .slice a f.kids.length cp]) 1 0 5 rfl) ?_ | refine a_all (hl.rowL (vs := [.slice da F.length dc]) 0 0 1 rfl) ?_)
  refine a_fn (refFormedAll_calls F hF f w2 G (.slice a f.kids.length cp) (.slice da F.length dc) (hk.ext he) hs ht (hd.ext he) hcn) ?_
  rintro _ w3 ⟨rfl, he3⟩
  replace hl := hl.ext he3
  clear he he3
  have he := hl.done
  by_cases hck : checkE F (fun _ => true) f = 0
  · rw [decide_eq_true hck]
    repeat' (first | refine a_mov ?_ | refine a_asg ?_ | refine a_binN ?_ | refine a_notd ?_ | refine a_notb ?_ | refine a_nilc ?_ | refine a_fa ?_ | refine a_ext ?_ | refine a_lenv ?_ | refine a_lens ?_ | refine a_pick_t ?_ | refine a_pick_f ?_ | refine a_not ?_ | refine a_nilf ?_ | (refine o_nil (hK _ _ ?_); clear hK K) | refine wk_reg ?_ | refine wk_seq fun K hK => ?_ | (refine wk_skip (hK _ _ ?_); clear hK K) | (refine wk_label (hK _ _ ?_); clear hK K) | refine wk_scope ?_ | refine wk_block ?_ | refine wk_cond_t rfl ?_ | refine wk_cond_f rfl ?_ | (refine wk_exit ?_; (repeat (refine blockK_other rfl ?_)); refine blockK_same ?_; try ((repeat ((fail_if_success (refine hK _ _ ?_)); clear hK K)); refine hK _ _ ?_; clear hK K)) | (refine a_bin ?_ ?_ <;> intro _ <;> try (exfalso; omega)) | refine a_ld hl ?_ | (refine a_st hl ?_; clear hl; intro _ hl) | refine a_ix (fun _ => ?_) | refine a_all (hl.rowL (vs := [.slice da F.length dc]) 0 0 1 rfl) ?_)
    refine a_fn (refFits_calls (hd.ext he) (hc.ext he) hF hC) ?_
    rintro _ w4 ⟨rfl, he4⟩
    replace hl := hl.ext he4
    clear he he4
    have he := hl.done
    cases hfc : fitsC F c
    · repeat' (first | refine a_mov ?_ | refine a_asg ?_ | refine a_binN ?_ | refine a_notd ?_ | refine a_notb ?_ | refine a_nilc ?_ | refine a_fa ?_ | refine a_ext ?_ | refine a_lenv ?_ | refine a_lens ?_ | refine a_pick_t ?_ | refine a_pick_f ?_ | refine a_not ?_ | refine a_nilf ?_ | (refine o_nil (hK _ _ ?_); clear hK K) | refine wk_reg ?_ | refine wk_seq fun K hK => ?_ | (refine wk_skip (hK _ _ ?_); clear hK K) | (refine wk_label (hK _ _ ?_); clear hK K) | refine wk_scope ?_ | refine wk_block ?_ | refine wk_cond_t rfl ?_ | refine wk_cond_f rfl ?_ | (refine wk_exit ?_; (repeat (refine blockK_other rfl ?_)); refine blockK_same ?_; try ((repeat ((fail_if_success (refine hK _ _ ?_)); clear hK K)); refine hK _ _ ?_; clear hK K)) | (refine a_bin ?_ ?_ <;> intro _ <;> try (exfalso; omega)) | refine a_ld hl ?_ | (refine a_st hl ?_; clear hl; intro _ hl) | refine a_ix (fun _ => ?_) | fail)
      refine wk_ret (retQ_tmp1 Tryd.results26 (by decide) rfl (by conv => lhs; whnf) ?_)
      exact ⟨by rw [hfc]; simp, he⟩
    · repeat' (first | refine a_mov ?_ | refine a_asg ?_ | refine a_binN ?_ | refine a_notd ?_ | refine a_notb ?_ | refine a_nilc ?_ | refine a_fa ?_ | refine a_ext ?_ | refine a_lenv ?_ | refine a_lens ?_ | refine a_pick_t ?_ | refine a_pick_f ?_ | refine a_not ?_ | refine a_nilf ?_ | (refine o_nil (hK _ _ ?_); clear hK K) | refine wk_reg ?_ | refine wk_seq fun K hK => ?_ | (refine wk_skip (hK _ _ ?_); clear hK K) | (refine wk_label (hK _ _ ?_); clear hK K) | refine wk_scope ?_ | refine wk_block ?_ | refine wk_cond_t rfl ?_ | refine wk_cond_f rfl ?_ | (refine wk_exit ?_; (repeat (refine blockK_other rfl ?_)); refine blockK_same ?_; try ((repeat ((fail_if_success (refine hK _ _ ?_)); clear hK K)); refine hK _ _ ?_; clear hK K)) | (refine a_bin ?_ ?_ <;> intro _ <;> try (exfalso; omega)) | refine a_ld hl ?_ | (refine a_st hl ?_; clear hl; intro _ hl) | refine a_ix (fun _ => ?_) | refine a_all (hl.rowL (vs := [.int .i64 (f).op, str (f).name, .int .i64 (f).cmp, .int .i64 (f).num, .slice a f.kids.length cp]) 1 0 5 rfl) ?_ | refine a_all (hl.rowL (vs := [.slice da F.length dc]) 0 0 1 rfl) ?_)
      refine a_fn (refValue_calls F c T hF hT ((fitsC_iff F c).1 hfc).1 f w4 G (.slice a f.kids.length cp) (.slice da F.length dc) _ tv (checkE_right hck) (hk.ext he) hs (hd.ext he) (hc.ext he) (hv.ext he)) ?_
      rintro _ w5 ⟨rfl, he5⟩
      repeat' (first | refine a_mov ?_ | refine a_asg ?_ | refine a_binN ?_ | refine a_notd ?_ | refine a_notb ?_ | refine a_nilc ?_ | refine a_fa ?_ | refine a_ext ?_ | refine a_lenv ?_ | refine a_lens ?_ | refine a_pick_t ?_ | refine a_pick_f ?_ | refine a_not ?_ | refine a_nilf ?_ | (refine o_nil (hK _ _ ?_); clear hK K) | refine wk_reg ?_ | refine wk_seq fun K hK => ?_ | (refine wk_skip (hK _ _ ?_); clear hK K) | (refine wk_label (hK _ _ ?_); clear hK K) | refine wk_scope ?_ | refine wk_block ?_ | refine wk_cond_t rfl ?_ | refine wk_cond_f rfl ?_ | (refine wk_exit ?_; (repeat (refine blockK_other rfl ?_)); refine blockK_same ?_; try ((repeat ((fail_if_success (refine hK _ _ ?_)); clear hK K)); refine hK _ _ ?_; clear hK K)) | (refine a_bin ?_ ?_ <;> intro _ <;> try (exfalso; omega)) | refine a_ld hl ?_ | (refine a_st hl ?_; clear hl; intro _ hl) | refine a_ix (fun _ => ?_) | fail)
      refine wk_ret (retQ_tmp1 Tryd.results26 (by decide) rfl (by conv => lhs; whnf) ?_)
      exact ⟨by rw [hfc, decide_eq_true hck]; simp, he.trans he5⟩
  · rw [decide_eq_false hck]
    repeat' (first | refine a_mov ?_ | refine a_asg ?_ | refine a_binN ?_ | refine a_notd ?_ | refine a_notb ?_ | refine a_nilc ?_ | refine a_fa ?_ | refine a_ext ?_ | refine a_lenv ?_ | refine a_lens ?_ | refine a_pick_t ?_ | refine a_pick_f ?_ | refine a_not ?_ | refine a_nilf ?_ | (refine o_nil (hK _ _ ?_); clear hK K) | refine wk_reg ?_ | refine wk_seq fun K hK => ?_ | (refine wk_skip (hK _ _ ?_); clear hK K) | (refine wk_label (hK _ _ ?_); clear hK K) | refine wk_scope ?_ | refine wk_block ?_ | refine wk_cond_t rfl ?_ | refine wk_cond_f rfl ?_ | (refine wk_exit ?_; (repeat (refine blockK_other rfl ?_)); refine blockK_same ?_; try ((repeat ((fail_if_success (refine hK _ _ ?_)); clear hK K)); refine hK _ _ ?_; clear hK K)) | (refine a_bin ?_ ?_ <;> intro _ <;> try (exfalso; omega)) | refine a_ld hl ?_ | (refine a_st hl ?_; clear hl; intro _ hl) | refine a_ix (fun _ => ?_) | fail)
    refine wk_ret (retQ_tmp1 Tryd.results26 (by decide) rfl (by conv => lhs; whnf) ?_)
    exact ⟨by rw [decide_eq_false hck]; simp, he⟩
end Go.Proofs
