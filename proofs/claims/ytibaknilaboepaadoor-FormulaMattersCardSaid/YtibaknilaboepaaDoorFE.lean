/-
  Formulas: are two lists of texts one (the reference's Names).
-/
import Derived.Test.YtibaknilaboepaaDoorFA
set_option linter.unusedVariables false
set_option linter.unusedSimpArgs false
set_option linter.unnecessarySimpa false
set_option maxRecDepth 10000
namespace Go.Proofs
open Go Go.Pd Go.Lexs Go.Fin Go.Fo
attribute [local irreducible] OpsL W RetQ OpsQ OpsC

set_option maxHeartbeats 2000000 in
theorem refNames_calls {T U : List (List UInt8)} {tv uv : Value} {w : World} (ht : Sl w tv 1 (strsL T)) (hu : Sl w uv 1 (strsL U)) (hT : T.length ≤ 9223372036854775806) (hU : U.length ≤ 9223372036854775806) :
    Calls Tryd.prog 17 #[tv, uv] w (fun e w' => ∃ x, e = .returned x ∧ x = .bool (decide (T = U)) ∧ Ext w w') := by
  obtain ⟨pa, ca, rfl, -⟩ := ht.shape (strsL_len T) (by omega)
  obtain ⟨pb, cb, rfl, -⟩ := hu.shape (strsL_len U) (by omega)
  refine calls_of Tryd.func17 rfl Tryd.ntmps17 rfl ?_
  repeat' (first | refine a_mov ?_ | refine a_asg ?_ | refine a_binN ?_ | refine a_notd ?_ | refine a_notb ?_ | refine a_nilc ?_ | refine a_fa ?_ | refine a_ext ?_ | refine a_lenv ?_ | refine a_lens ?_ | refine a_pick_t ?_ | refine a_pick_f ?_ | refine a_not ?_ | refine a_nilf ?_ | (refine o_nil (hK _ _ ?_); clear hK K) | refine wk_reg ?_ | refine wk_seq fun K hK => ?_ | (refine wk_skip (hK _ _ ?_); clear hK K) | (refine wk_label (hK _ _ ?_); clear hK K) | refine wk_scope ?_ | refine wk_block ?_ | refine wk_cond_t rfl ?_ | refine wk_cond_f rfl ?_ | (refine wk_exit ?_; (repeat (refine blockK_other rfl ?_)); refine blockK_same ?_; try ((repeat ((fail_if_success (refine hK _ _ ?_)); clear hK K)); refine hK _ _ ?_; clear hK K)) | (refine a_bin ?_ ?_ <;> intro _ <;> try (exfalso; omega)) | refine a_ld hl ?_ | (refine a_st hl ?_; clear hl; intro _ hl) | refine a_ix (fun _ => ?_) | fail)
  · refine wk_ret (retQ_tmp1 Tryd.results17 (by decide) rfl (by conv => lhs; whnf) ?_)
    refine ⟨?_, .refl _ _⟩
    rw [decide_eq_false]
    rintro rfl
    omega
  have hab : T.length = U.length := by omega
  refine wk_loopH [] rfl (fun k : Nat => [(0, .slice pa T.length ca), (1, .slice pb U.length cb), (5, .int .i64 (k : Int))]) (fun k w' => (k ≤ T.length ∧ T.take k = U.take k) ∧ Ext w w') (fun k => T.length - k) 0 ⟨rfl, rfl, rfl, trivial⟩ ⟨⟨by omega, by simp⟩, .refl _ _⟩ ?_
  rintro k t w2 ⟨⟨hk, hpre⟩, he⟩
  by_cases hk1 : k < T.length
  · have hk2 : k < U.length := by omega
    obtain ⟨b, o, hp, hr⟩ := Sl.text (ht.ext he) rfl hk1
    obtain ⟨b', o', hp', hr'⟩ := Sl.text (hu.ext he) rfl hk2
    have hnx := take_eq hk1 hk2 hpre
    have hne := ne_at hk1 hk2
    generalize T[k] = x at *
    generalize U[k] = y at *
    repeat' (first | refine a_mov ?_ | refine a_asg ?_ | refine a_binN ?_ | refine a_notd ?_ | refine a_notb ?_ | refine a_nilc ?_ | refine a_fa ?_ | refine a_ext ?_ | refine a_lenv ?_ | refine a_lens ?_ | refine a_pick_t ?_ | refine a_pick_f ?_ | refine a_not ?_ | refine a_nilf ?_ | (refine o_nil (hK _ _ ?_); clear hK K) | refine wk_reg ?_ | refine wk_seq fun K hK => ?_ | (refine wk_skip (hK _ _ ?_); clear hK K) | (refine wk_label (hK _ _ ?_); clear hK K) | refine wk_scope ?_ | refine wk_block ?_ | refine wk_cond_t rfl ?_ | refine wk_cond_f rfl ?_ | (refine wk_exit ?_; (repeat (refine blockK_other rfl ?_)); refine blockK_same ?_; try ((repeat ((fail_if_success (refine hK _ _ ?_)); clear hK K)); refine hK _ _ ?_; clear hK K)) | (refine a_bin ?_ ?_ <;> intro _ <;> try (exfalso; omega)) | refine a_ld hl ?_ | (refine a_st hl ?_; clear hl; intro _ hl) | refine a_ix (fun _ => ?_) | fail)
    refine wk_quiet [0, 1, 2, 3, 4, 5, 6, 7, 8] ?_
    repeat' (first | refine q_mov ?_ | refine q_asg ?_ | refine q_fa ?_ | refine q_ext ?_ | refine q_binN ?_ | refine q_notd ?_ | refine q_notb ?_ | refine q_pick_t ?_ | refine q_pick_f ?_ | refine q_nilc ?_ | refine q_skip ?_ | refine q_lens ?_ | refine q_lenv ?_ | refine q_nil ?_ | refine q_ix (fun _ => ?_) | (refine q_bin ?_ ?_ <;> intro _ <;> try (exfalso; omega)) | refine q_idx (c := 1) k hp ?_ | refine q_idx (c := 1) k hp' ?_ | refine q_row (fun w_ hw_ => hr.ext hw_) ?_ | refine q_row (fun w_ hw_ => hr'.ext hw_) ?_ | (refine q_nesT (a := x) (b := y) rfl rfl rfl rfl ?_ ?_ <;> intro hid) | fail)
    all_goals (intro wm hwm; refine hK _ _ ?_; clear hK K)
    all_goals (repeat' (first | refine a_mov ?_ | refine a_asg ?_ | refine a_binN ?_ | refine a_notd ?_ | refine a_notb ?_ | refine a_nilc ?_ | refine a_fa ?_ | refine a_ext ?_ | refine a_lenv ?_ | refine a_lens ?_ | refine a_pick_t ?_ | refine a_pick_f ?_ | refine a_not ?_ | refine a_nilf ?_ | (refine o_nil (hK _ _ ?_); clear hK K) | refine wk_reg ?_ | refine wk_seq fun K hK => ?_ | (refine wk_skip (hK _ _ ?_); clear hK K) | (refine wk_label (hK _ _ ?_); clear hK K) | refine wk_scope ?_ | refine wk_block ?_ | refine wk_cond_t rfl ?_ | refine wk_cond_f rfl ?_ | (refine wk_exit ?_; (repeat (refine blockK_other rfl ?_)); refine blockK_same ?_; try ((repeat ((fail_if_success (refine hK _ _ ?_)); clear hK K)); refine hK _ _ ?_; clear hK K)) | (refine a_bin ?_ ?_ <;> intro _ <;> try (exfalso; omega)) | refine a_ld hl ?_ | (refine a_st hl ?_; clear hl; intro _ hl) | refine a_ix (fun _ => ?_) | fail))
    all_goals first
      | (refine wk_ret (retQ_tmp1 Tryd.results17 (by decide) rfl (by conv => lhs; whnf) ?_)
         exact ⟨by rw [decide_eq_false (hne hid)], he.trans hwm⟩)
      | exact o_nil ⟨k + 1, ⟨rfl, rfl, rfl, trivial⟩, rfl, ⟨⟨hk1, hnx hid⟩, he.trans hwm⟩, by omega⟩
  · have hke : k = T.length := by omega
    rw [hke, List.take_of_length_le (Nat.le_refl _), hab, List.take_of_length_le (Nat.le_refl _)] at hpre
    repeat' (first | refine a_mov ?_ | refine a_asg ?_ | refine a_binN ?_ | refine a_notd ?_ | refine a_notb ?_ | refine a_nilc ?_ | refine a_fa ?_ | refine a_ext ?_ | refine a_lenv ?_ | refine a_lens ?_ | refine a_pick_t ?_ | refine a_pick_f ?_ | refine a_not ?_ | refine a_nilf ?_ | (refine o_nil (hK _ _ ?_); clear hK K) | refine wk_reg ?_ | refine wk_seq fun K hK => ?_ | (refine wk_skip (hK _ _ ?_); clear hK K) | (refine wk_label (hK _ _ ?_); clear hK K) | refine wk_scope ?_ | refine wk_block ?_ | refine wk_cond_t rfl ?_ | refine wk_cond_f rfl ?_ | (refine wk_exit ?_; (repeat (refine blockK_other rfl ?_)); refine blockK_same ?_; try ((repeat ((fail_if_success (refine hK _ _ ?_)); clear hK K)); refine hK _ _ ?_; clear hK K)) | (refine a_bin ?_ ?_ <;> intro _ <;> try (exfalso; omega)) | refine a_ld hl ?_ | (refine a_st hl ?_; clear hl; intro _ hl) | refine a_ix (fun _ => ?_) | fail)
    refine wk_ret (retQ_tmp1 Tryd.results17 (by decide) rfl (by conv => lhs; whnf) ?_)
    exact ⟨by rw [decide_eq_true hpre], he⟩
end Go.Proofs

/-
  Formulas: how often is a term named; is a formula small (the reference).
-/
set_option linter.unusedVariables false
set_option linter.unusedSimpArgs false
set_option linter.unnecessarySimpa false
set_option maxRecDepth 10000
namespace Go.Fo
open Go.Lexs Go.Fin
mutual
def tms (s : List UInt8) : Fm → Nat
  | .node o n _ _ ks => (if o = 4 ∧ n = s then 1 else 0) + tmsL s ks
def tmsL (s : List UInt8) : List Fm → Nat
  | [] => 0
  | k :: ks => tms s k + tmsL s ks
end
theorem tms_eq (s : List UInt8) (f : Fm) : tms s f = (if f.op = 4 ∧ f.name = s then 1 else 0) + tmsL s f.kids := by cases f; rfl
theorem tmsL_snoc (s : List UInt8) (a : List Fm) (k : Fm) : tmsL s (a ++ [k]) = tmsL s a + tms s k := by
  induction a with
  | nil => simp [tmsL]
  | cons x a ih => simp only [List.cons_append, tmsL, ih]; omega
theorem tmsL_le_of {s : List UInt8} {ks : List Fm} (h : ∀ k ∈ ks, tms s k ≤ cnt k) : tmsL s ks ≤ cntL ks := by
  induction ks with
  | nil => simp [tmsL]
  | cons k ks ih =>
    have h1 := h k List.mem_cons_self
    have h2 := ih fun x hx => h x (List.mem_cons_of_mem _ hx)
    simp only [tmsL, cntL]; omega
theorem tms_le (s : List UInt8) : ∀ f : Fm, tms s f ≤ cnt f := Fm.ind fun f ih => by
  rw [tms_eq, cnt_eq]
  have := tmsL_le_of ih
  split <;> omega
theorem tmsL_le (s : List UInt8) (ks : List Fm) : tmsL s ks ≤ cntL ks := tmsL_le_of fun k _ => tms_le s k
end Go.Fo

namespace Go.Proofs
open Go Go.Pd Go.Lexs Go.Fin Go.Fo
attribute [local irreducible] OpsL W RetQ OpsQ OpsC

set_option maxHeartbeats 2000000 in
theorem refTimes_calls (s : List UInt8) : ∀ (f : Fm) (w : World) (G : Nat → Prop) (kv : Value), KR w G f.kids kv → cnt f ≤ 1000000 → Calls Tryd.prog 34 #[.agg (fmL f kv).toArray, str s] w (fun e w' => ∃ x, e = .returned x ∧ x = .int .i64 (tms s f : Nat) ∧ Ext w w') := by
  refine Fm.ind ?_
  intro f ih w G kv hk hc
  obtain ⟨a, c, rfl, -⟩ := hk.shape
  have hcl := len_cntL f.kids
  have hce := cnt_eq f
  have hte := tms_eq s f
  refine calls_of Tryd.func34 rfl Tryd.ntmps34 rfl ?_
  refine wk_seq fun K hK => ?_
  refine wk_reg ?_
  refine o_box (LH.start w (fun _ => False)) [.int .i64 (f).op, str (f).name, .int .i64 (f).cmp, .int .i64 (f).num, .slice a f.kids.length c] rfl rfl rfl ?_
  intro b w1 hb hl
  repeat' (first | refine a_mov ?_ | refine a_asg ?_ | refine a_binN ?_ | refine a_notd ?_ | refine a_notb ?_ | refine a_nilc ?_ | refine a_fa ?_ | refine a_ext ?_ | refine a_lenv ?_ | refine a_lens ?_ | refine a_pick_t ?_ | refine a_pick_f ?_ | refine a_not ?_ | refine a_nilf ?_ | (refine o_nil (hK _ _ ?_); clear hK K) | refine wk_reg ?_ | refine wk_seq fun K hK => ?_ | (refine wk_skip (hK _ _ ?_); clear hK K) | (refine wk_label (hK _ _ ?_); clear hK K) | refine wk_scope ?_ | refine wk_block ?_ | refine wk_cond_t rfl ?_ | refine wk_cond_f rfl ?_ | (refine wk_exit ?_; (repeat (refine blockK_other rfl ?_)); refine blockK_same ?_; try ((repeat ((fail_if_success (refine hK _ _ ?_)); clear hK K)); refine hK _ _ ?_; clear hK K)) | (refine a_bin ?_ ?_ <;> intro _ <;> try (exfalso; omega)) | refine a_ld hl ?_ | (refine a_st hl ?_; clear hl; intro _ hl) | refine a_ix (fun _ => ?_) | (refine o_eqsT (a := f.name) (b := s) rfl rfl rfl ?_ ?_ <;> intro hid))
  all_goals obtain ⟨n0, hn0, h01⟩ : ∃ n0 : Nat, (if f.op = 4 ∧ f.name = s then 1 else 0) = n0 ∧ n0 ≤ 1 := ⟨_, rfl, by split <;> omega⟩
  all_goals rw [hn0] at hte
  all_goals refine wk_loopH [] rfl (fun i : Nat => [(1, str s), (2, .pointer (some ⟨b, 0, none⟩)), (5, .int .i64 ((n0 + tmsL s (f.kids.take i) : Nat) : Int)), (6, .int .i64 (i : Int))]) (fun i w' => i ≤ f.kids.length ∧ LH w (fun _ => False) w' [(b, Obj.cells ([.int .i64 (f).op, str (f).name, .int .i64 (f).cmp, .int .i64 (f).num, .slice a f.kids.length c] : List Value).toArray 24 (0, 0))]) (fun i => f.kids.length - i) 0 ⟨rfl, rfl, by { first | (have e : n0 = 0 := (hn0.symm.trans (if_neg fun h => by omega)); subst e; rfl) | (have e : n0 = 1 := (hn0.symm.trans (if_pos ⟨by omega, hid⟩)); subst e; rfl) | (have e : n0 = 0 := (hn0.symm.trans (if_neg fun h => hid h.2)); subst e; rfl) }, rfl, trivial⟩ ⟨by omega, hl⟩ ?_
  all_goals clear hl w1 hn0
  all_goals rintro i t w1 ⟨hi, hl⟩
  all_goals by_cases hi1 : i < f.kids.length
  all_goals first
    | (obtain ⟨bk, ok, kv, hp, hr, hkk⟩ := (hk.ext hl.done).at hi1
       have hck := cnt_kid hi1
       have hts := tmsL_snoc s (f.kids.take i) f.kids[i]
       have hle := tmsL_le s (f.kids.take i)
       have hlk := tms_le s f.kids[i]
       rw [← List.take_succ_eq_append_getElem hi1] at hts
       have ihk := ih f.kids[i] (List.getElem_mem hi1)
       clear ih
       generalize f.kids[i] = k at *
       repeat' (first | refine a_mov ?_ | refine a_asg ?_ | refine a_binN ?_ | refine a_notd ?_ | refine a_notb ?_ | refine a_nilc ?_ | refine a_fa ?_ | refine a_ext ?_ | refine a_lenv ?_ | refine a_lens ?_ | refine a_pick_t ?_ | refine a_pick_f ?_ | refine a_not ?_ | refine a_nilf ?_ | (refine o_nil (hK _ _ ?_); clear hK K) | refine wk_reg ?_ | refine wk_seq fun K hK => ?_ | (refine wk_skip (hK _ _ ?_); clear hK K) | (refine wk_label (hK _ _ ?_); clear hK K) | refine wk_scope ?_ | refine wk_block ?_ | refine wk_cond_t rfl ?_ | refine wk_cond_f rfl ?_ | (refine wk_exit ?_; (repeat (refine blockK_other rfl ?_)); refine blockK_same ?_; try ((repeat ((fail_if_success (refine hK _ _ ?_)); clear hK K)); refine hK _ _ ?_; clear hK K)) | (refine a_bin ?_ ?_ <;> intro _ <;> try (exfalso; omega)) | refine a_ld hl ?_ | (refine a_st hl ?_; clear hl; intro _ hl) | refine a_ix (fun _ => ?_) | refine a_idx (c := 5) i hp ?_ | refine a_all hr ?_)
       refine a_fn (ihk w1 G kv hkk (by omega)) ?_
       rintro _ w4 ⟨rfl, he4⟩
       repeat' (first | refine a_mov ?_ | refine a_asg ?_ | refine a_binN ?_ | refine a_notd ?_ | refine a_notb ?_ | refine a_nilc ?_ | refine a_fa ?_ | refine a_ext ?_ | refine a_lenv ?_ | refine a_lens ?_ | refine a_pick_t ?_ | refine a_pick_f ?_ | refine a_not ?_ | refine a_nilf ?_ | (refine o_nil (hK _ _ ?_); clear hK K) | refine wk_reg ?_ | refine wk_seq fun K hK => ?_ | (refine wk_skip (hK _ _ ?_); clear hK K) | (refine wk_label (hK _ _ ?_); clear hK K) | refine wk_scope ?_ | refine wk_block ?_ | refine wk_cond_t rfl ?_ | refine wk_cond_f rfl ?_ | (refine wk_exit ?_; (repeat (refine blockK_other rfl ?_)); refine blockK_same ?_; try ((repeat ((fail_if_success (refine hK _ _ ?_)); clear hK K)); refine hK _ _ ?_; clear hK K)) | (refine a_bin ?_ ?_ <;> intro _ <;> try (exfalso; omega)) | refine a_ld hl ?_ | (refine a_st hl ?_; clear hl; intro _ hl) | refine a_ix (fun _ => ?_) | fail)
       refine o_nil ⟨i + 1, ⟨rfl, rfl, ?_, rfl, trivial⟩, rfl, ⟨hi1, hl.ext he4⟩, by omega⟩
       show Value.int .i64 _ = Value.int .i64 _
       congr 1; omega)
    | (obtain rfl : i = f.kids.length := by omega
       rw [List.take_of_length_le (Nat.le_refl _)]
       repeat' (first | refine a_mov ?_ | refine a_asg ?_ | refine a_binN ?_ | refine a_notd ?_ | refine a_notb ?_ | refine a_nilc ?_ | refine a_fa ?_ | refine a_ext ?_ | refine a_lenv ?_ | refine a_lens ?_ | refine a_pick_t ?_ | refine a_pick_f ?_ | refine a_not ?_ | refine a_nilf ?_ | (refine o_nil (hK _ _ ?_); clear hK K) | refine wk_reg ?_ | refine wk_seq fun K hK => ?_ | (refine wk_skip (hK _ _ ?_); clear hK K) | (refine wk_label (hK _ _ ?_); clear hK K) | refine wk_scope ?_ | refine wk_block ?_ | refine wk_cond_t rfl ?_ | refine wk_cond_f rfl ?_ | (refine wk_exit ?_; (repeat (refine blockK_other rfl ?_)); refine blockK_same ?_; try ((repeat ((fail_if_success (refine hK _ _ ?_)); clear hK K)); refine hK _ _ ?_; clear hK K)) | (refine a_bin ?_ ?_ <;> intro _ <;> try (exfalso; omega)) | refine a_ld hl ?_ | (refine a_st hl ?_; clear hl; intro _ hl) | refine a_ix (fun _ => ?_) | fail)
       refine wk_ret (retQ_tmp1 Tryd.results34 (by decide) rfl (by conv => lhs; whnf) ?_)
       refine ⟨?_, hl.done⟩
       rw [hte])
end Go.Proofs

/-
  Formulas: is a formula small (the reference).
-/
set_option linter.unusedVariables false
set_option linter.unusedSimpArgs false
set_option linter.unnecessarySimpa false
set_option maxRecDepth 10000
namespace Go.Proofs
open Go Go.Pd Go.Lexs Go.Fin Go.Fo
attribute [local irreducible] OpsL W RetQ OpsQ OpsC

set_option maxHeartbeats 1000000 in
theorem refSmall_calls (f : Fm) (w : World) (G : Nat → Prop) (kv : Value) (most : Nat) (hk : KR w G f.kids kv) (hm : most ≤ 1000000) (hlen : f.kids.length ≤ 140737488351232) (hlens : ∀ k ∈ preL f.kids, k.kids.length ≤ 140737488351232) :
    Calls Tryd.prog 11 #[.agg (fmL f kv).toArray, .int .i64 (most : Int)] w (fun e w' => ∃ x, e = .returned x ∧ x = .bool (decide (cnt f ≤ most)) ∧ Ext w w') := by
  obtain ⟨a, c, rfl, -⟩ := hk.shape
  refine calls_of Tryd.func11 rfl Tryd.ntmps11 rfl ?_
  refine wk_seq fun K hK => ?_
  refine wk_reg ?_
  refine o_box (LH.start w (fun _ => False)) [.int .i64 (f).op, str (f).name, .int .i64 (f).cmp, .int .i64 (f).num, .slice a f.kids.length c] rfl rfl rfl ?_
  intro b1 w1 hb1 hl
  have he := hl.done
  repeat' (first | refine a_mov ?_ | refine a_asg ?_ | refine a_binN ?_ | refine a_notd ?_ | refine a_notb ?_ | refine a_nilc ?_ | refine a_fa ?_ | refine a_ext ?_ | refine a_lenv ?_ | refine a_lens ?_ | refine a_pick_t ?_ | refine a_pick_f ?_ | refine a_not ?_ | refine a_nilf ?_ | (refine o_nil (hK _ _ ?_); clear hK K) | refine wk_reg ?_ | refine wk_seq fun K hK => ?_ | (refine wk_skip (hK _ _ ?_); clear hK K) | (refine wk_label (hK _ _ ?_); clear hK K) | refine wk_scope ?_ | refine wk_block ?_ | refine wk_cond_t rfl ?_ | refine wk_cond_f rfl ?_ | (refine wk_exit ?_; (repeat (refine blockK_other rfl ?_)); refine blockK_same ?_; try ((repeat ((fail_if_success (refine hK _ _ ?_)); clear hK K)); refine hK _ _ ?_; clear hK K)) | (refine a_bin ?_ ?_ <;> intro _ <;> try (exfalso; omega)) | refine a_ld hl ?_ | (refine a_st hl ?_; clear hl; intro _ hl) | refine a_ix (fun _ => ?_) | refine a_all (hl.rowL (vs := [.int .i64 (f).op, str (f).name, .int .i64 (f).cmp, .int .i64 (f).num, .slice a f.kids.length c]) 0 0 5 rfl) ?_)
  refine a_fn (count_calls f w1 G (.slice a f.kids.length c) most (hk.ext he) hm hlen hlens) ?_
  rintro _ w2 ⟨rfl, he2⟩
  have hmin : (((min (cnt f) (most + 1) : Nat) : Int) ≤ (most : Int)) ↔ cnt f ≤ most := by omega
  generalize min (cnt f) (most + 1) = n at *
  repeat' (first | refine a_mov ?_ | refine a_asg ?_ | refine a_binN ?_ | refine a_notd ?_ | refine a_notb ?_ | refine a_nilc ?_ | refine a_fa ?_ | refine a_ext ?_ | refine a_lenv ?_ | refine a_lens ?_ | refine a_pick_t ?_ | refine a_pick_f ?_ | refine a_not ?_ | refine a_nilf ?_ | (refine o_nil (hK _ _ ?_); clear hK K) | refine wk_reg ?_ | refine wk_seq fun K hK => ?_ | (refine wk_skip (hK _ _ ?_); clear hK K) | (refine wk_label (hK _ _ ?_); clear hK K) | refine wk_scope ?_ | refine wk_block ?_ | refine wk_cond_t rfl ?_ | refine wk_cond_f rfl ?_ | (refine wk_exit ?_; (repeat (refine blockK_other rfl ?_)); refine blockK_same ?_; try ((repeat ((fail_if_success (refine hK _ _ ?_)); clear hK K)); refine hK _ _ ?_; clear hK K)) | (refine a_bin ?_ ?_ <;> intro _ <;> try (exfalso; omega)) | refine a_ld hl ?_ | (refine a_st hl ?_; clear hl; intro _ hl) | refine a_ix (fun _ => ?_) | fail)
  all_goals (refine wk_ret (retQ_tmp1 Tryd.results11 (by decide) rfl (by conv => lhs; whnf) ?_))
  all_goals refine ⟨congrArg Value.bool ?_, he.trans he2⟩
  all_goals first | rfl | (rw [decide_eq_true]; omega) | (rw [decide_eq_false]; omega) | (rw [decide_eq_decide]; exact hmin)
end Go.Proofs
