/-
  The statement RulingKnown, walked.
-/
import Derived.Test.YtbfehpiahmodlaaQl
import Derived.Test.YtbfehpiahmodlaaQj
import Derived.Test.YtbfehpiahmodlaaPr2
import Derived.Test.YtbfehpiahmodlaaRu0
set_option linter.unusedVariables false
set_option linter.unusedSimpArgs false
set_option linter.unnecessarySimpa false
set_option maxRecDepth 10000
namespace Go.Rul
open Go.Lexs Go.Fin Go.Fo
theorem countB_none {l : List Rul} {known : Int} (h : (countB l known).err ≠ 0) : (countB l known).out = [] := by
  unfold countB at h ⊢
  split
  · rfl
  split
  · rfl
  split
  · rfl
  split
  · rfl
  · rename_i h1 h2 h3 h4
    rw [if_neg h1, if_neg h2, if_neg h3, if_neg h4] at h
    exact absurd rfl h
theorem countB_sub (l : List Rul) (known : Int) : (countB l known).out.Sublist l := by
  by_cases h : (countB l known).err = 0
  · rw [countB_out h]; exact counting_sub l known
  · rw [countB_none h]; exact List.nil_sublist _
theorem sub_miss {α : Type} {a l : List α} {i k : Nat} (hi : i < a.length) (hk : k < l.length) (h : (a.drop i).Sublist (l.drop k)) (hne : l[k] ≠ a[i]) : (a.drop i).Sublist (l.drop (k + 1)) := by
  rw [List.drop_eq_getElem_cons hi, List.drop_eq_getElem_cons hk] at h
  rw [List.drop_eq_getElem_cons hi]
  generalize l[k] = x at *
  generalize a[i] = y at *
  cases h with
  | cons _ h => exact h
  | cons_cons _ h => exact absurd rfl hne
theorem sub_hit {α : Type} {a l : List α} {i k : Nat} (hi : i < a.length) (hk : k < l.length) (h : (a.drop i).Sublist (l.drop k)) : (a.drop (i + 1)).Sublist (l.drop (k + 1)) := by
  rw [List.drop_eq_getElem_cons hi, List.drop_eq_getElem_cons hk] at h
  generalize l[k] = x at *
  generalize a[i] = y at *
  cases h with
  | cons _ h => exact (List.sublist_cons_self _ _).trans h
  | cons_cons _ h => exact h
theorem filter_take {l : List Rul} {p : Rul → Bool} {i : Nat} (hi : i < l.length) : (l.take (i + 1)).filter p = (l.take i).filter p ++ (if p l[i] then [l[i]] else []) := by
  rw [List.take_succ_eq_append_getElem hi, List.filter_append]
  congr 1
  cases hp : p l[i] <;> simp [hp]
end Go.Rul

namespace Go.Proofs
open Go Go.Pd Go.Lexs Go.Fin Go.Fo
attribute [local irreducible] OpsL W RetQ OpsQ OpsC

set_option maxHeartbeats 16000000 in
theorem ruKnown_calls {w : World} {l : List Rul.Rul} {lv : Value} {r : Rul.Rul} {rv : Value} (hl : RulsIn w l lv) (one two : Int) (hr : RulIn w r rv) :
    Calls Try.prog 6 #[lv, .int .i64 one, .int .i64 two, .agg (rulC r rv).toArray] w (fun e w' => ∃ x, e = .returned x ∧ x = .bool true ∧ Ext w w') := by
  obtain ⟨la, lc, rfl, -⟩ := hl.at_.shape
  have hll := hl.len
  have L := hl.at_
  have hkr := hr.f.k
  have hrone := rulC_one hkr
  refine calls_of Try.func6 rfl Try.ntmps6 rfl ?_
  refine wk_seq fun K hK => ?_
  refine wk_reg ?_
  refine o_box (LH.start w (fun _ => False)) [str (r).id, str (r).tgt, .int .i64 (r).kind, .int .i64 (r).fro, .int .i64 (r).til, .int .i64 (r).read.op, str (r).read.name, .int .i64 (r).read.cmp, .int .i64 (r).read.num, rv, .int .i64 (r).known, .bool (r).fin, str (r).lifts] rfl rfl rfl ?_
  intro b7 w1 hb7 hl1
  repeat' (first | refine a_mov ?_ | refine a_asg ?_ | refine a_binN ?_ | refine a_notd ?_ | refine a_notb ?_ | refine a_nilc ?_ | refine a_fa ?_ | refine a_ext ?_ | refine a_lenv ?_ | refine a_lens ?_ | refine a_pick_t ?_ | refine a_pick_f ?_ | refine a_not ?_ | refine a_nilf ?_ | (refine o_nil (hK _ _ ?_); clear hK K) | refine wk_reg ?_ | refine wk_seq fun K hK => ?_ | (refine wk_skip (hK _ _ ?_); clear hK K) | (refine wk_label (hK _ _ ?_); clear hK K) | refine wk_scope ?_ | refine wk_block ?_ | refine wk_cond_t rfl ?_ | refine wk_cond_f rfl ?_ | (refine wk_exit ?_; (repeat (refine blockK_other rfl ?_)); refine blockK_same ?_; try ((repeat ((fail_if_success (refine hK _ _ ?_)); clear hK K)); refine hK _ _ ?_; clear hK K)) | (refine a_bin ?_ ?_ <;> intro _ <;> try (exfalso; omega)) | refine a_ld hl ?_ | (refine a_st hl ?_; clear hl; intro _ hl) | refine a_ix (fun _ => ?_) | fail)
  refine a_fn (ruHead_calls w1) ?_
  rintro _ w2 ⟨rfl, hx⟩
  replace hl1 := hl1.ext hx
  clear hx
  have rr : Row w2 b7 0 [str (r).id, str (r).tgt, .int .i64 (r).kind, .int .i64 (r).fro, .int .i64 (r).til, .int .i64 (r).read.op, str (r).read.name, .int .i64 (r).read.cmp, .int .i64 (r).read.num, rv, .int .i64 (r).known, .bool (r).fin, str (r).lifts] := hl1.rowL (vs := [str (r).id, str (r).tgt, .int .i64 (r).kind, .int .i64 (r).fro, .int .i64 (r).til, .int .i64 (r).read.op, str (r).read.name, .int .i64 (r).read.cmp, .int .i64 (r).read.num, rv, .int .i64 (r).known, .bool (r).fin, str (r).lifts]) 0 0 13 rfl
  have he := hl1.done
  clear hl1
  replace L := L.ext he
  replace hkr := hkr.ext he
  repeat' (first | refine a_mov ?_ | refine a_asg ?_ | refine a_binN ?_ | refine a_notd ?_ | refine a_notb ?_ | refine a_nilc ?_ | refine a_fa ?_ | refine a_ext ?_ | refine a_lenv ?_ | refine a_lens ?_ | refine a_pick_t ?_ | refine a_pick_f ?_ | refine a_not ?_ | refine a_nilf ?_ | (refine o_nil (hK _ _ ?_); clear hK K) | refine wk_reg ?_ | refine wk_seq fun K hK => ?_ | (refine wk_skip (hK _ _ ?_); clear hK K) | (refine wk_label (hK _ _ ?_); clear hK K) | refine wk_scope ?_ | refine wk_block ?_ | refine wk_cond_t rfl ?_ | refine wk_cond_f rfl ?_ | (refine wk_exit ?_; (repeat (refine blockK_other rfl ?_)); refine blockK_same ?_; try ((repeat ((fail_if_success (refine hK _ _ ?_)); clear hK K)); refine hK _ _ ?_; clear hK K)) | (refine a_bin ?_ ?_ <;> intro _ <;> try (exfalso; omega)) | refine a_ld hl ?_ | (refine a_st hl ?_; clear hl; intro _ hl) | refine a_ix (fun _ => ?_) | fail)
  refine a_fn (ruFew_calls l _ 14 w2 L (by omega) (fun r hr => (hl.ok r hr).f)) ?_
  rintro _ w3 ⟨rfl, hx⟩
  ((first | (replace L := L.ext (hx)) | skip); (first | (replace A := A.ext (hx)) | skip); (first | (replace hkr := hkr.ext (hx)) | skip); (first | (replace rr := rr.ext (hx)) | skip); (first | (replace B := B.ext (hx)) | skip); replace he := he.trans (hx))
  clear hx
  cases hf1 : Rul.fewB l 14
  · repeat' (first | refine a_mov ?_ | refine a_asg ?_ | refine a_binN ?_ | refine a_notd ?_ | refine a_notb ?_ | refine a_nilc ?_ | refine a_fa ?_ | refine a_ext ?_ | refine a_lenv ?_ | refine a_lens ?_ | refine a_pick_t ?_ | refine a_pick_f ?_ | refine a_not ?_ | refine a_nilf ?_ | (refine o_nil (hK _ _ ?_); clear hK K) | refine wk_reg ?_ | refine wk_seq fun K hK => ?_ | (refine wk_skip (hK _ _ ?_); clear hK K) | (refine wk_label (hK _ _ ?_); clear hK K) | refine wk_scope ?_ | refine wk_block ?_ | refine wk_cond_t rfl ?_ | refine wk_cond_f rfl ?_ | (refine wk_exit ?_; (repeat (refine blockK_other rfl ?_)); refine blockK_same ?_; try ((repeat ((fail_if_success (refine hK _ _ ?_)); clear hK K)); refine hK _ _ ?_; clear hK K)) | (refine a_bin ?_ ?_ <;> intro _ <;> try (exfalso; omega)) | refine a_ld hl ?_ | (refine a_st hl ?_; clear hl; intro _ hl) | refine a_ix (fun _ => ?_) | fail)
    refine wk_ret (retQ_tmp1 Try.results6 (by decide) rfl (by conv => lhs; whnf) ?_)
    exact ⟨rfl, he⟩
  repeat' (first | refine a_mov ?_ | refine a_asg ?_ | refine a_binN ?_ | refine a_notd ?_ | refine a_notb ?_ | refine a_nilc ?_ | refine a_fa ?_ | refine a_ext ?_ | refine a_lenv ?_ | refine a_lens ?_ | refine a_pick_t ?_ | refine a_pick_f ?_ | refine a_not ?_ | refine a_nilf ?_ | (refine o_nil (hK _ _ ?_); clear hK K) | refine wk_reg ?_ | refine wk_seq fun K hK => ?_ | (refine wk_skip (hK _ _ ?_); clear hK K) | (refine wk_label (hK _ _ ?_); clear hK K) | refine wk_scope ?_ | refine wk_block ?_ | refine wk_cond_t rfl ?_ | refine wk_cond_f rfl ?_ | (refine wk_exit ?_; (repeat (refine blockK_other rfl ?_)); refine blockK_same ?_; try ((repeat ((fail_if_success (refine hK _ _ ?_)); clear hK K)); refine hK _ _ ?_; clear hK K)) | (refine a_bin ?_ ?_ <;> intro _ <;> try (exfalso; omega)) | refine a_ld hl ?_ | (refine a_st hl ?_; clear hl; intro _ hl) | refine a_ix (fun _ => ?_) | refine a_all rr ?_)
  refine o_buildSlice (LH.start w3 (fun _ => False)) [str (r).id, str (r).tgt, .int .i64 (r).kind, .int .i64 (r).fro, .int .i64 (r).til, .int .i64 (r).read.op, str (r).read.name, .int .i64 (r).read.cmp, .int .i64 (r).read.num, rv, .int .i64 (r).known, .bool (r).fin, str (r).lifts] rfl rfl (by kernel_rfl) ?_
  intro b9 w4 hb9 hl1
  have L1 : RulsAt w4 [r] (.slice (some ⟨b9, 0, none⟩) 1 1) := RulsAt.of [(r, rv)] (hl1.rowL (vs := [str (r).id, str (r).tgt, .int .i64 (r).kind, .int .i64 (r).fro, .int .i64 (r).til, .int .i64 (r).read.op, str (r).read.name, .int .i64 (r).read.cmp, .int .i64 (r).read.num, rv, .int .i64 (r).known, .bool (r).fin, str (r).lifts]) 0 0 13 rfl) (Nat.le_refl _) (fun p hp => by rw [List.mem_singleton.1 hp]; exact hkr.ext hl1.done)
  have hx := hl1.done
  clear hl1
  refine a_fn (ruFew_calls [r] _ 1 w4 L1 (by simp) (fun x hx => by rw [List.mem_singleton.1 hx]; exact hr.ok.f)) ?_
  rintro _ w5 ⟨rfl, hy⟩
  replace hx := hx.trans hy
  clear hy L1
  ((first | (replace L := L.ext (hx)) | skip); (first | (replace A := A.ext (hx)) | skip); (first | (replace hkr := hkr.ext (hx)) | skip); (first | (replace rr := rr.ext (hx)) | skip); (first | (replace B := B.ext (hx)) | skip); replace he := he.trans (hx))
  clear hx
  cases hf2 : Rul.fewB [r] 1
  · repeat' (first | refine a_mov ?_ | refine a_asg ?_ | refine a_binN ?_ | refine a_notd ?_ | refine a_notb ?_ | refine a_nilc ?_ | refine a_fa ?_ | refine a_ext ?_ | refine a_lenv ?_ | refine a_lens ?_ | refine a_pick_t ?_ | refine a_pick_f ?_ | refine a_not ?_ | refine a_nilf ?_ | (refine o_nil (hK _ _ ?_); clear hK K) | refine wk_reg ?_ | refine wk_seq fun K hK => ?_ | (refine wk_skip (hK _ _ ?_); clear hK K) | (refine wk_label (hK _ _ ?_); clear hK K) | refine wk_scope ?_ | refine wk_block ?_ | refine wk_cond_t rfl ?_ | refine wk_cond_f rfl ?_ | (refine wk_exit ?_; (repeat (refine blockK_other rfl ?_)); refine blockK_same ?_; try ((repeat ((fail_if_success (refine hK _ _ ?_)); clear hK K)); refine hK _ _ ?_; clear hK K)) | (refine a_bin ?_ ?_ <;> intro _ <;> try (exfalso; omega)) | refine a_ld hl ?_ | (refine a_st hl ?_; clear hl; intro _ hl) | refine a_ix (fun _ => ?_) | fail)
    refine wk_ret (retQ_tmp1 Try.results6 (by decide) rfl (by conv => lhs; whnf) ?_)
    exact ⟨rfl, he⟩
  have q1 := Rul.few_iff.1 hf1
  have q2 := (Rul.few_iff.1 hf2).2 r List.mem_cons_self
  have hok : ∀ r ∈ l, cnt r.read ≤ 1000000 ∧ RuLen r := fun r hr => ⟨Rul.few_ok hf1 r hr, (hl.ok r hr).len⟩
  clear hf1 hf2
  repeat' (first | refine a_mov ?_ | refine a_asg ?_ | refine a_binN ?_ | refine a_notd ?_ | refine a_notb ?_ | refine a_nilc ?_ | refine a_fa ?_ | refine a_ext ?_ | refine a_lenv ?_ | refine a_lens ?_ | refine a_pick_t ?_ | refine a_pick_f ?_ | refine a_not ?_ | refine a_nilf ?_ | (refine o_nil (hK _ _ ?_); clear hK K) | refine wk_reg ?_ | refine wk_seq fun K hK => ?_ | (refine wk_skip (hK _ _ ?_); clear hK K) | (refine wk_label (hK _ _ ?_); clear hK K) | refine wk_scope ?_ | refine wk_block ?_ | refine wk_cond_t rfl ?_ | refine wk_cond_f rfl ?_ | (refine wk_exit ?_; (repeat (refine blockK_other rfl ?_)); refine blockK_same ?_; try ((repeat ((fail_if_success (refine hK _ _ ?_)); clear hK K)); refine hK _ _ ?_; clear hK K)) | (refine a_bin ?_ ?_ <;> intro _ <;> try (exfalso; omega)) | refine a_ld hl ?_ | (refine a_st hl ?_; clear hl; intro _ hl) | refine a_ix (fun _ => ?_) | refine o_min rfl rfl rfl ?_)
  refine a_fn (ruCount_calls l _ (min one two) w5 L (by omega) hok) ?_
  rintro _ w6 ⟨⟨av, rfl, A⟩, hx⟩
  ((first | (replace L := L.ext (hx)) | skip); (first | (replace A := A.ext (hx)) | skip); (first | (replace hkr := hkr.ext (hx)) | skip); (first | (replace rr := rr.ext (hx)) | skip); (first | (replace B := B.ext (hx)) | skip); replace he := he.trans (hx))
  clear hx
  by_cases herr : (Rul.countB l (min one two)).err = 0
  rotate_left
  · rw [Rul.countB_none herr] at A
    obtain ⟨aa, ac, hav, -⟩ := A.shape
    replace hav : av = .slice aa 0 ac := hav
    subst hav
    generalize (Rul.countB l (min one two)).err = er at *
    repeat' (first | refine a_mov ?_ | refine a_asg ?_ | refine a_binN ?_ | refine a_notd ?_ | refine a_notb ?_ | refine a_nilc ?_ | refine a_fa ?_ | refine a_ext ?_ | refine a_lenv ?_ | refine a_lens ?_ | refine a_pick_t ?_ | refine a_pick_f ?_ | refine a_not ?_ | refine a_nilf ?_ | (refine o_nil (hK _ _ ?_); clear hK K) | refine wk_reg ?_ | refine wk_seq fun K hK => ?_ | (refine wk_skip (hK _ _ ?_); clear hK K) | (refine wk_label (hK _ _ ?_); clear hK K) | refine wk_scope ?_ | refine wk_block ?_ | refine wk_cond_t rfl ?_ | refine wk_cond_f rfl ?_ | (refine wk_exit ?_; (repeat (refine blockK_other rfl ?_)); refine blockK_same ?_; try ((repeat ((fail_if_success (refine hK _ _ ?_)); clear hK K)); refine hK _ _ ?_; clear hK K)) | (refine a_bin ?_ ?_ <;> intro _ <;> try (exfalso; omega)) | refine a_ld hl ?_ | (refine a_st hl ?_; clear hl; intro _ hl) | refine a_ix (fun _ => ?_) | fail)
    all_goals (refine wk_ret (retQ_tmp1 Try.results6 (by decide) rfl (by conv => lhs; whnf) ?_))
    all_goals exact ⟨rfl, he⟩
  have hsub := Rul.countB_sub l (min one two)
  have hkn : ∀ x ∈ (Rul.countB l (min one two)).out, x.known ≤ min one two := fun x hx => by
    rw [Rul.countB_out herr] at hx
    exact Rul.out_known _ _ l x hx
  have hlaw := Rul.known_law (l := l) (a := min one two) (b := max one two) (by omega) herr
  have hlaw2 := fun h' hk hf => Rul.snoc_law (r := r) herr h' hk hf
  rw [herr]
  generalize hao : (Rul.countB l (min one two)).out = a at *
  obtain ⟨aa, ac, rfl, -⟩ := A.shape
  have hal := hsub.length_le
  clear hao herr
  repeat' (first | refine a_mov ?_ | refine a_asg ?_ | refine a_binN ?_ | refine a_notd ?_ | refine a_notb ?_ | refine a_nilc ?_ | refine a_fa ?_ | refine a_ext ?_ | refine a_lenv ?_ | refine a_lens ?_ | refine a_pick_t ?_ | refine a_pick_f ?_ | refine a_not ?_ | refine a_nilf ?_ | (refine o_nil (hK _ _ ?_); clear hK K) | refine wk_reg ?_ | refine wk_seq fun K hK => ?_ | (refine wk_skip (hK _ _ ?_); clear hK K) | (refine wk_label (hK _ _ ?_); clear hK K) | refine wk_scope ?_ | refine wk_block ?_ | refine wk_cond_t rfl ?_ | refine wk_cond_f rfl ?_ | (refine wk_exit ?_; (repeat (refine blockK_other rfl ?_)); refine blockK_same ?_; try ((repeat ((fail_if_success (refine hK _ _ ?_)); clear hK K)); refine hK _ _ ?_; clear hK K)) | (refine a_bin ?_ ?_ <;> intro _ <;> try (exfalso; omega)) | refine a_ld hl ?_ | (refine a_st hl ?_; clear hl; intro _ hl) | refine a_ix (fun _ => ?_) | fail)
  -- those that are known
  refine wk_loopH [] rfl (fun q : Nat × Value × List (Nat × Obj) × List (Rul.Rul × Value) => [(0, .slice la l.length lc), (1, .int .i64 one), (2, .int .i64 two), (7, .pointer (some ⟨b7, 0, none⟩)), (9, .bool true), (10, .slice aa a.length ac), (12, q.2.1), (13, .int .i64 (q.1 : Int))])
    (fun q w' => (q.1 ≤ l.length ∧ q.2.2.2.map (·.1) = (l.take q.1).filter (fun r => decide (r.known ≤ max one two)) ∧ q.2.2.2.length ≤ q.1 ∧ ∀ p ∈ q.2.2.2, KA w6 p.1.read.kids p.2) ∧ LH w6 (fun _ => False) w' ([] ++ q.2.2.1) ∧ Acc q.2.1 13 28 q.2.2.2.length (q.2.2.2.flatMap rulL) q.2.2.1) (fun q => l.length - q.1) (0, .slice none 0 0, [], []) ⟨rfl, rfl, rfl, rfl, rfl, rfl, rfl, rfl, trivial⟩ ⟨⟨Nat.zero_le _, by simp, Nat.le_refl _, fun _ h => nomatch h⟩, LH.start _ _, Acc.nil _ _⟩ ?_
  rintro ⟨i, v, acc, ps⟩ t w7 ⟨⟨hi, hps, hpl, hka⟩, hlh, ha⟩
  simp only at hi hps hpl hka hlh ha
  obtain ⟨oa, oc, rfl⟩ := ha.shape
  by_cases hi1 : i < l.length
  · obtain ⟨b, o, kv, hp, hrow, hkk⟩ := L.at hi1
    have hone := rulC_one hkk
    have hst := Rul.filter_take (p := fun r => decide (r.known ≤ max one two)) hi1
    replace hrow := hrow.ext hlh.done
    generalize l[i] = x at *
    have r10 : Row w7 b (o + i * 13 + 10) [.int .i64 x.known, .bool x.fin, str x.lifts] := Row.sub5 hrow rfl
    by_cases hxk : x.known ≤ max one two
    · rw [if_pos (decide_eq_true hxk)] at hst
      repeat' (first | refine a_mov ?_ | refine a_asg ?_ | refine a_binN ?_ | refine a_notd ?_ | refine a_notb ?_ | refine a_nilc ?_ | refine a_fa ?_ | refine a_ext ?_ | refine a_lenv ?_ | refine a_lens ?_ | refine a_pick_t ?_ | refine a_pick_f ?_ | refine a_not ?_ | refine a_nilf ?_ | (refine o_nil (hK _ _ ?_); clear hK K) | refine wk_reg ?_ | refine wk_seq fun K hK => ?_ | (refine wk_skip (hK _ _ ?_); clear hK K) | (refine wk_label (hK _ _ ?_); clear hK K) | refine wk_scope ?_ | refine wk_block ?_ | refine wk_cond_t rfl ?_ | refine wk_cond_f rfl ?_ | (refine wk_exit ?_; (repeat (refine blockK_other rfl ?_)); refine blockK_same ?_; try ((repeat ((fail_if_success (refine hK _ _ ?_)); clear hK K)); refine hK _ _ ?_; clear hK K)) | (refine a_bin ?_ ?_ <;> intro _ <;> try (exfalso; omega)) | refine a_ld hl ?_ | (refine a_st hl ?_; clear hl; intro _ hl) | refine a_ix (fun _ => ?_) | refine o_max rfl rfl rfl ?_ | refine a_idx (c := 13) i hp ?_ | refine a_row r10 ?_ | refine a_all hrow ?_)
      refine o_buildSlice hlh [str (x).id, str (x).tgt, .int .i64 (x).kind, .int .i64 (x).fro, .int .i64 (x).til, .int .i64 (x).read.op, str (x).read.name, .int .i64 (x).read.cmp, .int .i64 (x).read.num, kv, .int .i64 (x).known, .bool (x).fin, str (x).lifts] rfl rfl (by kernel_rfl) ?_
      clear hlh
      intro b11 w12 hb11 hlh
      have hlh : LH w6 _ w12 ([_] ++ acc) := hlh
      refine o_append (bl' := [_]) (k := 13) (bytes := 152) (m := ps.length) (q := 1) (us := [str (x).id, str (x).tgt, .int .i64 (x).kind, .int .i64 (x).fro, .int .i64 (x).til, .int .i64 (x).read.op, str (x).read.name, .int .i64 (x).read.cmp, .int .i64 (x).read.num, kv, .int .i64 (x).known, .bool (x).fin, str (x).lifts]) hlh ha (hlh.rowL (vs := [str (x).id, str (x).tgt, .int .i64 (x).kind, .int .i64 (x).fro, .int .i64 (x).til, .int .i64 (x).read.op, str (x).read.name, .int .i64 (x).read.cmp, .int .i64 (x).read.num, kv, .int .i64 (x).known, .bool (x).fin, str (x).lifts]) 0 0 13 rfl) rfl hone (by omega) (by omega) (by omega) rfl rfl rfl rfl rfl ?_
      clear hlh
      intro v' w13 acc' hlh ha'
      obtain ⟨pa', pc', rfl⟩ := ha'.shape
      repeat' (first | refine a_mov ?_ | refine a_asg ?_ | refine a_binN ?_ | refine a_notd ?_ | refine a_notb ?_ | refine a_nilc ?_ | refine a_fa ?_ | refine a_ext ?_ | refine a_lenv ?_ | refine a_lens ?_ | refine a_pick_t ?_ | refine a_pick_f ?_ | refine a_not ?_ | refine a_nilf ?_ | (refine o_nil (hK _ _ ?_); clear hK K) | refine wk_reg ?_ | refine wk_seq fun K hK => ?_ | (refine wk_skip (hK _ _ ?_); clear hK K) | (refine wk_label (hK _ _ ?_); clear hK K) | refine wk_scope ?_ | refine wk_block ?_ | refine wk_cond_t rfl ?_ | refine wk_cond_f rfl ?_ | (refine wk_exit ?_; (repeat (refine blockK_other rfl ?_)); refine blockK_same ?_; try ((repeat ((fail_if_success (refine hK _ _ ?_)); clear hK K)); refine hK _ _ ?_; clear hK K)) | (refine a_bin ?_ ?_ <;> intro _ <;> try (exfalso; omega)) | refine a_ld hl ?_ | (refine a_st hl ?_; clear hl; intro _ hl) | refine a_ix (fun _ => ?_) | fail)
      refine o_nil ⟨(i + 1, _, acc', ps ++ [(x, kv)]), ⟨rfl, rfl, rfl, rfl, rfl, rfl, rfl, rfl, trivial⟩, rfl, ⟨⟨by omega, ?_, ?_, ?_⟩, hlh.sub (List.sublist_cons_self _ _), ?_⟩, by show l.length - (i + 1) < l.length - i; omega⟩
      · show (ps ++ [(x, kv)]).map (·.1) = _
        rw [hst, List.map_append, hps]; rfl
      · show (ps ++ [(x, kv)]).length ≤ i + 1
        rw [List.length_append, List.length_singleton]; omega
      · intro p hp'
        rcases List.mem_append.1 hp' with hp' | hp'
        · exact hka p hp'
        · rw [List.mem_singleton.1 hp']; exact hkk
      · show Acc _ 13 28 (ps ++ [(x, kv)]).length ((ps ++ [(x, kv)]).flatMap rulL) acc'
        rw [List.length_append, List.flatMap_append]
        have e : [(x, kv)].flatMap rulL = [str (x).id, str (x).tgt, .int .i64 (x).kind, .int .i64 (x).fro, .int .i64 (x).til, .int .i64 (x).read.op, str (x).read.name, .int .i64 (x).read.cmp, .int .i64 (x).read.num, kv, .int .i64 (x).known, .bool (x).fin, str (x).lifts] := by simp [rulL, rulC]
        rw [e]; exact ha'
    · rw [if_neg (by rw [decide_eq_false hxk]; decide), List.append_nil] at hst
      repeat' (first | refine a_mov ?_ | refine a_asg ?_ | refine a_binN ?_ | refine a_notd ?_ | refine a_notb ?_ | refine a_nilc ?_ | refine a_fa ?_ | refine a_ext ?_ | refine a_lenv ?_ | refine a_lens ?_ | refine a_pick_t ?_ | refine a_pick_f ?_ | refine a_not ?_ | refine a_nilf ?_ | (refine o_nil (hK _ _ ?_); clear hK K) | refine wk_reg ?_ | refine wk_seq fun K hK => ?_ | (refine wk_skip (hK _ _ ?_); clear hK K) | (refine wk_label (hK _ _ ?_); clear hK K) | refine wk_scope ?_ | refine wk_block ?_ | refine wk_cond_t rfl ?_ | refine wk_cond_f rfl ?_ | (refine wk_exit ?_; (repeat (refine blockK_other rfl ?_)); refine blockK_same ?_; try ((repeat ((fail_if_success (refine hK _ _ ?_)); clear hK K)); refine hK _ _ ?_; clear hK K)) | (refine a_bin ?_ ?_ <;> intro _ <;> try (exfalso; omega)) | refine a_ld hl ?_ | (refine a_st hl ?_; clear hl; intro _ hl) | refine a_ix (fun _ => ?_) | refine o_max rfl rfl rfl ?_ | refine a_idx (c := 13) i hp ?_ | refine a_row r10 ?_)
      exact o_nil ⟨(i + 1, _, acc, ps), ⟨rfl, rfl, rfl, rfl, rfl, rfl, rfl, rfl, trivial⟩, rfl, ⟨⟨by omega, by rw [hst]; exact hps, by show ps.length ≤ i + 1; omega, hka⟩, hlh, ha⟩, by show l.length - (i + 1) < l.length - i; omega⟩
  rw [List.take_of_length_le (by omega)] at hps
  have B : RulsAt w7 (l.filter fun r => decide (r.known ≤ max one two)) (.slice oa ps.length oc) := ⟨ps, hps, hlh.acc_sl ha, fun p hp => (hka p hp).ext hlh.done⟩
  have hx := hlh.done
  ((first | (replace L := L.ext (hx)) | skip); (first | (replace A := A.ext (hx)) | skip); (first | (replace hkr := hkr.ext (hx)) | skip); (first | (replace rr := rr.ext (hx)) | skip); (first | (replace B := B.ext (hx)) | skip); replace he := he.trans (hx))
  clear hx hlh ha hka hps
  have hfs : ∀ x ∈ l.filter (fun r => decide (r.known ≤ max one two)), x ∈ l := fun x hx => (List.mem_filter.1 hx).1
  have hfl : (l.filter fun r => decide (r.known ≤ max one two)).length ≤ l.length := List.length_filter_le _ _
  generalize l.filter (fun r => decide (r.known ≤ max one two)) = flt at *
  repeat' (first | refine a_mov ?_ | refine a_asg ?_ | refine a_binN ?_ | refine a_notd ?_ | refine a_notb ?_ | refine a_nilc ?_ | refine a_fa ?_ | refine a_ext ?_ | refine a_lenv ?_ | refine a_lens ?_ | refine a_pick_t ?_ | refine a_pick_f ?_ | refine a_not ?_ | refine a_nilf ?_ | (refine o_nil (hK _ _ ?_); clear hK K) | refine wk_reg ?_ | refine wk_seq fun K hK => ?_ | (refine wk_skip (hK _ _ ?_); clear hK K) | (refine wk_label (hK _ _ ?_); clear hK K) | refine wk_scope ?_ | refine wk_block ?_ | refine wk_cond_t rfl ?_ | refine wk_cond_f rfl ?_ | (refine wk_exit ?_; (repeat (refine blockK_other rfl ?_)); refine blockK_same ?_; try ((repeat ((fail_if_success (refine hK _ _ ?_)); clear hK K)); refine hK _ _ ?_; clear hK K)) | (refine a_bin ?_ ?_ <;> intro _ <;> try (exfalso; omega)) | refine a_ld hl ?_ | (refine a_st hl ?_; clear hl; intro _ hl) | refine a_ix (fun _ => ?_) | refine o_min rfl rfl rfl ?_)
  refine a_fn (ruCount_calls flt _ (min one two) w7 B (by omega) (fun x hx => hok x (hfs x hx))) ?_
  rintro _ w8 ⟨⟨bv, rfl, B2⟩, hx⟩
  rw [hlaw.2] at B2
  rw [hlaw.1]
  obtain ⟨ba, bc, rfl, -⟩ := B2.shape
  ((first | (replace L := L.ext (hx)) | skip); (first | (replace A := A.ext (hx)) | skip); (first | (replace hkr := hkr.ext (hx)) | skip); (first | (replace rr := rr.ext (hx)) | skip); (first | (replace B := B.ext (hx)) | skip); replace he := he.trans (hx))
  clear hx B hlaw hfs
  have hsh : ∀ x ∈ a, Short x.read.kids := fun x hx => short_of (by have := q1.2 x (hsub.subset hx); omega)
  repeat' (first | refine a_mov ?_ | refine a_asg ?_ | refine a_binN ?_ | refine a_notd ?_ | refine a_notb ?_ | refine a_nilc ?_ | refine a_fa ?_ | refine a_ext ?_ | refine a_lenv ?_ | refine a_lens ?_ | refine a_pick_t ?_ | refine a_pick_f ?_ | refine a_not ?_ | refine a_nilf ?_ | (refine o_nil (hK _ _ ?_); clear hK K) | refine wk_reg ?_ | refine wk_seq fun K hK => ?_ | (refine wk_skip (hK _ _ ?_); clear hK K) | (refine wk_label (hK _ _ ?_); clear hK K) | refine wk_scope ?_ | refine wk_block ?_ | refine wk_cond_t rfl ?_ | refine wk_cond_f rfl ?_ | (refine wk_exit ?_; (repeat (refine blockK_other rfl ?_)); refine blockK_same ?_; try ((repeat ((fail_if_success (refine hK _ _ ?_)); clear hK K)); refine hK _ _ ?_; clear hK K)) | (refine a_bin ?_ ?_ <;> intro _ <;> try (exfalso; omega)) | refine a_ld hl ?_ | (refine a_st hl ?_; clear hl; intro _ hl) | refine a_ix (fun _ => ?_) | fail)
  refine a_fn (ruAll_calls _ _ _ _ w8 A B2 (by omega) (by omega) hsh hsh) ?_
  rintro _ w9 ⟨rfl, hx⟩
  rw [decide_eq_true (rfl : a = a)]
  ((first | (replace L := L.ext (hx)) | skip); (first | (replace A := A.ext (hx)) | skip); (first | (replace hkr := hkr.ext (hx)) | skip); (first | (replace rr := rr.ext (hx)) | skip); (first | (replace B := B.ext (hx)) | skip); replace he := he.trans (hx))
  clear hx B2
  repeat' (first | refine a_mov ?_ | refine a_asg ?_ | refine a_binN ?_ | refine a_notd ?_ | refine a_notb ?_ | refine a_nilc ?_ | refine a_fa ?_ | refine a_ext ?_ | refine a_lenv ?_ | refine a_lens ?_ | refine a_pick_t ?_ | refine a_pick_f ?_ | refine a_not ?_ | refine a_nilf ?_ | (refine o_nil (hK _ _ ?_); clear hK K) | refine wk_reg ?_ | refine wk_seq fun K hK => ?_ | (refine wk_skip (hK _ _ ?_); clear hK K) | (refine wk_label (hK _ _ ?_); clear hK K) | refine wk_scope ?_ | refine wk_block ?_ | refine wk_cond_t rfl ?_ | refine wk_cond_f rfl ?_ | (refine wk_exit ?_; (repeat (refine blockK_other rfl ?_)); refine blockK_same ?_; try ((repeat ((fail_if_success (refine hK _ _ ?_)); clear hK K)); refine hK _ _ ?_; clear hK K)) | (refine a_bin ?_ ?_ <;> intro _ <;> try (exfalso; omega)) | refine a_ld hl ?_ | (refine a_st hl ?_; clear hl; intro _ hl) | refine a_ix (fun _ => ?_) | fail)
  -- what counts is known, in the order of the list
  refine wk_loopH [] rfl (fun q : Nat × Nat => [(0, .slice la l.length lc), (1, .int .i64 one), (2, .int .i64 two), (7, .pointer (some ⟨b7, 0, none⟩)), (9, .bool true), (10, .slice aa a.length ac), (16, .int .i64 (q.2 : Int)), (17, .int .i64 (q.1 : Int))])
    (fun q w' => (q.1 ≤ a.length ∧ q.2 ≤ l.length ∧ (a.drop q.1).Sublist (l.drop q.2)) ∧ Ext w9 w') (fun q => a.length - q.1) (0, 0) ⟨rfl, rfl, rfl, rfl, rfl, rfl, rfl, rfl, trivial⟩ ⟨⟨Nat.zero_le _, Nat.zero_le _, hsub⟩, .refl _ _⟩ ?_
  rintro ⟨i, k⟩ t w10 ⟨⟨hi, hk, hsb⟩, hx⟩
  simp only at hi hk hsb
  by_cases hi1 : i < a.length
  · obtain ⟨ba, oa, kva, hpa, hra, hka⟩ := (A.ext hx).at hi1
    have hki := hkn _ (List.getElem_mem hi1)
    have hsi := hsh _ (List.getElem_mem hi1)
    have ra10 : Row w10 ba (oa + i * 13 + 10) [.int .i64 a[i].known, .bool a[i].fin, str a[i].lifts] := Row.sub5 hra rfl
    repeat' (first | refine a_mov ?_ | refine a_asg ?_ | refine a_binN ?_ | refine a_notd ?_ | refine a_notb ?_ | refine a_nilc ?_ | refine a_fa ?_ | refine a_ext ?_ | refine a_lenv ?_ | refine a_lens ?_ | refine a_pick_t ?_ | refine a_pick_f ?_ | refine a_not ?_ | refine a_nilf ?_ | (refine o_nil (hK _ _ ?_); clear hK K) | refine wk_reg ?_ | refine wk_seq fun K hK => ?_ | (refine wk_skip (hK _ _ ?_); clear hK K) | (refine wk_label (hK _ _ ?_); clear hK K) | refine wk_scope ?_ | refine wk_block ?_ | refine wk_cond_t rfl ?_ | refine wk_cond_f rfl ?_ | (refine wk_exit ?_; (repeat (refine blockK_other rfl ?_)); refine blockK_same ?_; try ((repeat ((fail_if_success (refine hK _ _ ?_)); clear hK K)); refine hK _ _ ?_; clear hK K)) | (refine a_bin ?_ ?_ <;> intro _ <;> try (exfalso; omega)) | refine a_ld hl ?_ | (refine a_st hl ?_; clear hl; intro _ hl) | refine a_ix (fun _ => ?_) | fail)
    refine wk_loopH [] rfl (fun q : Nat => [(0, .slice la l.length lc), (1, .int .i64 one), (2, .int .i64 two), (7, .pointer (some ⟨b7, 0, none⟩)), (9, .bool true), (10, .slice aa a.length ac), (16, .int .i64 (q : Int)), (17, .int .i64 (i : Int))])
      (fun q w' => (q ≤ l.length ∧ (a.drop i).Sublist (l.drop q)) ∧ Ext w10 w') (fun q => l.length - q) k ⟨rfl, rfl, rfl, rfl, rfl, rfl, rfl, rfl, trivial⟩ ⟨⟨hk, hsb⟩, .refl _ _⟩ ?_
    clear hsb hk
    rintro k t w11 ⟨⟨hk, hsb⟩, hy⟩
    replace hra := hra.ext hy
    replace ra10 := ra10.ext hy
    replace hka := hka.ext hy
    have hk1 : k < l.length := by
      rcases Nat.lt_or_ge k l.length with h | h
      · exact h
      · rw [List.drop_of_length_le h] at hsb
        have := hsb.length_le
        rw [List.length_drop, List.length_nil] at this
        omega
    obtain ⟨bl, ol, kvl, hpl', hrl, hkl⟩ := (L.ext (hx.trans hy)).at hk1
    have hsl := q1.2 _ (List.getElem_mem hk1)
    have hmiss := Rul.sub_miss hi1 hk1 hsb
    have hhit := Rul.sub_hit hi1 hk1 hsb
    generalize l[k] = x at *
    generalize a[i] = y at *
    have hcall := fun w' (hw' : Ext w11 w') => ruSame_calls x y kvl kva w' (hkl.ext hw') (hka.ext hw') (short_of (by omega)) hsi
    by_cases hxy : x = y
    · simp only [decide_eq_true hxy] at hcall
      repeat' (first | refine a_mov ?_ | refine a_asg ?_ | refine a_binN ?_ | refine a_notd ?_ | refine a_notb ?_ | refine a_nilc ?_ | refine a_fa ?_ | refine a_ext ?_ | refine a_lenv ?_ | refine a_lens ?_ | refine a_pick_t ?_ | refine a_pick_f ?_ | refine a_not ?_ | refine a_nilf ?_ | (refine o_nil (hK _ _ ?_); clear hK K) | refine wk_reg ?_ | refine wk_seq fun K hK => ?_ | (refine wk_skip (hK _ _ ?_); clear hK K) | (refine wk_label (hK _ _ ?_); clear hK K) | refine wk_scope ?_ | refine wk_block ?_ | refine wk_cond_t rfl ?_ | refine wk_cond_f rfl ?_ | (refine wk_exit ?_; (repeat (refine blockK_other rfl ?_)); refine blockK_same ?_; try ((repeat ((fail_if_success (refine hK _ _ ?_)); clear hK K)); refine hK _ _ ?_; clear hK K)) | (refine a_bin ?_ ?_ <;> intro _ <;> try (exfalso; omega)) | refine a_ld hl ?_ | (refine a_st hl ?_; clear hl; intro _ hl) | refine a_ix (fun _ => ?_) | fail)
      refine wk_quiet [0, 1, 2, 3, 4, 5, 6, 7, 8, 9, 10, 11, 12, 13, 14, 15] ?_
      repeat' (first | refine q_mov ?_ | refine q_asg ?_ | refine q_fa ?_ | refine q_ext ?_ | refine q_binN ?_ | refine q_notd ?_ | refine q_notb ?_ | refine q_pick_t ?_ | refine q_pick_f ?_ | refine q_nilc ?_ | refine q_skip ?_ | refine q_lens ?_ | refine q_lenv ?_ | refine q_nil ?_ | refine q_ix (fun _ => ?_) | (refine q_bin ?_ ?_ <;> intro _ <;> try (exfalso; omega)) | refine q_idx (c := 13) k hpl' ?_ | refine q_idx (c := 13) i hpa ?_ | refine q_all (fun w_ hw_ => hrl.ext hw_) ?_ | refine q_all (fun w_ hw_ => hra.ext hw_) ?_ | refine q_fn hcall ?_)
      intro w12 hz
      refine hK _ _ ?_
      clear hK K
      replace ra10 := ra10.ext hz
      repeat' (first | refine a_mov ?_ | refine a_asg ?_ | refine a_binN ?_ | refine a_notd ?_ | refine a_notb ?_ | refine a_nilc ?_ | refine a_fa ?_ | refine a_ext ?_ | refine a_lenv ?_ | refine a_lens ?_ | refine a_pick_t ?_ | refine a_pick_f ?_ | refine a_not ?_ | refine a_nilf ?_ | (refine o_nil (hK _ _ ?_); clear hK K) | refine wk_reg ?_ | refine wk_seq fun K hK => ?_ | (refine wk_skip (hK _ _ ?_); clear hK K) | (refine wk_label (hK _ _ ?_); clear hK K) | refine wk_scope ?_ | refine wk_block ?_ | refine wk_cond_t rfl ?_ | refine wk_cond_f rfl ?_ | (refine wk_exit ?_; (repeat (refine blockK_other rfl ?_)); refine blockK_same ?_; try ((repeat ((fail_if_success (refine hK _ _ ?_)); clear hK K)); refine hK _ _ ?_; clear hK K)) | (refine a_bin ?_ ?_ <;> intro _ <;> try (exfalso; omega)) | refine a_ld hl ?_ | (refine a_st hl ?_; clear hl; intro _ hl) | refine a_ix (fun _ => ?_) | refine o_min rfl rfl rfl ?_ | refine a_idx (c := 13) i hpa ?_ | refine a_row ra10 ?_)
      exact o_nil ⟨(i + 1, k + 1), ⟨rfl, rfl, rfl, rfl, rfl, rfl, rfl, rfl, trivial⟩, rfl, ⟨⟨hi1, hk1, hhit⟩, (hx.trans hy).trans hz⟩, by show a.length - (i + 1) < a.length - i; omega⟩
    · simp only [decide_eq_false hxy] at hcall
      repeat' (first | refine a_mov ?_ | refine a_asg ?_ | refine a_binN ?_ | refine a_notd ?_ | refine a_notb ?_ | refine a_nilc ?_ | refine a_fa ?_ | refine a_ext ?_ | refine a_lenv ?_ | refine a_lens ?_ | refine a_pick_t ?_ | refine a_pick_f ?_ | refine a_not ?_ | refine a_nilf ?_ | (refine o_nil (hK _ _ ?_); clear hK K) | refine wk_reg ?_ | refine wk_seq fun K hK => ?_ | (refine wk_skip (hK _ _ ?_); clear hK K) | (refine wk_label (hK _ _ ?_); clear hK K) | refine wk_scope ?_ | refine wk_block ?_ | refine wk_cond_t rfl ?_ | refine wk_cond_f rfl ?_ | (refine wk_exit ?_; (repeat (refine blockK_other rfl ?_)); refine blockK_same ?_; try ((repeat ((fail_if_success (refine hK _ _ ?_)); clear hK K)); refine hK _ _ ?_; clear hK K)) | (refine a_bin ?_ ?_ <;> intro _ <;> try (exfalso; omega)) | refine a_ld hl ?_ | (refine a_st hl ?_; clear hl; intro _ hl) | refine a_ix (fun _ => ?_) | fail)
      refine wk_quiet [0, 1, 2, 3, 4, 5, 6, 7, 8, 9, 10, 11, 12, 13, 14, 15] ?_
      repeat' (first | refine q_mov ?_ | refine q_asg ?_ | refine q_fa ?_ | refine q_ext ?_ | refine q_binN ?_ | refine q_notd ?_ | refine q_notb ?_ | refine q_pick_t ?_ | refine q_pick_f ?_ | refine q_nilc ?_ | refine q_skip ?_ | refine q_lens ?_ | refine q_lenv ?_ | refine q_nil ?_ | refine q_ix (fun _ => ?_) | (refine q_bin ?_ ?_ <;> intro _ <;> try (exfalso; omega)) | refine q_idx (c := 13) k hpl' ?_ | refine q_idx (c := 13) i hpa ?_ | refine q_all (fun w_ hw_ => hrl.ext hw_) ?_ | refine q_all (fun w_ hw_ => hra.ext hw_) ?_ | refine q_fn hcall ?_)
      intro w12 hz
      refine hK _ _ ?_
      clear hK K
      repeat' (first | refine a_mov ?_ | refine a_asg ?_ | refine a_binN ?_ | refine a_notd ?_ | refine a_notb ?_ | refine a_nilc ?_ | refine a_fa ?_ | refine a_ext ?_ | refine a_lenv ?_ | refine a_lens ?_ | refine a_pick_t ?_ | refine a_pick_f ?_ | refine a_not ?_ | refine a_nilf ?_ | (refine o_nil (hK _ _ ?_); clear hK K) | refine wk_reg ?_ | refine wk_seq fun K hK => ?_ | (refine wk_skip (hK _ _ ?_); clear hK K) | (refine wk_label (hK _ _ ?_); clear hK K) | refine wk_scope ?_ | refine wk_block ?_ | refine wk_cond_t rfl ?_ | refine wk_cond_f rfl ?_ | (refine wk_exit ?_; (repeat (refine blockK_other rfl ?_)); refine blockK_same ?_; try ((repeat ((fail_if_success (refine hK _ _ ?_)); clear hK K)); refine hK _ _ ?_; clear hK K)) | (refine a_bin ?_ ?_ <;> intro _ <;> try (exfalso; omega)) | refine a_ld hl ?_ | (refine a_st hl ?_; clear hl; intro _ hl) | refine a_ix (fun _ => ?_) | fail)
      exact o_nil ⟨k + 1, ⟨rfl, rfl, rfl, rfl, rfl, rfl, rfl, rfl, trivial⟩, rfl, ⟨⟨hk1, hmiss hxy⟩, hy.trans hz⟩, by omega⟩
  ((first | (replace L := L.ext (hx)) | skip); (first | (replace A := A.ext (hx)) | skip); (first | (replace hkr := hkr.ext (hx)) | skip); (first | (replace rr := rr.ext (hx)) | skip); (first | (replace B := B.ext (hx)) | skip); replace he := he.trans (hx))
  clear hx hsb
  have r11 : Row w10 b7 (0 + 11) [.bool r.fin] := Row.sub5 rr rfl
  by_cases h6 : r.kind = 6
  · repeat' (first | refine a_mov ?_ | refine a_asg ?_ | refine a_binN ?_ | refine a_notd ?_ | refine a_notb ?_ | refine a_nilc ?_ | refine a_fa ?_ | refine a_ext ?_ | refine a_lenv ?_ | refine a_lens ?_ | refine a_pick_t ?_ | refine a_pick_f ?_ | refine a_not ?_ | refine a_nilf ?_ | (refine o_nil (hK _ _ ?_); clear hK K) | refine wk_reg ?_ | refine wk_seq fun K hK => ?_ | (refine wk_skip (hK _ _ ?_); clear hK K) | (refine wk_label (hK _ _ ?_); clear hK K) | refine wk_scope ?_ | refine wk_block ?_ | refine wk_cond_t rfl ?_ | refine wk_cond_f rfl ?_ | (refine wk_exit ?_; (repeat (refine blockK_other rfl ?_)); refine blockK_same ?_; try ((repeat ((fail_if_success (refine hK _ _ ?_)); clear hK K)); refine hK _ _ ?_; clear hK K)) | (refine a_bin ?_ ?_ <;> intro _ <;> try (exfalso; omega)) | refine a_ld hl ?_ | (refine a_st hl ?_; clear hl; intro _ hl) | refine a_ix (fun _ => ?_) | refine a_row rr ?_)
    refine wk_ret (retQ_tmp1 Try.results6 (by decide) rfl (by conv => lhs; whnf) ?_)
    exact ⟨rfl, he⟩
  cases hfin : r.fin
  rotate_left
  · rw [hfin] at r11
    repeat' (first | refine a_mov ?_ | refine a_asg ?_ | refine a_binN ?_ | refine a_notd ?_ | refine a_notb ?_ | refine a_nilc ?_ | refine a_fa ?_ | refine a_ext ?_ | refine a_lenv ?_ | refine a_lens ?_ | refine a_pick_t ?_ | refine a_pick_f ?_ | refine a_not ?_ | refine a_nilf ?_ | (refine o_nil (hK _ _ ?_); clear hK K) | refine wk_reg ?_ | refine wk_seq fun K hK => ?_ | (refine wk_skip (hK _ _ ?_); clear hK K) | (refine wk_label (hK _ _ ?_); clear hK K) | refine wk_scope ?_ | refine wk_block ?_ | refine wk_cond_t rfl ?_ | refine wk_cond_f rfl ?_ | (refine wk_exit ?_; (repeat (refine blockK_other rfl ?_)); refine blockK_same ?_; try ((repeat ((fail_if_success (refine hK _ _ ?_)); clear hK K)); refine hK _ _ ?_; clear hK K)) | (refine a_bin ?_ ?_ <;> intro _ <;> try (exfalso; omega)) | refine a_ld hl ?_ | (refine a_st hl ?_; clear hl; intro _ hl) | refine a_ix (fun _ => ?_) | refine a_row rr ?_ | refine a_row r11 ?_)
    refine wk_ret (retQ_tmp1 Try.results6 (by decide) rfl (by conv => lhs; whnf) ?_)
    exact ⟨rfl, he⟩
  have hlaw3 := fun h' => hlaw2 h' h6 hfin
  rw [hfin] at r11
  repeat' (first | refine a_mov ?_ | refine a_asg ?_ | refine a_binN ?_ | refine a_notd ?_ | refine a_notb ?_ | refine a_nilc ?_ | refine a_fa ?_ | refine a_ext ?_ | refine a_lenv ?_ | refine a_lens ?_ | refine a_pick_t ?_ | refine a_pick_f ?_ | refine a_not ?_ | refine a_nilf ?_ | (refine o_nil (hK _ _ ?_); clear hK K) | refine wk_reg ?_ | refine wk_seq fun K hK => ?_ | (refine wk_skip (hK _ _ ?_); clear hK K) | (refine wk_label (hK _ _ ?_); clear hK K) | refine wk_scope ?_ | refine wk_block ?_ | refine wk_cond_t rfl ?_ | refine wk_cond_f rfl ?_ | (refine wk_exit ?_; (repeat (refine blockK_other rfl ?_)); refine blockK_same ?_; try ((repeat ((fail_if_success (refine hK _ _ ?_)); clear hK K)); refine hK _ _ ?_; clear hK K)) | (refine a_bin ?_ ?_ <;> intro _ <;> try (exfalso; omega)) | refine a_ld hl ?_ | (refine a_st hl ?_; clear hl; intro _ hl) | refine a_ix (fun _ => ?_) | refine a_row rr ?_ | refine a_row r11 ?_)
  clear hlaw2 r11 hfin h6 hkn hi1 hi
  obtain ⟨qs, hqs, hqsl, hqk⟩ := L.ex
  have hql : qs.length = l.length := by rw [← hqs, List.length_map]
  have hqone : (qs.flatMap rulL).all Value.oneCell' = true := by rw [List.all_flatMap]; exact List.all_eq_true.2 fun p hp => rulC_one (hqk p hp)
  have hok2 : ∀ x ∈ l ++ [r], cnt x.read ≤ 1000000 ∧ RuLen x := fun x hx => by
    rcases List.mem_append.1 hx with hx | hx
    · exact hok x hx
    · rw [List.mem_singleton.1 hx]; exact ⟨by omega, hr.ok.len⟩
  refine wk_cut (α := Value) [] (fun cv => [(9, .bool true), (10, .slice aa a.length ac), (18, cv), (19, .int .i64 ((Rul.countB (l ++ [r]) (min one two)).err : Int))]) (fun cv w' => RulsAt w' (Rul.countB (l ++ [r]) (min one two)).out cv ∧ Ext w10 w') ?_ ?_
  · refine wk_tree [1, 3, 6, 7, 8] [3] [0, 2, 4, 5, 9] [10, 11, 12, 13, 14] [] (fun w' => To w10 w' w10.heap) (fun w' => Row w' b7 0 [str (r).id, str (r).tgt, .int .i64 (r).kind, .int .i64 (r).fro, .int .i64 (r).til, .int .i64 (r).read.op, str (r).read.name, .int .i64 (r).read.cmp, .int .i64 (r).read.num, rv, .int .i64 (r).known, .bool (r).fin, str (r).lifts]) rfl (by kernel_rfl) (fun _ _ _ _ h => by first | exact h | (simp only [BlockK, NoGoto, RetQ] at h)) (fun _ h => h) (fun w' h => rr.heap h) ?_
    repeat' (first | refine q_mov ?_ | refine q_asg ?_ | refine q_fa ?_ | refine q_ext ?_ | refine q_binN ?_ | refine q_notd ?_ | refine q_notb ?_ | refine q_pick_t ?_ | refine q_pick_f ?_ | refine q_nilc ?_ | refine q_skip ?_ | refine q_lens ?_ | refine q_lenv ?_ | refine q_nil ?_ | refine q_ix (fun _ => ?_) | (refine q_bin ?_ ?_ <;> intro _ <;> try (exfalso; omega)) | refine q_late rfl rfl rfl rfl (fun w' hw' => r_loadN (vs := [str (r).id, str (r).tgt, .int .i64 (r).kind, .int .i64 (r).fro, .int .i64 (r).til, .int .i64 (r).read.op, str (r).read.name, .int .i64 (r).read.cmp, .int .i64 (r).read.num, rv, .int .i64 (r).known, .bool (r).fin, str (r).lifts]) rfl rfl rfl hw') ?_ | refine q_pur rfl rfl rfl (fun _ => r_min rfl rfl) ?_)
    intro w11 hw11
    have hlh : LH w10 (fun _ => False) w11 [] := (LH.start w10 _).heap hw11
    clear hw11
    refine opsT_2 (i := 0) (i' := 4) (by kernel_rfl) rfl rfl rfl rfl ?_ ?_
    · refine o_buildSlice0 hlh rfl rfl rfl ?_
      clear hlh
      intro b0 wa hb0 hlh
      refine o_nil ⟨.inl (rr.ext hlh.done), ?_⟩
      refine opsT_2 (i := 2) (i' := 4) (by kernel_rfl) rfl rfl rfl rfl ?_ ?_
      · have hlh : LH _ _ _ ([] ++ [_]) := hlh
        refine o_appendS (k := 13) (bytes := 152) (q := l.length) (us := qs.flatMap rulL) hlh (Acc.empty 13 28 b0) (hqsl.ext hlh.done) (by rw [rulL_flat, hql]) (by decide) hqone (by omega) (by omega) rfl rfl rfl rfl rfl rfl ?_
        clear hlh
        intro v1 wb acc hlh hacc
        rw [Nat.zero_add, List.nil_append] at hacc
        obtain ⟨x1, y1, rfl⟩ := hacc.shape
        refine o_nil ⟨.inl (rr.ext hlh.done), ?_⟩
        refine opsT_1 (i := 4) (by kernel_rfl) rfl rfl ?_
        refine o_buildSlice hlh [str (r).id, str (r).tgt, .int .i64 (r).kind, .int .i64 (r).fro, .int .i64 (r).til, .int .i64 (r).read.op, str (r).read.name, .int .i64 (r).read.cmp, .int .i64 (r).read.num, rv, .int .i64 (r).known, .bool (r).fin, str (r).lifts] rfl rfl (by kernel_rfl) ?_
        clear hlh
        intro b4 wc hb4 hlh
        refine o_nil ⟨.inl (rr.ext hlh.done), ?_⟩
        have hlh : LH _ _ _ ([_] ++ acc) := hlh
        refine opsT_1 (i := 5) (by kernel_rfl) rfl rfl ?_
        refine o_append (k := 13) (bytes := 152) (m := l.length) (q := 1) (us := [str (r).id, str (r).tgt, .int .i64 (r).kind, .int .i64 (r).fro, .int .i64 (r).til, .int .i64 (r).read.op, str (r).read.name, .int .i64 (r).read.cmp, .int .i64 (r).read.num, rv, .int .i64 (r).known, .bool (r).fin, str (r).lifts]) hlh hacc (hlh.rowL (vs := [str (r).id, str (r).tgt, .int .i64 (r).kind, .int .i64 (r).fro, .int .i64 (r).til, .int .i64 (r).read.op, str (r).read.name, .int .i64 (r).read.cmp, .int .i64 (r).read.num, rv, .int .i64 (r).known, .bool (r).fin, str (r).lifts]) 0 0 13 rfl) rfl hrone (by omega) (by omega) (by omega) rfl rfl rfl rfl rfl ?_
        clear hlh hacc
        intro v2 wd acc2 hlh hacc
        obtain ⟨x2, y2, rfl⟩ := hacc.shape
        have hq : RulsAt wd (l ++ [r]) (.slice x2 (l.length + 1) y2) := ⟨qs ++ [(r, rv)], by rw [List.map_append, hqs]; rfl, by rw [List.flatMap_append]; exact (by simpa [rulL, rulC] using hlh.acc_sl hacc), fun p hp => by
          rcases List.mem_append.1 hp with hp | hp
          · exact (hqk p hp).ext hlh.done
          · rw [List.mem_singleton.1 hp]; exact hkr.ext hlh.done⟩
        refine o_nil ⟨.inl (rr.ext hlh.done), ?_⟩
        have hy := hlh.done
        clear hlh hacc
        refine opsT_1 (i := 9) (by kernel_rfl) rfl rfl ?_
        refine a_fn (ruCount_calls (l ++ [r]) _ (min one two) wd hq (by rw [List.length_append, List.length_singleton]; omega) hok2) ?_
        rintro _ we ⟨⟨cv, rfl, C⟩, hz⟩
        refine o_nil ⟨.inl (rr.ext (hy.trans hz)), ?_⟩
        refine opsT_nil ?_
        unfold PostQ
        repeat' (first | refine q_mov ?_ | refine q_asg ?_ | refine q_fa ?_ | refine q_ext ?_ | refine q_binN ?_ | refine q_notd ?_ | refine q_notb ?_ | refine q_pick_t ?_ | refine q_pick_f ?_ | refine q_nilc ?_ | refine q_skip ?_ | refine q_lens ?_ | refine q_lenv ?_ | refine q_nil ?_ | refine q_ix (fun _ => ?_) | (refine q_bin ?_ ?_ <;> intro _ <;> try (exfalso; omega)) | fail)
        exact ⟨cv, ⟨rfl, rfl, rfl, rfl, trivial⟩, rfl, C, hy.trans hz⟩
      · skip
        refine o_buildSlice hlh [str (r).id, str (r).tgt, .int .i64 (r).kind, .int .i64 (r).fro, .int .i64 (r).til, .int .i64 (r).read.op, str (r).read.name, .int .i64 (r).read.cmp, .int .i64 (r).read.num, rv, .int .i64 (r).known, .bool (r).fin, str (r).lifts] rfl rfl (by kernel_rfl) ?_
        clear hlh
        intro b4 wc hb4 hlh
        refine o_nil ⟨.inl (rr.ext hlh.done), ?_⟩
        have hlh : LH _ _ _ ([_] ++ [_]) := hlh
        refine opsT_1 (i := 2) (by kernel_rfl) rfl rfl ?_
        refine o_appendS (k := 13) (bytes := 152) (q := l.length) (us := qs.flatMap rulL) hlh (Acc.empty 13 28 b0) (hqsl.ext hlh.done) (by rw [rulL_flat, hql]) (by decide) hqone (by omega) (by omega) rfl rfl rfl rfl rfl rfl ?_
        clear hlh
        intro v1 wb acc hlh hacc
        rw [Nat.zero_add, List.nil_append] at hacc
        obtain ⟨x1, y1, rfl⟩ := hacc.shape
        refine o_nil ⟨.inl (rr.ext hlh.done), ?_⟩
        refine opsT_1 (i := 5) (by kernel_rfl) rfl rfl ?_
        refine o_append (k := 13) (bytes := 152) (m := l.length) (q := 1) (us := [str (r).id, str (r).tgt, .int .i64 (r).kind, .int .i64 (r).fro, .int .i64 (r).til, .int .i64 (r).read.op, str (r).read.name, .int .i64 (r).read.cmp, .int .i64 (r).read.num, rv, .int .i64 (r).known, .bool (r).fin, str (r).lifts]) hlh hacc (hlh.rowL (vs := [str (r).id, str (r).tgt, .int .i64 (r).kind, .int .i64 (r).fro, .int .i64 (r).til, .int .i64 (r).read.op, str (r).read.name, .int .i64 (r).read.cmp, .int .i64 (r).read.num, rv, .int .i64 (r).known, .bool (r).fin, str (r).lifts]) 0 0 13 rfl) rfl hrone (by omega) (by omega) (by omega) rfl rfl rfl rfl rfl ?_
        clear hlh hacc
        intro v2 wd acc2 hlh hacc
        obtain ⟨x2, y2, rfl⟩ := hacc.shape
        have hq : RulsAt wd (l ++ [r]) (.slice x2 (l.length + 1) y2) := ⟨qs ++ [(r, rv)], by rw [List.map_append, hqs]; rfl, by rw [List.flatMap_append]; exact (by simpa [rulL, rulC] using hlh.acc_sl hacc), fun p hp => by
          rcases List.mem_append.1 hp with hp | hp
          · exact (hqk p hp).ext hlh.done
          · rw [List.mem_singleton.1 hp]; exact hkr.ext hlh.done⟩
        refine o_nil ⟨.inl (rr.ext hlh.done), ?_⟩
        have hy := hlh.done
        clear hlh hacc
        refine opsT_1 (i := 9) (by kernel_rfl) rfl rfl ?_
        refine a_fn (ruCount_calls (l ++ [r]) _ (min one two) wd hq (by rw [List.length_append, List.length_singleton]; omega) hok2) ?_
        rintro _ we ⟨⟨cv, rfl, C⟩, hz⟩
        refine o_nil ⟨.inl (rr.ext (hy.trans hz)), ?_⟩
        refine opsT_nil ?_
        unfold PostQ
        repeat' (first | refine q_mov ?_ | refine q_asg ?_ | refine q_fa ?_ | refine q_ext ?_ | refine q_binN ?_ | refine q_notd ?_ | refine q_notb ?_ | refine q_pick_t ?_ | refine q_pick_f ?_ | refine q_nilc ?_ | refine q_skip ?_ | refine q_lens ?_ | refine q_lenv ?_ | refine q_nil ?_ | refine q_ix (fun _ => ?_) | (refine q_bin ?_ ?_ <;> intro _ <;> try (exfalso; omega)) | fail)
        exact ⟨cv, ⟨rfl, rfl, rfl, rfl, trivial⟩, rfl, C, hy.trans hz⟩
    · skip
      refine o_buildSlice hlh [str (r).id, str (r).tgt, .int .i64 (r).kind, .int .i64 (r).fro, .int .i64 (r).til, .int .i64 (r).read.op, str (r).read.name, .int .i64 (r).read.cmp, .int .i64 (r).read.num, rv, .int .i64 (r).known, .bool (r).fin, str (r).lifts] rfl rfl (by kernel_rfl) ?_
      clear hlh
      intro b4 wc hb4 hlh
      refine o_nil ⟨.inl (rr.ext hlh.done), ?_⟩
      refine opsT_1 (i := 0) (by kernel_rfl) rfl rfl ?_
      refine o_buildSlice0 hlh rfl rfl rfl ?_
      clear hlh
      intro b0 wa hb0 hlh
      refine o_nil ⟨.inl (rr.ext hlh.done), ?_⟩
      replace hlh := hlh.perm (List.Perm.swap _ _ _)
      have hlh : LH _ _ _ ([_] ++ [_]) := hlh
      refine opsT_1 (i := 2) (by kernel_rfl) rfl rfl ?_
      refine o_appendS (k := 13) (bytes := 152) (q := l.length) (us := qs.flatMap rulL) hlh (Acc.empty 13 28 b0) (hqsl.ext hlh.done) (by rw [rulL_flat, hql]) (by decide) hqone (by omega) (by omega) rfl rfl rfl rfl rfl rfl ?_
      clear hlh
      intro v1 wb acc hlh hacc
      rw [Nat.zero_add, List.nil_append] at hacc
      obtain ⟨x1, y1, rfl⟩ := hacc.shape
      refine o_nil ⟨.inl (rr.ext hlh.done), ?_⟩
      refine opsT_1 (i := 5) (by kernel_rfl) rfl rfl ?_
      refine o_append (k := 13) (bytes := 152) (m := l.length) (q := 1) (us := [str (r).id, str (r).tgt, .int .i64 (r).kind, .int .i64 (r).fro, .int .i64 (r).til, .int .i64 (r).read.op, str (r).read.name, .int .i64 (r).read.cmp, .int .i64 (r).read.num, rv, .int .i64 (r).known, .bool (r).fin, str (r).lifts]) hlh hacc (hlh.rowL (vs := [str (r).id, str (r).tgt, .int .i64 (r).kind, .int .i64 (r).fro, .int .i64 (r).til, .int .i64 (r).read.op, str (r).read.name, .int .i64 (r).read.cmp, .int .i64 (r).read.num, rv, .int .i64 (r).known, .bool (r).fin, str (r).lifts]) 0 0 13 rfl) rfl hrone (by omega) (by omega) (by omega) rfl rfl rfl rfl rfl ?_
      clear hlh hacc
      intro v2 wd acc2 hlh hacc
      obtain ⟨x2, y2, rfl⟩ := hacc.shape
      have hq : RulsAt wd (l ++ [r]) (.slice x2 (l.length + 1) y2) := ⟨qs ++ [(r, rv)], by rw [List.map_append, hqs]; rfl, by rw [List.flatMap_append]; exact (by simpa [rulL, rulC] using hlh.acc_sl hacc), fun p hp => by
        rcases List.mem_append.1 hp with hp | hp
        · exact (hqk p hp).ext hlh.done
        · rw [List.mem_singleton.1 hp]; exact hkr.ext hlh.done⟩
      refine o_nil ⟨.inl (rr.ext hlh.done), ?_⟩
      have hy := hlh.done
      clear hlh hacc
      refine opsT_1 (i := 9) (by kernel_rfl) rfl rfl ?_
      refine a_fn (ruCount_calls (l ++ [r]) _ (min one two) wd hq (by rw [List.length_append, List.length_singleton]; omega) hok2) ?_
      rintro _ we ⟨⟨cv, rfl, C⟩, hz⟩
      refine o_nil ⟨.inl (rr.ext (hy.trans hz)), ?_⟩
      refine opsT_nil ?_
      unfold PostQ
      repeat' (first | refine q_mov ?_ | refine q_asg ?_ | refine q_fa ?_ | refine q_ext ?_ | refine q_binN ?_ | refine q_notd ?_ | refine q_notb ?_ | refine q_pick_t ?_ | refine q_pick_f ?_ | refine q_nilc ?_ | refine q_skip ?_ | refine q_lens ?_ | refine q_lenv ?_ | refine q_nil ?_ | refine q_ix (fun _ => ?_) | (refine q_bin ?_ ?_ <;> intro _ <;> try (exfalso; omega)) | fail)
      exact ⟨cv, ⟨rfl, rfl, rfl, rfl, trivial⟩, rfl, C, hy.trans hz⟩
  rintro cv t w11 ⟨C, hx⟩
  have hcl := (Rul.countB_sub (l ++ [r]) (min one two)).length_le
  rw [List.length_append, List.length_singleton] at hcl
  generalize hcb : Rul.countB (l ++ [r]) (min one two) = cb at *
  obtain ⟨ca, cc, rfl, -⟩ := C.shape
  refine hK _ _ ?_
  clear hK K
  by_cases hce : cb.err = 0
  · obtain ⟨e, hout, hel⟩ := hlaw3 hce
    have hol : cb.out.length = a.length + e.length := by rw [hout, List.length_append]
    rw [hce]
    repeat' (first | refine a_mov ?_ | refine a_asg ?_ | refine a_binN ?_ | refine a_notd ?_ | refine a_notb ?_ | refine a_nilc ?_ | refine a_fa ?_ | refine a_ext ?_ | refine a_lenv ?_ | refine a_lens ?_ | refine a_pick_t ?_ | refine a_pick_f ?_ | refine a_not ?_ | refine a_nilf ?_ | (refine o_nil (hK _ _ ?_); clear hK K) | refine wk_reg ?_ | refine wk_seq fun K hK => ?_ | (refine wk_skip (hK _ _ ?_); clear hK K) | (refine wk_label (hK _ _ ?_); clear hK K) | refine wk_scope ?_ | refine wk_block ?_ | refine wk_cond_t rfl ?_ | refine wk_cond_f rfl ?_ | (refine wk_exit ?_; (repeat (refine blockK_other rfl ?_)); refine blockK_same ?_; try ((repeat ((fail_if_success (refine hK _ _ ?_)); clear hK K)); refine hK _ _ ?_; clear hK K)) | (refine a_bin ?_ ?_ <;> intro _ <;> try (exfalso; omega)) | refine a_ld hl ?_ | (refine a_st hl ?_; clear hl; intro _ hl) | refine a_ix (fun _ => ?_) | fail)
    obtain ⟨cs, hcs, hcsl, hck⟩ := C.ex
    have hcsn : cs.length = cb.out.length := by rw [← hcs, List.length_map]
    refine o_cutvH (k := 13) (m := cb.out.length) a.length hcsl (by rw [rulL_flat, hcsn]) (by omega) (by decide) rfl rfl rfl rfl rfl rfl ?_
    intro dv hdv _
    rw [flat_take rulL_len] at hdv
    have D : RulsAt w11 a dv := ⟨cs.take a.length, by rw [List.map_take, hcs, hout]; simp, hdv, fun p hp => hck p (List.mem_of_mem_take hp)⟩
    repeat' (first | refine a_mov ?_ | refine a_asg ?_ | refine a_binN ?_ | refine a_notd ?_ | refine a_notb ?_ | refine a_nilc ?_ | refine a_fa ?_ | refine a_ext ?_ | refine a_lenv ?_ | refine a_lens ?_ | refine a_pick_t ?_ | refine a_pick_f ?_ | refine a_not ?_ | refine a_nilf ?_ | (refine o_nil (hK _ _ ?_); clear hK K) | refine wk_reg ?_ | refine wk_seq fun K hK => ?_ | (refine wk_skip (hK _ _ ?_); clear hK K) | (refine wk_label (hK _ _ ?_); clear hK K) | refine wk_scope ?_ | refine wk_block ?_ | refine wk_cond_t rfl ?_ | refine wk_cond_f rfl ?_ | (refine wk_exit ?_; (repeat (refine blockK_other rfl ?_)); refine blockK_same ?_; try ((repeat ((fail_if_success (refine hK _ _ ?_)); clear hK K)); refine hK _ _ ?_; clear hK K)) | (refine a_bin ?_ ?_ <;> intro _ <;> try (exfalso; omega)) | refine a_ld hl ?_ | (refine a_st hl ?_; clear hl; intro _ hl) | refine a_ix (fun _ => ?_) | fail)
    refine a_fn (ruAll_calls _ _ _ _ w11 D (A.ext hx) (by omega) (by omega) hsh hsh) ?_
    rintro _ w12 ⟨rfl, hy⟩
    rw [decide_eq_true (rfl : a = a)]
    repeat' (first | refine a_mov ?_ | refine a_asg ?_ | refine a_binN ?_ | refine a_notd ?_ | refine a_notb ?_ | refine a_nilc ?_ | refine a_fa ?_ | refine a_ext ?_ | refine a_lenv ?_ | refine a_lens ?_ | refine a_pick_t ?_ | refine a_pick_f ?_ | refine a_not ?_ | refine a_nilf ?_ | (refine o_nil (hK _ _ ?_); clear hK K) | refine wk_reg ?_ | refine wk_seq fun K hK => ?_ | (refine wk_skip (hK _ _ ?_); clear hK K) | (refine wk_label (hK _ _ ?_); clear hK K) | refine wk_scope ?_ | refine wk_block ?_ | refine wk_cond_t rfl ?_ | refine wk_cond_f rfl ?_ | (refine wk_exit ?_; (repeat (refine blockK_other rfl ?_)); refine blockK_same ?_; try ((repeat ((fail_if_success (refine hK _ _ ?_)); clear hK K)); refine hK _ _ ?_; clear hK K)) | (refine a_bin ?_ ?_ <;> intro _ <;> try (exfalso; omega)) | refine a_ld hl ?_ | (refine a_st hl ?_; clear hl; intro _ hl) | refine a_ix (fun _ => ?_) | fail)
    refine wk_ret (retQ_tmp1 Try.results6 (by decide) rfl (by conv => lhs; whnf) ?_)
    exact ⟨rfl, (he.trans hx).trans hy⟩
  · repeat' (first | refine a_mov ?_ | refine a_asg ?_ | refine a_binN ?_ | refine a_notd ?_ | refine a_notb ?_ | refine a_nilc ?_ | refine a_fa ?_ | refine a_ext ?_ | refine a_lenv ?_ | refine a_lens ?_ | refine a_pick_t ?_ | refine a_pick_f ?_ | refine a_not ?_ | refine a_nilf ?_ | (refine o_nil (hK _ _ ?_); clear hK K) | refine wk_reg ?_ | refine wk_seq fun K hK => ?_ | (refine wk_skip (hK _ _ ?_); clear hK K) | (refine wk_label (hK _ _ ?_); clear hK K) | refine wk_scope ?_ | refine wk_block ?_ | refine wk_cond_t rfl ?_ | refine wk_cond_f rfl ?_ | (refine wk_exit ?_; (repeat (refine blockK_other rfl ?_)); refine blockK_same ?_; try ((repeat ((fail_if_success (refine hK _ _ ?_)); clear hK K)); refine hK _ _ ?_; clear hK K)) | (refine a_bin ?_ ?_ <;> intro _ <;> try (exfalso; omega)) | refine a_ld hl ?_ | (refine a_st hl ?_; clear hl; intro _ hl) | refine a_ix (fun _ => ?_) | fail)
    all_goals (refine wk_ret (retQ_tmp1 Try.results6 (by decide) rfl (by conv => lhs; whnf) ?_))
    all_goals exact ⟨rfl, he.trans hx⟩
end Go.Proofs
