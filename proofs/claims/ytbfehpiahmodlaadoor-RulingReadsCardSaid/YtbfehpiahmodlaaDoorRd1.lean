/-
  The statement RulingReads, walked.
-/
import Derived.Test.YtbfehpiahmodlaaDoorQl
import Derived.Test.YtbfehpiahmodlaaDoorRu0
import Derived.Test.YtbfehpiahmodlaaDoorRu2
import Derived.Test.YtbfehpiahmodlaaDoorFP
set_option linter.unusedVariables false
set_option linter.unusedSimpArgs false
set_option linter.unnecessarySimpa false
set_option maxRecDepth 10000
namespace Go.Rul
open Go.Lexs Go.Fin Go.Fo
theorem onB_append (a b : List Spn) (n : Int) : onB (a ++ b) n = (onB a n).or (onB b n) := by
  induction a with
  | nil => rfl
  | cons s a ih =>
    show (if _ then some s else onB (a ++ b) n) = Option.or (if _ then some s else onB a n) _
    split
    · rfl
    · exact ih
theorem onB_mem : ∀ {l : List Spn} {n : Int} {t : Spn}, onB l n = some t → t ∈ l ∧ cov t n
  | [], n, t, h => by cases h
  | s :: l, n, t, h => by
    unfold onB at h
    split at h
    · rename_i hc
      cases h
      exact ⟨List.mem_cons_self, hc⟩
    · exact ⟨List.mem_cons_of_mem _ (onB_mem h).1, (onB_mem h).2⟩
theorem keep_rd {s t : Spn} {a b : Int} {f : Fm} (h : t ∈ keep s a b f) : t.read = f := by
  unfold keep at h
  simp only at h
  repeat' split at h
  all_goals first | (rw [List.mem_singleton.1 h]) | cases h
theorem onB_keep (s : Spn) (a b : Int) (f : Fm) (n : Int) (hb : -1 ≤ b) : (onB (keep s a b f) n).map (·.read) = if cov s n ∧ a ≤ n ∧ (b = -1 ∨ n < b) then some f else none := by
  have h := keep_cov (s := s) (a := a) (b := b) (n := n) (f := f) hb
  have hs := onB_some (l := keep s a b f) (n := n)
  by_cases hc : cov s n ∧ a ≤ n ∧ (b = -1 ∨ n < b)
  · rw [if_pos hc]
    have h1 := hs.2 (h.2 hc)
    cases ho : onB (keep s a b f) n with
    | none => rw [ho] at h1; cases h1
    | some t => rw [Option.map_some, keep_rd (onB_mem ho).1]
  · rw [if_neg hc]
    cases ho : onB (keep s a b f) n with
    | none => rfl
    | some t => exact absurd (h.1 (hs.1 (by rw [ho]; rfl))) hc
theorem one_read {r : Rul} (h : validB r = true) (h5 : r.kind = 5) (s : Spn) (n : Int) : (onB (one1 5 r s) n).map (·.read) = if cov s n then some (if n < r.fro then s.read else readOf s r) else none := by
  obtain ⟨h1, h2, -, h4, -⟩ := valid_days h
  unfold one1
  by_cases hs : s.til ≠ -1 ∧ s.til ≤ s.fro
  · rw [if_pos hs, if_neg (by unfold cov; omega)]; rfl
  rw [if_neg hs, if_neg (by decide), if_neg (by decide), if_neg (by decide), if_neg (by decide), if_pos rfl, onB_append]
  have k1 := onB_keep s s.fro r.fro s.read n (by omega)
  have k2 := onB_keep s r.fro (-1) (readOf s r) n (by omega)
  have hc : cov s n → s.fro ≤ n := fun h => h.1
  by_cases hcv : cov s n
  · have := hc hcv
    rw [if_pos hcv]
    by_cases hn : n < r.fro
    · rw [if_pos ⟨hcv, by omega, by omega⟩] at k1
      rw [if_pos hn]
      cases ho : onB (keep s s.fro r.fro s.read) n with
      | none => rw [ho] at k1; cases k1
      | some t => rw [ho] at k1; exact k1
    · rw [if_neg (by omega)] at k1
      rw [if_pos ⟨hcv, by omega, by omega⟩] at k2
      rw [if_neg hn]
      cases ho : onB (keep s s.fro r.fro s.read) n with
      | none => exact k2
      | some t => rw [ho] at k1; cases k1
  · rw [if_neg (fun h => hcv h.1)] at k1 k2
    rw [if_neg hcv]
    cases ho : onB (keep s s.fro r.fro s.read) n with
    | none => exact k2
    | some t => rw [ho] at k1; cases k1
theorem reads_law {r : Rul} (h : validB r = true) (h5 : r.kind = 5) (n : Int) : ∀ l : List Spn, (onB (applyB l r) n).map (·.read) = (onB l n).map fun s => if n < r.fro then s.read else readOf s r
  | [] => rfl
  | s :: l => by
    have ih := reads_law h h5 n l
    have h1 := one_read h h5 s n
    unfold applyB at ih ⊢
    rw [kind_valid h, h5] at ih ⊢
    rw [List.flatMap_cons, onB_append]
    by_cases hc : cov s n
    · rw [if_pos hc] at h1
      have e : onB (s :: l) n = some s := by unfold onB; exact if_pos hc
      rw [e]
      cases ho : onB (one1 5 r s) n with
      | none => rw [ho] at h1; cases h1
      | some t => rw [ho] at h1; exact h1
    · rw [if_neg hc] at h1
      have e : onB (s :: l) n = onB l n := if_neg hc
      rw [e]
      cases ho : onB (one1 5 r s) n with
      | none => exact ih
      | some t => rw [ho] at h1; cases h1
theorem reads_holds {F : List Fact} {c : List Int} {s : Spn} {r : Rul} {k : List UInt8 → Bool} (hf : checkE F k s.read = 0) (hg : checkE F k r.read = 0) (h1 : cnt s.read ≤ 60) (h2 : dep s.read ≤ 10) (h3 : cnt r.read ≤ 60) (h4 : dep r.read ≤ 10) :
    holdsB F c [] (readOf s r) = (holdsB F c [] s.read && holdsB F c [] r.read) := by
  have rf := right_of (checkE_zero.1 hf).2.2
  have rg := right_of (checkE_zero.1 hg).2.2
  by_cases hfit : fitsB F c = true
  · rw [holdsB_eval (by omega) (by omega) rf hfit, holdsB_eval (by omega) (by omega) rg hfit]
    unfold readOf
    by_cases ho : s.read.op = 1
    · rw [if_pos ho, holdsB_eval (by omega) (by omega) rg hfit]
      have : eval F c [] s.read = true := by rw [eval_eq, ho]; simp
      rw [this, Bool.true_and]
    · rw [if_neg ho]
      show holdsB F c [] (bth 6 [s.read, r.read]) = _
      have e1 : cnt (bth 6 [s.read, r.read]) = 1 + (cnt s.read + (cnt r.read + 0)) := rfl
      have e2 : dep (bth 6 [s.read, r.read]) = max (dep s.read) (max (dep r.read) 0) + 1 := rfl
      rw [holdsB_eval (by omega) (by omega) (right_bth (.inr ⟨.inl rfl, by simp⟩) (fun x hx => by
        simp only [List.mem_cons, List.not_mem_nil, or_false] at hx
        rcases hx with rfl | rfl
        · exact rf
        · exact rg)) hfit, eval_and]
  · have hno : ∀ f, holdsB F c [] f = false := fun f => by unfold holdsB; rw [Bool.eq_false_iff.2 hfit, Bool.and_false]; rfl
    rw [hno, hno, hno]; rfl
end Go.Rul

namespace Go.Proofs
open Go Go.Pd Go.Lexs Go.Fin Go.Fo
attribute [local irreducible] OpsL W RetQ OpsQ OpsC

/-- What On answers. -/
def onF (l : List Rul.Spn) (n : Int) : Fm := match Rul.onB l n with | some s => s.read | none => .node 0 [] 0 0 []
theorem on_fm {w : World} {l : List Rul.Spn} {n : Int} {fv : Value} (h1 : ∀ s, Rul.onB l n = some s → ∃ kv, fv = .agg (fmL s.read kv).toArray ∧ KA w s.read.kids kv) (h2 : Rul.onB l n = none → fv = .agg (fmL (.node 0 [] 0 0 []) (.slice none 0 0)).toArray) : ∃ kv, fv = .agg (fmL (onF l n) kv).toArray ∧ KA w (onF l n).kids kv := by
  unfold onF
  cases ho : Rul.onB l n with
  | none => exact ⟨_, h2 ho, KA.nil _⟩
  | some s => exact h1 s ho
theorem onF_cnt {l : List Rul.Spn} {n : Int} {m : Nat} (h : ∀ s ∈ l, cnt s.read ≤ m) (hm : 1 ≤ m) : cnt (onF l n) ≤ m := by
  unfold onF
  cases ho : Rul.onB l n with
  | none => exact Nat.le_trans (by decide +kernel) hm
  | some s => exact h s (Rul.onB_mem ho).1
theorem onF_some {l : List Rul.Spn} {n : Int} {s : Rul.Spn} (h : Rul.onB l n = some s) : onF l n = s.read := by unfold onF; rw [h]

set_option maxHeartbeats 16000000 in
theorem ruReads_calls {w : World} {s : List Rul.Spn} {sv : Value} {r0 : Rul.Rul} {rv : Value} {F : List Fact} {dv : Value} {c : List Int} {cv : Value} (hs : SpnsIn w s sv) (hr : RulIn w r0 rv) (hD : DomIn w F dv) (hC : CaseIn w c cv) (day : Int) :
    Calls Tryd.prog 3 #[sv, .agg (rulC r0 rv).toArray, .agg #[dv], cv, .int .i64 day] w (fun e w' => ∃ x, e = .returned x ∧ x = .bool true ∧ Ext w w') := by
  obtain ⟨hd, nF', tF'⟩ := hD
  obtain ⟨hc, nC'⟩ := hC
  obtain ⟨sa, sc, rfl, -⟩ := hs.at_.shape
  obtain ⟨da, dc, rfl, -⟩ := hd.shape (factsL_len F) (by omega)
  obtain ⟨ca, cc, rfl, -⟩ := hc.shape (intsL_len c) (by omega)
  have nF : F.length ≤ 9223372036854775806 := by omega
  have nC : c.length ≤ 9223372036854775806 := by omega
  have tF : ∀ f ∈ F, f.name.length ≤ 9223372036854775806 := fun f h => by have := tF' f h; omega
  have hsl := hs.len
  have S := hs.at_
  have hkr := hr.f.k
  refine calls_of Tryd.func3 rfl Tryd.ntmps3 rfl ?_
  refine wk_seq fun K hK => ?_
  refine wk_reg ?_
  refine o_box (LH.start w (fun _ => False)) [str (r0).id, str (r0).tgt, .int .i64 (r0).kind, .int .i64 (r0).fro, .int .i64 (r0).til, .int .i64 (r0).read.op, str (r0).read.name, .int .i64 (r0).read.cmp, .int .i64 (r0).read.num, rv, .int .i64 (r0).known, .bool (r0).fin, str (r0).lifts] rfl rfl rfl ?_
  intro b6 w1 hb6 hl
  refine o_box hl [.slice da F.length dc] rfl rfl rfl ?_
  clear hl
  intro b7 w1' hb7 hl
  repeat' (first | refine a_mov ?_ | refine a_asg ?_ | refine a_binN ?_ | refine a_notd ?_ | refine a_notb ?_ | refine a_nilc ?_ | refine a_fa ?_ | refine a_ext ?_ | refine a_lenv ?_ | refine a_lens ?_ | refine a_pick_t ?_ | refine a_pick_f ?_ | refine a_not ?_ | refine a_nilf ?_ | (refine o_nil (hK _ _ ?_); clear hK K) | refine wk_reg ?_ | refine wk_seq fun K hK => ?_ | (refine wk_skip (hK _ _ ?_); clear hK K) | (refine wk_label (hK _ _ ?_); clear hK K) | refine wk_scope ?_ | refine wk_block ?_ | refine wk_cond_t rfl ?_ | refine wk_cond_f rfl ?_ | (refine wk_exit ?_; (repeat (refine blockK_other rfl ?_)); refine blockK_same ?_; try ((repeat ((fail_if_success (refine hK _ _ ?_)); clear hK K)); refine hK _ _ ?_; clear hK K)) | (refine a_bin ?_ ?_ <;> intro _ <;> try (exfalso; omega)) | refine a_ld hl ?_ | (refine a_st hl ?_; clear hl; intro _ hl) | refine a_ix (fun _ => ?_) | fail)
  refine a_fn (ruHead_calls w1') ?_
  rintro _ w2 ⟨rfl, hx⟩
  replace hl := hl.ext hx
  clear hx
  have he := hl.done
  replace S := S.ext he
  replace hkr := hkr.ext he
  have hd0 := hd
  have hc0 := hc
  repeat' (first | refine a_mov ?_ | refine a_asg ?_ | refine a_binN ?_ | refine a_notd ?_ | refine a_notb ?_ | refine a_nilc ?_ | refine a_fa ?_ | refine a_ext ?_ | refine a_lenv ?_ | refine a_lens ?_ | refine a_pick_t ?_ | refine a_pick_f ?_ | refine a_not ?_ | refine a_nilf ?_ | (refine o_nil (hK _ _ ?_); clear hK K) | refine wk_reg ?_ | refine wk_seq fun K hK => ?_ | (refine wk_skip (hK _ _ ?_); clear hK K) | (refine wk_label (hK _ _ ?_); clear hK K) | refine wk_scope ?_ | refine wk_block ?_ | refine wk_cond_t rfl ?_ | refine wk_cond_f rfl ?_ | (refine wk_exit ?_; (repeat (refine blockK_other rfl ?_)); refine blockK_same ?_; try ((repeat ((fail_if_success (refine hK _ _ ?_)); clear hK K)); refine hK _ _ ?_; clear hK K)) | (refine a_bin ?_ ?_ <;> intro _ <;> try (exfalso; omega)) | refine a_ld hl ?_ | (refine a_st hl ?_; clear hl; intro _ hl) | refine a_ix (fun _ => ?_) | fail)
  refine a_fn (ruShort_calls s _ 20 w2 S (by omega) hs.ok) ?_
  rintro _ w3 ⟨rfl, hx⟩
  replace hl := hl.ext hx
  ((first | (replace S := S.ext (hx)) | skip); (first | (replace S2 := S2.ext (hx)) | skip); (first | (replace hkr := hkr.ext (hx)) | skip); (first | (replace rr := rr.ext (hx)) | skip); (first | (replace rd' := rd'.ext (hx)) | skip); (first | (replace hd := hd.ext (hx)) | skip); (first | (replace hc := hc.ext (hx)) | skip); (first | (replace rf := rf.ext (hx)) | skip); (first | (replace hkf := hkf.ext (hx)) | skip); (first | (replace rg := rg.ext (hx)) | skip); (first | (replace hkg := hkg.ext (hx)) | skip); replace he := he.trans (hx))
  clear hx
  cases hf3 : Rul.shortB s 20
  · repeat' (first | refine a_mov ?_ | refine a_asg ?_ | refine a_binN ?_ | refine a_notd ?_ | refine a_notb ?_ | refine a_nilc ?_ | refine a_fa ?_ | refine a_ext ?_ | refine a_lenv ?_ | refine a_lens ?_ | refine a_pick_t ?_ | refine a_pick_f ?_ | refine a_not ?_ | refine a_nilf ?_ | (refine o_nil (hK _ _ ?_); clear hK K) | refine wk_reg ?_ | refine wk_seq fun K hK => ?_ | (refine wk_skip (hK _ _ ?_); clear hK K) | (refine wk_label (hK _ _ ?_); clear hK K) | refine wk_scope ?_ | refine wk_block ?_ | refine wk_cond_t rfl ?_ | refine wk_cond_f rfl ?_ | (refine wk_exit ?_; (repeat (refine blockK_other rfl ?_)); refine blockK_same ?_; try ((repeat ((fail_if_success (refine hK _ _ ?_)); clear hK K)); refine hK _ _ ?_; clear hK K)) | (refine a_bin ?_ ?_ <;> intro _ <;> try (exfalso; omega)) | refine a_ld hl ?_ | (refine a_st hl ?_; clear hl; intro _ hl) | refine a_ix (fun _ => ?_) | fail)
    refine wk_ret (retQ_tmp1 Tryd.results3 (by decide) rfl (by conv => lhs; whnf) ?_)
    exact ⟨rfl, he⟩
  repeat' (first | refine a_mov ?_ | refine a_asg ?_ | refine a_binN ?_ | refine a_notd ?_ | refine a_notb ?_ | refine a_nilc ?_ | refine a_fa ?_ | refine a_ext ?_ | refine a_lenv ?_ | refine a_lens ?_ | refine a_pick_t ?_ | refine a_pick_f ?_ | refine a_not ?_ | refine a_nilf ?_ | (refine o_nil (hK _ _ ?_); clear hK K) | refine wk_reg ?_ | refine wk_seq fun K hK => ?_ | (refine wk_skip (hK _ _ ?_); clear hK K) | (refine wk_label (hK _ _ ?_); clear hK K) | refine wk_scope ?_ | refine wk_block ?_ | refine wk_cond_t rfl ?_ | refine wk_cond_f rfl ?_ | (refine wk_exit ?_; (repeat (refine blockK_other rfl ?_)); refine blockK_same ?_; try ((repeat ((fail_if_success (refine hK _ _ ?_)); clear hK K)); refine hK _ _ ?_; clear hK K)) | (refine a_bin ?_ ?_ <;> intro _ <;> try (exfalso; omega)) | refine a_ld hl ?_ | (refine a_st hl ?_; clear hl; intro _ hl) | refine a_ix (fun _ => ?_) | refine a_all (hl.rowL (vs := [str (r0).id, str (r0).tgt, .int .i64 (r0).kind, .int .i64 (r0).fro, .int .i64 (r0).til, .int .i64 (r0).read.op, str (r0).read.name, .int .i64 (r0).read.cmp, .int .i64 (r0).read.num, rv, .int .i64 (r0).known, .bool (r0).fin, str (r0).lifts]) 1 0 13 rfl) ?_)
  refine o_buildSlice hl [str (r0).id, str (r0).tgt, .int .i64 (r0).kind, .int .i64 (r0).fro, .int .i64 (r0).til, .int .i64 (r0).read.op, str (r0).read.name, .int .i64 (r0).read.cmp, .int .i64 (r0).read.num, rv, .int .i64 (r0).known, .bool (r0).fin, str (r0).lifts] rfl rfl (by kernel_rfl) ?_
  intro b9 w4 hb9 hl1
  have L1 : RulsAt w4 [r0] (.slice (some ⟨b9, 0, none⟩) 1 1) := RulsAt.of [(r0, rv)] (hl1.rowL (vs := [str (r0).id, str (r0).tgt, .int .i64 (r0).kind, .int .i64 (r0).fro, .int .i64 (r0).til, .int .i64 (r0).read.op, str (r0).read.name, .int .i64 (r0).read.cmp, .int .i64 (r0).read.num, rv, .int .i64 (r0).known, .bool (r0).fin, str (r0).lifts]) 0 0 13 rfl) (Nat.le_refl _) (fun p hp => by rw [List.mem_singleton.1 hp]; exact hr.f.k.ext hl1.done)
  have hl2 := hl1.sub (List.sublist_cons_self _ _)
  clear hl hl1
  refine a_fn (ruFew_calls [r0] _ 1 w4 L1 (by simp) (fun x hx => by rw [List.mem_singleton.1 hx]; exact hr.ok.f)) ?_
  rintro _ w5 ⟨rfl, hy⟩
  have hl := hl2.ext hy
  have he := hl.done
  clear hy L1 hl2
  replace S := hs.at_.ext he
  replace hkr := hr.f.k.ext he
  replace hd := hd0.ext he
  replace hc := hc0.ext he
  cases hf2 : Rul.fewB [r0] 1
  · repeat' (first | refine a_mov ?_ | refine a_asg ?_ | refine a_binN ?_ | refine a_notd ?_ | refine a_notb ?_ | refine a_nilc ?_ | refine a_fa ?_ | refine a_ext ?_ | refine a_lenv ?_ | refine a_lens ?_ | refine a_pick_t ?_ | refine a_pick_f ?_ | refine a_not ?_ | refine a_nilf ?_ | (refine o_nil (hK _ _ ?_); clear hK K) | refine wk_reg ?_ | refine wk_seq fun K hK => ?_ | (refine wk_skip (hK _ _ ?_); clear hK K) | (refine wk_label (hK _ _ ?_); clear hK K) | refine wk_scope ?_ | refine wk_block ?_ | refine wk_cond_t rfl ?_ | refine wk_cond_f rfl ?_ | (refine wk_exit ?_; (repeat (refine blockK_other rfl ?_)); refine blockK_same ?_; try ((repeat ((fail_if_success (refine hK _ _ ?_)); clear hK K)); refine hK _ _ ?_; clear hK K)) | (refine a_bin ?_ ?_ <;> intro _ <;> try (exfalso; omega)) | refine a_ld hl ?_ | (refine a_st hl ?_; clear hl; intro _ hl) | refine a_ix (fun _ => ?_) | fail)
    refine wk_ret (retQ_tmp1 Tryd.results3 (by decide) rfl (by conv => lhs; whnf) ?_)
    exact ⟨rfl, he⟩
  have q2 := (Rul.few_iff.1 hf2).2 r0 List.mem_cons_self
  have q3 := Rul.short_iff.1 hf3
  clear hf2 hf3
  by_cases hF70 : 70 < F.length
  · repeat' (first | refine a_mov ?_ | refine a_asg ?_ | refine a_binN ?_ | refine a_notd ?_ | refine a_notb ?_ | refine a_nilc ?_ | refine a_fa ?_ | refine a_ext ?_ | refine a_lenv ?_ | refine a_lens ?_ | refine a_pick_t ?_ | refine a_pick_f ?_ | refine a_not ?_ | refine a_nilf ?_ | (refine o_nil (hK _ _ ?_); clear hK K) | refine wk_reg ?_ | refine wk_seq fun K hK => ?_ | (refine wk_skip (hK _ _ ?_); clear hK K) | (refine wk_label (hK _ _ ?_); clear hK K) | refine wk_scope ?_ | refine wk_block ?_ | refine wk_cond_t rfl ?_ | refine wk_cond_f rfl ?_ | (refine wk_exit ?_; (repeat (refine blockK_other rfl ?_)); refine blockK_same ?_; try ((repeat ((fail_if_success (refine hK _ _ ?_)); clear hK K)); refine hK _ _ ?_; clear hK K)) | (refine a_bin ?_ ?_ <;> intro _ <;> try (exfalso; omega)) | refine a_ld hl ?_ | (refine a_st hl ?_; clear hl; intro _ hl) | refine a_ix (fun _ => ?_) | fail)
    refine wk_ret (retQ_tmp1 Tryd.results3 (by decide) rfl (by conv => lhs; whnf) ?_)
    exact ⟨rfl, he⟩
  repeat' (first | refine a_mov ?_ | refine a_asg ?_ | refine a_binN ?_ | refine a_notd ?_ | refine a_notb ?_ | refine a_nilc ?_ | refine a_fa ?_ | refine a_ext ?_ | refine a_lenv ?_ | refine a_lens ?_ | refine a_pick_t ?_ | refine a_pick_f ?_ | refine a_not ?_ | refine a_nilf ?_ | (refine o_nil (hK _ _ ?_); clear hK K) | refine wk_reg ?_ | refine wk_seq fun K hK => ?_ | (refine wk_skip (hK _ _ ?_); clear hK K) | (refine wk_label (hK _ _ ?_); clear hK K) | refine wk_scope ?_ | refine wk_block ?_ | refine wk_cond_t rfl ?_ | refine wk_cond_f rfl ?_ | (refine wk_exit ?_; (repeat (refine blockK_other rfl ?_)); refine blockK_same ?_; try ((repeat ((fail_if_success (refine hK _ _ ?_)); clear hK K)); refine hK _ _ ?_; clear hK K)) | (refine a_bin ?_ ?_ <;> intro _ <;> try (exfalso; omega)) | refine a_ld hl ?_ | (refine a_st hl ?_; clear hl; intro _ hl) | refine a_ix (fun _ => ?_) | fail)
  refine a_fn (ordered_calls s _ w5 S (by omega)) ?_
  rintro _ w6 ⟨rfl, hx⟩
  replace hl := hl.ext hx
  ((first | (replace S := S.ext (hx)) | skip); (first | (replace S2 := S2.ext (hx)) | skip); (first | (replace hkr := hkr.ext (hx)) | skip); (first | (replace rr := rr.ext (hx)) | skip); (first | (replace rd' := rd'.ext (hx)) | skip); (first | (replace hd := hd.ext (hx)) | skip); (first | (replace hc := hc.ext (hx)) | skip); (first | (replace rf := rf.ext (hx)) | skip); (first | (replace hkf := hkf.ext (hx)) | skip); (first | (replace rg := rg.ext (hx)) | skip); (first | (replace hkg := hkg.ext (hx)) | skip); replace he := he.trans (hx))
  clear hx
  cases ho : Rul.orderedB s
  · repeat' (first | refine a_mov ?_ | refine a_asg ?_ | refine a_binN ?_ | refine a_notd ?_ | refine a_notb ?_ | refine a_nilc ?_ | refine a_fa ?_ | refine a_ext ?_ | refine a_lenv ?_ | refine a_lens ?_ | refine a_pick_t ?_ | refine a_pick_f ?_ | refine a_not ?_ | refine a_nilf ?_ | (refine o_nil (hK _ _ ?_); clear hK K) | refine wk_reg ?_ | refine wk_seq fun K hK => ?_ | (refine wk_skip (hK _ _ ?_); clear hK K) | (refine wk_label (hK _ _ ?_); clear hK K) | refine wk_scope ?_ | refine wk_block ?_ | refine wk_cond_t rfl ?_ | refine wk_cond_f rfl ?_ | (refine wk_exit ?_; (repeat (refine blockK_other rfl ?_)); refine blockK_same ?_; try ((repeat ((fail_if_success (refine hK _ _ ?_)); clear hK K)); refine hK _ _ ?_; clear hK K)) | (refine a_bin ?_ ?_ <;> intro _ <;> try (exfalso; omega)) | refine a_ld hl ?_ | (refine a_st hl ?_; clear hl; intro _ hl) | refine a_ix (fun _ => ?_) | fail)
    refine wk_ret (retQ_tmp1 Tryd.results3 (by decide) rfl (by conv => lhs; whnf) ?_)
    exact ⟨rfl, he⟩
  repeat' (first | refine a_mov ?_ | refine a_asg ?_ | refine a_binN ?_ | refine a_notd ?_ | refine a_notb ?_ | refine a_nilc ?_ | refine a_fa ?_ | refine a_ext ?_ | refine a_lenv ?_ | refine a_lens ?_ | refine a_pick_t ?_ | refine a_pick_f ?_ | refine a_not ?_ | refine a_nilf ?_ | (refine o_nil (hK _ _ ?_); clear hK K) | refine wk_reg ?_ | refine wk_seq fun K hK => ?_ | (refine wk_skip (hK _ _ ?_); clear hK K) | (refine wk_label (hK _ _ ?_); clear hK K) | refine wk_scope ?_ | refine wk_block ?_ | refine wk_cond_t rfl ?_ | refine wk_cond_f rfl ?_ | (refine wk_exit ?_; (repeat (refine blockK_other rfl ?_)); refine blockK_same ?_; try ((repeat ((fail_if_success (refine hK _ _ ?_)); clear hK K)); refine hK _ _ ?_; clear hK K)) | (refine a_bin ?_ ?_ <;> intro _ <;> try (exfalso; omega)) | refine a_ld hl ?_ | (refine a_st hl ?_; clear hl; intro _ hl) | refine a_ix (fun _ => ?_) | fail)
  have hr' : ∃ r : Rul.Rul, r = ⟨r0.id, r0.tgt, 5, r0.fro, r0.til, r0.read, r0.known, r0.fin, []⟩ := ⟨_, rfl⟩
  obtain ⟨r, hre⟩ := hr'
  rename_i w7
  have hl' : LH w (fun _ => False) w7 [(b7, Obj.cells #[.slice da F.length dc] 30 (0, 0)), (b6, Obj.cells ([str (r).id, str (r).tgt, .int .i64 (r).kind, .int .i64 (r).fro, .int .i64 (r).til, .int .i64 (r).read.op, str (r).read.name, .int .i64 (r).read.cmp, .int .i64 (r).read.num, rv, .int .i64 (r).known, .bool (r).fin, str (r).lifts] : List Value).toArray 27 (0, 0))] := by
    rw [hre, ← str0]; exact hl
  have he := hl'.done
  replace S := hs.at_.ext he
  replace hd := hd0.ext he
  replace hc := hc0.ext he
  have hkr : KA w7 r.read.kids rv := by rw [hre]; exact hr.f.k.ext he
  have rr : Row w7 b6 0 [str (r).id, str (r).tgt, .int .i64 (r).kind, .int .i64 (r).fro, .int .i64 (r).til, .int .i64 (r).read.op, str (r).read.name, .int .i64 (r).read.cmp, .int .i64 (r).read.num, rv, .int .i64 (r).known, .bool (r).fin, str (r).lifts] := hl'.rowL (vs := [str (r).id, str (r).tgt, .int .i64 (r).kind, .int .i64 (r).fro, .int .i64 (r).til, .int .i64 (r).read.op, str (r).read.name, .int .i64 (r).read.cmp, .int .i64 (r).read.num, rv, .int .i64 (r).known, .bool (r).fin, str (r).lifts]) 1 0 13 rfl
  have rd' : Row w7 b7 0 [.slice da F.length dc] := hl'.rowL (vs := [.slice da F.length dc]) 0 0 1 rfl
  have hk5 : r.kind = 5 := by rw [hre]
  have hrc : cnt r.read ≤ 250 := by rw [hre]; exact q2.1
  have hrl : RuLen r := by rw [hre]; exact ⟨hr.ok.len.1, hr.ok.len.2.1, by simp⟩
  clear hl hl' hre q2 hd0 hc0 ho
  refine a_fn (refOn_calls s _ day w7 S (by omega)) ?_
  rintro _ w8 ⟨⟨fv, b, rfl, hb, h1, h2⟩, hx⟩
  obtain ⟨fk, rfl, hkf⟩ := on_fm h1 h2
  have hcf : cnt (onF s day) ≤ 250 := onF_cnt q3.2 (by decide)
  ((first | (replace S := S.ext (hx)) | skip); (first | (replace S2 := S2.ext (hx)) | skip); (first | (replace hkr := hkr.ext (hx)) | skip); (first | (replace rr := rr.ext (hx)) | skip); (first | (replace rd' := rd'.ext (hx)) | skip); (first | (replace hd := hd.ext (hx)) | skip); (first | (replace hc := hc.ext (hx)) | skip); (first | (replace rf := rf.ext (hx)) | skip); (first | (replace hkf := hkf.ext (hx)) | skip); (first | (replace rg := rg.ext (hx)) | skip); (first | (replace hkg := hkg.ext (hx)) | skip); replace he := he.trans (hx))
  clear hx h1 h2
  have hsome : b = true → ∃ t, Rul.onB s day = some t ∧ t.read = onF s day := fun h => by
    rw [h] at hb
    cases ho : Rul.onB s day with
    | none => rw [ho] at hb; cases hb
    | some t => exact ⟨t, rfl, (onF_some ho).symm⟩
  generalize onF s day = f at *
  repeat' (first | refine a_mov ?_ | refine a_asg ?_ | refine a_binN ?_ | refine a_notd ?_ | refine a_notb ?_ | refine a_nilc ?_ | refine a_fa ?_ | refine a_ext ?_ | refine a_lenv ?_ | refine a_lens ?_ | refine a_pick_t ?_ | refine a_pick_f ?_ | refine a_not ?_ | refine a_nilf ?_ | (refine o_nil (hK _ _ ?_); clear hK K) | refine wk_reg ?_ | refine wk_seq fun K hK => ?_ | (refine wk_skip (hK _ _ ?_); clear hK K) | (refine wk_label (hK _ _ ?_); clear hK K) | refine wk_scope ?_ | refine wk_block ?_ | refine wk_cond_t rfl ?_ | refine wk_cond_f rfl ?_ | (refine wk_exit ?_; (repeat (refine blockK_other rfl ?_)); refine blockK_same ?_; try ((repeat ((fail_if_success (refine hK _ _ ?_)); clear hK K)); refine hK _ _ ?_; clear hK K)) | (refine a_bin ?_ ?_ <;> intro _ <;> try (exfalso; omega)) | refine a_ld hl ?_ | (refine a_st hl ?_; clear hl; intro _ hl) | refine a_ix (fun _ => ?_) | fail)
  refine o_alloc (LH.start w8 (fun _ => False)) [.int .i64 0, .string ⟨#[]⟩, .int .i64 0, .int .i64 0, .slice none 0 0] rfl rfl ?_
  intro b12 w9 hb12 hl
  refine o_putN (us := [.int .i64 (f).op, str (f).name, .int .i64 (f).cmp, .int .i64 (f).num, fk]) hl rfl rfl rfl (fmL_one hkf) rfl (.all rfl rfl) ?_
  clear hl
  intro w10 hl
  have rf : Row w10 b12 0 [.int .i64 (f).op, str (f).name, .int .i64 (f).cmp, .int .i64 (f).num, fk] := hl.rowL (vs := [.int .i64 (f).op, str (f).name, .int .i64 (f).cmp, .int .i64 (f).num, fk]) 0 0 5 rfl
  have hx := hl.done
  replace S := S.ext hx
  replace hkr := hkr.ext hx
  replace rr := rr.ext hx
  replace rd' := rd'.ext hx
  replace hd := hd.ext hx
  replace hc := hc.ext hx
  replace hkf := hkf.ext hx
  replace he := he.trans hx
  clear hx hl
  have r5 : Row w10 b6 (0 + 5) [.int .i64 (r.read).op, str (r.read).name, .int .i64 (r.read).cmp, .int .i64 (r.read).num, rv] := Row.sub5 rr rfl
  repeat' (first | refine a_mov ?_ | refine a_asg ?_ | refine a_binN ?_ | refine a_notd ?_ | refine a_notb ?_ | refine a_nilc ?_ | refine a_fa ?_ | refine a_ext ?_ | refine a_lenv ?_ | refine a_lens ?_ | refine a_pick_t ?_ | refine a_pick_f ?_ | refine a_not ?_ | refine a_nilf ?_ | (refine o_nil (hK _ _ ?_); clear hK K) | refine wk_reg ?_ | refine wk_seq fun K hK => ?_ | (refine wk_skip (hK _ _ ?_); clear hK K) | (refine wk_label (hK _ _ ?_); clear hK K) | refine wk_scope ?_ | refine wk_block ?_ | refine wk_cond_t rfl ?_ | refine wk_cond_f rfl ?_ | (refine wk_exit ?_; (repeat (refine blockK_other rfl ?_)); refine blockK_same ?_; try ((repeat ((fail_if_success (refine hK _ _ ?_)); clear hK K)); refine hK _ _ ?_; clear hK K)) | (refine a_bin ?_ ?_ <;> intro _ <;> try (exfalso; omega)) | refine a_ld hl ?_ | (refine a_st hl ?_; clear hl; intro _ hl) | refine a_ix (fun _ => ?_) | refine a_all r5 ?_)
  refine a_fn (size_calls r.read w10 _ rv hkr (by omega)) ?_
  rintro _ w11 ⟨rfl, hx⟩
  ((first | (replace S := S.ext (hx)) | skip); (first | (replace S2 := S2.ext (hx)) | skip); (first | (replace hkr := hkr.ext (hx)) | skip); (first | (replace rr := rr.ext (hx)) | skip); (first | (replace rd' := rd'.ext (hx)) | skip); (first | (replace hd := hd.ext (hx)) | skip); (first | (replace hc := hc.ext (hx)) | skip); (first | (replace rf := rf.ext (hx)) | skip); (first | (replace hkf := hkf.ext (hx)) | skip); (first | (replace rg := rg.ext (hx)) | skip); (first | (replace hkg := hkg.ext (hx)) | skip); replace he := he.trans (hx))
  clear hx r5
  repeat' (first | refine a_mov ?_ | refine a_asg ?_ | refine a_binN ?_ | refine a_notd ?_ | refine a_notb ?_ | refine a_nilc ?_ | refine a_fa ?_ | refine a_ext ?_ | refine a_lenv ?_ | refine a_lens ?_ | refine a_pick_t ?_ | refine a_pick_f ?_ | refine a_not ?_ | refine a_nilf ?_ | (refine o_nil (hK _ _ ?_); clear hK K) | refine wk_reg ?_ | refine wk_seq fun K hK => ?_ | (refine wk_skip (hK _ _ ?_); clear hK K) | (refine wk_label (hK _ _ ?_); clear hK K) | refine wk_scope ?_ | refine wk_block ?_ | refine wk_cond_t rfl ?_ | refine wk_cond_f rfl ?_ | (refine wk_exit ?_; (repeat (refine blockK_other rfl ?_)); refine blockK_same ?_; try ((repeat ((fail_if_success (refine hK _ _ ?_)); clear hK K)); refine hK _ _ ?_; clear hK K)) | (refine a_bin ?_ ?_ <;> intro _ <;> try (exfalso; omega)) | refine a_ld hl ?_ | (refine a_st hl ?_; clear hl; intro _ hl) | refine a_ix (fun _ => ?_) | refine a_all rf ?_)
  refine a_fn (size_calls f w11 _ fk hkf (by omega)) ?_
  rintro _ w12 ⟨rfl, hx⟩
  ((first | (replace S := S.ext (hx)) | skip); (first | (replace S2 := S2.ext (hx)) | skip); (first | (replace hkr := hkr.ext (hx)) | skip); (first | (replace rr := rr.ext (hx)) | skip); (first | (replace rd' := rd'.ext (hx)) | skip); (first | (replace hd := hd.ext (hx)) | skip); (first | (replace hc := hc.ext (hx)) | skip); (first | (replace rf := rf.ext (hx)) | skip); (first | (replace hkf := hkf.ext (hx)) | skip); (first | (replace rg := rg.ext (hx)) | skip); (first | (replace hkg := hkg.ext (hx)) | skip); replace he := he.trans (hx))
  clear hx
  repeat' (first | refine a_mov ?_ | refine a_asg ?_ | refine a_binN ?_ | refine a_notd ?_ | refine a_notb ?_ | refine a_nilc ?_ | refine a_fa ?_ | refine a_ext ?_ | refine a_lenv ?_ | refine a_lens ?_ | refine a_pick_t ?_ | refine a_pick_f ?_ | refine a_not ?_ | refine a_nilf ?_ | (refine o_nil (hK _ _ ?_); clear hK K) | refine wk_reg ?_ | refine wk_seq fun K hK => ?_ | (refine wk_skip (hK _ _ ?_); clear hK K) | (refine wk_label (hK _ _ ?_); clear hK K) | refine wk_scope ?_ | refine wk_block ?_ | refine wk_cond_t rfl ?_ | refine wk_cond_f rfl ?_ | (refine wk_exit ?_; (repeat (refine blockK_other rfl ?_)); refine blockK_same ?_; try ((repeat ((fail_if_success (refine hK _ _ ?_)); clear hK K)); refine hK _ _ ?_; clear hK K)) | (refine a_bin ?_ ?_ <;> intro _ <;> try (exfalso; omega)) | refine a_ld hl ?_ | (refine a_st hl ?_; clear hl; intro _ hl) | refine a_ix (fun _ => ?_) | refine a_all rr ?_)
  refine a_fn (ruValid_calls r rv w12 hkr (by omega) hrl) ?_
  rintro _ w13 ⟨rfl, hx⟩
  ((first | (replace S := S.ext (hx)) | skip); (first | (replace S2 := S2.ext (hx)) | skip); (first | (replace hkr := hkr.ext (hx)) | skip); (first | (replace rr := rr.ext (hx)) | skip); (first | (replace rd' := rd'.ext (hx)) | skip); (first | (replace hd := hd.ext (hx)) | skip); (first | (replace hc := hc.ext (hx)) | skip); (first | (replace rf := rf.ext (hx)) | skip); (first | (replace hkf := hkf.ext (hx)) | skip); (first | (replace rg := rg.ext (hx)) | skip); (first | (replace hkg := hkg.ext (hx)) | skip); replace he := he.trans (hx))
  clear hx
  have fin : ∀ w', Ext w13 w' → Value.bool true = Value.bool true ∧ Ext w w' := fun w' h => ⟨rfl, he.trans h⟩
  cases hv : Rul.validB r
  · repeat' (first | refine a_mov ?_ | refine a_asg ?_ | refine a_binN ?_ | refine a_notd ?_ | refine a_notb ?_ | refine a_nilc ?_ | refine a_fa ?_ | refine a_ext ?_ | refine a_lenv ?_ | refine a_lens ?_ | refine a_pick_t ?_ | refine a_pick_f ?_ | refine a_not ?_ | refine a_nilf ?_ | (refine o_nil (hK _ _ ?_); clear hK K) | refine wk_reg ?_ | refine wk_seq fun K hK => ?_ | (refine wk_skip (hK _ _ ?_); clear hK K) | (refine wk_label (hK _ _ ?_); clear hK K) | refine wk_scope ?_ | refine wk_block ?_ | refine wk_cond_t rfl ?_ | refine wk_cond_f rfl ?_ | (refine wk_exit ?_; (repeat (refine blockK_other rfl ?_)); refine blockK_same ?_; try ((repeat ((fail_if_success (refine hK _ _ ?_)); clear hK K)); refine hK _ _ ?_; clear hK K)) | (refine a_bin ?_ ?_ <;> intro _ <;> try (exfalso; omega)) | refine a_ld hl ?_ | (refine a_st hl ?_; clear hl; intro _ hl) | refine a_ix (fun _ => ?_) | fail)
    refine wk_ret (retQ_tmp1 Tryd.results3 (by decide) rfl (by conv => lhs; whnf) ?_)
    exact fin _ (.refl _ _)
  by_cases hbig : 60 < cnt r.read ∨ 60 < cnt f ∨ 10 < dep r.read ∨ 10 < dep f
  · repeat' (first | refine a_mov ?_ | refine a_asg ?_ | refine a_binN ?_ | refine a_notd ?_ | refine a_notb ?_ | refine a_nilc ?_ | refine a_fa ?_ | refine a_ext ?_ | refine a_lenv ?_ | refine a_lens ?_ | refine a_pick_t ?_ | refine a_pick_f ?_ | refine a_not ?_ | refine a_nilf ?_ | (refine o_nil (hK _ _ ?_); clear hK K) | refine wk_reg ?_ | refine wk_seq fun K hK => ?_ | (refine wk_skip (hK _ _ ?_); clear hK K) | (refine wk_label (hK _ _ ?_); clear hK K) | refine wk_scope ?_ | refine wk_block ?_ | refine wk_cond_t rfl ?_ | refine wk_cond_f rfl ?_ | (refine wk_exit ?_; (repeat (refine blockK_other rfl ?_)); refine blockK_same ?_; try ((repeat ((fail_if_success (refine hK _ _ ?_)); clear hK K)); refine hK _ _ ?_; clear hK K)) | (refine a_bin ?_ ?_ <;> intro _ <;> try (exfalso; omega)) | refine a_ld hl ?_ | (refine a_st hl ?_; clear hl; intro _ hl) | refine a_ix (fun _ => ?_) | fail)
    all_goals (refine wk_ret (retQ_tmp1 Tryd.results3 (by decide) rfl (by conv => lhs; whnf) ?_))
    all_goals exact fin _ (.refl _ _)
  have shr := short_of (f := r.read) (by omega)
  have shf := short_of (f := f) (by omega)
  have r5 : Row w13 b6 (0 + 5) [.int .i64 (r.read).op, str (r.read).name, .int .i64 (r.read).cmp, .int .i64 (r.read).num, rv] := Row.sub5 rr rfl
  repeat' (first | refine a_mov ?_ | refine a_asg ?_ | refine a_binN ?_ | refine a_notd ?_ | refine a_notb ?_ | refine a_nilc ?_ | refine a_fa ?_ | refine a_ext ?_ | refine a_lenv ?_ | refine a_lens ?_ | refine a_pick_t ?_ | refine a_pick_f ?_ | refine a_not ?_ | refine a_nilf ?_ | (refine o_nil (hK _ _ ?_); clear hK K) | refine wk_reg ?_ | refine wk_seq fun K hK => ?_ | (refine wk_skip (hK _ _ ?_); clear hK K) | (refine wk_label (hK _ _ ?_); clear hK K) | refine wk_scope ?_ | refine wk_block ?_ | refine wk_cond_t rfl ?_ | refine wk_cond_f rfl ?_ | (refine wk_exit ?_; (repeat (refine blockK_other rfl ?_)); refine blockK_same ?_; try ((repeat ((fail_if_success (refine hK _ _ ?_)); clear hK K)); refine hK _ _ ?_; clear hK K)) | (refine a_bin ?_ ?_ <;> intro _ <;> try (exfalso; omega)) | refine a_ld hl ?_ | (refine a_st hl ?_; clear hl; intro _ hl) | refine a_ix (fun _ => ?_) | refine a_all r5 ?_ | refine a_all rd' ?_)
  refine a_fn (Check_calls F [] nF (by decide) r.read w13 _ rv _ (.slice none 0 0) hkr (fun b h => h) shr (by omega) hd (Sl.nil _ _)) ?_
  rintro _ w14 ⟨rfl, hx⟩
  replace r5 := r5.ext hx
  replace fin : ∀ w', Ext w14 w' → Value.bool true = Value.bool true ∧ Ext w w' := fun w' h => fin w' (hx.trans h)
  ((first | (replace S := S.ext (hx)) | skip); (first | (replace S2 := S2.ext (hx)) | skip); (first | (replace hkr := hkr.ext (hx)) | skip); (first | (replace rr := rr.ext (hx)) | skip); (first | (replace rd' := rd'.ext (hx)) | skip); (first | (replace hd := hd.ext (hx)) | skip); (first | (replace hc := hc.ext (hx)) | skip); (first | (replace rf := rf.ext (hx)) | skip); (first | (replace hkf := hkf.ext (hx)) | skip); (first | (replace rg := rg.ext (hx)) | skip); (first | (replace hkg := hkg.ext (hx)) | skip); replace he := he.trans (hx))
  clear hx
  by_cases hck : checkE F (fun s => ([] : List (List UInt8)).contains s) r.read = 0
  rotate_left
  · generalize checkE F (fun s => ([] : List (List UInt8)).contains s) r.read = er at *
    repeat' (first | refine a_mov ?_ | refine a_asg ?_ | refine a_binN ?_ | refine a_notd ?_ | refine a_notb ?_ | refine a_nilc ?_ | refine a_fa ?_ | refine a_ext ?_ | refine a_lenv ?_ | refine a_lens ?_ | refine a_pick_t ?_ | refine a_pick_f ?_ | refine a_not ?_ | refine a_nilf ?_ | (refine o_nil (hK _ _ ?_); clear hK K) | refine wk_reg ?_ | refine wk_seq fun K hK => ?_ | (refine wk_skip (hK _ _ ?_); clear hK K) | (refine wk_label (hK _ _ ?_); clear hK K) | refine wk_scope ?_ | refine wk_block ?_ | refine wk_cond_t rfl ?_ | refine wk_cond_f rfl ?_ | (refine wk_exit ?_; (repeat (refine blockK_other rfl ?_)); refine blockK_same ?_; try ((repeat ((fail_if_success (refine hK _ _ ?_)); clear hK K)); refine hK _ _ ?_; clear hK K)) | (refine a_bin ?_ ?_ <;> intro _ <;> try (exfalso; omega)) | refine a_ld hl ?_ | (refine a_st hl ?_; clear hl; intro _ hl) | refine a_ix (fun _ => ?_) | fail)
    refine wk_ret (retQ_tmp1 Tryd.results3 (by decide) rfl (by conv => lhs; whnf) ?_)
    exact fin _ (.refl _ _)
  rw [hck]
  have hlaw := Rul.reads_law hv hk5 day s
  have hal2 : (Rul.applyB s r).length ≤ 1000000 := by have := flat_one_len (Rul.kindOf r) r s; unfold Rul.applyB; omega
  cases b
  · have hnone : Rul.onB s day = none := by
      cases ho : Rul.onB s day with
      | none => rfl
      | some t => rw [ho] at hb; cases hb
    rw [hnone] at hlaw
    have hnone2 : Rul.onB (Rul.applyB s r) day = none := by
      cases ho : Rul.onB (Rul.applyB s r) day with
      | none => rfl
      | some t => rw [ho] at hlaw; cases hlaw
    repeat' (first | refine a_mov ?_ | refine a_asg ?_ | refine a_binN ?_ | refine a_notd ?_ | refine a_notb ?_ | refine a_nilc ?_ | refine a_fa ?_ | refine a_ext ?_ | refine a_lenv ?_ | refine a_lens ?_ | refine a_pick_t ?_ | refine a_pick_f ?_ | refine a_not ?_ | refine a_nilf ?_ | (refine o_nil (hK _ _ ?_); clear hK K) | refine wk_reg ?_ | refine wk_seq fun K hK => ?_ | (refine wk_skip (hK _ _ ?_); clear hK K) | (refine wk_label (hK _ _ ?_); clear hK K) | refine wk_scope ?_ | refine wk_block ?_ | refine wk_cond_t rfl ?_ | refine wk_cond_f rfl ?_ | (refine wk_exit ?_; (repeat (refine blockK_other rfl ?_)); refine blockK_same ?_; try ((repeat ((fail_if_success (refine hK _ _ ?_)); clear hK K)); refine hK _ _ ?_; clear hK K)) | (refine a_bin ?_ ?_ <;> intro _ <;> try (exfalso; omega)) | refine a_ld hl ?_ | (refine a_st hl ?_; clear hl; intro _ hl) | refine a_ix (fun _ => ?_) | refine a_all rr ?_)
    refine a_fn (apply_calls s r _ rv w14 S hkr (by omega)) ?_
    rintro av w15 ⟨S2, hx⟩
    obtain ⟨aa, ac, rfl, -⟩ := S2.shape
    repeat' (first | refine a_mov ?_ | refine a_asg ?_ | refine a_binN ?_ | refine a_notd ?_ | refine a_notb ?_ | refine a_nilc ?_ | refine a_fa ?_ | refine a_ext ?_ | refine a_lenv ?_ | refine a_lens ?_ | refine a_pick_t ?_ | refine a_pick_f ?_ | refine a_not ?_ | refine a_nilf ?_ | (refine o_nil (hK _ _ ?_); clear hK K) | refine wk_reg ?_ | refine wk_seq fun K hK => ?_ | (refine wk_skip (hK _ _ ?_); clear hK K) | (refine wk_label (hK _ _ ?_); clear hK K) | refine wk_scope ?_ | refine wk_block ?_ | refine wk_cond_t rfl ?_ | refine wk_cond_f rfl ?_ | (refine wk_exit ?_; (repeat (refine blockK_other rfl ?_)); refine blockK_same ?_; try ((repeat ((fail_if_success (refine hK _ _ ?_)); clear hK K)); refine hK _ _ ?_; clear hK K)) | (refine a_bin ?_ ?_ <;> intro _ <;> try (exfalso; omega)) | refine a_ld hl ?_ | (refine a_st hl ?_; clear hl; intro _ hl) | refine a_ix (fun _ => ?_) | fail)
    refine a_fn (refOn_calls _ _ day w15 S2 (by omega)) ?_
    rintro _ w16 ⟨⟨gv, b2, rfl, hb2, h1, h2⟩, hy⟩
    obtain ⟨gk, rfl, hkg⟩ := on_fm h1 h2
    rw [hnone2] at hb2
    replace hb2 : b2 = false := hb2
    subst hb2
    generalize onF (Rul.applyB s r) day = g at *
    repeat' (first | refine a_mov ?_ | refine a_asg ?_ | refine a_binN ?_ | refine a_notd ?_ | refine a_notb ?_ | refine a_nilc ?_ | refine a_fa ?_ | refine a_ext ?_ | refine a_lenv ?_ | refine a_lens ?_ | refine a_pick_t ?_ | refine a_pick_f ?_ | refine a_not ?_ | refine a_nilf ?_ | (refine o_nil (hK _ _ ?_); clear hK K) | refine wk_reg ?_ | refine wk_seq fun K hK => ?_ | (refine wk_skip (hK _ _ ?_); clear hK K) | (refine wk_label (hK _ _ ?_); clear hK K) | refine wk_scope ?_ | refine wk_block ?_ | refine wk_cond_t rfl ?_ | refine wk_cond_f rfl ?_ | (refine wk_exit ?_; (repeat (refine blockK_other rfl ?_)); refine blockK_same ?_; try ((repeat ((fail_if_success (refine hK _ _ ?_)); clear hK K)); refine hK _ _ ?_; clear hK K)) | (refine a_bin ?_ ?_ <;> intro _ <;> try (exfalso; omega)) | refine a_ld hl ?_ | (refine a_st hl ?_; clear hl; intro _ hl) | refine a_ix (fun _ => ?_) | fail)
    refine o_alloc (LH.start w16 (fun _ => False)) [.int .i64 0, .string ⟨#[]⟩, .int .i64 0, .int .i64 0, .slice none 0 0] rfl rfl ?_
    intro b18 w17 hb18 hl
    refine o_putN (us := [.int .i64 (g).op, str (g).name, .int .i64 (g).cmp, .int .i64 (g).num, gk]) hl rfl rfl rfl (fmL_one hkg) rfl (.all rfl rfl) ?_
    clear hl
    intro w18 hl
    have hz := hl.done
    repeat' (first | refine a_mov ?_ | refine a_asg ?_ | refine a_binN ?_ | refine a_notd ?_ | refine a_notb ?_ | refine a_nilc ?_ | refine a_fa ?_ | refine a_ext ?_ | refine a_lenv ?_ | refine a_lens ?_ | refine a_pick_t ?_ | refine a_pick_f ?_ | refine a_not ?_ | refine a_nilf ?_ | (refine o_nil (hK _ _ ?_); clear hK K) | refine wk_reg ?_ | refine wk_seq fun K hK => ?_ | (refine wk_skip (hK _ _ ?_); clear hK K) | (refine wk_label (hK _ _ ?_); clear hK K) | refine wk_scope ?_ | refine wk_block ?_ | refine wk_cond_t rfl ?_ | refine wk_cond_f rfl ?_ | (refine wk_exit ?_; (repeat (refine blockK_other rfl ?_)); refine blockK_same ?_; try ((repeat ((fail_if_success (refine hK _ _ ?_)); clear hK K)); refine hK _ _ ?_; clear hK K)) | (refine a_bin ?_ ?_ <;> intro _ <;> try (exfalso; omega)) | refine a_ld hl ?_ | (refine a_st hl ?_; clear hl; intro _ hl) | refine a_ix (fun _ => ?_) | refine o_neB rfl rfl rfl rfl ?_ | refine o_eqB rfl rfl rfl rfl ?_)
    refine wk_ret (retQ_tmp1 Tryd.results3 (by decide) rfl (by conv => lhs; whnf) ?_)
    exact fin _ ((hx.trans hy).trans hz)
  obtain ⟨t, hot, htf⟩ := hsome rfl
  rw [hot] at hlaw
  repeat' (first | refine a_mov ?_ | refine a_asg ?_ | refine a_binN ?_ | refine a_notd ?_ | refine a_notb ?_ | refine a_nilc ?_ | refine a_fa ?_ | refine a_ext ?_ | refine a_lenv ?_ | refine a_lens ?_ | refine a_pick_t ?_ | refine a_pick_f ?_ | refine a_not ?_ | refine a_nilf ?_ | (refine o_nil (hK _ _ ?_); clear hK K) | refine wk_reg ?_ | refine wk_seq fun K hK => ?_ | (refine wk_skip (hK _ _ ?_); clear hK K) | (refine wk_label (hK _ _ ?_); clear hK K) | refine wk_scope ?_ | refine wk_block ?_ | refine wk_cond_t rfl ?_ | refine wk_cond_f rfl ?_ | (refine wk_exit ?_; (repeat (refine blockK_other rfl ?_)); refine blockK_same ?_; try ((repeat ((fail_if_success (refine hK _ _ ?_)); clear hK K)); refine hK _ _ ?_; clear hK K)) | (refine a_bin ?_ ?_ <;> intro _ <;> try (exfalso; omega)) | refine a_ld hl ?_ | (refine a_st hl ?_; clear hl; intro _ hl) | refine a_ix (fun _ => ?_) | refine a_all rf ?_ | refine a_all rd' ?_)
  refine a_fn (Check_calls F [] nF (by decide) f w14 _ fk _ (.slice none 0 0) hkf (fun b h => h) shf (by omega) hd (Sl.nil _ _)) ?_
  rintro _ w15 ⟨rfl, hx⟩
  replace fin : ∀ w', Ext w15 w' → Value.bool true = Value.bool true ∧ Ext w w' := fun w' h => fin w' (hx.trans h)
  ((first | (replace S := S.ext (hx)) | skip); (first | (replace S2 := S2.ext (hx)) | skip); (first | (replace hkr := hkr.ext (hx)) | skip); (first | (replace rr := rr.ext (hx)) | skip); (first | (replace rd' := rd'.ext (hx)) | skip); (first | (replace hd := hd.ext (hx)) | skip); (first | (replace hc := hc.ext (hx)) | skip); (first | (replace rf := rf.ext (hx)) | skip); (first | (replace hkf := hkf.ext (hx)) | skip); (first | (replace rg := rg.ext (hx)) | skip); (first | (replace hkg := hkg.ext (hx)) | skip); replace he := he.trans (hx))
  clear hx r5
  by_cases hcf2 : checkE F (fun s => ([] : List (List UInt8)).contains s) f = 0
  rotate_left
  · generalize checkE F (fun s => ([] : List (List UInt8)).contains s) f = er at *
    repeat' (first | refine a_mov ?_ | refine a_asg ?_ | refine a_binN ?_ | refine a_notd ?_ | refine a_notb ?_ | refine a_nilc ?_ | refine a_fa ?_ | refine a_ext ?_ | refine a_lenv ?_ | refine a_lens ?_ | refine a_pick_t ?_ | refine a_pick_f ?_ | refine a_not ?_ | refine a_nilf ?_ | (refine o_nil (hK _ _ ?_); clear hK K) | refine wk_reg ?_ | refine wk_seq fun K hK => ?_ | (refine wk_skip (hK _ _ ?_); clear hK K) | (refine wk_label (hK _ _ ?_); clear hK K) | refine wk_scope ?_ | refine wk_block ?_ | refine wk_cond_t rfl ?_ | refine wk_cond_f rfl ?_ | (refine wk_exit ?_; (repeat (refine blockK_other rfl ?_)); refine blockK_same ?_; try ((repeat ((fail_if_success (refine hK _ _ ?_)); clear hK K)); refine hK _ _ ?_; clear hK K)) | (refine a_bin ?_ ?_ <;> intro _ <;> try (exfalso; omega)) | refine a_ld hl ?_ | (refine a_st hl ?_; clear hl; intro _ hl) | refine a_ix (fun _ => ?_) | fail)
    refine wk_ret (retQ_tmp1 Tryd.results3 (by decide) rfl (by conv => lhs; whnf) ?_)
    exact fin _ (.refl _ _)
  rw [hcf2]
  repeat' (first | refine a_mov ?_ | refine a_asg ?_ | refine a_binN ?_ | refine a_notd ?_ | refine a_notb ?_ | refine a_nilc ?_ | refine a_fa ?_ | refine a_ext ?_ | refine a_lenv ?_ | refine a_lens ?_ | refine a_pick_t ?_ | refine a_pick_f ?_ | refine a_not ?_ | refine a_nilf ?_ | (refine o_nil (hK _ _ ?_); clear hK K) | refine wk_reg ?_ | refine wk_seq fun K hK => ?_ | (refine wk_skip (hK _ _ ?_); clear hK K) | (refine wk_label (hK _ _ ?_); clear hK K) | refine wk_scope ?_ | refine wk_block ?_ | refine wk_cond_t rfl ?_ | refine wk_cond_f rfl ?_ | (refine wk_exit ?_; (repeat (refine blockK_other rfl ?_)); refine blockK_same ?_; try ((repeat ((fail_if_success (refine hK _ _ ?_)); clear hK K)); refine hK _ _ ?_; clear hK K)) | (refine a_bin ?_ ?_ <;> intro _ <;> try (exfalso; omega)) | refine a_ld hl ?_ | (refine a_st hl ?_; clear hl; intro _ hl) | refine a_ix (fun _ => ?_) | refine a_all rr ?_)
  refine a_fn (apply_calls s r _ rv w15 S hkr (by omega)) ?_
  rintro av w16 ⟨S2, hx⟩
  ((first | (replace S := S.ext (hx)) | skip); (first | (replace S2 := S2.ext (hx)) | skip); (first | (replace hkr := hkr.ext (hx)) | skip); (first | (replace rr := rr.ext (hx)) | skip); (first | (replace rd' := rd'.ext (hx)) | skip); (first | (replace hd := hd.ext (hx)) | skip); (first | (replace hc := hc.ext (hx)) | skip); (first | (replace rf := rf.ext (hx)) | skip); (first | (replace hkf := hkf.ext (hx)) | skip); (first | (replace rg := rg.ext (hx)) | skip); (first | (replace hkg := hkg.ext (hx)) | skip); replace he := he.trans (hx))
  clear hx fin
  obtain ⟨aa, ac, rfl, -⟩ := S2.shape
  repeat' (first | refine a_mov ?_ | refine a_asg ?_ | refine a_binN ?_ | refine a_notd ?_ | refine a_notb ?_ | refine a_nilc ?_ | refine a_fa ?_ | refine a_ext ?_ | refine a_lenv ?_ | refine a_lens ?_ | refine a_pick_t ?_ | refine a_pick_f ?_ | refine a_not ?_ | refine a_nilf ?_ | (refine o_nil (hK _ _ ?_); clear hK K) | refine wk_reg ?_ | refine wk_seq fun K hK => ?_ | (refine wk_skip (hK _ _ ?_); clear hK K) | (refine wk_label (hK _ _ ?_); clear hK K) | refine wk_scope ?_ | refine wk_block ?_ | refine wk_cond_t rfl ?_ | refine wk_cond_f rfl ?_ | (refine wk_exit ?_; (repeat (refine blockK_other rfl ?_)); refine blockK_same ?_; try ((repeat ((fail_if_success (refine hK _ _ ?_)); clear hK K)); refine hK _ _ ?_; clear hK K)) | (refine a_bin ?_ ?_ <;> intro _ <;> try (exfalso; omega)) | refine a_ld hl ?_ | (refine a_st hl ?_; clear hl; intro _ hl) | refine a_ix (fun _ => ?_) | fail)
  refine a_fn (refOn_calls _ _ day w16 S2 (by omega)) ?_
  rintro _ w17 ⟨⟨gv, b2, rfl, hb2, h1, h2⟩, hx⟩
  obtain ⟨gk, rfl, hkg⟩ := on_fm h1 h2
  replace hlaw : (Rul.onB (Rul.applyB s r) day).map (·.read) = some (if day < r.fro then t.read else Rul.readOf t r) := hlaw
  obtain ⟨g', hg', hgr⟩ : ∃ g', Rul.onB (Rul.applyB s r) day = some g' ∧ g'.read = if day < r.fro then t.read else Rul.readOf t r := by
    cases ho : Rul.onB (Rul.applyB s r) day with
    | none => rw [ho] at hlaw; cases hlaw
    | some g' => rw [ho] at hlaw; exact ⟨g', rfl, Option.some.inj hlaw⟩
  have hgf : onF (Rul.applyB s r) day = if day < r.fro then f else Rul.readOf t r := by rw [onF_some hg', hgr, htf]
  rw [hg'] at hb2
  replace hb2 : b2 = true := hb2
  subst hb2
  ((first | (replace S := S.ext (hx)) | skip); (first | (replace S2 := S2.ext (hx)) | skip); (first | (replace hkr := hkr.ext (hx)) | skip); (first | (replace rr := rr.ext (hx)) | skip); (first | (replace rd' := rd'.ext (hx)) | skip); (first | (replace hd := hd.ext (hx)) | skip); (first | (replace hc := hc.ext (hx)) | skip); (first | (replace rf := rf.ext (hx)) | skip); (first | (replace hkf := hkf.ext (hx)) | skip); (first | (replace rg := rg.ext (hx)) | skip); (first | (replace hkg := hkg.ext (hx)) | skip); replace he := he.trans (hx))
  clear hx h1 h2 hlaw hgr hg' hb S2
  have hreads := Rul.reads_holds (F := F) (c := c) (s := t) (r := r) (by rw [htf]; exact hcf2) hck (by rw [htf]; omega) (by rw [htf]; omega) (by omega) (by omega)
  rw [htf] at hreads
  have hgc : cnt (onF (Rul.applyB s r) day) ≤ 1000 := by
    rw [hgf]
    split
    · omega
    · unfold Rul.readOf
      split
      · omega
      · have e1 : cnt (Rul.both2 t.read r.read) = 1 + (cnt t.read + (cnt r.read + 0)) := rfl
        rw [htf] at e1 ⊢
        omega
  generalize onF (Rul.applyB s r) day = g at *
  have shg := short_of (f := g) (by omega)
  repeat' (first | refine a_mov ?_ | refine a_asg ?_ | refine a_binN ?_ | refine a_notd ?_ | refine a_notb ?_ | refine a_nilc ?_ | refine a_fa ?_ | refine a_ext ?_ | refine a_lenv ?_ | refine a_lens ?_ | refine a_pick_t ?_ | refine a_pick_f ?_ | refine a_not ?_ | refine a_nilf ?_ | (refine o_nil (hK _ _ ?_); clear hK K) | refine wk_reg ?_ | refine wk_seq fun K hK => ?_ | (refine wk_skip (hK _ _ ?_); clear hK K) | (refine wk_label (hK _ _ ?_); clear hK K) | refine wk_scope ?_ | refine wk_block ?_ | refine wk_cond_t rfl ?_ | refine wk_cond_f rfl ?_ | (refine wk_exit ?_; (repeat (refine blockK_other rfl ?_)); refine blockK_same ?_; try ((repeat ((fail_if_success (refine hK _ _ ?_)); clear hK K)); refine hK _ _ ?_; clear hK K)) | (refine a_bin ?_ ?_ <;> intro _ <;> try (exfalso; omega)) | refine a_ld hl ?_ | (refine a_st hl ?_; clear hl; intro _ hl) | refine a_ix (fun _ => ?_) | fail)
  refine o_alloc (LH.start w17 (fun _ => False)) [.int .i64 0, .string ⟨#[]⟩, .int .i64 0, .int .i64 0, .slice none 0 0] rfl rfl ?_
  intro b18 w18 hb18 hl
  refine o_putN (us := [.int .i64 (g).op, str (g).name, .int .i64 (g).cmp, .int .i64 (g).num, gk]) hl rfl rfl rfl (fmL_one hkg) rfl (.all rfl rfl) ?_
  clear hl
  intro w19 hl
  have rg : Row w19 b18 0 [.int .i64 (g).op, str (g).name, .int .i64 (g).cmp, .int .i64 (g).num, gk] := hl.rowL (vs := [.int .i64 (g).op, str (g).name, .int .i64 (g).cmp, .int .i64 (g).num, gk]) 0 0 5 rfl
  have hx := hl.done
  replace hkr := hkr.ext hx
  replace rr := rr.ext hx
  replace rd' := rd'.ext hx
  replace hd := hd.ext hx
  replace hc := hc.ext hx
  replace rf := rf.ext hx
  replace hkf := hkf.ext hx
  replace hkg := hkg.ext hx
  replace he := he.trans hx
  clear hx hl
  have r5 : Row w19 b6 (0 + 5) [.int .i64 (r.read).op, str (r.read).name, .int .i64 (r.read).cmp, .int .i64 (r.read).num, rv] := Row.sub5 rr rfl
  repeat' (first | refine a_mov ?_ | refine a_asg ?_ | refine a_binN ?_ | refine a_notd ?_ | refine a_notb ?_ | refine a_nilc ?_ | refine a_fa ?_ | refine a_ext ?_ | refine a_lenv ?_ | refine a_lens ?_ | refine a_pick_t ?_ | refine a_pick_f ?_ | refine a_not ?_ | refine a_nilf ?_ | (refine o_nil (hK _ _ ?_); clear hK K) | refine wk_reg ?_ | refine wk_seq fun K hK => ?_ | (refine wk_skip (hK _ _ ?_); clear hK K) | (refine wk_label (hK _ _ ?_); clear hK K) | refine wk_scope ?_ | refine wk_block ?_ | refine wk_cond_t rfl ?_ | refine wk_cond_f rfl ?_ | (refine wk_exit ?_; (repeat (refine blockK_other rfl ?_)); refine blockK_same ?_; try ((repeat ((fail_if_success (refine hK _ _ ?_)); clear hK K)); refine hK _ _ ?_; clear hK K)) | (refine a_bin ?_ ?_ <;> intro _ <;> try (exfalso; omega)) | refine a_ld hl ?_ | (refine a_st hl ?_; clear hl; intro _ hl) | refine a_ix (fun _ => ?_) | refine o_neB rfl rfl rfl rfl ?_ | refine a_all rf ?_ | refine a_all rd' ?_)
  refine a_fn (holds_calls F c [] nF nC (by decide) tF f w19 _ fk _ _ (.slice none 0 0) hkf (fun b h => h) shf (by omega) hd hc (Sl.nil _ _)) ?_
  rintro _ w20 ⟨rfl, hx⟩
  replace r5 := r5.ext hx
  ((first | (replace S := S.ext (hx)) | skip); (first | (replace S2 := S2.ext (hx)) | skip); (first | (replace hkr := hkr.ext (hx)) | skip); (first | (replace rr := rr.ext (hx)) | skip); (first | (replace rd' := rd'.ext (hx)) | skip); (first | (replace hd := hd.ext (hx)) | skip); (first | (replace hc := hc.ext (hx)) | skip); (first | (replace rf := rf.ext (hx)) | skip); (first | (replace hkf := hkf.ext (hx)) | skip); (first | (replace rg := rg.ext (hx)) | skip); (first | (replace hkg := hkg.ext (hx)) | skip); replace he := he.trans (hx))
  clear hx
  by_cases hday : day < r.fro
  · rw [if_pos hday] at hgf
    subst hgf
    cases hh : holdsB F c [] g
    all_goals repeat' (first | refine a_mov ?_ | refine a_asg ?_ | refine a_binN ?_ | refine a_notd ?_ | refine a_notb ?_ | refine a_nilc ?_ | refine a_fa ?_ | refine a_ext ?_ | refine a_lenv ?_ | refine a_lens ?_ | refine a_pick_t ?_ | refine a_pick_f ?_ | refine a_not ?_ | refine a_nilf ?_ | (refine o_nil (hK _ _ ?_); clear hK K) | refine wk_reg ?_ | refine wk_seq fun K hK => ?_ | (refine wk_skip (hK _ _ ?_); clear hK K) | (refine wk_label (hK _ _ ?_); clear hK K) | refine wk_scope ?_ | refine wk_block ?_ | refine wk_cond_t rfl ?_ | refine wk_cond_f rfl ?_ | (refine wk_exit ?_; (repeat (refine blockK_other rfl ?_)); refine blockK_same ?_; try ((repeat ((fail_if_success (refine hK _ _ ?_)); clear hK K)); refine hK _ _ ?_; clear hK K)) | (refine a_bin ?_ ?_ <;> intro _ <;> try (exfalso; omega)) | refine a_ld hl ?_ | (refine a_st hl ?_; clear hl; intro _ hl) | refine a_ix (fun _ => ?_) | refine a_row rr ?_ | refine a_all rg ?_ | refine a_all rd' ?_)
    all_goals refine a_fn (holds_calls F c [] nF nC (by decide) tF g w20 _ gk _ _ (.slice none 0 0) hkg (fun b h => h) shg (by omega) hd hc (Sl.nil _ _)) ?_
    all_goals rintro _ w21 ⟨rfl, hx⟩
    all_goals rw [hh]
    all_goals repeat' (first | refine a_mov ?_ | refine a_asg ?_ | refine a_binN ?_ | refine a_notd ?_ | refine a_notb ?_ | refine a_nilc ?_ | refine a_fa ?_ | refine a_ext ?_ | refine a_lenv ?_ | refine a_lens ?_ | refine a_pick_t ?_ | refine a_pick_f ?_ | refine a_not ?_ | refine a_nilf ?_ | (refine o_nil (hK _ _ ?_); clear hK K) | refine wk_reg ?_ | refine wk_seq fun K hK => ?_ | (refine wk_skip (hK _ _ ?_); clear hK K) | (refine wk_label (hK _ _ ?_); clear hK K) | refine wk_scope ?_ | refine wk_block ?_ | refine wk_cond_t rfl ?_ | refine wk_cond_f rfl ?_ | (refine wk_exit ?_; (repeat (refine blockK_other rfl ?_)); refine blockK_same ?_; try ((repeat ((fail_if_success (refine hK _ _ ?_)); clear hK K)); refine hK _ _ ?_; clear hK K)) | (refine a_bin ?_ ?_ <;> intro _ <;> try (exfalso; omega)) | refine a_ld hl ?_ | (refine a_st hl ?_; clear hl; intro _ hl) | refine a_ix (fun _ => ?_) | refine o_eqB rfl rfl rfl rfl ?_)
    all_goals (refine wk_ret (retQ_tmp1 Tryd.results3 (by decide) rfl (by conv => lhs; whnf) ?_))
    all_goals exact ⟨rfl, he.trans hx⟩
  · rw [if_neg hday] at hgf
    rw [← hgf] at hreads
    cases hh : holdsB F c [] f
    · rw [hh, Bool.false_and] at hreads
      repeat' (first | refine a_mov ?_ | refine a_asg ?_ | refine a_binN ?_ | refine a_notd ?_ | refine a_notb ?_ | refine a_nilc ?_ | refine a_fa ?_ | refine a_ext ?_ | refine a_lenv ?_ | refine a_lens ?_ | refine a_pick_t ?_ | refine a_pick_f ?_ | refine a_not ?_ | refine a_nilf ?_ | (refine o_nil (hK _ _ ?_); clear hK K) | refine wk_reg ?_ | refine wk_seq fun K hK => ?_ | (refine wk_skip (hK _ _ ?_); clear hK K) | (refine wk_label (hK _ _ ?_); clear hK K) | refine wk_scope ?_ | refine wk_block ?_ | refine wk_cond_t rfl ?_ | refine wk_cond_f rfl ?_ | (refine wk_exit ?_; (repeat (refine blockK_other rfl ?_)); refine blockK_same ?_; try ((repeat ((fail_if_success (refine hK _ _ ?_)); clear hK K)); refine hK _ _ ?_; clear hK K)) | (refine a_bin ?_ ?_ <;> intro _ <;> try (exfalso; omega)) | refine a_ld hl ?_ | (refine a_st hl ?_; clear hl; intro _ hl) | refine a_ix (fun _ => ?_) | refine a_row rr ?_ | refine a_all rg ?_ | refine a_all rd' ?_)
      refine a_fn (holds_calls F c [] nF nC (by decide) tF g w20 _ gk _ _ (.slice none 0 0) hkg (fun b h => h) shg (by omega) hd hc (Sl.nil _ _)) ?_
      rintro _ w21 ⟨rfl, hx⟩
      rw [hreads]
      repeat' (first | refine a_mov ?_ | refine a_asg ?_ | refine a_binN ?_ | refine a_notd ?_ | refine a_notb ?_ | refine a_nilc ?_ | refine a_fa ?_ | refine a_ext ?_ | refine a_lenv ?_ | refine a_lens ?_ | refine a_pick_t ?_ | refine a_pick_f ?_ | refine a_not ?_ | refine a_nilf ?_ | (refine o_nil (hK _ _ ?_); clear hK K) | refine wk_reg ?_ | refine wk_seq fun K hK => ?_ | (refine wk_skip (hK _ _ ?_); clear hK K) | (refine wk_label (hK _ _ ?_); clear hK K) | refine wk_scope ?_ | refine wk_block ?_ | refine wk_cond_t rfl ?_ | refine wk_cond_f rfl ?_ | (refine wk_exit ?_; (repeat (refine blockK_other rfl ?_)); refine blockK_same ?_; try ((repeat ((fail_if_success (refine hK _ _ ?_)); clear hK K)); refine hK _ _ ?_; clear hK K)) | (refine a_bin ?_ ?_ <;> intro _ <;> try (exfalso; omega)) | refine a_ld hl ?_ | (refine a_st hl ?_; clear hl; intro _ hl) | refine a_ix (fun _ => ?_) | refine o_eqB rfl rfl rfl rfl ?_)
      refine wk_ret (retQ_tmp1 Tryd.results3 (by decide) rfl (by conv => lhs; whnf) ?_)
      exact ⟨rfl, he.trans hx⟩
    · rw [hh, Bool.true_and] at hreads
      repeat' (first | refine a_mov ?_ | refine a_asg ?_ | refine a_binN ?_ | refine a_notd ?_ | refine a_notb ?_ | refine a_nilc ?_ | refine a_fa ?_ | refine a_ext ?_ | refine a_lenv ?_ | refine a_lens ?_ | refine a_pick_t ?_ | refine a_pick_f ?_ | refine a_not ?_ | refine a_nilf ?_ | (refine o_nil (hK _ _ ?_); clear hK K) | refine wk_reg ?_ | refine wk_seq fun K hK => ?_ | (refine wk_skip (hK _ _ ?_); clear hK K) | (refine wk_label (hK _ _ ?_); clear hK K) | refine wk_scope ?_ | refine wk_block ?_ | refine wk_cond_t rfl ?_ | refine wk_cond_f rfl ?_ | (refine wk_exit ?_; (repeat (refine blockK_other rfl ?_)); refine blockK_same ?_; try ((repeat ((fail_if_success (refine hK _ _ ?_)); clear hK K)); refine hK _ _ ?_; clear hK K)) | (refine a_bin ?_ ?_ <;> intro _ <;> try (exfalso; omega)) | refine a_ld hl ?_ | (refine a_st hl ?_; clear hl; intro _ hl) | refine a_ix (fun _ => ?_) | refine a_row rr ?_ | refine a_all r5 ?_ | refine a_all rd' ?_)
      refine a_fn (holds_calls F c [] nF nC (by decide) tF r.read w20 _ rv _ _ (.slice none 0 0) hkr (fun b h => h) shr (by omega) hd hc (Sl.nil _ _)) ?_
      rintro _ w21 ⟨rfl, hx⟩
      ((first | (replace S := S.ext (hx)) | skip); (first | (replace S2 := S2.ext (hx)) | skip); (first | (replace hkr := hkr.ext (hx)) | skip); (first | (replace rr := rr.ext (hx)) | skip); (first | (replace rd' := rd'.ext (hx)) | skip); (first | (replace hd := hd.ext (hx)) | skip); (first | (replace hc := hc.ext (hx)) | skip); (first | (replace rf := rf.ext (hx)) | skip); (first | (replace hkf := hkf.ext (hx)) | skip); (first | (replace rg := rg.ext (hx)) | skip); (first | (replace hkg := hkg.ext (hx)) | skip); replace he := he.trans (hx))
      clear hx
      cases hh2 : holdsB F c [] r.read
      all_goals rw [hh2] at hreads
      all_goals repeat' (first | refine a_mov ?_ | refine a_asg ?_ | refine a_binN ?_ | refine a_notd ?_ | refine a_notb ?_ | refine a_nilc ?_ | refine a_fa ?_ | refine a_ext ?_ | refine a_lenv ?_ | refine a_lens ?_ | refine a_pick_t ?_ | refine a_pick_f ?_ | refine a_not ?_ | refine a_nilf ?_ | (refine o_nil (hK _ _ ?_); clear hK K) | refine wk_reg ?_ | refine wk_seq fun K hK => ?_ | (refine wk_skip (hK _ _ ?_); clear hK K) | (refine wk_label (hK _ _ ?_); clear hK K) | refine wk_scope ?_ | refine wk_block ?_ | refine wk_cond_t rfl ?_ | refine wk_cond_f rfl ?_ | (refine wk_exit ?_; (repeat (refine blockK_other rfl ?_)); refine blockK_same ?_; try ((repeat ((fail_if_success (refine hK _ _ ?_)); clear hK K)); refine hK _ _ ?_; clear hK K)) | (refine a_bin ?_ ?_ <;> intro _ <;> try (exfalso; omega)) | refine a_ld hl ?_ | (refine a_st hl ?_; clear hl; intro _ hl) | refine a_ix (fun _ => ?_) | refine a_all rg ?_ | refine a_all rd' ?_)
      all_goals refine a_fn (holds_calls F c [] nF nC (by decide) tF g w21 _ gk _ _ (.slice none 0 0) hkg (fun b h => h) shg (by omega) hd hc (Sl.nil _ _)) ?_
      all_goals rintro _ w22 ⟨rfl, hx⟩
      all_goals rw [hreads]
      all_goals repeat' (first | refine a_mov ?_ | refine a_asg ?_ | refine a_binN ?_ | refine a_notd ?_ | refine a_notb ?_ | refine a_nilc ?_ | refine a_fa ?_ | refine a_ext ?_ | refine a_lenv ?_ | refine a_lens ?_ | refine a_pick_t ?_ | refine a_pick_f ?_ | refine a_not ?_ | refine a_nilf ?_ | (refine o_nil (hK _ _ ?_); clear hK K) | refine wk_reg ?_ | refine wk_seq fun K hK => ?_ | (refine wk_skip (hK _ _ ?_); clear hK K) | (refine wk_label (hK _ _ ?_); clear hK K) | refine wk_scope ?_ | refine wk_block ?_ | refine wk_cond_t rfl ?_ | refine wk_cond_f rfl ?_ | (refine wk_exit ?_; (repeat (refine blockK_other rfl ?_)); refine blockK_same ?_; try ((repeat ((fail_if_success (refine hK _ _ ?_)); clear hK K)); refine hK _ _ ?_; clear hK K)) | (refine a_bin ?_ ?_ <;> intro _ <;> try (exfalso; omega)) | refine a_ld hl ?_ | (refine a_st hl ?_; clear hl; intro _ hl) | refine a_ix (fun _ => ?_) | refine o_eqB rfl rfl rfl rfl ?_)
      all_goals (refine wk_ret (retQ_tmp1 Tryd.results3 (by decide) rfl (by conv => lhs; whnf) ?_))
      all_goals exact ⟨rfl, he.trans hx⟩
end Go.Proofs
