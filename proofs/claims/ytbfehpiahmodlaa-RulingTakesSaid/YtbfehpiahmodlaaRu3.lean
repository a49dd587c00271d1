/-
  The statements RulingTakes and RulingOrder, walked.
-/
import Derived.Test.YtbfehpiahmodlaaRu2
set_option linter.unusedVariables false
set_option linter.unusedSimpArgs false
set_option linter.unnecessarySimpa false
set_option maxRecDepth 10000
namespace Go.Proofs
open Go Go.Pd Go.Lexs Go.Fin Go.Fo
attribute [local irreducible] OpsL W RetQ OpsQ OpsC

/-- What On answers is a formula somewhere. -/
theorem on_agg {w : World} {l : List Rul.Spn} {n : Int} {fv : Value} (h : (∀ s, Rul.onB l n = some s → ∃ kv, fv = .agg (fmL s.read kv).toArray ∧ KA w s.read.kids kv) ∧ (Rul.onB l n = none → fv = .agg (fmL (.node 0 [] 0 0 []) (.slice none 0 0)).toArray)) : ∃ (f : Fm) (kv : Value), fv = .agg (fmL f kv).toArray ∧ KA w f.kids kv := by
  cases ho : Rul.onB l n with
  | none => exact ⟨_, _, h.2 ho, KA.nil _⟩
  | some s =>
    obtain ⟨kv, h1, h2⟩ := h.1 s ho
    exact ⟨_, kv, h1, h2⟩

set_option maxHeartbeats 8000000 in
theorem ruTakes_calls {w : World} {s : List Rul.Spn} {sv : Value} {r : Rul.Rul} {rv : Value} (hs : SpnsIn w s sv) (hr : RulIn w r rv) (day : Int) :
    Calls Try.prog 4 #[sv, .agg (rulC r rv).toArray, .int .i64 day] w (fun e w' => ∃ x, e = .returned x ∧ x = .bool true ∧ Ext w w') := by
  obtain ⟨sa, sc, rfl, -⟩ := hs.at_.shape
  have hsl := hs.len
  have S := hs.at_
  have hkr := hr.f.k
  have hrone := rulC_one hkr
  refine calls_of Try.func4 rfl Try.ntmps4 rfl ?_
  refine wk_seq fun K hK => ?_
  refine wk_reg ?_
  refine o_box (LH.start w (fun _ => False)) [str (r).id, str (r).tgt, .int .i64 (r).kind, .int .i64 (r).fro, .int .i64 (r).til, .int .i64 (r).read.op, str (r).read.name, .int .i64 (r).read.cmp, .int .i64 (r).read.num, rv, .int .i64 (r).known, .bool (r).fin, str (r).lifts] rfl rfl rfl ?_
  intro b7 w1 hb7 hl1
  repeat' (first | refine a_mov ?_ | refine a_asg ?_ | refine a_binN ?_ | refine a_notd ?_ | refine a_notb ?_ | refine a_nilc ?_ | refine a_fa ?_ | refine a_ext ?_ | refine a_lenv ?_ | refine a_lens ?_ | refine a_pick_t ?_ | refine a_pick_f ?_ | refine a_not ?_ | refine a_nilf ?_ | (refine o_nil (hK _ _ ?_); clear hK K) | refine wk_reg ?_ | refine wk_seq fun K hK => ?_ | (refine wk_skip (hK _ _ ?_); clear hK K) | (refine wk_label (hK _ _ ?_); clear hK K) | refine wk_scope ?_ | refine wk_block ?_ | refine wk_cond_t rfl ?_ | refine wk_cond_f rfl ?_ | (refine wk_exit ?_; (repeat (refine blockK_other rfl ?_)); refine blockK_same ?_; try ((repeat ((fail_if_success (refine hK _ _ ?_)); clear hK K)); refine hK _ _ ?_; clear hK K)) | (refine a_bin ?_ ?_ <;> intro _ <;> try (exfalso; omega)) | refine a_ld hl ?_ | (refine a_st hl ?_; clear hl; intro _ hl) | refine a_ix (fun _ => ?_) | fail)
  refine a_fn (ruHead_calls w1) ?_
  rintro _ w2 ⟨rfl, hx⟩
  replace hl1 := hl1.ext hx
  clear hx
  have rr : Row w2 b7 0 [str (r).id, str (r).tgt, .int .i64 (r).kind, .int .i64 (r).fro, .int .i64 (r).til, .int .i64 (r).read.op, str (r).read.name, .int .i64 (r).read.cmp, .int .i64 (r).read.num, rv, .int .i64 (r).known, .bool (r).fin, str (r).lifts] := hl1.rowL (vs := [str (r).id, str (r).tgt, .int .i64 (r).kind, .int .i64 (r).fro, .int .i64 (r).til, .int .i64 (r).read.op, str (r).read.name, .int .i64 (r).read.cmp, .int .i64 (r).read.num, rv, .int .i64 (r).known, .bool (r).fin, str (r).lifts]) 0 0 13 rfl
  have he := hl1.done
  clear hl1
  replace S := S.ext he
  replace hkr := hkr.ext he
  repeat' (first | refine a_mov ?_ | refine a_asg ?_ | refine a_binN ?_ | refine a_notd ?_ | refine a_notb ?_ | refine a_nilc ?_ | refine a_fa ?_ | refine a_ext ?_ | refine a_lenv ?_ | refine a_lens ?_ | refine a_pick_t ?_ | refine a_pick_f ?_ | refine a_not ?_ | refine a_nilf ?_ | (refine o_nil (hK _ _ ?_); clear hK K) | refine wk_reg ?_ | refine wk_seq fun K hK => ?_ | (refine wk_skip (hK _ _ ?_); clear hK K) | (refine wk_label (hK _ _ ?_); clear hK K) | refine wk_scope ?_ | refine wk_block ?_ | refine wk_cond_t rfl ?_ | refine wk_cond_f rfl ?_ | (refine wk_exit ?_; (repeat (refine blockK_other rfl ?_)); refine blockK_same ?_; try ((repeat ((fail_if_success (refine hK _ _ ?_)); clear hK K)); refine hK _ _ ?_; clear hK K)) | (refine a_bin ?_ ?_ <;> intro _ <;> try (exfalso; omega)) | refine a_ld hl ?_ | (refine a_st hl ?_; clear hl; intro _ hl) | refine a_ix (fun _ => ?_) | fail)
  refine a_fn (ruShort_calls s _ 20 w2 S (by omega) hs.ok) ?_
  rintro _ w3 ⟨rfl, hx⟩
  ((first | (replace L := L.ext (hx)) | skip); (first | (replace S := S.ext (hx)) | skip); (first | (replace S2 := S2.ext (hx)) | skip); (first | (replace hkr := hkr.ext (hx)) | skip); (first | (replace rr := rr.ext (hx)) | skip); (first | (replace B := B.ext (hx)) | skip); replace he := he.trans (hx))
  clear hx
  cases hf3 : Rul.shortB s 20
  · repeat' (first | refine a_mov ?_ | refine a_asg ?_ | refine a_binN ?_ | refine a_notd ?_ | refine a_notb ?_ | refine a_nilc ?_ | refine a_fa ?_ | refine a_ext ?_ | refine a_lenv ?_ | refine a_lens ?_ | refine a_pick_t ?_ | refine a_pick_f ?_ | refine a_not ?_ | refine a_nilf ?_ | (refine o_nil (hK _ _ ?_); clear hK K) | refine wk_reg ?_ | refine wk_seq fun K hK => ?_ | (refine wk_skip (hK _ _ ?_); clear hK K) | (refine wk_label (hK _ _ ?_); clear hK K) | refine wk_scope ?_ | refine wk_block ?_ | refine wk_cond_t rfl ?_ | refine wk_cond_f rfl ?_ | (refine wk_exit ?_; (repeat (refine blockK_other rfl ?_)); refine blockK_same ?_; try ((repeat ((fail_if_success (refine hK _ _ ?_)); clear hK K)); refine hK _ _ ?_; clear hK K)) | (refine a_bin ?_ ?_ <;> intro _ <;> try (exfalso; omega)) | refine a_ld hl ?_ | (refine a_st hl ?_; clear hl; intro _ hl) | refine a_ix (fun _ => ?_) | fail)
    refine wk_ret (retQ_tmp1 Try.results4 (by decide) rfl (by conv => lhs; whnf) ?_)
    exact ⟨rfl, he⟩
  repeat' (first | refine a_mov ?_ | refine a_asg ?_ | refine a_binN ?_ | refine a_notd ?_ | refine a_notb ?_ | refine a_nilc ?_ | refine a_fa ?_ | refine a_ext ?_ | refine a_lenv ?_ | refine a_lens ?_ | refine a_pick_t ?_ | refine a_pick_f ?_ | refine a_not ?_ | refine a_nilf ?_ | (refine o_nil (hK _ _ ?_); clear hK K) | refine wk_reg ?_ | refine wk_seq fun K hK => ?_ | (refine wk_skip (hK _ _ ?_); clear hK K) | (refine wk_label (hK _ _ ?_); clear hK K) | refine wk_scope ?_ | refine wk_block ?_ | refine wk_cond_t rfl ?_ | refine wk_cond_f rfl ?_ | (refine wk_exit ?_; (repeat (refine blockK_other rfl ?_)); refine blockK_same ?_; try ((repeat ((fail_if_success (refine hK _ _ ?_)); clear hK K)); refine hK _ _ ?_; clear hK K)) | (refine a_bin ?_ ?_ <;> intro _ <;> try (exfalso; omega)) | refine a_ld hl ?_ | (refine a_st hl ?_; clear hl; intro _ hl) | refine a_ix (fun _ => ?_) | refine a_all rr ?_)
  refine o_buildSlice (LH.start w3 (fun _ => False)) [str (r).id, str (r).tgt, .int .i64 (r).kind, .int .i64 (r).fro, .int .i64 (r).til, .int .i64 (r).read.op, str (r).read.name, .int .i64 (r).read.cmp, .int .i64 (r).read.num, rv, .int .i64 (r).known, .bool (r).fin, str (r).lifts] rfl rfl (by kernel_rfl) ?_
  intro b9 w4 hb9 hl1
  have L1 : RulsAt w4 [r] (.slice (some ⟨b9, 0, none⟩) 1 1) := RulsAt.of [(r, rv)] (hl1.rowL (vs := [str (r).id, str (r).tgt, .int .i64 (r).kind, .int .i64 (r).fro, .int .i64 (r).til, .int .i64 (r).read.op, str (r).read.name, .int .i64 (r).read.cmp, .int .i64 (r).read.num, rv, .int .i64 (r).known, .bool (r).fin, str (r).lifts]) 0 0 13 rfl) (Nat.le_refl _) (fun p hp => by rw [List.mem_singleton.1 hp]; exact hkr.ext hl1.done)
  have hx := hl1.done
  clear hl1
  refine a_fn (ruFew_calls [r] _ 1 w4 L1 (by simp) (fun x hx => by rw [List.mem_singleton.1 hx]; exact hr.ok.f)) ?_
  rintro _ w5 ⟨rfl, hy⟩
  replace hx := hx.trans hy
  clear hy L1
  ((first | (replace L := L.ext (hx)) | skip); (first | (replace S := S.ext (hx)) | skip); (first | (replace S2 := S2.ext (hx)) | skip); (first | (replace hkr := hkr.ext (hx)) | skip); (first | (replace rr := rr.ext (hx)) | skip); (first | (replace B := B.ext (hx)) | skip); replace he := he.trans (hx))
  clear hx
  cases hf2 : Rul.fewB [r] 1
  · repeat' (first | refine a_mov ?_ | refine a_asg ?_ | refine a_binN ?_ | refine a_notd ?_ | refine a_notb ?_ | refine a_nilc ?_ | refine a_fa ?_ | refine a_ext ?_ | refine a_lenv ?_ | refine a_lens ?_ | refine a_pick_t ?_ | refine a_pick_f ?_ | refine a_not ?_ | refine a_nilf ?_ | (refine o_nil (hK _ _ ?_); clear hK K) | refine wk_reg ?_ | refine wk_seq fun K hK => ?_ | (refine wk_skip (hK _ _ ?_); clear hK K) | (refine wk_label (hK _ _ ?_); clear hK K) | refine wk_scope ?_ | refine wk_block ?_ | refine wk_cond_t rfl ?_ | refine wk_cond_f rfl ?_ | (refine wk_exit ?_; (repeat (refine blockK_other rfl ?_)); refine blockK_same ?_; try ((repeat ((fail_if_success (refine hK _ _ ?_)); clear hK K)); refine hK _ _ ?_; clear hK K)) | (refine a_bin ?_ ?_ <;> intro _ <;> try (exfalso; omega)) | refine a_ld hl ?_ | (refine a_st hl ?_; clear hl; intro _ hl) | refine a_ix (fun _ => ?_) | fail)
    refine wk_ret (retQ_tmp1 Try.results4 (by decide) rfl (by conv => lhs; whnf) ?_)
    exact ⟨rfl, he⟩
  have q2 := (Rul.few_iff.1 hf2).2 r List.mem_cons_self
  have q3 := Rul.short_iff.1 hf3
  clear hf2 hf3
  repeat' (first | refine a_mov ?_ | refine a_asg ?_ | refine a_binN ?_ | refine a_notd ?_ | refine a_notb ?_ | refine a_nilc ?_ | refine a_fa ?_ | refine a_ext ?_ | refine a_lenv ?_ | refine a_lens ?_ | refine a_pick_t ?_ | refine a_pick_f ?_ | refine a_not ?_ | refine a_nilf ?_ | (refine o_nil (hK _ _ ?_); clear hK K) | refine wk_reg ?_ | refine wk_seq fun K hK => ?_ | (refine wk_skip (hK _ _ ?_); clear hK K) | (refine wk_label (hK _ _ ?_); clear hK K) | refine wk_scope ?_ | refine wk_block ?_ | refine wk_cond_t rfl ?_ | refine wk_cond_f rfl ?_ | (refine wk_exit ?_; (repeat (refine blockK_other rfl ?_)); refine blockK_same ?_; try ((repeat ((fail_if_success (refine hK _ _ ?_)); clear hK K)); refine hK _ _ ?_; clear hK K)) | (refine a_bin ?_ ?_ <;> intro _ <;> try (exfalso; omega)) | refine a_ld hl ?_ | (refine a_st hl ?_; clear hl; intro _ hl) | refine a_ix (fun _ => ?_) | refine a_all rr ?_)
  refine a_fn (ruValid_calls r rv w5 hkr (by omega) hr.ok.len) ?_
  rintro _ w6 ⟨rfl, hx⟩
  ((first | (replace L := L.ext (hx)) | skip); (first | (replace S := S.ext (hx)) | skip); (first | (replace S2 := S2.ext (hx)) | skip); (first | (replace hkr := hkr.ext (hx)) | skip); (first | (replace rr := rr.ext (hx)) | skip); (first | (replace B := B.ext (hx)) | skip); replace he := he.trans (hx))
  clear hx
  cases hv : Rul.validB r
  · repeat' (first | refine a_mov ?_ | refine a_asg ?_ | refine a_binN ?_ | refine a_notd ?_ | refine a_notb ?_ | refine a_nilc ?_ | refine a_fa ?_ | refine a_ext ?_ | refine a_lenv ?_ | refine a_lens ?_ | refine a_pick_t ?_ | refine a_pick_f ?_ | refine a_not ?_ | refine a_nilf ?_ | (refine o_nil (hK _ _ ?_); clear hK K) | refine wk_reg ?_ | refine wk_seq fun K hK => ?_ | (refine wk_skip (hK _ _ ?_); clear hK K) | (refine wk_label (hK _ _ ?_); clear hK K) | refine wk_scope ?_ | refine wk_block ?_ | refine wk_cond_t rfl ?_ | refine wk_cond_f rfl ?_ | (refine wk_exit ?_; (repeat (refine blockK_other rfl ?_)); refine blockK_same ?_; try ((repeat ((fail_if_success (refine hK _ _ ?_)); clear hK K)); refine hK _ _ ?_; clear hK K)) | (refine a_bin ?_ ?_ <;> intro _ <;> try (exfalso; omega)) | refine a_ld hl ?_ | (refine a_st hl ?_; clear hl; intro _ hl) | refine a_ix (fun _ => ?_) | fail)
    refine wk_ret (retQ_tmp1 Try.results4 (by decide) rfl (by conv => lhs; whnf) ?_)
    exact ⟨rfl, he⟩
  repeat' (first | refine a_mov ?_ | refine a_asg ?_ | refine a_binN ?_ | refine a_notd ?_ | refine a_notb ?_ | refine a_nilc ?_ | refine a_fa ?_ | refine a_ext ?_ | refine a_lenv ?_ | refine a_lens ?_ | refine a_pick_t ?_ | refine a_pick_f ?_ | refine a_not ?_ | refine a_nilf ?_ | (refine o_nil (hK _ _ ?_); clear hK K) | refine wk_reg ?_ | refine wk_seq fun K hK => ?_ | (refine wk_skip (hK _ _ ?_); clear hK K) | (refine wk_label (hK _ _ ?_); clear hK K) | refine wk_scope ?_ | refine wk_block ?_ | refine wk_cond_t rfl ?_ | refine wk_cond_f rfl ?_ | (refine wk_exit ?_; (repeat (refine blockK_other rfl ?_)); refine blockK_same ?_; try ((repeat ((fail_if_success (refine hK _ _ ?_)); clear hK K)); refine hK _ _ ?_; clear hK K)) | (refine a_bin ?_ ?_ <;> intro _ <;> try (exfalso; omega)) | refine a_ld hl ?_ | (refine a_st hl ?_; clear hl; intro _ hl) | refine a_ix (fun _ => ?_) | refine a_all rr ?_)
  refine a_fn (apply_calls s r _ rv w6 S hkr (by omega)) ?_
  rintro av w7 ⟨S2, hx⟩
  ((first | (replace L := L.ext (hx)) | skip); (first | (replace S := S.ext (hx)) | skip); (first | (replace S2 := S2.ext (hx)) | skip); (first | (replace hkr := hkr.ext (hx)) | skip); (first | (replace rr := rr.ext (hx)) | skip); (first | (replace B := B.ext (hx)) | skip); replace he := he.trans (hx))
  clear hx
  have hal2 : (Rul.applyB s r).length ≤ 1000000 := by have := flat_one_len (Rul.kindOf r) r s; unfold Rul.applyB; omega
  have hon := Rul.apply_on hv s day
  have hord := fun h => Rul.ordered_law hv (l := s) h
  obtain ⟨aa, ac, rfl, -⟩ := S2.shape
  generalize Rul.applyB s r = t at *
  repeat' (first | refine a_mov ?_ | refine a_asg ?_ | refine a_binN ?_ | refine a_notd ?_ | refine a_notb ?_ | refine a_nilc ?_ | refine a_fa ?_ | refine a_ext ?_ | refine a_lenv ?_ | refine a_lens ?_ | refine a_pick_t ?_ | refine a_pick_f ?_ | refine a_not ?_ | refine a_nilf ?_ | (refine o_nil (hK _ _ ?_); clear hK K) | refine wk_reg ?_ | refine wk_seq fun K hK => ?_ | (refine wk_skip (hK _ _ ?_); clear hK K) | (refine wk_label (hK _ _ ?_); clear hK K) | refine wk_scope ?_ | refine wk_block ?_ | refine wk_cond_t rfl ?_ | refine wk_cond_f rfl ?_ | (refine wk_exit ?_; (repeat (refine blockK_other rfl ?_)); refine blockK_same ?_; try ((repeat ((fail_if_success (refine hK _ _ ?_)); clear hK K)); refine hK _ _ ?_; clear hK K)) | (refine a_bin ?_ ?_ <;> intro _ <;> try (exfalso; omega)) | refine a_ld hl ?_ | (refine a_st hl ?_; clear hl; intro _ hl) | refine a_ix (fun _ => ?_) | fail)
  refine a_fn (refOn_calls s _ day w7 S (by omega)) ?_
  rintro _ w8 ⟨⟨fv, b, rfl, hb, h1, h2⟩, hx⟩
  obtain ⟨f, fk, rfl, hfk⟩ := on_agg ⟨h1, h2⟩
  ((first | (replace L := L.ext (hx)) | skip); (first | (replace S := S.ext (hx)) | skip); (first | (replace S2 := S2.ext (hx)) | skip); (first | (replace hkr := hkr.ext (hx)) | skip); (first | (replace rr := rr.ext (hx)) | skip); (first | (replace B := B.ext (hx)) | skip); replace he := he.trans (hx))
  clear hx h1 h2
  repeat' (first | refine a_mov ?_ | refine a_asg ?_ | refine a_binN ?_ | refine a_notd ?_ | refine a_notb ?_ | refine a_nilc ?_ | refine a_fa ?_ | refine a_ext ?_ | refine a_lenv ?_ | refine a_lens ?_ | refine a_pick_t ?_ | refine a_pick_f ?_ | refine a_not ?_ | refine a_nilf ?_ | (refine o_nil (hK _ _ ?_); clear hK K) | refine wk_reg ?_ | refine wk_seq fun K hK => ?_ | (refine wk_skip (hK _ _ ?_); clear hK K) | (refine wk_label (hK _ _ ?_); clear hK K) | refine wk_scope ?_ | refine wk_block ?_ | refine wk_cond_t rfl ?_ | refine wk_cond_f rfl ?_ | (refine wk_exit ?_; (repeat (refine blockK_other rfl ?_)); refine blockK_same ?_; try ((repeat ((fail_if_success (refine hK _ _ ?_)); clear hK K)); refine hK _ _ ?_; clear hK K)) | (refine a_bin ?_ ?_ <;> intro _ <;> try (exfalso; omega)) | refine a_ld hl ?_ | (refine a_st hl ?_; clear hl; intro _ hl) | refine a_ix (fun _ => ?_) | fail)
  refine o_alloc (LH.start w8 (fun _ => False)) [.int .i64 0, .string ⟨#[]⟩, .int .i64 0, .int .i64 0, .slice none 0 0] rfl rfl ?_
  intro b9 w9 hb9 hl
  refine o_putN (us := [.int .i64 (f).op, str (f).name, .int .i64 (f).cmp, .int .i64 (f).num, fk]) hl rfl rfl rfl (fmL_one hfk) rfl (.all rfl rfl) ?_
  clear hl
  intro w10 hl
  have hx := hl.done
  ((first | (replace L := L.ext (hx)) | skip); (first | (replace S := S.ext (hx)) | skip); (first | (replace S2 := S2.ext (hx)) | skip); (first | (replace hkr := hkr.ext (hx)) | skip); (first | (replace rr := rr.ext (hx)) | skip); (first | (replace B := B.ext (hx)) | skip); replace he := he.trans (hx))
  clear hx hl
  repeat' (first | refine a_mov ?_ | refine a_asg ?_ | refine a_binN ?_ | refine a_notd ?_ | refine a_notb ?_ | refine a_nilc ?_ | refine a_fa ?_ | refine a_ext ?_ | refine a_lenv ?_ | refine a_lens ?_ | refine a_pick_t ?_ | refine a_pick_f ?_ | refine a_not ?_ | refine a_nilf ?_ | (refine o_nil (hK _ _ ?_); clear hK K) | refine wk_reg ?_ | refine wk_seq fun K hK => ?_ | (refine wk_skip (hK _ _ ?_); clear hK K) | (refine wk_label (hK _ _ ?_); clear hK K) | refine wk_scope ?_ | refine wk_block ?_ | refine wk_cond_t rfl ?_ | refine wk_cond_f rfl ?_ | (refine wk_exit ?_; (repeat (refine blockK_other rfl ?_)); refine blockK_same ?_; try ((repeat ((fail_if_success (refine hK _ _ ?_)); clear hK K)); refine hK _ _ ?_; clear hK K)) | (refine a_bin ?_ ?_ <;> intro _ <;> try (exfalso; omega)) | refine a_ld hl ?_ | (refine a_st hl ?_; clear hl; intro _ hl) | refine a_ix (fun _ => ?_) | fail)
  refine a_fn (refOn_calls t _ day w10 S2 (by omega)) ?_
  rintro _ w11 ⟨⟨gv, c, rfl, hc, h1, h2⟩, hx⟩
  obtain ⟨g, gk, rfl, hgk⟩ := on_agg ⟨h1, h2⟩
  ((first | (replace L := L.ext (hx)) | skip); (first | (replace S := S.ext (hx)) | skip); (first | (replace S2 := S2.ext (hx)) | skip); (first | (replace hkr := hkr.ext (hx)) | skip); (first | (replace rr := rr.ext (hx)) | skip); (first | (replace B := B.ext (hx)) | skip); replace he := he.trans (hx))
  clear hx h1 h2
  repeat' (first | refine a_mov ?_ | refine a_asg ?_ | refine a_binN ?_ | refine a_notd ?_ | refine a_notb ?_ | refine a_nilc ?_ | refine a_fa ?_ | refine a_ext ?_ | refine a_lenv ?_ | refine a_lens ?_ | refine a_pick_t ?_ | refine a_pick_f ?_ | refine a_not ?_ | refine a_nilf ?_ | (refine o_nil (hK _ _ ?_); clear hK K) | refine wk_reg ?_ | refine wk_seq fun K hK => ?_ | (refine wk_skip (hK _ _ ?_); clear hK K) | (refine wk_label (hK _ _ ?_); clear hK K) | refine wk_scope ?_ | refine wk_block ?_ | refine wk_cond_t rfl ?_ | refine wk_cond_f rfl ?_ | (refine wk_exit ?_; (repeat (refine blockK_other rfl ?_)); refine blockK_same ?_; try ((repeat ((fail_if_success (refine hK _ _ ?_)); clear hK K)); refine hK _ _ ?_; clear hK K)) | (refine a_bin ?_ ?_ <;> intro _ <;> try (exfalso; omega)) | refine a_ld hl ?_ | (refine a_st hl ?_; clear hl; intro _ hl) | refine a_ix (fun _ => ?_) | fail)
  refine o_alloc (LH.start w11 (fun _ => False)) [.int .i64 0, .string ⟨#[]⟩, .int .i64 0, .int .i64 0, .slice none 0 0] rfl rfl ?_
  intro b11 w12 hb11 hl
  refine o_putN (us := [.int .i64 (g).op, str (g).name, .int .i64 (g).cmp, .int .i64 (g).num, gk]) hl rfl rfl rfl (fmL_one hgk) rfl (.all rfl rfl) ?_
  clear hl
  intro w13 hl
  have hx := hl.done
  ((first | (replace L := L.ext (hx)) | skip); (first | (replace S := S.ext (hx)) | skip); (first | (replace S2 := S2.ext (hx)) | skip); (first | (replace hkr := hkr.ext (hx)) | skip); (first | (replace rr := rr.ext (hx)) | skip); (first | (replace B := B.ext (hx)) | skip); replace he := he.trans (hx))
  clear hx hl
  rw [← hb, ← hc] at hon
  clear hb hc
  have fin : ∀ w', Ext w13 w' → Value.bool true = Value.bool true ∧ Ext w w' := fun w' h => ⟨rfl, he.trans h⟩
  cases b
  · rw [Bool.false_and] at hon
    subst hon
    repeat' (first | refine a_mov ?_ | refine a_asg ?_ | refine a_binN ?_ | refine a_notd ?_ | refine a_notb ?_ | refine a_nilc ?_ | refine a_fa ?_ | refine a_ext ?_ | refine a_lenv ?_ | refine a_lens ?_ | refine a_pick_t ?_ | refine a_pick_f ?_ | refine a_not ?_ | refine a_nilf ?_ | (refine o_nil (hK _ _ ?_); clear hK K) | refine wk_reg ?_ | refine wk_seq fun K hK => ?_ | (refine wk_skip (hK _ _ ?_); clear hK K) | (refine wk_label (hK _ _ ?_); clear hK K) | refine wk_scope ?_ | refine wk_block ?_ | refine wk_cond_t rfl ?_ | refine wk_cond_f rfl ?_ | (refine wk_exit ?_; (repeat (refine blockK_other rfl ?_)); refine blockK_same ?_; try ((repeat ((fail_if_success (refine hK _ _ ?_)); clear hK K)); refine hK _ _ ?_; clear hK K)) | (refine a_bin ?_ ?_ <;> intro _ <;> try (exfalso; omega)) | refine a_ld hl ?_ | (refine a_st hl ?_; clear hl; intro _ hl) | refine a_ix (fun _ => ?_) | refine o_eqB rfl rfl rfl rfl ?_)
    refine a_fn (ordered_calls s _ w13 S (by omega)) ?_
    rintro _ w14 ⟨rfl, hx⟩
    cases ho : Rul.orderedB s
    · repeat' (first | refine a_mov ?_ | refine a_asg ?_ | refine a_binN ?_ | refine a_notd ?_ | refine a_notb ?_ | refine a_nilc ?_ | refine a_fa ?_ | refine a_ext ?_ | refine a_lenv ?_ | refine a_lens ?_ | refine a_pick_t ?_ | refine a_pick_f ?_ | refine a_not ?_ | refine a_nilf ?_ | (refine o_nil (hK _ _ ?_); clear hK K) | refine wk_reg ?_ | refine wk_seq fun K hK => ?_ | (refine wk_skip (hK _ _ ?_); clear hK K) | (refine wk_label (hK _ _ ?_); clear hK K) | refine wk_scope ?_ | refine wk_block ?_ | refine wk_cond_t rfl ?_ | refine wk_cond_f rfl ?_ | (refine wk_exit ?_; (repeat (refine blockK_other rfl ?_)); refine blockK_same ?_; try ((repeat ((fail_if_success (refine hK _ _ ?_)); clear hK K)); refine hK _ _ ?_; clear hK K)) | (refine a_bin ?_ ?_ <;> intro _ <;> try (exfalso; omega)) | refine a_ld hl ?_ | (refine a_st hl ?_; clear hl; intro _ hl) | refine a_ix (fun _ => ?_) | fail)
      refine wk_ret (retQ_tmp1 Try.results4 (by decide) rfl (by conv => lhs; whnf) ?_)
      exact ⟨rfl, he.trans hx⟩
    · have ho2 := hord ho
      repeat' (first | refine a_mov ?_ | refine a_asg ?_ | refine a_binN ?_ | refine a_notd ?_ | refine a_notb ?_ | refine a_nilc ?_ | refine a_fa ?_ | refine a_ext ?_ | refine a_lenv ?_ | refine a_lens ?_ | refine a_pick_t ?_ | refine a_pick_f ?_ | refine a_not ?_ | refine a_nilf ?_ | (refine o_nil (hK _ _ ?_); clear hK K) | refine wk_reg ?_ | refine wk_seq fun K hK => ?_ | (refine wk_skip (hK _ _ ?_); clear hK K) | (refine wk_label (hK _ _ ?_); clear hK K) | refine wk_scope ?_ | refine wk_block ?_ | refine wk_cond_t rfl ?_ | refine wk_cond_f rfl ?_ | (refine wk_exit ?_; (repeat (refine blockK_other rfl ?_)); refine blockK_same ?_; try ((repeat ((fail_if_success (refine hK _ _ ?_)); clear hK K)); refine hK _ _ ?_; clear hK K)) | (refine a_bin ?_ ?_ <;> intro _ <;> try (exfalso; omega)) | refine a_ld hl ?_ | (refine a_st hl ?_; clear hl; intro _ hl) | refine a_ix (fun _ => ?_) | fail)
      refine a_fn (ordered_calls t _ w14 (S2.ext hx) hal2) ?_
      rintro _ w15 ⟨rfl, hy⟩
      rw [ho2]
      repeat' (first | refine a_mov ?_ | refine a_asg ?_ | refine a_binN ?_ | refine a_notd ?_ | refine a_notb ?_ | refine a_nilc ?_ | refine a_fa ?_ | refine a_ext ?_ | refine a_lenv ?_ | refine a_lens ?_ | refine a_pick_t ?_ | refine a_pick_f ?_ | refine a_not ?_ | refine a_nilf ?_ | (refine o_nil (hK _ _ ?_); clear hK K) | refine wk_reg ?_ | refine wk_seq fun K hK => ?_ | (refine wk_skip (hK _ _ ?_); clear hK K) | (refine wk_label (hK _ _ ?_); clear hK K) | refine wk_scope ?_ | refine wk_block ?_ | refine wk_cond_t rfl ?_ | refine wk_cond_f rfl ?_ | (refine wk_exit ?_; (repeat (refine blockK_other rfl ?_)); refine blockK_same ?_; try ((repeat ((fail_if_success (refine hK _ _ ?_)); clear hK K)); refine hK _ _ ?_; clear hK K)) | (refine a_bin ?_ ?_ <;> intro _ <;> try (exfalso; omega)) | refine a_ld hl ?_ | (refine a_st hl ?_; clear hl; intro _ hl) | refine a_ix (fun _ => ?_) | fail)
      refine wk_ret (retQ_tmp1 Try.results4 (by decide) rfl (by conv => lhs; whnf) ?_)
      exact ⟨rfl, he.trans (hx.trans hy)⟩
  · rw [Bool.true_and] at hon
    subst hon
    repeat' (first | refine a_mov ?_ | refine a_asg ?_ | refine a_binN ?_ | refine a_notd ?_ | refine a_notb ?_ | refine a_nilc ?_ | refine a_fa ?_ | refine a_ext ?_ | refine a_lenv ?_ | refine a_lens ?_ | refine a_pick_t ?_ | refine a_pick_f ?_ | refine a_not ?_ | refine a_nilf ?_ | (refine o_nil (hK _ _ ?_); clear hK K) | refine wk_reg ?_ | refine wk_seq fun K hK => ?_ | (refine wk_skip (hK _ _ ?_); clear hK K) | (refine wk_label (hK _ _ ?_); clear hK K) | refine wk_scope ?_ | refine wk_block ?_ | refine wk_cond_t rfl ?_ | refine wk_cond_f rfl ?_ | (refine wk_exit ?_; (repeat (refine blockK_other rfl ?_)); refine blockK_same ?_; try ((repeat ((fail_if_success (refine hK _ _ ?_)); clear hK K)); refine hK _ _ ?_; clear hK K)) | (refine a_bin ?_ ?_ <;> intro _ <;> try (exfalso; omega)) | refine a_ld hl ?_ | (refine a_st hl ?_; clear hl; intro _ hl) | refine a_ix (fun _ => ?_) | refine a_all rr ?_)
    refine a_fn (takes_calls r rv day w13) ?_
    rintro _ w14 ⟨rfl, hx⟩
    ((first | (replace L := L.ext (hx)) | skip); (first | (replace S := S.ext (hx)) | skip); (first | (replace S2 := S2.ext (hx)) | skip); (first | (replace hkr := hkr.ext (hx)) | skip); (first | (replace rr := rr.ext (hx)) | skip); (first | (replace B := B.ext (hx)) | skip); replace he := he.trans (hx))
    clear hx fin
    cases Rul.takesB r day
    all_goals repeat' (first | refine a_mov ?_ | refine a_asg ?_ | refine a_binN ?_ | refine a_notd ?_ | refine a_notb ?_ | refine a_nilc ?_ | refine a_fa ?_ | refine a_ext ?_ | refine a_lenv ?_ | refine a_lens ?_ | refine a_pick_t ?_ | refine a_pick_f ?_ | refine a_not ?_ | refine a_nilf ?_ | (refine o_nil (hK _ _ ?_); clear hK K) | refine wk_reg ?_ | refine wk_seq fun K hK => ?_ | (refine wk_skip (hK _ _ ?_); clear hK K) | (refine wk_label (hK _ _ ?_); clear hK K) | refine wk_scope ?_ | refine wk_block ?_ | refine wk_cond_t rfl ?_ | refine wk_cond_f rfl ?_ | (refine wk_exit ?_; (repeat (refine blockK_other rfl ?_)); refine blockK_same ?_; try ((repeat ((fail_if_success (refine hK _ _ ?_)); clear hK K)); refine hK _ _ ?_; clear hK K)) | (refine a_bin ?_ ?_ <;> intro _ <;> try (exfalso; omega)) | refine a_ld hl ?_ | (refine a_st hl ?_; clear hl; intro _ hl) | refine a_ix (fun _ => ?_) | refine o_eqB rfl rfl rfl rfl ?_)
    all_goals (
      refine a_fn (ordered_calls s _ w14 S (by omega)) ?_
      rintro _ w15 ⟨rfl, hx⟩
      cases ho : Rul.orderedB s
      · repeat' (first | refine a_mov ?_ | refine a_asg ?_ | refine a_binN ?_ | refine a_notd ?_ | refine a_notb ?_ | refine a_nilc ?_ | refine a_fa ?_ | refine a_ext ?_ | refine a_lenv ?_ | refine a_lens ?_ | refine a_pick_t ?_ | refine a_pick_f ?_ | refine a_not ?_ | refine a_nilf ?_ | (refine o_nil (hK _ _ ?_); clear hK K) | refine wk_reg ?_ | refine wk_seq fun K hK => ?_ | (refine wk_skip (hK _ _ ?_); clear hK K) | (refine wk_label (hK _ _ ?_); clear hK K) | refine wk_scope ?_ | refine wk_block ?_ | refine wk_cond_t rfl ?_ | refine wk_cond_f rfl ?_ | (refine wk_exit ?_; (repeat (refine blockK_other rfl ?_)); refine blockK_same ?_; try ((repeat ((fail_if_success (refine hK _ _ ?_)); clear hK K)); refine hK _ _ ?_; clear hK K)) | (refine a_bin ?_ ?_ <;> intro _ <;> try (exfalso; omega)) | refine a_ld hl ?_ | (refine a_st hl ?_; clear hl; intro _ hl) | refine a_ix (fun _ => ?_) | fail)
        refine wk_ret (retQ_tmp1 Try.results4 (by decide) rfl (by conv => lhs; whnf) ?_)
        exact ⟨rfl, he.trans hx⟩
      · have ho2 := hord ho
        repeat' (first | refine a_mov ?_ | refine a_asg ?_ | refine a_binN ?_ | refine a_notd ?_ | refine a_notb ?_ | refine a_nilc ?_ | refine a_fa ?_ | refine a_ext ?_ | refine a_lenv ?_ | refine a_lens ?_ | refine a_pick_t ?_ | refine a_pick_f ?_ | refine a_not ?_ | refine a_nilf ?_ | (refine o_nil (hK _ _ ?_); clear hK K) | refine wk_reg ?_ | refine wk_seq fun K hK => ?_ | (refine wk_skip (hK _ _ ?_); clear hK K) | (refine wk_label (hK _ _ ?_); clear hK K) | refine wk_scope ?_ | refine wk_block ?_ | refine wk_cond_t rfl ?_ | refine wk_cond_f rfl ?_ | (refine wk_exit ?_; (repeat (refine blockK_other rfl ?_)); refine blockK_same ?_; try ((repeat ((fail_if_success (refine hK _ _ ?_)); clear hK K)); refine hK _ _ ?_; clear hK K)) | (refine a_bin ?_ ?_ <;> intro _ <;> try (exfalso; omega)) | refine a_ld hl ?_ | (refine a_st hl ?_; clear hl; intro _ hl) | refine a_ix (fun _ => ?_) | fail)
        refine a_fn (ordered_calls t _ w15 (S2.ext hx) hal2) ?_
        rintro _ w16 ⟨rfl, hy⟩
        rw [ho2]
        repeat' (first | refine a_mov ?_ | refine a_asg ?_ | refine a_binN ?_ | refine a_notd ?_ | refine a_notb ?_ | refine a_nilc ?_ | refine a_fa ?_ | refine a_ext ?_ | refine a_lenv ?_ | refine a_lens ?_ | refine a_pick_t ?_ | refine a_pick_f ?_ | refine a_not ?_ | refine a_nilf ?_ | (refine o_nil (hK _ _ ?_); clear hK K) | refine wk_reg ?_ | refine wk_seq fun K hK => ?_ | (refine wk_skip (hK _ _ ?_); clear hK K) | (refine wk_label (hK _ _ ?_); clear hK K) | refine wk_scope ?_ | refine wk_block ?_ | refine wk_cond_t rfl ?_ | refine wk_cond_f rfl ?_ | (refine wk_exit ?_; (repeat (refine blockK_other rfl ?_)); refine blockK_same ?_; try ((repeat ((fail_if_success (refine hK _ _ ?_)); clear hK K)); refine hK _ _ ?_; clear hK K)) | (refine a_bin ?_ ?_ <;> intro _ <;> try (exfalso; omega)) | refine a_ld hl ?_ | (refine a_st hl ?_; clear hl; intro _ hl) | refine a_ix (fun _ => ?_) | fail)
        refine wk_ret (retQ_tmp1 Try.results4 (by decide) rfl (by conv => lhs; whnf) ?_)
        exact ⟨rfl, he.trans (hx.trans hy)⟩)

/-! ### Order -/
theorem after_take (l : List Rul.Spn) {rs : List Rul.Rul} {i : Nat} (hi : i < rs.length) : Rul.afterB l (rs.take (i + 1)) = Rul.applyB (Rul.afterB l (rs.take i)) rs[i] := by
  unfold Rul.afterB
  rw [List.take_succ_eq_append_getElem hi, List.foldl_append]
  rfl
theorem after_len (l : List Rul.Spn) : ∀ (rs : List Rul.Rul), (Rul.afterB l rs).length ≤ l.length * 2 ^ rs.length := by
  intro rs
  induction rs generalizing l with
  | nil => simp [Rul.afterB]
  | cons r rs ih =>
    have h1 := ih (Rul.applyB l r)
    have h2 : (Rul.applyB l r).length ≤ 2 * l.length := flat_one_len _ _ _
    show (Rul.afterB (Rul.applyB l r) rs).length ≤ _
    rw [List.length_cons, Nat.pow_succ]
    have h3 := Nat.mul_le_mul_right (2 ^ rs.length) h2
    have e : l.length * (2 ^ rs.length * 2) = 2 * l.length * 2 ^ rs.length := by rw [Nat.mul_comm (2 ^ rs.length) 2, ← Nat.mul_assoc, Nat.mul_comm l.length 2]
    omega
set_option maxHeartbeats 2000000 in
theorem after_calls (rs : List Rul.Rul) (l : List Rul.Spn) (lv rsv : Value) (w : World) (hL : SpnsAt w l lv) (hR : RulsAt w rs rsv) (hrl : rs.length ≤ 20) (hll : l.length ≤ 10) :
    Calls Try.prog 23 #[lv, rsv] w (fun e w' => ∃ x, e = .returned x ∧ SpnsAt w' (Rul.afterB l rs) x ∧ Ext w w') := by
  obtain ⟨ra, rc, rfl, -⟩ := hR.shape
  have hb : ∀ i, i ≤ rs.length → (Rul.afterB l (rs.take i)).length ≤ 10000000000 := fun i hi => by
    have h1 := after_len l (rs.take i)
    have h2 : 2 ^ (rs.take i).length ≤ 2 ^ 20 := Nat.pow_le_pow_right (by decide) (by rw [List.length_take]; omega)
    have h3 := Nat.mul_le_mul hll h2
    omega
  refine calls_of Try.func23 rfl Try.ntmps23 rfl ?_
  repeat' (first | refine a_mov ?_ | refine a_asg ?_ | refine a_binN ?_ | refine a_notd ?_ | refine a_notb ?_ | refine a_nilc ?_ | refine a_fa ?_ | refine a_ext ?_ | refine a_lenv ?_ | refine a_lens ?_ | refine a_pick_t ?_ | refine a_pick_f ?_ | refine a_not ?_ | refine a_nilf ?_ | (refine o_nil (hK _ _ ?_); clear hK K) | refine wk_reg ?_ | refine wk_seq fun K hK => ?_ | (refine wk_skip (hK _ _ ?_); clear hK K) | (refine wk_label (hK _ _ ?_); clear hK K) | refine wk_scope ?_ | refine wk_block ?_ | refine wk_cond_t rfl ?_ | refine wk_cond_f rfl ?_ | (refine wk_exit ?_; (repeat (refine blockK_other rfl ?_)); refine blockK_same ?_; try ((repeat ((fail_if_success (refine hK _ _ ?_)); clear hK K)); refine hK _ _ ?_; clear hK K)) | (refine a_bin ?_ ?_ <;> intro _ <;> try (exfalso; omega)) | refine a_ld hl ?_ | (refine a_st hl ?_; clear hl; intro _ hl) | refine a_ix (fun _ => ?_) | fail)
  refine wk_loopH [] rfl (fun q : Nat × Value => [(0, q.2), (1, .slice ra rs.length rc), (5, .int .i64 (q.1 : Int))]) (fun q w' => q.1 ≤ rs.length ∧ SpnsAt w' (Rul.afterB l (rs.take q.1)) q.2 ∧ Ext w w') (fun q => rs.length - q.1) (0, lv) ⟨rfl, rfl, rfl, trivial⟩ ⟨Nat.zero_le _, hL, .refl _ _⟩ ?_
  rintro ⟨i, v⟩ t w1 ⟨hi, hS, he⟩
  simp only at hi hS
  by_cases hi1 : i < rs.length
  · obtain ⟨b, o, kv, hp, hr, hkk⟩ := (hR.ext he).at hi1
    have hstep := after_take l hi1
    have hbi := hb i hi
    generalize rs[i] = r at *
    obtain ⟨va, vc, rfl, -⟩ := hS.shape
    repeat' (first | refine a_mov ?_ | refine a_asg ?_ | refine a_binN ?_ | refine a_notd ?_ | refine a_notb ?_ | refine a_nilc ?_ | refine a_fa ?_ | refine a_ext ?_ | refine a_lenv ?_ | refine a_lens ?_ | refine a_pick_t ?_ | refine a_pick_f ?_ | refine a_not ?_ | refine a_nilf ?_ | (refine o_nil (hK _ _ ?_); clear hK K) | refine wk_reg ?_ | refine wk_seq fun K hK => ?_ | (refine wk_skip (hK _ _ ?_); clear hK K) | (refine wk_label (hK _ _ ?_); clear hK K) | refine wk_scope ?_ | refine wk_block ?_ | refine wk_cond_t rfl ?_ | refine wk_cond_f rfl ?_ | (refine wk_exit ?_; (repeat (refine blockK_other rfl ?_)); refine blockK_same ?_; try ((repeat ((fail_if_success (refine hK _ _ ?_)); clear hK K)); refine hK _ _ ?_; clear hK K)) | (refine a_bin ?_ ?_ <;> intro _ <;> try (exfalso; omega)) | refine a_ld hl ?_ | (refine a_st hl ?_; clear hl; intro _ hl) | refine a_ix (fun _ => ?_) | refine a_idx (c := 13) i hp ?_ | refine a_all hr ?_)
    refine a_fn (apply_calls _ r _ kv w1 hS hkk hbi) ?_
    rintro v2 w2 ⟨hS2, he2⟩
    obtain ⟨va2, vc2, rfl, -⟩ := hS2.shape
    repeat' (first | refine a_mov ?_ | refine a_asg ?_ | refine a_binN ?_ | refine a_notd ?_ | refine a_notb ?_ | refine a_nilc ?_ | refine a_fa ?_ | refine a_ext ?_ | refine a_lenv ?_ | refine a_lens ?_ | refine a_pick_t ?_ | refine a_pick_f ?_ | refine a_not ?_ | refine a_nilf ?_ | (refine o_nil (hK _ _ ?_); clear hK K) | refine wk_reg ?_ | refine wk_seq fun K hK => ?_ | (refine wk_skip (hK _ _ ?_); clear hK K) | (refine wk_label (hK _ _ ?_); clear hK K) | refine wk_scope ?_ | refine wk_block ?_ | refine wk_cond_t rfl ?_ | refine wk_cond_f rfl ?_ | (refine wk_exit ?_; (repeat (refine blockK_other rfl ?_)); refine blockK_same ?_; try ((repeat ((fail_if_success (refine hK _ _ ?_)); clear hK K)); refine hK _ _ ?_; clear hK K)) | (refine a_bin ?_ ?_ <;> intro _ <;> try (exfalso; omega)) | refine a_ld hl ?_ | (refine a_st hl ?_; clear hl; intro _ hl) | refine a_ix (fun _ => ?_) | fail)
    exact o_nil ⟨(i + 1, _), ⟨rfl, rfl, rfl, trivial⟩, rfl, ⟨hi1, by rw [hstep]; exact hS2, he.trans he2⟩, by show rs.length - (i + 1) < rs.length - i; omega⟩
  · rw [List.take_of_length_le (by omega)] at hS
    obtain ⟨va, vc, rfl, -⟩ := hS.shape
    repeat' (first | refine a_mov ?_ | refine a_asg ?_ | refine a_binN ?_ | refine a_notd ?_ | refine a_notb ?_ | refine a_nilc ?_ | refine a_fa ?_ | refine a_ext ?_ | refine a_lenv ?_ | refine a_lens ?_ | refine a_pick_t ?_ | refine a_pick_f ?_ | refine a_not ?_ | refine a_nilf ?_ | (refine o_nil (hK _ _ ?_); clear hK K) | refine wk_reg ?_ | refine wk_seq fun K hK => ?_ | (refine wk_skip (hK _ _ ?_); clear hK K) | (refine wk_label (hK _ _ ?_); clear hK K) | refine wk_scope ?_ | refine wk_block ?_ | refine wk_cond_t rfl ?_ | refine wk_cond_f rfl ?_ | (refine wk_exit ?_; (repeat (refine blockK_other rfl ?_)); refine blockK_same ?_; try ((repeat ((fail_if_success (refine hK _ _ ?_)); clear hK K)); refine hK _ _ ?_; clear hK K)) | (refine a_bin ?_ ?_ <;> intro _ <;> try (exfalso; omega)) | refine a_ld hl ?_ | (refine a_st hl ?_; clear hl; intro _ hl) | refine a_ix (fun _ => ?_) | fail)
    refine wk_ret (retQ_tmp1 Try.results23 (by decide) rfl (by conv => lhs; whnf) ?_)
    exact ⟨hS, he⟩

set_option maxHeartbeats 8000000 in
theorem ruOrder_calls {w : World} {s : List Rul.Spn} {sv : Value} {r : List Rul.Rul} {rv : Value} (hs : SpnsIn w s sv) (hr : RulsIn w r rv) (day : Int) :
    Calls Try.prog 5 #[sv, rv, .int .i64 day] w (fun e w' => ∃ x, e = .returned x ∧ x = .bool true ∧ Ext w w') := by
  obtain ⟨sa, sc, rfl, -⟩ := hs.at_.shape
  obtain ⟨ra, rc, rfl, -⟩ := hr.at_.shape
  have hsl := hs.len
  have hrl := hr.len
  have S := hs.at_
  have L := hr.at_
  refine calls_of Try.func5 rfl Try.ntmps5 rfl ?_
  repeat' (first | refine a_mov ?_ | refine a_asg ?_ | refine a_binN ?_ | refine a_notd ?_ | refine a_notb ?_ | refine a_nilc ?_ | refine a_fa ?_ | refine a_ext ?_ | refine a_lenv ?_ | refine a_lens ?_ | refine a_pick_t ?_ | refine a_pick_f ?_ | refine a_not ?_ | refine a_nilf ?_ | (refine o_nil (hK _ _ ?_); clear hK K) | refine wk_reg ?_ | refine wk_seq fun K hK => ?_ | (refine wk_skip (hK _ _ ?_); clear hK K) | (refine wk_label (hK _ _ ?_); clear hK K) | refine wk_scope ?_ | refine wk_block ?_ | refine wk_cond_t rfl ?_ | refine wk_cond_f rfl ?_ | (refine wk_exit ?_; (repeat (refine blockK_other rfl ?_)); refine blockK_same ?_; try ((repeat ((fail_if_success (refine hK _ _ ?_)); clear hK K)); refine hK _ _ ?_; clear hK K)) | (refine a_bin ?_ ?_ <;> intro _ <;> try (exfalso; omega)) | refine a_ld hl ?_ | (refine a_st hl ?_; clear hl; intro _ hl) | refine a_ix (fun _ => ?_) | fail)
  refine a_fn (ruHead_calls w) ?_
  rintro _ w2 ⟨rfl, he⟩
  replace S := S.ext he
  replace L := L.ext he
  repeat' (first | refine a_mov ?_ | refine a_asg ?_ | refine a_binN ?_ | refine a_notd ?_ | refine a_notb ?_ | refine a_nilc ?_ | refine a_fa ?_ | refine a_ext ?_ | refine a_lenv ?_ | refine a_lens ?_ | refine a_pick_t ?_ | refine a_pick_f ?_ | refine a_not ?_ | refine a_nilf ?_ | (refine o_nil (hK _ _ ?_); clear hK K) | refine wk_reg ?_ | refine wk_seq fun K hK => ?_ | (refine wk_skip (hK _ _ ?_); clear hK K) | (refine wk_label (hK _ _ ?_); clear hK K) | refine wk_scope ?_ | refine wk_block ?_ | refine wk_cond_t rfl ?_ | refine wk_cond_f rfl ?_ | (refine wk_exit ?_; (repeat (refine blockK_other rfl ?_)); refine blockK_same ?_; try ((repeat ((fail_if_success (refine hK _ _ ?_)); clear hK K)); refine hK _ _ ?_; clear hK K)) | (refine a_bin ?_ ?_ <;> intro _ <;> try (exfalso; omega)) | refine a_ld hl ?_ | (refine a_st hl ?_; clear hl; intro _ hl) | refine a_ix (fun _ => ?_) | fail)
  refine a_fn (ruShort_calls s _ 10 w2 S (by omega) hs.ok) ?_
  rintro _ w3 ⟨rfl, hx⟩
  ((first | (replace L := L.ext (hx)) | skip); (first | (replace S := S.ext (hx)) | skip); (first | (replace S2 := S2.ext (hx)) | skip); (first | (replace hkr := hkr.ext (hx)) | skip); (first | (replace rr := rr.ext (hx)) | skip); (first | (replace B := B.ext (hx)) | skip); replace he := he.trans (hx))
  clear hx
  cases hf3 : Rul.shortB s 10
  · repeat' (first | refine a_mov ?_ | refine a_asg ?_ | refine a_binN ?_ | refine a_notd ?_ | refine a_notb ?_ | refine a_nilc ?_ | refine a_fa ?_ | refine a_ext ?_ | refine a_lenv ?_ | refine a_lens ?_ | refine a_pick_t ?_ | refine a_pick_f ?_ | refine a_not ?_ | refine a_nilf ?_ | (refine o_nil (hK _ _ ?_); clear hK K) | refine wk_reg ?_ | refine wk_seq fun K hK => ?_ | (refine wk_skip (hK _ _ ?_); clear hK K) | (refine wk_label (hK _ _ ?_); clear hK K) | refine wk_scope ?_ | refine wk_block ?_ | refine wk_cond_t rfl ?_ | refine wk_cond_f rfl ?_ | (refine wk_exit ?_; (repeat (refine blockK_other rfl ?_)); refine blockK_same ?_; try ((repeat ((fail_if_success (refine hK _ _ ?_)); clear hK K)); refine hK _ _ ?_; clear hK K)) | (refine a_bin ?_ ?_ <;> intro _ <;> try (exfalso; omega)) | refine a_ld hl ?_ | (refine a_st hl ?_; clear hl; intro _ hl) | refine a_ix (fun _ => ?_) | fail)
    refine wk_ret (retQ_tmp1 Try.results5 (by decide) rfl (by conv => lhs; whnf) ?_)
    exact ⟨rfl, he⟩
  repeat' (first | refine a_mov ?_ | refine a_asg ?_ | refine a_binN ?_ | refine a_notd ?_ | refine a_notb ?_ | refine a_nilc ?_ | refine a_fa ?_ | refine a_ext ?_ | refine a_lenv ?_ | refine a_lens ?_ | refine a_pick_t ?_ | refine a_pick_f ?_ | refine a_not ?_ | refine a_nilf ?_ | (refine o_nil (hK _ _ ?_); clear hK K) | refine wk_reg ?_ | refine wk_seq fun K hK => ?_ | (refine wk_skip (hK _ _ ?_); clear hK K) | (refine wk_label (hK _ _ ?_); clear hK K) | refine wk_scope ?_ | refine wk_block ?_ | refine wk_cond_t rfl ?_ | refine wk_cond_f rfl ?_ | (refine wk_exit ?_; (repeat (refine blockK_other rfl ?_)); refine blockK_same ?_; try ((repeat ((fail_if_success (refine hK _ _ ?_)); clear hK K)); refine hK _ _ ?_; clear hK K)) | (refine a_bin ?_ ?_ <;> intro _ <;> try (exfalso; omega)) | refine a_ld hl ?_ | (refine a_st hl ?_; clear hl; intro _ hl) | refine a_ix (fun _ => ?_) | fail)
  refine a_fn (ruFew_calls r _ 10 w3 L (by omega) (fun x hx => (hr.ok x hx).f)) ?_
  rintro _ w4 ⟨rfl, hx⟩
  ((first | (replace L := L.ext (hx)) | skip); (first | (replace S := S.ext (hx)) | skip); (first | (replace S2 := S2.ext (hx)) | skip); (first | (replace hkr := hkr.ext (hx)) | skip); (first | (replace rr := rr.ext (hx)) | skip); (first | (replace B := B.ext (hx)) | skip); replace he := he.trans (hx))
  clear hx
  cases hf2 : Rul.fewB r 10
  · repeat' (first | refine a_mov ?_ | refine a_asg ?_ | refine a_binN ?_ | refine a_notd ?_ | refine a_notb ?_ | refine a_nilc ?_ | refine a_fa ?_ | refine a_ext ?_ | refine a_lenv ?_ | refine a_lens ?_ | refine a_pick_t ?_ | refine a_pick_f ?_ | refine a_not ?_ | refine a_nilf ?_ | (refine o_nil (hK _ _ ?_); clear hK K) | refine wk_reg ?_ | refine wk_seq fun K hK => ?_ | (refine wk_skip (hK _ _ ?_); clear hK K) | (refine wk_label (hK _ _ ?_); clear hK K) | refine wk_scope ?_ | refine wk_block ?_ | refine wk_cond_t rfl ?_ | refine wk_cond_f rfl ?_ | (refine wk_exit ?_; (repeat (refine blockK_other rfl ?_)); refine blockK_same ?_; try ((repeat ((fail_if_success (refine hK _ _ ?_)); clear hK K)); refine hK _ _ ?_; clear hK K)) | (refine a_bin ?_ ?_ <;> intro _ <;> try (exfalso; omega)) | refine a_ld hl ?_ | (refine a_st hl ?_; clear hl; intro _ hl) | refine a_ix (fun _ => ?_) | fail)
    refine wk_ret (retQ_tmp1 Try.results5 (by decide) rfl (by conv => lhs; whnf) ?_)
    exact ⟨rfl, he⟩
  have q2 := Rul.few_iff.1 hf2
  have q3 := Rul.short_iff.1 hf3
  clear hf2 hf3
  obtain ⟨ps0, hps0, hsl0, hka0⟩ := L.ex
  repeat' (first | refine a_mov ?_ | refine a_asg ?_ | refine a_binN ?_ | refine a_notd ?_ | refine a_notb ?_ | refine a_nilc ?_ | refine a_fa ?_ | refine a_ext ?_ | refine a_lenv ?_ | refine a_lens ?_ | refine a_pick_t ?_ | refine a_pick_f ?_ | refine a_not ?_ | refine a_nilf ?_ | (refine o_nil (hK _ _ ?_); clear hK K) | refine wk_reg ?_ | refine wk_seq fun K hK => ?_ | (refine wk_skip (hK _ _ ?_); clear hK K) | (refine wk_label (hK _ _ ?_); clear hK K) | refine wk_scope ?_ | refine wk_block ?_ | refine wk_cond_t rfl ?_ | refine wk_cond_f rfl ?_ | (refine wk_exit ?_; (repeat (refine blockK_other rfl ?_)); refine blockK_same ?_; try ((repeat ((fail_if_success (refine hK _ _ ?_)); clear hK K)); refine hK _ _ ?_; clear hK K)) | (refine a_bin ?_ ?_ <;> intro _ <;> try (exfalso; omega)) | refine a_ld hl ?_ | (refine a_st hl ?_; clear hl; intro _ hl) | refine a_ix (fun _ => ?_) | fail)
  -- backwards
  refine wk_loopH [] rfl (fun q : Nat × Value × List (Nat × Obj) × List (Rul.Rul × Value) => [(0, .slice sa s.length sc), (1, .slice ra r.length rc), (2, .int .i64 day), (7, .bool true), (8, q.2.1), (9, .int .i64 ((q.1 : Int) - 1))])
    (fun q w' => (q.1 ≤ r.length ∧ q.2.2.2.map (·.1) = (r.drop q.1).reverse ∧ (∀ x ∈ r.drop q.1, Rul.validB x = true) ∧ ∀ p ∈ q.2.2.2, KA w4 p.1.read.kids p.2) ∧ LH w4 (fun _ => False) w' ([] ++ q.2.2.1) ∧ Acc q.2.1 13 28 q.2.2.2.length (q.2.2.2.flatMap rulL) q.2.2.1) (fun q => q.1) (r.length, .slice none 0 0, [], []) ⟨rfl, rfl, rfl, rfl, rfl, rfl, trivial⟩ ⟨⟨Nat.le_refl _, by simp, by simp, fun _ h => nomatch h⟩, LH.start _ _, Acc.nil _ _⟩ ?_
  rintro ⟨k, v, acc, ps⟩ t w5 ⟨⟨hk, hps, hval, hka⟩, hl, ha⟩
  simp only at hk hps hval hka hl ha
  obtain ⟨oa, oc, rfl⟩ := ha.shape
  have hpl : ps.length = r.length - k := by
    have := congrArg List.length hps
    simpa using this
  cases k with
  | succ i =>
    have hi : i < r.length := by omega
    have hii : ((i + 1 : Nat) : Int) - 1 = (i : Int) := by omega
    rw [hii]
    obtain ⟨b, o, kv, hp, hrow, hkk⟩ := L.at hi
    have hone := rulC_one hkk
    have hok := hr.ok _ (List.getElem_mem hi)
    have hct := q2.2 _ (List.getElem_mem hi)
    have hdr := List.drop_eq_getElem_cons hi
    have hrow2 := hrow.ext hl.done
    repeat' (first | refine a_mov ?_ | refine a_asg ?_ | refine a_binN ?_ | refine a_notd ?_ | refine a_notb ?_ | refine a_nilc ?_ | refine a_fa ?_ | refine a_ext ?_ | refine a_lenv ?_ | refine a_lens ?_ | refine a_pick_t ?_ | refine a_pick_f ?_ | refine a_not ?_ | refine a_nilf ?_ | (refine o_nil (hK _ _ ?_); clear hK K) | refine wk_reg ?_ | refine wk_seq fun K hK => ?_ | (refine wk_skip (hK _ _ ?_); clear hK K) | (refine wk_label (hK _ _ ?_); clear hK K) | refine wk_scope ?_ | refine wk_block ?_ | refine wk_cond_t rfl ?_ | refine wk_cond_f rfl ?_ | (refine wk_exit ?_; (repeat (refine blockK_other rfl ?_)); refine blockK_same ?_; try ((repeat ((fail_if_success (refine hK _ _ ?_)); clear hK K)); refine hK _ _ ?_; clear hK K)) | (refine a_bin ?_ ?_ <;> intro _ <;> try (exfalso; omega)) | refine a_ld hl ?_ | (refine a_st hl ?_; clear hl; intro _ hl) | refine a_ix (fun _ => ?_) | refine a_idx (c := 13) i hp ?_ | refine a_all hrow2 ?_)
    refine a_fn (ruValid_calls r[i] kv w5 (hkk.ext hl.done) (by omega) hok.len) ?_
    rintro _ w6 ⟨rfl, hx⟩
    replace hl := hl.ext hx
    cases hv : Rul.validB r[i]
    · repeat' (first | refine a_mov ?_ | refine a_asg ?_ | refine a_binN ?_ | refine a_notd ?_ | refine a_notb ?_ | refine a_nilc ?_ | refine a_fa ?_ | refine a_ext ?_ | refine a_lenv ?_ | refine a_lens ?_ | refine a_pick_t ?_ | refine a_pick_f ?_ | refine a_not ?_ | refine a_nilf ?_ | (refine o_nil (hK _ _ ?_); clear hK K) | refine wk_reg ?_ | refine wk_seq fun K hK => ?_ | (refine wk_skip (hK _ _ ?_); clear hK K) | (refine wk_label (hK _ _ ?_); clear hK K) | refine wk_scope ?_ | refine wk_block ?_ | refine wk_cond_t rfl ?_ | refine wk_cond_f rfl ?_ | (refine wk_exit ?_; (repeat (refine blockK_other rfl ?_)); refine blockK_same ?_; try ((repeat ((fail_if_success (refine hK _ _ ?_)); clear hK K)); refine hK _ _ ?_; clear hK K)) | (refine a_bin ?_ ?_ <;> intro _ <;> try (exfalso; omega)) | refine a_ld hl ?_ | (refine a_st hl ?_; clear hl; intro _ hl) | refine a_ix (fun _ => ?_) | fail)
      refine wk_ret (retQ_tmp1 Try.results5 (by decide) rfl (by conv => lhs; whnf) ?_)
      exact ⟨rfl, he.trans hl.done⟩
    generalize r[i] = x at *
    replace hrow2 := hrow.ext hl.done
    repeat' (first | refine a_mov ?_ | refine a_asg ?_ | refine a_binN ?_ | refine a_notd ?_ | refine a_notb ?_ | refine a_nilc ?_ | refine a_fa ?_ | refine a_ext ?_ | refine a_lenv ?_ | refine a_lens ?_ | refine a_pick_t ?_ | refine a_pick_f ?_ | refine a_not ?_ | refine a_nilf ?_ | (refine o_nil (hK _ _ ?_); clear hK K) | refine wk_reg ?_ | refine wk_seq fun K hK => ?_ | (refine wk_skip (hK _ _ ?_); clear hK K) | (refine wk_label (hK _ _ ?_); clear hK K) | refine wk_scope ?_ | refine wk_block ?_ | refine wk_cond_t rfl ?_ | refine wk_cond_f rfl ?_ | (refine wk_exit ?_; (repeat (refine blockK_other rfl ?_)); refine blockK_same ?_; try ((repeat ((fail_if_success (refine hK _ _ ?_)); clear hK K)); refine hK _ _ ?_; clear hK K)) | (refine a_bin ?_ ?_ <;> intro _ <;> try (exfalso; omega)) | refine a_ld hl ?_ | (refine a_st hl ?_; clear hl; intro _ hl) | refine a_ix (fun _ => ?_) | refine a_idx (c := 13) i hp ?_ | refine a_all hrow2 ?_)
    refine o_buildSlice hl [str (x).id, str (x).tgt, .int .i64 (x).kind, .int .i64 (x).fro, .int .i64 (x).til, .int .i64 (x).read.op, str (x).read.name, .int .i64 (x).read.cmp, .int .i64 (x).read.num, kv, .int .i64 (x).known, .bool (x).fin, str (x).lifts] rfl rfl (by kernel_rfl) ?_
    clear hl
    intro b11 w12 hb11 hl
    have hl : LH w4 _ w12 ([_] ++ acc) := hl
    refine o_append (bl' := [_]) (k := 13) (bytes := 152) (m := ps.length) (q := 1) (us := [str (x).id, str (x).tgt, .int .i64 (x).kind, .int .i64 (x).fro, .int .i64 (x).til, .int .i64 (x).read.op, str (x).read.name, .int .i64 (x).read.cmp, .int .i64 (x).read.num, kv, .int .i64 (x).known, .bool (x).fin, str (x).lifts]) hl ha (hl.rowL (vs := [str (x).id, str (x).tgt, .int .i64 (x).kind, .int .i64 (x).fro, .int .i64 (x).til, .int .i64 (x).read.op, str (x).read.name, .int .i64 (x).read.cmp, .int .i64 (x).read.num, kv, .int .i64 (x).known, .bool (x).fin, str (x).lifts]) 0 0 13 rfl) rfl hone (by omega) (by omega) (by omega) rfl rfl rfl rfl rfl ?_
    clear hl
    intro v' w13 acc' hl ha'
    obtain ⟨pa', pc', rfl⟩ := ha'.shape
    repeat' (first | refine a_mov ?_ | refine a_asg ?_ | refine a_binN ?_ | refine a_notd ?_ | refine a_notb ?_ | refine a_nilc ?_ | refine a_fa ?_ | refine a_ext ?_ | refine a_lenv ?_ | refine a_lens ?_ | refine a_pick_t ?_ | refine a_pick_f ?_ | refine a_not ?_ | refine a_nilf ?_ | (refine o_nil (hK _ _ ?_); clear hK K) | refine wk_reg ?_ | refine wk_seq fun K hK => ?_ | (refine wk_skip (hK _ _ ?_); clear hK K) | (refine wk_label (hK _ _ ?_); clear hK K) | refine wk_scope ?_ | refine wk_block ?_ | refine wk_cond_t rfl ?_ | refine wk_cond_f rfl ?_ | (refine wk_exit ?_; (repeat (refine blockK_other rfl ?_)); refine blockK_same ?_; try ((repeat ((fail_if_success (refine hK _ _ ?_)); clear hK K)); refine hK _ _ ?_; clear hK K)) | (refine a_bin ?_ ?_ <;> intro _ <;> try (exfalso; omega)) | refine a_ld hl ?_ | (refine a_st hl ?_; clear hl; intro _ hl) | refine a_ix (fun _ => ?_) | fail)
    refine o_nil ⟨(i, _, acc', ps ++ [(x, kv)]), ⟨rfl, rfl, rfl, rfl, rfl, rfl, trivial⟩, rfl, ⟨⟨by omega, ?_, ?_, ?_⟩, hl.sub (List.sublist_cons_self _ _), ?_⟩, by show i < i + 1; omega⟩
    · show (ps ++ [(x, kv)]).map (·.1) = _
      rw [hdr, List.reverse_cons, List.map_append, hps]; rfl
    · rw [hdr]
      intro y hy
      rcases List.mem_cons.1 hy with rfl | hy
      · exact hv
      · exact hval y hy
    · intro p hp'
      rcases List.mem_append.1 hp' with hp' | hp'
      · exact hka p hp'
      · rw [List.mem_singleton.1 hp']; exact hkk
    · show Acc _ 13 28 (ps ++ [(x, kv)]).length ((ps ++ [(x, kv)]).flatMap rulL) acc'
      rw [List.length_append, List.flatMap_append]
      have e : [(x, kv)].flatMap rulL = [str (x).id, str (x).tgt, .int .i64 (x).kind, .int .i64 (x).fro, .int .i64 (x).til, .int .i64 (x).read.op, str (x).read.name, .int .i64 (x).read.cmp, .int .i64 (x).read.num, kv, .int .i64 (x).known, .bool (x).fin, str (x).lifts] := by simp [rulL, rulC]
      rw [e]; exact ha'
  | zero =>
    rw [List.drop_zero] at hps hval
    have hB : RulsAt w5 r.reverse (.slice oa ps.length oc) := ⟨ps, hps, hl.acc_sl ha, fun p hp => (hka p hp).ext hl.done⟩
    obtain ⟨hlaw1, hlaw2⟩ := Rul.order_law day s r hval
    have hx := hl.done
    ((first | (replace L := L.ext (hx)) | skip); (first | (replace S := S.ext (hx)) | skip); (first | (replace S2 := S2.ext (hx)) | skip); (first | (replace hkr := hkr.ext (hx)) | skip); (first | (replace rr := rr.ext (hx)) | skip); (first | (replace B := B.ext (hx)) | skip); replace he := he.trans (hx))
    clear hx hl ha hka0 hsl0
    repeat' (first | refine a_mov ?_ | refine a_asg ?_ | refine a_binN ?_ | refine a_notd ?_ | refine a_notb ?_ | refine a_nilc ?_ | refine a_fa ?_ | refine a_ext ?_ | refine a_lenv ?_ | refine a_lens ?_ | refine a_pick_t ?_ | refine a_pick_f ?_ | refine a_not ?_ | refine a_nilf ?_ | (refine o_nil (hK _ _ ?_); clear hK K) | refine wk_reg ?_ | refine wk_seq fun K hK => ?_ | (refine wk_skip (hK _ _ ?_); clear hK K) | (refine wk_label (hK _ _ ?_); clear hK K) | refine wk_scope ?_ | refine wk_block ?_ | refine wk_cond_t rfl ?_ | refine wk_cond_f rfl ?_ | (refine wk_exit ?_; (repeat (refine blockK_other rfl ?_)); refine blockK_same ?_; try ((repeat ((fail_if_success (refine hK _ _ ?_)); clear hK K)); refine hK _ _ ?_; clear hK K)) | (refine a_bin ?_ ?_ <;> intro _ <;> try (exfalso; omega)) | refine a_ld hl ?_ | (refine a_st hl ?_; clear hl; intro _ hl) | refine a_ix (fun _ => ?_) | fail)
    refine a_fn (after_calls r s _ _ w5 S L (by omega) (by omega)) ?_
    rintro av w6 ⟨A1, hx⟩
    ((first | (replace L := L.ext (hx)) | skip); (first | (replace S := S.ext (hx)) | skip); (first | (replace S2 := S2.ext (hx)) | skip); (first | (replace hkr := hkr.ext (hx)) | skip); (first | (replace rr := rr.ext (hx)) | skip); (first | (replace B := B.ext (hx)) | skip); replace he := he.trans (hx))
    replace hB := hB.ext hx
    clear hx
    have hbd : ∀ rs : List Rul.Rul, rs.length ≤ 20 → (Rul.afterB s rs).length ≤ 1000000000000 := fun rs hrs => by
      have h1 := after_len s rs
      have h2 : 2 ^ rs.length ≤ 2 ^ 20 := Nat.pow_le_pow_right (by decide) hrs
      have h3 := Nat.mul_le_mul q3.1 h2
      omega
    have hpl2 : r.reverse.length = ps.length := by rw [List.length_reverse]; omega
    have hb1 := hbd r (by omega)
    have hb2 := hbd r.reverse (by omega)
    have hb3 := hbd (r ++ r.reverse) (by rw [List.length_append]; omega)
    clear hbd
    obtain ⟨ra1, rc1, rfl, -⟩ := A1.shape
    repeat' (first | refine a_mov ?_ | refine a_asg ?_ | refine a_binN ?_ | refine a_notd ?_ | refine a_notb ?_ | refine a_nilc ?_ | refine a_fa ?_ | refine a_ext ?_ | refine a_lenv ?_ | refine a_lens ?_ | refine a_pick_t ?_ | refine a_pick_f ?_ | refine a_not ?_ | refine a_nilf ?_ | (refine o_nil (hK _ _ ?_); clear hK K) | refine wk_reg ?_ | refine wk_seq fun K hK => ?_ | (refine wk_skip (hK _ _ ?_); clear hK K) | (refine wk_label (hK _ _ ?_); clear hK K) | refine wk_scope ?_ | refine wk_block ?_ | refine wk_cond_t rfl ?_ | refine wk_cond_f rfl ?_ | (refine wk_exit ?_; (repeat (refine blockK_other rfl ?_)); refine blockK_same ?_; try ((repeat ((fail_if_success (refine hK _ _ ?_)); clear hK K)); refine hK _ _ ?_; clear hK K)) | (refine a_bin ?_ ?_ <;> intro _ <;> try (exfalso; omega)) | refine a_ld hl ?_ | (refine a_st hl ?_; clear hl; intro _ hl) | refine a_ix (fun _ => ?_) | fail)
    refine a_fn (refOn_calls _ _ day w6 A1 hb1) ?_
    rintro _ w8 ⟨⟨fv, b, rfl, hb, h1, h2⟩, hx⟩
    obtain ⟨f, fk, rfl, hfk⟩ := on_agg ⟨h1, h2⟩
    ((first | (replace L := L.ext (hx)) | skip); (first | (replace S := S.ext (hx)) | skip); (first | (replace S2 := S2.ext (hx)) | skip); (first | (replace hkr := hkr.ext (hx)) | skip); (first | (replace rr := rr.ext (hx)) | skip); (first | (replace B := B.ext (hx)) | skip); replace he := he.trans (hx))
    replace hB := hB.ext hx
    clear hx h1 h2 A1
    repeat' (first | refine a_mov ?_ | refine a_asg ?_ | refine a_binN ?_ | refine a_notd ?_ | refine a_notb ?_ | refine a_nilc ?_ | refine a_fa ?_ | refine a_ext ?_ | refine a_lenv ?_ | refine a_lens ?_ | refine a_pick_t ?_ | refine a_pick_f ?_ | refine a_not ?_ | refine a_nilf ?_ | (refine o_nil (hK _ _ ?_); clear hK K) | refine wk_reg ?_ | refine wk_seq fun K hK => ?_ | (refine wk_skip (hK _ _ ?_); clear hK K) | (refine wk_label (hK _ _ ?_); clear hK K) | refine wk_scope ?_ | refine wk_block ?_ | refine wk_cond_t rfl ?_ | refine wk_cond_f rfl ?_ | (refine wk_exit ?_; (repeat (refine blockK_other rfl ?_)); refine blockK_same ?_; try ((repeat ((fail_if_success (refine hK _ _ ?_)); clear hK K)); refine hK _ _ ?_; clear hK K)) | (refine a_bin ?_ ?_ <;> intro _ <;> try (exfalso; omega)) | refine a_ld hl ?_ | (refine a_st hl ?_; clear hl; intro _ hl) | refine a_ix (fun _ => ?_) | fail)
    refine o_alloc (LH.start w8 (fun _ => False)) [.int .i64 0, .string ⟨#[]⟩, .int .i64 0, .int .i64 0, .slice none 0 0] rfl rfl ?_
    intro b9 w9 hb9 hl
    refine o_putN (us := [.int .i64 (f).op, str (f).name, .int .i64 (f).cmp, .int .i64 (f).num, fk]) hl rfl rfl rfl (fmL_one hfk) rfl (.all rfl rfl) ?_
    clear hl
    intro w10 hl
    have hx := hl.done
    ((first | (replace L := L.ext (hx)) | skip); (first | (replace S := S.ext (hx)) | skip); (first | (replace S2 := S2.ext (hx)) | skip); (first | (replace hkr := hkr.ext (hx)) | skip); (first | (replace rr := rr.ext (hx)) | skip); (first | (replace B := B.ext (hx)) | skip); replace he := he.trans (hx))
    replace hB := hB.ext hx
    clear hx hl
    repeat' (first | refine a_mov ?_ | refine a_asg ?_ | refine a_binN ?_ | refine a_notd ?_ | refine a_notb ?_ | refine a_nilc ?_ | refine a_fa ?_ | refine a_ext ?_ | refine a_lenv ?_ | refine a_lens ?_ | refine a_pick_t ?_ | refine a_pick_f ?_ | refine a_not ?_ | refine a_nilf ?_ | (refine o_nil (hK _ _ ?_); clear hK K) | refine wk_reg ?_ | refine wk_seq fun K hK => ?_ | (refine wk_skip (hK _ _ ?_); clear hK K) | (refine wk_label (hK _ _ ?_); clear hK K) | refine wk_scope ?_ | refine wk_block ?_ | refine wk_cond_t rfl ?_ | refine wk_cond_f rfl ?_ | (refine wk_exit ?_; (repeat (refine blockK_other rfl ?_)); refine blockK_same ?_; try ((repeat ((fail_if_success (refine hK _ _ ?_)); clear hK K)); refine hK _ _ ?_; clear hK K)) | (refine a_bin ?_ ?_ <;> intro _ <;> try (exfalso; omega)) | refine a_ld hl ?_ | (refine a_st hl ?_; clear hl; intro _ hl) | refine a_ix (fun _ => ?_) | fail)
    refine a_fn (after_calls r.reverse s _ (.slice oa ps.length oc) w10 S hB (by omega) (by omega)) ?_
    rintro av w11 ⟨A1, hx⟩
    ((first | (replace L := L.ext (hx)) | skip); (first | (replace S := S.ext (hx)) | skip); (first | (replace S2 := S2.ext (hx)) | skip); (first | (replace hkr := hkr.ext (hx)) | skip); (first | (replace rr := rr.ext (hx)) | skip); (first | (replace B := B.ext (hx)) | skip); replace he := he.trans (hx))
    replace hB := hB.ext hx
    clear hx
    obtain ⟨ra2, rc2, rfl, -⟩ := A1.shape
    repeat' (first | refine a_mov ?_ | refine a_asg ?_ | refine a_binN ?_ | refine a_notd ?_ | refine a_notb ?_ | refine a_nilc ?_ | refine a_fa ?_ | refine a_ext ?_ | refine a_lenv ?_ | refine a_lens ?_ | refine a_pick_t ?_ | refine a_pick_f ?_ | refine a_not ?_ | refine a_nilf ?_ | (refine o_nil (hK _ _ ?_); clear hK K) | refine wk_reg ?_ | refine wk_seq fun K hK => ?_ | (refine wk_skip (hK _ _ ?_); clear hK K) | (refine wk_label (hK _ _ ?_); clear hK K) | refine wk_scope ?_ | refine wk_block ?_ | refine wk_cond_t rfl ?_ | refine wk_cond_f rfl ?_ | (refine wk_exit ?_; (repeat (refine blockK_other rfl ?_)); refine blockK_same ?_; try ((repeat ((fail_if_success (refine hK _ _ ?_)); clear hK K)); refine hK _ _ ?_; clear hK K)) | (refine a_bin ?_ ?_ <;> intro _ <;> try (exfalso; omega)) | refine a_ld hl ?_ | (refine a_st hl ?_; clear hl; intro _ hl) | refine a_ix (fun _ => ?_) | fail)
    refine a_fn (refOn_calls _ _ day w11 A1 hb2) ?_
    rintro _ w12 ⟨⟨fv, c, rfl, hc, h1, h2⟩, hx⟩
    obtain ⟨g, gk, rfl, hgk⟩ := on_agg ⟨h1, h2⟩
    ((first | (replace L := L.ext (hx)) | skip); (first | (replace S := S.ext (hx)) | skip); (first | (replace S2 := S2.ext (hx)) | skip); (first | (replace hkr := hkr.ext (hx)) | skip); (first | (replace rr := rr.ext (hx)) | skip); (first | (replace B := B.ext (hx)) | skip); replace he := he.trans (hx))
    replace hB := hB.ext hx
    clear hx h1 h2 A1
    repeat' (first | refine a_mov ?_ | refine a_asg ?_ | refine a_binN ?_ | refine a_notd ?_ | refine a_notb ?_ | refine a_nilc ?_ | refine a_fa ?_ | refine a_ext ?_ | refine a_lenv ?_ | refine a_lens ?_ | refine a_pick_t ?_ | refine a_pick_f ?_ | refine a_not ?_ | refine a_nilf ?_ | (refine o_nil (hK _ _ ?_); clear hK K) | refine wk_reg ?_ | refine wk_seq fun K hK => ?_ | (refine wk_skip (hK _ _ ?_); clear hK K) | (refine wk_label (hK _ _ ?_); clear hK K) | refine wk_scope ?_ | refine wk_block ?_ | refine wk_cond_t rfl ?_ | refine wk_cond_f rfl ?_ | (refine wk_exit ?_; (repeat (refine blockK_other rfl ?_)); refine blockK_same ?_; try ((repeat ((fail_if_success (refine hK _ _ ?_)); clear hK K)); refine hK _ _ ?_; clear hK K)) | (refine a_bin ?_ ?_ <;> intro _ <;> try (exfalso; omega)) | refine a_ld hl ?_ | (refine a_st hl ?_; clear hl; intro _ hl) | refine a_ix (fun _ => ?_) | fail)
    refine o_alloc (LH.start w12 (fun _ => False)) [.int .i64 0, .string ⟨#[]⟩, .int .i64 0, .int .i64 0, .slice none 0 0] rfl rfl ?_
    intro b12 w13 hb12 hl
    refine o_putN (us := [.int .i64 (g).op, str (g).name, .int .i64 (g).cmp, .int .i64 (g).num, gk]) hl rfl rfl rfl (fmL_one hgk) rfl (.all rfl rfl) ?_
    clear hl
    intro w14 hl
    have hx := hl.done
    ((first | (replace L := L.ext (hx)) | skip); (first | (replace S := S.ext (hx)) | skip); (first | (replace S2 := S2.ext (hx)) | skip); (first | (replace hkr := hkr.ext (hx)) | skip); (first | (replace rr := rr.ext (hx)) | skip); (first | (replace B := B.ext (hx)) | skip); replace he := he.trans (hx))
    replace hB := hB.ext hx
    clear hx hl
    repeat' (first | refine a_mov ?_ | refine a_asg ?_ | refine a_binN ?_ | refine a_notd ?_ | refine a_notb ?_ | refine a_nilc ?_ | refine a_fa ?_ | refine a_ext ?_ | refine a_lenv ?_ | refine a_lens ?_ | refine a_pick_t ?_ | refine a_pick_f ?_ | refine a_not ?_ | refine a_nilf ?_ | (refine o_nil (hK _ _ ?_); clear hK K) | refine wk_reg ?_ | refine wk_seq fun K hK => ?_ | (refine wk_skip (hK _ _ ?_); clear hK K) | (refine wk_label (hK _ _ ?_); clear hK K) | refine wk_scope ?_ | refine wk_block ?_ | refine wk_cond_t rfl ?_ | refine wk_cond_f rfl ?_ | (refine wk_exit ?_; (repeat (refine blockK_other rfl ?_)); refine blockK_same ?_; try ((repeat ((fail_if_success (refine hK _ _ ?_)); clear hK K)); refine hK _ _ ?_; clear hK K)) | (refine a_bin ?_ ?_ <;> intro _ <;> try (exfalso; omega)) | refine a_ld hl ?_ | (refine a_st hl ?_; clear hl; intro _ hl) | refine a_ix (fun _ => ?_) | fail)
    refine o_buildSlice0 (LH.start w14 (fun _ => False)) rfl rfl rfl ?_
    intro b0 w15 hb0 hl
    have hl : LH w14 (fun _ => False) w15 ([] ++ [(b0, .cells #[] 28 (0, 0))]) := hl
    repeat' (first | refine a_mov ?_ | refine a_asg ?_ | refine a_binN ?_ | refine a_notd ?_ | refine a_notb ?_ | refine a_nilc ?_ | refine a_fa ?_ | refine a_ext ?_ | refine a_lenv ?_ | refine a_lens ?_ | refine a_pick_t ?_ | refine a_pick_f ?_ | refine a_not ?_ | refine a_nilf ?_ | (refine o_nil (hK _ _ ?_); clear hK K) | refine wk_reg ?_ | refine wk_seq fun K hK => ?_ | (refine wk_skip (hK _ _ ?_); clear hK K) | (refine wk_label (hK _ _ ?_); clear hK K) | refine wk_scope ?_ | refine wk_block ?_ | refine wk_cond_t rfl ?_ | refine wk_cond_f rfl ?_ | (refine wk_exit ?_; (repeat (refine blockK_other rfl ?_)); refine blockK_same ?_; try ((repeat ((fail_if_success (refine hK _ _ ?_)); clear hK K)); refine hK _ _ ?_; clear hK K)) | (refine a_bin ?_ ?_ <;> intro _ <;> try (exfalso; omega)) | refine a_ld hl ?_ | (refine a_st hl ?_; clear hl; intro _ hl) | refine a_ix (fun _ => ?_) | fail)
    obtain ⟨qs, hqs, hqsl, hqk⟩ := L.ex
    obtain ⟨bs, hbs, hbsl, hbk⟩ := hB.ex
    have hql : qs.length = r.length := by rw [← hqs, List.length_map]
    have hbl : bs.length = ps.length := by rw [← hpl2, ← hbs, List.length_map]
    refine o_appendS (bl' := []) (k := 13) (bytes := 152) (q := r.length) (us := qs.flatMap rulL) hl (Acc.empty 13 28 b0) (hqsl.ext hl.done) (by rw [rulL_flat, hql]) (by decide) (by rw [List.all_flatMap]; exact List.all_eq_true.2 fun p hp => rulC_one (hqk p hp)) (by omega) (by omega) rfl rfl rfl rfl rfl rfl ?_
    clear hl
    intro v1 w16 acc1 hl hacc
    rw [Nat.zero_add, List.nil_append] at hacc
    obtain ⟨x1, y1, rfl⟩ := hacc.shape
    repeat' (first | refine a_mov ?_ | refine a_asg ?_ | refine a_binN ?_ | refine a_notd ?_ | refine a_notb ?_ | refine a_nilc ?_ | refine a_fa ?_ | refine a_ext ?_ | refine a_lenv ?_ | refine a_lens ?_ | refine a_pick_t ?_ | refine a_pick_f ?_ | refine a_not ?_ | refine a_nilf ?_ | (refine o_nil (hK _ _ ?_); clear hK K) | refine wk_reg ?_ | refine wk_seq fun K hK => ?_ | (refine wk_skip (hK _ _ ?_); clear hK K) | (refine wk_label (hK _ _ ?_); clear hK K) | refine wk_scope ?_ | refine wk_block ?_ | refine wk_cond_t rfl ?_ | refine wk_cond_f rfl ?_ | (refine wk_exit ?_; (repeat (refine blockK_other rfl ?_)); refine blockK_same ?_; try ((repeat ((fail_if_success (refine hK _ _ ?_)); clear hK K)); refine hK _ _ ?_; clear hK K)) | (refine a_bin ?_ ?_ <;> intro _ <;> try (exfalso; omega)) | refine a_ld hl ?_ | (refine a_st hl ?_; clear hl; intro _ hl) | refine a_ix (fun _ => ?_) | fail)
    refine o_appendS (bl' := []) (k := 13) (bytes := 152) (q := ps.length) (us := bs.flatMap rulL) hl hacc (hbsl.ext hl.done) (by rw [rulL_flat, hbl]) (by decide) (by rw [List.all_flatMap]; exact List.all_eq_true.2 fun p hp => rulC_one (hbk p hp)) (by omega) (by omega) rfl rfl rfl rfl rfl rfl ?_
    clear hl hacc
    intro v2 w17 acc2 hl hacc
    obtain ⟨x2, y2, rfl⟩ := hacc.shape
    have hC : RulsAt w17 (r ++ r.reverse) (.slice x2 (r.length + ps.length) y2) := ⟨qs ++ bs, by rw [List.map_append, hqs, hbs], by rw [List.flatMap_append]; exact hl.acc_sl hacc, fun p hp => by
      rcases List.mem_append.1 hp with hp | hp
      · exact (hqk p hp).ext hl.done
      · exact (hbk p hp).ext hl.done⟩
    have hx := hl.done
    ((first | (replace L := L.ext (hx)) | skip); (first | (replace S := S.ext (hx)) | skip); (first | (replace S2 := S2.ext (hx)) | skip); (first | (replace hkr := hkr.ext (hx)) | skip); (first | (replace rr := rr.ext (hx)) | skip); (first | (replace B := B.ext (hx)) | skip); replace he := he.trans (hx))
    clear hx hl hacc
    refine a_fn (after_calls (r ++ r.reverse) s _ (.slice x2 (r.length + ps.length) y2) w17 S hC (by rw [List.length_append]; omega) (by omega)) ?_
    rintro av w18 ⟨A1, hx⟩
    ((first | (replace L := L.ext (hx)) | skip); (first | (replace S := S.ext (hx)) | skip); (first | (replace S2 := S2.ext (hx)) | skip); (first | (replace hkr := hkr.ext (hx)) | skip); (first | (replace rr := rr.ext (hx)) | skip); (first | (replace B := B.ext (hx)) | skip); replace he := he.trans (hx))
    clear hx
    obtain ⟨ra3, rc3, rfl, -⟩ := A1.shape
    repeat' (first | refine a_mov ?_ | refine a_asg ?_ | refine a_binN ?_ | refine a_notd ?_ | refine a_notb ?_ | refine a_nilc ?_ | refine a_fa ?_ | refine a_ext ?_ | refine a_lenv ?_ | refine a_lens ?_ | refine a_pick_t ?_ | refine a_pick_f ?_ | refine a_not ?_ | refine a_nilf ?_ | (refine o_nil (hK _ _ ?_); clear hK K) | refine wk_reg ?_ | refine wk_seq fun K hK => ?_ | (refine wk_skip (hK _ _ ?_); clear hK K) | (refine wk_label (hK _ _ ?_); clear hK K) | refine wk_scope ?_ | refine wk_block ?_ | refine wk_cond_t rfl ?_ | refine wk_cond_f rfl ?_ | (refine wk_exit ?_; (repeat (refine blockK_other rfl ?_)); refine blockK_same ?_; try ((repeat ((fail_if_success (refine hK _ _ ?_)); clear hK K)); refine hK _ _ ?_; clear hK K)) | (refine a_bin ?_ ?_ <;> intro _ <;> try (exfalso; omega)) | refine a_ld hl ?_ | (refine a_st hl ?_; clear hl; intro _ hl) | refine a_ix (fun _ => ?_) | fail)
    refine a_fn (refOn_calls _ _ day w18 A1 hb3) ?_
    rintro _ w19 ⟨⟨fv, d, rfl, hd, h1, h2⟩, hx⟩
    obtain ⟨h, hk', rfl, hhk⟩ := on_agg ⟨h1, h2⟩
    ((first | (replace L := L.ext (hx)) | skip); (first | (replace S := S.ext (hx)) | skip); (first | (replace S2 := S2.ext (hx)) | skip); (first | (replace hkr := hkr.ext (hx)) | skip); (first | (replace rr := rr.ext (hx)) | skip); (first | (replace B := B.ext (hx)) | skip); replace he := he.trans (hx))
    clear hx h1 h2 A1
    repeat' (first | refine a_mov ?_ | refine a_asg ?_ | refine a_binN ?_ | refine a_notd ?_ | refine a_notb ?_ | refine a_nilc ?_ | refine a_fa ?_ | refine a_ext ?_ | refine a_lenv ?_ | refine a_lens ?_ | refine a_pick_t ?_ | refine a_pick_f ?_ | refine a_not ?_ | refine a_nilf ?_ | (refine o_nil (hK _ _ ?_); clear hK K) | refine wk_reg ?_ | refine wk_seq fun K hK => ?_ | (refine wk_skip (hK _ _ ?_); clear hK K) | (refine wk_label (hK _ _ ?_); clear hK K) | refine wk_scope ?_ | refine wk_block ?_ | refine wk_cond_t rfl ?_ | refine wk_cond_f rfl ?_ | (refine wk_exit ?_; (repeat (refine blockK_other rfl ?_)); refine blockK_same ?_; try ((repeat ((fail_if_success (refine hK _ _ ?_)); clear hK K)); refine hK _ _ ?_; clear hK K)) | (refine a_bin ?_ ?_ <;> intro _ <;> try (exfalso; omega)) | refine a_ld hl ?_ | (refine a_st hl ?_; clear hl; intro _ hl) | refine a_ix (fun _ => ?_) | fail)
    refine o_alloc (LH.start w19 (fun _ => False)) [.int .i64 0, .string ⟨#[]⟩, .int .i64 0, .int .i64 0, .slice none 0 0] rfl rfl ?_
    intro b14 w20 hb14 hl
    refine o_putN (us := [.int .i64 (h).op, str (h).name, .int .i64 (h).cmp, .int .i64 (h).num, hk']) hl rfl rfl rfl (fmL_one hhk) rfl (.all rfl rfl) ?_
    clear hl
    intro w21 hl
    have hx := hl.done
    replace he := he.trans hx
    clear hx hl
    have e1 : c = b := by rw [hc, hb]; exact hlaw1
    have e2 : d = b := by rw [hd, hb]; exact hlaw2
    subst e1 e2
    cases d
    all_goals repeat' (first | refine a_mov ?_ | refine a_asg ?_ | refine a_binN ?_ | refine a_notd ?_ | refine a_notb ?_ | refine a_nilc ?_ | refine a_fa ?_ | refine a_ext ?_ | refine a_lenv ?_ | refine a_lens ?_ | refine a_pick_t ?_ | refine a_pick_f ?_ | refine a_not ?_ | refine a_nilf ?_ | (refine o_nil (hK _ _ ?_); clear hK K) | refine wk_reg ?_ | refine wk_seq fun K hK => ?_ | (refine wk_skip (hK _ _ ?_); clear hK K) | (refine wk_label (hK _ _ ?_); clear hK K) | refine wk_scope ?_ | refine wk_block ?_ | refine wk_cond_t rfl ?_ | refine wk_cond_f rfl ?_ | (refine wk_exit ?_; (repeat (refine blockK_other rfl ?_)); refine blockK_same ?_; try ((repeat ((fail_if_success (refine hK _ _ ?_)); clear hK K)); refine hK _ _ ?_; clear hK K)) | (refine a_bin ?_ ?_ <;> intro _ <;> try (exfalso; omega)) | refine a_ld hl ?_ | (refine a_st hl ?_; clear hl; intro _ hl) | refine a_ix (fun _ => ?_) | refine o_eqB rfl rfl rfl rfl ?_)
    all_goals (refine wk_ret (retQ_tmp1 Try.results5 (by decide) rfl (by conv => lhs; whnf) ?_))
    all_goals exact ⟨rfl, he⟩
end Go.Proofs
