/-
  Domains in memory; where a fact stands.
-/
import Derived.Test.YtcanaadgcgophaaDoorFaSpec
import Derived.Test.YtcanaadgcgophaaDoorLD
import Derived.Test.YtcanaadgcgophaaDoorLZ
set_option linter.unusedVariables false
set_option linter.unusedSimpArgs false
set_option linter.unnecessarySimpa false
set_option maxRecDepth 10000
namespace Go.Fo
open Go.Lexs Go.Fin

theorem idx_none {F : List Fact} {s : List UInt8} (h : ∀ j (hj : j < F.length), F[j].name ≠ s) : idx F s = none := by
  unfold idx
  rw [List.findIdx?_eq_none_iff]
  intro f hf
  obtain ⟨j, hj, rfl⟩ := List.mem_iff_getElem.1 hf
  simpa using h j hj

theorem idx_some {F : List Fact} {s : List UInt8} {k : Nat} (hk : k < F.length) (he : F[k].name = s) (h : ∀ j (hj : j < F.length), j < k → F[j].name ≠ s) : idx F s = some k := by
  unfold idx
  rw [List.findIdx?_eq_some_iff_getElem]
  refine ⟨hk, by simpa using he, fun j hj => by simpa using h j (by omega) hj⟩

theorem idx_lt {F : List Fact} {s : List UInt8} {k : Nat} (h : idx F s = some k) : k < F.length := by
  unfold idx at h
  rw [List.findIdx?_eq_some_iff_getElem] at h
  exact h.1
end Go.Fo

namespace Go.Proofs
open Go Go.Pd Go.Lexs Go.Fin Go.Fo
attribute [local irreducible] OpsL W RetQ OpsQ OpsC

def factL (f : Fact) : List Value := [str f.name, .int .i64 f.kind, .int .i64 f.lo, .int .i64 f.hi]
theorem factL_len (f : Fact) : (factL f).length = 4 := rfl
theorem factL_one (f : Fact) : (factL f).all Value.oneCell' = true := by simp only [factL, str_eq]; rfl
def factsL (F : List Fact) : List Value := F.flatMap factL
theorem factsL_len (F : List Fact) : (factsL F).length = F.length * 4 := flat_length factL_len F

theorem Sl.fact {w : World} {a : Option Addr} {m c : Nat} {F : List Fact} (hv : Sl w (.slice a m c) 4 (factsL F)) (hm : m = F.length) {k : Nat} (hk : k < F.length) : ∃ b o, a = some ⟨b, o, none⟩ ∧ Row w b (o + k * 4) [str F[k].name, .int .i64 F[k].kind, .int .i64 F[k].lo, .int .i64 F[k].hi] := by
  subst hm
  obtain ⟨b, o, hp, hr⟩ := hv.at (factsL_len F) (by omega) (by omega)
  exact ⟨b, o, hp, hr.elem factL_len (k := k) (t := F[k]) (by simp)⟩

set_option maxHeartbeats 1000000 in
theorem refIndex_calls {F : List Fact} {v : Value} {w : World} (hv : Sl w v 4 (factsL F)) (hlen : F.length ≤ 9223372036854775806) (s : List UInt8) :
    Calls Tryd.prog 22 #[.agg #[v], str s] w (fun e w' => ∃ x, e = .returned x ∧ x = .int .i64 (idxI F s) ∧ Ext w w') := by
  obtain ⟨pa, ca, rfl, -⟩ := hv.shape (factsL_len F) (by omega)
  refine calls_of Tryd.func22 rfl Tryd.ntmps22 rfl ?_
  refine wk_seq fun K hK => ?_
  refine wk_reg ?_
  refine o_box (LH.start w (fun _ => False)) [.slice pa F.length ca] rfl rfl rfl ?_
  intro b w1 hb hl
  have he := hl.done
  have hr0 : Row w1 b 0 [.slice pa F.length ca] := hl.rowL (vs := [.slice pa F.length ca]) 0 0 1 rfl
  have hv1 := hv.ext he
  clear hl hv
  repeat' (first | refine a_mov ?_ | refine a_asg ?_ | refine a_binN ?_ | refine a_notd ?_ | refine a_notb ?_ | refine a_nilc ?_ | refine a_fa ?_ | refine a_ext ?_ | refine a_lenv ?_ | refine a_lens ?_ | refine a_pick_t ?_ | refine a_pick_f ?_ | refine a_not ?_ | refine a_nilf ?_ | (refine o_nil (hK _ _ ?_); clear hK K) | refine wk_reg ?_ | refine wk_seq fun K hK => ?_ | (refine wk_skip (hK _ _ ?_); clear hK K) | (refine wk_label (hK _ _ ?_); clear hK K) | refine wk_scope ?_ | refine wk_block ?_ | refine wk_cond_t rfl ?_ | refine wk_cond_f rfl ?_ | (refine wk_exit ?_; (repeat (refine blockK_other rfl ?_)); refine blockK_same ?_; try ((repeat ((fail_if_success (refine hK _ _ ?_)); clear hK K)); refine hK _ _ ?_; clear hK K)) | (refine a_bin ?_ ?_ <;> intro _ <;> try (exfalso; omega)) | refine a_ld hl ?_ | (refine a_st hl ?_; clear hl; intro _ hl) | refine a_ix (fun _ => ?_) | fail)
  refine wk_loopH [] rfl (fun k : Nat => [(1, str s), (2, .pointer (some ⟨b, 0, none⟩)), (5, .int .i64 (k : Int))]) (fun k w' => (k ≤ F.length ∧ ∀ j (hj : j < F.length), j < k → F[j].name ≠ s) ∧ w' = w1) (fun k => F.length - k) 0 ⟨rfl, rfl, rfl, trivial⟩ ⟨⟨by omega, fun j hj h => by omega⟩, rfl⟩ ?_
  rintro k t w2 ⟨⟨hk, hno⟩, hw⟩
  obtain rfl : w2 = w1 := hw
  by_cases hk1 : k < F.length
  · obtain ⟨b2, o, hp, hr⟩ := Sl.fact hv1 rfl hk1
    repeat' (first | refine a_mov ?_ | refine a_asg ?_ | refine a_binN ?_ | refine a_notd ?_ | refine a_notb ?_ | refine a_nilc ?_ | refine a_fa ?_ | refine a_ext ?_ | refine a_lenv ?_ | refine a_lens ?_ | refine a_pick_t ?_ | refine a_pick_f ?_ | refine a_not ?_ | refine a_nilf ?_ | (refine o_nil (hK _ _ ?_); clear hK K) | refine wk_reg ?_ | refine wk_seq fun K hK => ?_ | (refine wk_skip (hK _ _ ?_); clear hK K) | (refine wk_label (hK _ _ ?_); clear hK K) | refine wk_scope ?_ | refine wk_block ?_ | refine wk_cond_t rfl ?_ | refine wk_cond_f rfl ?_ | (refine wk_exit ?_; (repeat (refine blockK_other rfl ?_)); refine blockK_same ?_; try ((repeat ((fail_if_success (refine hK _ _ ?_)); clear hK K)); refine hK _ _ ?_; clear hK K)) | (refine a_bin ?_ ?_ <;> intro _ <;> try (exfalso; omega)) | refine a_ld hl ?_ | (refine a_st hl ?_; clear hl; intro _ hl) | refine a_ix (fun _ => ?_) | refine a_idx (c := 4) k hp ?_ | refine a_row hr0 ?_ | refine a_row hr ?_)
    refine o_eqsT (a := F[k].name) (b := s) rfl rfl rfl ?_ ?_
    · intro hid
      have hx := idx_some hk1 hid hno
      clear hno
      repeat' (first | refine a_mov ?_ | refine a_asg ?_ | refine a_binN ?_ | refine a_notd ?_ | refine a_notb ?_ | refine a_nilc ?_ | refine a_fa ?_ | refine a_ext ?_ | refine a_lenv ?_ | refine a_lens ?_ | refine a_pick_t ?_ | refine a_pick_f ?_ | refine a_not ?_ | refine a_nilf ?_ | (refine o_nil (hK _ _ ?_); clear hK K) | refine wk_reg ?_ | refine wk_seq fun K hK => ?_ | (refine wk_skip (hK _ _ ?_); clear hK K) | (refine wk_label (hK _ _ ?_); clear hK K) | refine wk_scope ?_ | refine wk_block ?_ | refine wk_cond_t rfl ?_ | refine wk_cond_f rfl ?_ | (refine wk_exit ?_; (repeat (refine blockK_other rfl ?_)); refine blockK_same ?_; try ((repeat ((fail_if_success (refine hK _ _ ?_)); clear hK K)); refine hK _ _ ?_; clear hK K)) | (refine a_bin ?_ ?_ <;> intro _ <;> try (exfalso; omega)) | refine a_ld hl ?_ | (refine a_st hl ?_; clear hl; intro _ hl) | refine a_ix (fun _ => ?_) | fail)
      refine wk_ret (retQ_tmp1 Tryd.results22 (by decide) rfl (by conv => lhs; whnf) ?_)
      exact ⟨by simp only [idxI, hx], he⟩
    · intro hid
      repeat' (first | refine a_mov ?_ | refine a_asg ?_ | refine a_binN ?_ | refine a_notd ?_ | refine a_notb ?_ | refine a_nilc ?_ | refine a_fa ?_ | refine a_ext ?_ | refine a_lenv ?_ | refine a_lens ?_ | refine a_pick_t ?_ | refine a_pick_f ?_ | refine a_not ?_ | refine a_nilf ?_ | (refine o_nil (hK _ _ ?_); clear hK K) | refine wk_reg ?_ | refine wk_seq fun K hK => ?_ | (refine wk_skip (hK _ _ ?_); clear hK K) | (refine wk_label (hK _ _ ?_); clear hK K) | refine wk_scope ?_ | refine wk_block ?_ | refine wk_cond_t rfl ?_ | refine wk_cond_f rfl ?_ | (refine wk_exit ?_; (repeat (refine blockK_other rfl ?_)); refine blockK_same ?_; try ((repeat ((fail_if_success (refine hK _ _ ?_)); clear hK K)); refine hK _ _ ?_; clear hK K)) | (refine a_bin ?_ ?_ <;> intro _ <;> try (exfalso; omega)) | refine a_ld hl ?_ | (refine a_st hl ?_; clear hl; intro _ hl) | refine a_ix (fun _ => ?_) | fail)
      exact o_nil ⟨k + 1, ⟨rfl, rfl, rfl, trivial⟩, rfl, ⟨⟨hk1, fun j hj hjk => by
        by_cases e : j = k
        · subst e; exact hid
        · exact hno j hj (by omega)⟩, rfl⟩, by omega⟩
  · have hst := idx_none (F := F) (s := s) fun j hj => hno j hj (by omega)
    clear hno
    repeat' (first | refine a_mov ?_ | refine a_asg ?_ | refine a_binN ?_ | refine a_notd ?_ | refine a_notb ?_ | refine a_nilc ?_ | refine a_fa ?_ | refine a_ext ?_ | refine a_lenv ?_ | refine a_lens ?_ | refine a_pick_t ?_ | refine a_pick_f ?_ | refine a_not ?_ | refine a_nilf ?_ | (refine o_nil (hK _ _ ?_); clear hK K) | refine wk_reg ?_ | refine wk_seq fun K hK => ?_ | (refine wk_skip (hK _ _ ?_); clear hK K) | (refine wk_label (hK _ _ ?_); clear hK K) | refine wk_scope ?_ | refine wk_block ?_ | refine wk_cond_t rfl ?_ | refine wk_cond_f rfl ?_ | (refine wk_exit ?_; (repeat (refine blockK_other rfl ?_)); refine blockK_same ?_; try ((repeat ((fail_if_success (refine hK _ _ ?_)); clear hK K)); refine hK _ _ ?_; clear hK K)) | (refine a_bin ?_ ?_ <;> intro _ <;> try (exfalso; omega)) | refine a_ld hl ?_ | (refine a_st hl ?_; clear hl; intro _ hl) | refine a_ix (fun _ => ?_) | refine a_row hr0 ?_)
    refine wk_ret (retQ_tmp1 Tryd.results22 (by decide) rfl (by conv => lhs; whnf) ?_)
    exact ⟨by simp only [idxI, hst], he⟩

theorem isAt_calls (f : Fact) (s : List UInt8) {b : Nat} {w : World} (hb : Row w b 0 [str s]) :
    Calls Tryd.prog 52 #[.agg (factL f).toArray, .pointer (some ⟨b, 0, none⟩)] w (fun e w' => ∃ x, e = .returned x ∧ x = .bool (decide (f.name = s)) ∧ Ext w w') := by
  refine calls_of Tryd.func52 rfl Tryd.ntmps52 rfl ?_
  refine wk_seq fun K hK => ?_
  refine wk_reg ?_
  refine o_box (LH.start w (fun _ => False)) [str f.name, .int .i64 f.kind, .int .i64 f.lo, .int .i64 f.hi] rfl rfl rfl ?_
  intro b1 w1 hb1 hl
  have he := hl.done
  have hb2 := hb.ext he
  repeat' (first | refine a_mov ?_ | refine a_asg ?_ | refine a_binN ?_ | refine a_notd ?_ | refine a_notb ?_ | refine a_nilc ?_ | refine a_fa ?_ | refine a_ext ?_ | refine a_lenv ?_ | refine a_lens ?_ | refine a_pick_t ?_ | refine a_pick_f ?_ | refine a_not ?_ | refine a_nilf ?_ | (refine o_nil (hK _ _ ?_); clear hK K) | refine wk_reg ?_ | refine wk_seq fun K hK => ?_ | (refine wk_skip (hK _ _ ?_); clear hK K) | (refine wk_label (hK _ _ ?_); clear hK K) | refine wk_scope ?_ | refine wk_block ?_ | refine wk_cond_t rfl ?_ | refine wk_cond_f rfl ?_ | (refine wk_exit ?_; (repeat (refine blockK_other rfl ?_)); refine blockK_same ?_; try ((repeat ((fail_if_success (refine hK _ _ ?_)); clear hK K)); refine hK _ _ ?_; clear hK K)) | (refine a_bin ?_ ?_ <;> intro _ <;> try (exfalso; omega)) | refine a_ld hl ?_ | (refine a_st hl ?_; clear hl; intro _ hl) | refine a_ix (fun _ => ?_) | refine a_row hb2 ?_ | refine o_eqs rfl rfl rfl ?_)
  refine wk_ret (retQ_tmp1 Tryd.results52 (by decide) rfl (by conv => lhs; whnf) ?_)
  exact ⟨rfl, he⟩

set_option maxHeartbeats 1000000 in
theorem indexFunc_calls {F : List Fact} {v : Value} {b : Nat} {s : List UInt8} {w : World} (hv : Sl w v 4 (factsL F)) (hlen : F.length ≤ 9223372036854775806) (hb : Row w b 0 [str s]) :
    Calls Tryd.prog 51 #[v, .func (.func 52) #[] #[.pointer (some ⟨b, 0, none⟩)]] w (fun e w' => ∃ x, e = .returned x ∧ x = .int .i64 (idxI F s) ∧ Ext w w') := by
  obtain ⟨pa, ca, rfl, -⟩ := hv.shape (factsL_len F) (by omega)
  refine calls_of Tryd.func51 rfl Tryd.ntmps51 rfl ?_
  repeat' (first | refine a_mov ?_ | refine a_asg ?_ | refine a_binN ?_ | refine a_notd ?_ | refine a_notb ?_ | refine a_nilc ?_ | refine a_fa ?_ | refine a_ext ?_ | refine a_lenv ?_ | refine a_lens ?_ | refine a_pick_t ?_ | refine a_pick_f ?_ | refine a_not ?_ | refine a_nilf ?_ | (refine o_nil (hK _ _ ?_); clear hK K) | refine wk_reg ?_ | refine wk_seq fun K hK => ?_ | (refine wk_skip (hK _ _ ?_); clear hK K) | (refine wk_label (hK _ _ ?_); clear hK K) | refine wk_scope ?_ | refine wk_block ?_ | refine wk_cond_t rfl ?_ | refine wk_cond_f rfl ?_ | (refine wk_exit ?_; (repeat (refine blockK_other rfl ?_)); refine blockK_same ?_; try ((repeat ((fail_if_success (refine hK _ _ ?_)); clear hK K)); refine hK _ _ ?_; clear hK K)) | (refine a_bin ?_ ?_ <;> intro _ <;> try (exfalso; omega)) | refine a_ld hl ?_ | (refine a_st hl ?_; clear hl; intro _ hl) | refine a_ix (fun _ => ?_) | fail)
  refine wk_loopH [] rfl (fun k : Nat => [(0, .slice pa F.length ca), (1, .func (.func 52) #[] #[.pointer (some ⟨b, 0, none⟩)]), (7, .int .i64 (F.length : Int)), (8, .int .i64 (k : Int))]) (fun k w' => (k ≤ F.length ∧ ∀ j (hj : j < F.length), j < k → F[j].name ≠ s) ∧ Ext w w') (fun k => F.length - k) 0 ⟨rfl, rfl, rfl, rfl, trivial⟩ ⟨⟨by omega, fun j hj h => by omega⟩, Upd.refl _ _⟩ ?_
  rintro k t w2 ⟨⟨hk, hno⟩, he⟩
  by_cases hk1 : k < F.length
  · obtain ⟨b2, o, hp, hr⟩ := Sl.fact (hv.ext he) rfl hk1
    repeat' (first | refine a_mov ?_ | refine a_asg ?_ | refine a_binN ?_ | refine a_notd ?_ | refine a_notb ?_ | refine a_nilc ?_ | refine a_fa ?_ | refine a_ext ?_ | refine a_lenv ?_ | refine a_lens ?_ | refine a_pick_t ?_ | refine a_pick_f ?_ | refine a_not ?_ | refine a_nilf ?_ | (refine o_nil (hK _ _ ?_); clear hK K) | refine wk_reg ?_ | refine wk_seq fun K hK => ?_ | (refine wk_skip (hK _ _ ?_); clear hK K) | (refine wk_label (hK _ _ ?_); clear hK K) | refine wk_scope ?_ | refine wk_block ?_ | refine wk_cond_t rfl ?_ | refine wk_cond_f rfl ?_ | (refine wk_exit ?_; (repeat (refine blockK_other rfl ?_)); refine blockK_same ?_; try ((repeat ((fail_if_success (refine hK _ _ ?_)); clear hK K)); refine hK _ _ ?_; clear hK K)) | (refine a_bin ?_ ?_ <;> intro _ <;> try (exfalso; omega)) | refine a_ld hl ?_ | (refine a_st hl ?_; clear hl; intro _ hl) | refine a_ix (fun _ => ?_) | refine a_idx (c := 4) k hp ?_ | refine a_all hr ?_)
    refine a_fc #[.agg (factL F[k]).toArray] #[.pointer (some ⟨b, 0, none⟩)] #[.agg (factL F[k]).toArray, .pointer (some ⟨b, 0, none⟩)] rfl (isAt_calls F[k] s (hb.ext he)) ?_
    rintro _ w3 ⟨rfl, he3⟩
    by_cases hid : F[k].name = s
    · rw [decide_eq_true hid]
      have hx := idx_some hk1 hid hno
      clear hno
      repeat' (first | refine a_mov ?_ | refine a_asg ?_ | refine a_binN ?_ | refine a_notd ?_ | refine a_notb ?_ | refine a_nilc ?_ | refine a_fa ?_ | refine a_ext ?_ | refine a_lenv ?_ | refine a_lens ?_ | refine a_pick_t ?_ | refine a_pick_f ?_ | refine a_not ?_ | refine a_nilf ?_ | (refine o_nil (hK _ _ ?_); clear hK K) | refine wk_reg ?_ | refine wk_seq fun K hK => ?_ | (refine wk_skip (hK _ _ ?_); clear hK K) | (refine wk_label (hK _ _ ?_); clear hK K) | refine wk_scope ?_ | refine wk_block ?_ | refine wk_cond_t rfl ?_ | refine wk_cond_f rfl ?_ | (refine wk_exit ?_; (repeat (refine blockK_other rfl ?_)); refine blockK_same ?_; try ((repeat ((fail_if_success (refine hK _ _ ?_)); clear hK K)); refine hK _ _ ?_; clear hK K)) | (refine a_bin ?_ ?_ <;> intro _ <;> try (exfalso; omega)) | refine a_ld hl ?_ | (refine a_st hl ?_; clear hl; intro _ hl) | refine a_ix (fun _ => ?_) | fail)
      refine wk_ret (retQ_tmp1 Tryd.results51 (by decide) rfl (by conv => lhs; whnf) ?_)
      exact ⟨by simp only [idxI, hx], he.trans he3⟩
    · rw [decide_eq_false hid]
      repeat' (first | refine a_mov ?_ | refine a_asg ?_ | refine a_binN ?_ | refine a_notd ?_ | refine a_notb ?_ | refine a_nilc ?_ | refine a_fa ?_ | refine a_ext ?_ | refine a_lenv ?_ | refine a_lens ?_ | refine a_pick_t ?_ | refine a_pick_f ?_ | refine a_not ?_ | refine a_nilf ?_ | (refine o_nil (hK _ _ ?_); clear hK K) | refine wk_reg ?_ | refine wk_seq fun K hK => ?_ | (refine wk_skip (hK _ _ ?_); clear hK K) | (refine wk_label (hK _ _ ?_); clear hK K) | refine wk_scope ?_ | refine wk_block ?_ | refine wk_cond_t rfl ?_ | refine wk_cond_f rfl ?_ | (refine wk_exit ?_; (repeat (refine blockK_other rfl ?_)); refine blockK_same ?_; try ((repeat ((fail_if_success (refine hK _ _ ?_)); clear hK K)); refine hK _ _ ?_; clear hK K)) | (refine a_bin ?_ ?_ <;> intro _ <;> try (exfalso; omega)) | refine a_ld hl ?_ | (refine a_st hl ?_; clear hl; intro _ hl) | refine a_ix (fun _ => ?_) | fail)
      exact o_nil ⟨k + 1, ⟨rfl, rfl, rfl, rfl, trivial⟩, rfl, ⟨⟨hk1, fun j hj hjk => by
        by_cases e : j = k
        · subst e; exact hid
        · exact hno j hj (by omega)⟩, he.trans he3⟩, by omega⟩
  · have hst := idx_none (F := F) (s := s) fun j hj => hno j hj (by omega)
    clear hno
    repeat' (first | refine a_mov ?_ | refine a_asg ?_ | refine a_binN ?_ | refine a_notd ?_ | refine a_notb ?_ | refine a_nilc ?_ | refine a_fa ?_ | refine a_ext ?_ | refine a_lenv ?_ | refine a_lens ?_ | refine a_pick_t ?_ | refine a_pick_f ?_ | refine a_not ?_ | refine a_nilf ?_ | (refine o_nil (hK _ _ ?_); clear hK K) | refine wk_reg ?_ | refine wk_seq fun K hK => ?_ | (refine wk_skip (hK _ _ ?_); clear hK K) | (refine wk_label (hK _ _ ?_); clear hK K) | refine wk_scope ?_ | refine wk_block ?_ | refine wk_cond_t rfl ?_ | refine wk_cond_f rfl ?_ | (refine wk_exit ?_; (repeat (refine blockK_other rfl ?_)); refine blockK_same ?_; try ((repeat ((fail_if_success (refine hK _ _ ?_)); clear hK K)); refine hK _ _ ?_; clear hK K)) | (refine a_bin ?_ ?_ <;> intro _ <;> try (exfalso; omega)) | refine a_ld hl ?_ | (refine a_st hl ?_; clear hl; intro _ hl) | refine a_ix (fun _ => ?_) | fail)
    refine wk_ret (retQ_tmp1 Tryd.results51 (by decide) rfl (by conv => lhs; whnf) ?_)
    exact ⟨by simp only [idxI, hst], he⟩

set_option maxHeartbeats 1000000 in
theorem factIndex_calls {F : List Fact} {v : Value} {w : World} (hv : Sl w v 4 (factsL F)) (hlen : F.length ≤ 9223372036854775806) (s : List UInt8) :
    Calls Tryd.prog 21 #[.agg #[v], str s] w (fun e w' => ∃ x, e = .returned x ∧ x = .int .i64 (idxI F s) ∧ Ext w w') := by
  obtain ⟨pa, ca, rfl, -⟩ := hv.shape (factsL_len F) (by omega)
  refine calls_of Tryd.func21 rfl Tryd.ntmps21 rfl ?_
  refine wk_seq fun K hK => ?_
  refine wk_reg ?_
  refine o_box (LH.start w (fun _ => False)) [.slice pa F.length ca] rfl rfl rfl ?_
  intro b w1 hb hl
  refine o_box hl [str s] rfl rfl (show (str s).cells = #[str s] by simp only [str_eq]; rfl) ?_
  clear hl
  intro b2 w2 hb2 hl
  repeat' (first | refine a_mov ?_ | refine a_asg ?_ | refine a_binN ?_ | refine a_notd ?_ | refine a_notb ?_ | refine a_nilc ?_ | refine a_fa ?_ | refine a_ext ?_ | refine a_lenv ?_ | refine a_lens ?_ | refine a_pick_t ?_ | refine a_pick_f ?_ | refine a_not ?_ | refine a_nilf ?_ | (refine o_nil (hK _ _ ?_); clear hK K) | refine wk_reg ?_ | refine wk_seq fun K hK => ?_ | (refine wk_skip (hK _ _ ?_); clear hK K) | (refine wk_label (hK _ _ ?_); clear hK K) | refine wk_scope ?_ | refine wk_block ?_ | refine wk_cond_t rfl ?_ | refine wk_cond_f rfl ?_ | (refine wk_exit ?_; (repeat (refine blockK_other rfl ?_)); refine blockK_same ?_; try ((repeat ((fail_if_success (refine hK _ _ ?_)); clear hK K)); refine hK _ _ ?_; clear hK K)) | (refine a_bin ?_ ?_ <;> intro _ <;> try (exfalso; omega)) | refine a_ld hl ?_ | (refine a_st hl ?_; clear hl; intro _ hl) | refine a_ix (fun _ => ?_) | fail)
  refine o_mf [] [.pointer (some ⟨b2, 0, none⟩)] rfl rfl rfl ?_
  have he := hl.done
  refine a_fn (indexFunc_calls (hv.ext he) hlen (hl.rowL (vs := [str s]) 0 0 1 rfl)) ?_
  rintro _ w3 ⟨rfl, he3⟩
  repeat' (first | refine a_mov ?_ | refine a_asg ?_ | refine a_binN ?_ | refine a_notd ?_ | refine a_notb ?_ | refine a_nilc ?_ | refine a_fa ?_ | refine a_ext ?_ | refine a_lenv ?_ | refine a_lens ?_ | refine a_pick_t ?_ | refine a_pick_f ?_ | refine a_not ?_ | refine a_nilf ?_ | (refine o_nil (hK _ _ ?_); clear hK K) | refine wk_reg ?_ | refine wk_seq fun K hK => ?_ | (refine wk_skip (hK _ _ ?_); clear hK K) | (refine wk_label (hK _ _ ?_); clear hK K) | refine wk_scope ?_ | refine wk_block ?_ | refine wk_cond_t rfl ?_ | refine wk_cond_f rfl ?_ | (refine wk_exit ?_; (repeat (refine blockK_other rfl ?_)); refine blockK_same ?_; try ((repeat ((fail_if_success (refine hK _ _ ?_)); clear hK K)); refine hK _ _ ?_; clear hK K)) | (refine a_bin ?_ ?_ <;> intro _ <;> try (exfalso; omega)) | refine a_ld hl ?_ | (refine a_st hl ?_; clear hl; intro _ hl) | refine a_ix (fun _ => ?_) | fail)
  refine wk_ret (retQ_tmp1 Tryd.results21 (by decide) rfl (by conv => lhs; whnf) ?_)
  exact ⟨rfl, he.trans he3⟩
end Go.Proofs
