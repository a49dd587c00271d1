/-
  Domains in memory; where a fact stands.
-/
import Derived.Test.YtcanaadgcgophaaDoorQFA
import Derived.Test.YtcanaadgcgophaaDoorQLD
import Derived.Test.YtcanaadgcgophaaDoorQLZ
import Derived.Test.YtcanaadgcgophaaDoorQNrP
set_option linter.unusedVariables false
set_option linter.unusedSimpArgs false
set_option linter.unnecessarySimpa false
set_option maxRecDepth 10000
namespace Go.Fo
open Go.Lexs Go.Fin

theorem idx_none {F : List Fact} {s : List UInt8} (h : ∀ j (hj : j < F.length), F[j].name ≠ s) : idx F s = none := by
  unfold idx
  rw [List.findIdx?_eq_none_iff]
  intro f hf
  obtain ⟨j, hj, rfl⟩ := List.mem_iff_getElem.1 hf
  simpa using h j hj

theorem idx_some {F : List Fact} {s : List UInt8} {k : Nat} (hk : k < F.length) (he : F[k].name = s) (h : ∀ j (hj : j < F.length), j < k → F[j].name ≠ s) : idx F s = some k := by
  unfold idx
  rw [List.findIdx?_eq_some_iff_getElem]
  refine ⟨hk, by simpa using he, fun j hj => by simpa using h j (by omega) hj⟩

theorem idx_lt {F : List Fact} {s : List UInt8} {k : Nat} (h : idx F s = some k) : k < F.length := by
  unfold idx at h
  rw [List.findIdx?_eq_some_iff_getElem] at h
  exact h.1
end Go.Fo

namespace Go.Proofs
open Go Go.Pd Go.Lexs Go.Fin Go.Fo
attribute [local irreducible] OpsL W RetQ OpsQ OpsC

def factL (f : Fact) : List Value := [str f.name, .int .i64 f.kind, .int .i64 f.lo, .int .i64 f.hi]
theorem factL_len (f : Fact) : (factL f).length = 4 := rfl
theorem factL_one (f : Fact) : (factL f).all Value.oneCell' = true := by simp only [factL, str_eq]; rfl
def factsL (F : List Fact) : List Value := F.flatMap factL
theorem factsL_len (F : List Fact) : (factsL F).length = F.length * 4 := flat_length factL_len F

theorem Sl.fact {w : World} {a : Option Addr} {m c : Nat} {F : List Fact} (hv : Sl w (.slice a m c) 4 (factsL F)) (hm : m = F.length) {k : Nat} (hk : k < F.length) : ∃ b o, a = some ⟨b, o, none⟩ ∧ Row w b (o + k * 4) [str F[k].name, .int .i64 F[k].kind, .int .i64 F[k].lo, .int .i64 F[k].hi] := by
  subst hm
  obtain ⟨b, o, hp, hr⟩ := hv.at (factsL_len F) (by omega) (by omega)
  exact ⟨b, o, hp, hr.elem factL_len (k := k) (t := F[k]) (by simp)⟩

set_option maxHeartbeats 1000000 in
theorem refIndex_calls {F : List Fact} {v : Value} {w : World} (hv : Sl w v 4 (factsL F)) (hlen : F.length ≤ 9223372036854775806) (s : List UInt8) :
    Calls Tryd.prog 22 #[.agg #[v], str s] w (fun e w' => ∃ x, e = .returned x ∧ x = .int .i64 (idxI F s) ∧ Ext w w') := by
  obtain ⟨pa, ca, rfl, -⟩ := hv.shape (factsL_len F) (by omega)
  refine calls_of Tryd.func22 rfl Tryd.ntmps22 rfl ?_
  refine wk_seq fun K hK => ?_
  refine wk_reg ?_
  refine o_box (LH.start w (fun _ => False)) [.slice pa F.length ca] rfl rfl rfl ?_
  intro b w1 hb hl
  have he := hl.done
  have hr0 : Row w1 b 0 [.slice pa F.length ca] := hl.rowL (vs := [.slice pa F.length ca]) 0 0 1 rfl
  have hv1 := hv.ext he
  clear hl hv
  repeat' (first | refine a_mov ?_ | refine a_asg ?_ | refine a_binN ?_ | refine a_notd ?_ | refine a_notb ?_ | refine a_nilc ?_ | refine a_fa ?_ | refine a_ext ?_ | refine a_lenv ?_ | refine a_lens ?_ | refine a_pick_t ?_ | refine a_pick_f ?_ | refine a_not ?_ | refine a_nilf ?_ | (refine o_nil (hK _ _ ?_); clear hK K) | refine wk_reg ?_ | refine wk_seq fun K hK => ?_ | (refine wk_skip (hK _ _ ?_); clear hK K) | (refine wk_label (hK _ _ ?_); clear hK K) | refine wk_scope ?_ | refine wk_block ?_ | refine wk_cond_t rfl ?_ | refine wk_cond_f rfl ?_ | (refine wk_exit ?_; (repeat (refine blockK_other rfl ?_)); refine blockK_same ?_; try ((repeat ((fail_if_success (refine hK _ _ ?_)); clear hK K)); refine hK _ _ ?_; clear hK K)) | (refine a_bin ?_ ?_ <;> intro _ <;> try (exfalso; omega)) | refine a_ld hl ?_ | (refine a_st hl ?_; clear hl; intro _ hl) | refine a_ix (fun _ => ?_) | fail)
  refine wk_loopH [] rfl (fun k : Nat => [(1, str s), (2, .pointer (some ⟨b, 0, none⟩)), (5, .int .i64 (k : Int))]) (fun k w' => (k ≤ F.length ∧ ∀ j (hj : j < F.length), j < k → F[j].name ≠ s) ∧ w' = w1) (fun k => F.length - k) 0 ⟨rfl, rfl, rfl, trivial⟩ ⟨⟨by omega, fun j hj h => by omega⟩, rfl⟩ ?_
  rintro k t w2 ⟨⟨hk, hno⟩, hw⟩
  obtain rfl : w2 = w1 := hw
  by_cases hk1 : k < F.length
  · obtain ⟨b2, o, hp, hr⟩ := Sl.fact hv1 rfl hk1
    repeat' (first | refine a_mov ?_ | refine a_asg ?_ | refine a_binN ?_ | refine a_notd ?_ | refine a_notb ?_ | refine a_nilc ?_ | refine a_fa ?_ | refine a_ext ?_ | refine a_lenv ?_ | refine a_lens ?_ | refine a_pick_t ?_ | refine a_pick_f ?_ | refine a_not ?_ | refine a_nilf ?_ | (refine o_nil (hK _ _ ?_); clear hK K) | refine wk_reg ?_ | refine wk_seq fun K hK => ?_ | (refine wk_skip (hK _ _ ?_); clear hK K) | (refine wk_label (hK _ _ ?_); clear hK K) | refine wk_scope ?_ | refine wk_block ?_ | refine wk_cond_t rfl ?_ | refine wk_cond_f rfl ?_ | (refine wk_exit ?_; (repeat (refine blockK_other rfl ?_)); refine blockK_same ?_; try ((repeat ((fail_if_success (refine hK _ _ ?_)); clear hK K)); refine hK _ _ ?_; clear hK K)) | (refine a_bin ?_ ?_ <;> intro _ <;> try (exfalso; omega)) | refine a_ld hl ?_ | (refine a_st hl ?_; clear hl; intro _ hl) | refine a_ix (fun _ => ?_) | refine a_idx (c := 4) k hp ?_ | refine a_row hr0 ?_ | refine a_row hr ?_)
    refine o_eqsT (a := F[k].name) (b := s) rfl rfl rfl ?_ ?_
    · intro hid
      have hx := idx_some hk1 hid hno
      clear hno
      repeat' (first | refine a_mov ?_ | refine a_asg ?_ | refine a_binN ?_ | refine a_notd ?_ | refine a_notb ?_ | refine a_nilc ?_ | refine a_fa ?_ | refine a_ext ?_ | refine a_lenv ?_ | refine a_lens ?_ | refine a_pick_t ?_ | refine a_pick_f ?_ | refine a_not ?_ | refine a_nilf ?_ | (refine o_nil (hK _ _ ?_); clear hK K) | refine wk_reg ?_ | refine wk_seq fun K hK => ?_ | (refine wk_skip (hK _ _ ?_); clear hK K) | (refine wk_label (hK _ _ ?_); clear hK K) | refine wk_scope ?_ | refine wk_block ?_ | refine wk_cond_t rfl ?_ | refine wk_cond_f rfl ?_ | (refine wk_exit ?_; (repeat (refine blockK_other rfl ?_)); refine blockK_same ?_; try ((repeat ((fail_if_success (refine hK _ _ ?_)); clear hK K)); refine hK _ _ ?_; clear hK K)) | (refine a_bin ?_ ?_ <;> intro _ <;> try (exfalso; omega)) | refine a_ld hl ?_ | (refine a_st hl ?_; clear hl; intro _ hl) | refine a_ix (fun _ => ?_) | fail)
      refine wk_ret (retQ_tmp1 Tryd.results22 (by decide) rfl (by conv => lhs; whnf) ?_)
      exact ⟨by simp only [idxI, hx], he⟩
    · intro hid
      repeat' (first | refine a_mov ?_ | refine a_asg ?_ | refine a_binN ?_ | refine a_notd ?_ | refine a_notb ?_ | refine a_nilc ?_ | refine a_fa ?_ | refine a_ext ?_ | refine a_lenv ?_ | refine a_lens ?_ | refine a_pick_t ?_ | refine a_pick_f ?_ | refine a_not ?_ | refine a_nilf ?_ | (refine o_nil (hK _ _ ?_); clear hK K) | refine wk_reg ?_ | refine wk_seq fun K hK => ?_ | (refine wk_skip (hK _ _ ?_); clear hK K) | (refine wk_label (hK _ _ ?_); clear hK K) | refine wk_scope ?_ | refine wk_block ?_ | refine wk_cond_t rfl ?_ | refine wk_cond_f rfl ?_ | (refine wk_exit ?_; (repeat (refine blockK_other rfl ?_)); refine blockK_same ?_; try ((repeat ((fail_if_success (refine hK _ _ ?_)); clear hK K)); refine hK _ _ ?_; clear hK K)) | (refine a_bin ?_ ?_ <;> intro _ <;> try (exfalso; omega)) | refine a_ld hl ?_ | (refine a_st hl ?_; clear hl; intro _ hl) | refine a_ix (fun _ => ?_) | fail)
      exact o_nil ⟨k + 1, ⟨rfl, rfl, rfl, trivial⟩, rfl, ⟨⟨hk1, fun j hj hjk => by
        by_cases e : j = k
        · subst e; exact hid
        · exact hno j hj (by omega)⟩, rfl⟩, by omega⟩
  · have hst := idx_none (F := F) (s := s) fun j hj => hno j hj (by omega)
    clear hno
    repeat' (first | refine a_mov ?_ | refine a_asg ?_ | refine a_binN ?_ | refine a_notd ?_ | refine a_notb ?_ | refine a_nilc ?_ | refine a_fa ?_ | refine a_ext ?_ | refine a_lenv ?_ | refine a_lens ?_ | refine a_pick_t ?_ | refine a_pick_f ?_ | refine a_not ?_ | refine a_nilf ?_ | (refine o_nil (hK _ _ ?_); clear hK K) | refine wk_reg ?_ | refine wk_seq fun K hK => ?_ | (refine wk_skip (hK _ _ ?_); clear hK K) | (refine wk_label (hK _ _ ?_); clear hK K) | refine wk_scope ?_ | refine wk_block ?_ | refine wk_cond_t rfl ?_ | refine wk_cond_f rfl ?_ | (refine wk_exit ?_; (repeat (refine blockK_other rfl ?_)); refine blockK_same ?_; try ((repeat ((fail_if_success (refine hK _ _ ?_)); clear hK K)); refine hK _ _ ?_; clear hK K)) | (refine a_bin ?_ ?_ <;> intro _ <;> try (exfalso; omega)) | refine a_ld hl ?_ | (refine a_st hl ?_; clear hl; intro _ hl) | refine a_ix (fun _ => ?_) | refine a_row hr0 ?_)
    refine wk_ret (retQ_tmp1 Tryd.results22 (by decide) rfl (by conv => lhs; whnf) ?_)
    exact ⟨by simp only [idxI, hst], he⟩

theorem isAt_calls (f : Fact) (s : List UInt8) {b : Nat} {w : World} (hb : Row w b 0 [str s]) :
    Calls Tryd.prog 52 #[.agg (factL f).toArray, .pointer (some ⟨b, 0, none⟩)] w (fun e w' => ∃ x, e = .returned x ∧ x = .bool (decide (f.name = s)) ∧ Ext w w') := by
  refine calls_of Tryd.func52 rfl Tryd.ntmps52 rfl ?_
  refine wk_seq fun K hK => ?_
  refine wk_reg ?_
  refine o_box (LH.start w (fun _ => False)) [str f.name, .int .i64 f.kind, .int .i64 f.lo, .int .i64 f.hi] rfl rfl rfl ?_
  intro b1 w1 hb1 hl
  have he := hl.done
  have hb2 := hb.ext he
  repeat' (first | refine a_mov ?_ | refine a_asg ?_ | refine a_binN ?_ | refine a_notd ?_ | refine a_notb ?_ | refine a_nilc ?_ | refine a_fa ?_ | refine a_ext ?_ | refine a_lenv ?_ | refine a_lens ?_ | refine a_pick_t ?_ | refine a_pick_f ?_ | refine a_not ?_ | refine a_nilf ?_ | (refine o_nil (hK _ _ ?_); clear hK K) | refine wk_reg ?_ | refine wk_seq fun K hK => ?_ | (refine wk_skip (hK _ _ ?_); clear hK K) | (refine wk_label (hK _ _ ?_); clear hK K) | refine wk_scope ?_ | refine wk_block ?_ | refine wk_cond_t rfl ?_ | refine wk_cond_f rfl ?_ | (refine wk_exit ?_; (repeat (refine blockK_other rfl ?_)); refine blockK_same ?_; try ((repeat ((fail_if_success (refine hK _ _ ?_)); clear hK K)); refine hK _ _ ?_; clear hK K)) | (refine a_bin ?_ ?_ <;> intro _ <;> try (exfalso; omega)) | refine a_ld hl ?_ | (refine a_st hl ?_; clear hl; intro _ hl) | refine a_ix (fun _ => ?_) | refine a_row hb2 ?_ | refine o_eqs rfl rfl rfl ?_)
  refine wk_ret (retQ_tmp1 Tryd.results52 (by decide) rfl (by conv => lhs; whnf) ?_)
  exact ⟨rfl, he⟩

set_option maxHeartbeats 1000000 in
theorem indexFunc_calls {F : List Fact} {v : Value} {b : Nat} {s : List UInt8} {w : World} (hv : Sl w v 4 (factsL F)) (hlen : F.length ≤ 9223372036854775806) (hb : Row w b 0 [str s]) :
    Calls Tryd.prog 51 #[v, .func (.func 52) #[] #[.pointer (some ⟨b, 0, none⟩)]] w (fun e w' => ∃ x, e = .returned x ∧ x = .int .i64 (idxI F s) ∧ Ext w w') := by
  obtain ⟨pa, ca, rfl, -⟩ := hv.shape (factsL_len F) (by omega)
  refine calls_of Tryd.func51 rfl Tryd.ntmps51 rfl ?_
  repeat' (first | refine a_mov ?_ | refine a_asg ?_ | refine a_binN ?_ | refine a_notd ?_ | refine a_notb ?_ | refine a_nilc ?_ | refine a_fa ?_ | refine a_ext ?_ | refine a_lenv ?_ | refine a_lens ?_ | refine a_pick_t ?_ | refine a_pick_f ?_ | refine a_not ?_ | refine a_nilf ?_ | (refine o_nil (hK _ _ ?_); clear hK K) | refine wk_reg ?_ | refine wk_seq fun K hK => ?_ | (refine wk_skip (hK _ _ ?_); clear hK K) | (refine wk_label (hK _ _ ?_); clear hK K) | refine wk_scope ?_ | refine wk_block ?_ | refine wk_cond_t rfl ?_ | refine wk_cond_f rfl ?_ | (refine wk_exit ?_; (repeat (refine blockK_other rfl ?_)); refine blockK_same ?_; try ((repeat ((fail_if_success (refine hK _ _ ?_)); clear hK K)); refine hK _ _ ?_; clear hK K)) | (refine a_bin ?_ ?_ <;> intro _ <;> try (exfalso; omega)) | refine a_ld hl ?_ | (refine a_st hl ?_; clear hl; intro _ hl) | refine a_ix (fun _ => ?_) | fail)
  refine wk_loopH [] rfl (fun k : Nat => [(0, .slice pa F.length ca), (1, .func (.func 52) #[] #[.pointer (some ⟨b, 0, none⟩)]), (7, .int .i64 (F.length : Int)), (8, .int .i64 (k : Int))]) (fun k w' => (k ≤ F.length ∧ ∀ j (hj : j < F.length), j < k → F[j].name ≠ s) ∧ Ext w w') (fun k => F.length - k) 0 ⟨rfl, rfl, rfl, rfl, trivial⟩ ⟨⟨by omega, fun j hj h => by omega⟩, Upd.refl _ _⟩ ?_
  rintro k t w2 ⟨⟨hk, hno⟩, he⟩
  by_cases hk1 : k < F.length
  · obtain ⟨b2, o, hp, hr⟩ := Sl.fact (hv.ext he) rfl hk1
    repeat' (first | refine a_mov ?_ | refine a_asg ?_ | refine a_binN ?_ | refine a_notd ?_ | refine a_notb ?_ | refine a_nilc ?_ | refine a_fa ?_ | refine a_ext ?_ | refine a_lenv ?_ | refine a_lens ?_ | refine a_pick_t ?_ | refine a_pick_f ?_ | refine a_not ?_ | refine a_nilf ?_ | (refine o_nil (hK _ _ ?_); clear hK K) | refine wk_reg ?_ | refine wk_seq fun K hK => ?_ | (refine wk_skip (hK _ _ ?_); clear hK K) | (refine wk_label (hK _ _ ?_); clear hK K) | refine wk_scope ?_ | refine wk_block ?_ | refine wk_cond_t rfl ?_ | refine wk_cond_f rfl ?_ | (refine wk_exit ?_; (repeat (refine blockK_other rfl ?_)); refine blockK_same ?_; try ((repeat ((fail_if_success (refine hK _ _ ?_)); clear hK K)); refine hK _ _ ?_; clear hK K)) | (refine a_bin ?_ ?_ <;> intro _ <;> try (exfalso; omega)) | refine a_ld hl ?_ | (refine a_st hl ?_; clear hl; intro _ hl) | refine a_ix (fun _ => ?_) | refine a_idx (c := 4) k hp ?_ | refine a_all hr ?_)
    refine a_fc #[.agg (factL F[k]).toArray] #[.pointer (some ⟨b, 0, none⟩)] #[.agg (factL F[k]).toArray, .pointer (some ⟨b, 0, none⟩)] rfl (isAt_calls F[k] s (hb.ext he)) ?_
    rintro _ w3 ⟨rfl, he3⟩
    by_cases hid : F[k].name = s
    · rw [decide_eq_true hid]
      have hx := idx_some hk1 hid hno
      clear hno
      repeat' (first | refine a_mov ?_ | refine a_asg ?_ | refine a_binN ?_ | refine a_notd ?_ | refine a_notb ?_ | refine a_nilc ?_ | refine a_fa ?_ | refine a_ext ?_ | refine a_lenv ?_ | refine a_lens ?_ | refine a_pick_t ?_ | refine a_pick_f ?_ | refine a_not ?_ | refine a_nilf ?_ | (refine o_nil (hK _ _ ?_); clear hK K) | refine wk_reg ?_ | refine wk_seq fun K hK => ?_ | (refine wk_skip (hK _ _ ?_); clear hK K) | (refine wk_label (hK _ _ ?_); clear hK K) | refine wk_scope ?_ | refine wk_block ?_ | refine wk_cond_t rfl ?_ | refine wk_cond_f rfl ?_ | (refine wk_exit ?_; (repeat (refine blockK_other rfl ?_)); refine blockK_same ?_; try ((repeat ((fail_if_success (refine hK _ _ ?_)); clear hK K)); refine hK _ _ ?_; clear hK K)) | (refine a_bin ?_ ?_ <;> intro _ <;> try (exfalso; omega)) | refine a_ld hl ?_ | (refine a_st hl ?_; clear hl; intro _ hl) | refine a_ix (fun _ => ?_) | fail)
      refine wk_ret (retQ_tmp1 Tryd.results51 (by decide) rfl (by conv => lhs; whnf) ?_)
      exact ⟨by simp only [idxI, hx], he.trans he3⟩
    · rw [decide_eq_false hid]
      repeat' (first | refine a_mov ?_ | refine a_asg ?_ | refine a_binN ?_ | refine a_notd ?_ | refine a_notb ?_ | refine a_nilc ?_ | refine a_fa ?_ | refine a_ext ?_ | refine a_lenv ?_ | refine a_lens ?_ | refine a_pick_t ?_ | refine a_pick_f ?_ | refine a_not ?_ | refine a_nilf ?_ | (refine o_nil (hK _ _ ?_); clear hK K) | refine wk_reg ?_ | refine wk_seq fun K hK => ?_ | (refine wk_skip (hK _ _ ?_); clear hK K) | (refine wk_label (hK _ _ ?_); clear hK K) | refine wk_scope ?_ | refine wk_block ?_ | refine wk_cond_t rfl ?_ | refine wk_cond_f rfl ?_ | (refine wk_exit ?_; (repeat (refine blockK_other rfl ?_)); refine blockK_same ?_; try ((repeat ((fail_if_success (refine hK _ _ ?_)); clear hK K)); refine hK _ _ ?_; clear hK K)) | (refine a_bin ?_ ?_ <;> intro _ <;> try (exfalso; omega)) | refine a_ld hl ?_ | (refine a_st hl ?_; clear hl; intro _ hl) | refine a_ix (fun _ => ?_) | fail)
      exact o_nil ⟨k + 1, ⟨rfl, rfl, rfl, rfl, trivial⟩, rfl, ⟨⟨hk1, fun j hj hjk => by
        by_cases e : j = k
        · subst e; exact hid
        · exact hno j hj (by omega)⟩, he.trans he3⟩, by omega⟩
  · have hst := idx_none (F := F) (s := s) fun j hj => hno j hj (by omega)
    clear hno
    repeat' (first | refine a_mov ?_ | refine a_asg ?_ | refine a_binN ?_ | refine a_notd ?_ | refine a_notb ?_ | refine a_nilc ?_ | refine a_fa ?_ | refine a_ext ?_ | refine a_lenv ?_ | refine a_lens ?_ | refine a_pick_t ?_ | refine a_pick_f ?_ | refine a_not ?_ | refine a_nilf ?_ | (refine o_nil (hK _ _ ?_); clear hK K) | refine wk_reg ?_ | refine wk_seq fun K hK => ?_ | (refine wk_skip (hK _ _ ?_); clear hK K) | (refine wk_label (hK _ _ ?_); clear hK K) | refine wk_scope ?_ | refine wk_block ?_ | refine wk_cond_t rfl ?_ | refine wk_cond_f rfl ?_ | (refine wk_exit ?_; (repeat (refine blockK_other rfl ?_)); refine blockK_same ?_; try ((repeat ((fail_if_success (refine hK _ _ ?_)); clear hK K)); refine hK _ _ ?_; clear hK K)) | (refine a_bin ?_ ?_ <;> intro _ <;> try (exfalso; omega)) | refine a_ld hl ?_ | (refine a_st hl ?_; clear hl; intro _ hl) | refine a_ix (fun _ => ?_) | fail)
    refine wk_ret (retQ_tmp1 Tryd.results51 (by decide) rfl (by conv => lhs; whnf) ?_)
    exact ⟨by simp only [idxI, hst], he⟩

set_option maxHeartbeats 1000000 in
theorem factIndex_calls {F : List Fact} {v : Value} {w : World} (hv : Sl w v 4 (factsL F)) (hlen : F.length ≤ 9223372036854775806) (s : List UInt8) :
    Calls Tryd.prog 21 #[.agg #[v], str s] w (fun e w' => ∃ x, e = .returned x ∧ x = .int .i64 (idxI F s) ∧ Ext w w') := by
  obtain ⟨pa, ca, rfl, -⟩ := hv.shape (factsL_len F) (by omega)
  refine calls_of Tryd.func21 rfl Tryd.ntmps21 rfl ?_
  refine wk_seq fun K hK => ?_
  refine wk_reg ?_
  refine o_box (LH.start w (fun _ => False)) [.slice pa F.length ca] rfl rfl rfl ?_
  intro b w1 hb hl
  refine o_box hl [str s] rfl rfl (show (str s).cells = #[str s] by simp only [str_eq]; rfl) ?_
  clear hl
  intro b2 w2 hb2 hl
  repeat' (first | refine a_mov ?_ | refine a_asg ?_ | refine a_binN ?_ | refine a_notd ?_ | refine a_notb ?_ | refine a_nilc ?_ | refine a_fa ?_ | refine a_ext ?_ | refine a_lenv ?_ | refine a_lens ?_ | refine a_pick_t ?_ | refine a_pick_f ?_ | refine a_not ?_ | refine a_nilf ?_ | (refine o_nil (hK _ _ ?_); clear hK K) | refine wk_reg ?_ | refine wk_seq fun K hK => ?_ | (refine wk_skip (hK _ _ ?_); clear hK K) | (refine wk_label (hK _ _ ?_); clear hK K) | refine wk_scope ?_ | refine wk_block ?_ | refine wk_cond_t rfl ?_ | refine wk_cond_f rfl ?_ | (refine wk_exit ?_; (repeat (refine blockK_other rfl ?_)); refine blockK_same ?_; try ((repeat ((fail_if_success (refine hK _ _ ?_)); clear hK K)); refine hK _ _ ?_; clear hK K)) | (refine a_bin ?_ ?_ <;> intro _ <;> try (exfalso; omega)) | refine a_ld hl ?_ | (refine a_st hl ?_; clear hl; intro _ hl) | refine a_ix (fun _ => ?_) | fail)
  refine o_mf [] [.pointer (some ⟨b2, 0, none⟩)] rfl rfl rfl ?_
  have he := hl.done
  refine a_fn (indexFunc_calls (hv.ext he) hlen (hl.rowL (vs := [str s]) 0 0 1 rfl)) ?_
  rintro _ w3 ⟨rfl, he3⟩
  repeat' (first | refine a_mov ?_ | refine a_asg ?_ | refine a_binN ?_ | refine a_notd ?_ | refine a_notb ?_ | refine a_nilc ?_ | refine a_fa ?_ | refine a_ext ?_ | refine a_lenv ?_ | refine a_lens ?_ | refine a_pick_t ?_ | refine a_pick_f ?_ | refine a_not ?_ | refine a_nilf ?_ | (refine o_nil (hK _ _ ?_); clear hK K) | refine wk_reg ?_ | refine wk_seq fun K hK => ?_ | (refine wk_skip (hK _ _ ?_); clear hK K) | (refine wk_label (hK _ _ ?_); clear hK K) | refine wk_scope ?_ | refine wk_block ?_ | refine wk_cond_t rfl ?_ | refine wk_cond_f rfl ?_ | (refine wk_exit ?_; (repeat (refine blockK_other rfl ?_)); refine blockK_same ?_; try ((repeat ((fail_if_success (refine hK _ _ ?_)); clear hK K)); refine hK _ _ ?_; clear hK K)) | (refine a_bin ?_ ?_ <;> intro _ <;> try (exfalso; omega)) | refine a_ld hl ?_ | (refine a_st hl ?_; clear hl; intro _ hl) | refine a_ix (fun _ => ?_) | fail)
  refine wk_ret (retQ_tmp1 Tryd.results21 (by decide) rfl (by conv => lhs; whnf) ?_)
  exact ⟨rfl, he.trans he3⟩
end Go.Proofs

set_option linter.unusedVariables false
set_option linter.unusedSimpArgs false
set_option linter.unnecessarySimpa false
set_option maxRecDepth 10000
namespace Go.Proofs
open Go Go.Pd Go.Lexs Go.Fin
attribute [local irreducible] OpsL W RetQ OpsQ OpsC

set_option maxHeartbeats 4000000 in
theorem isName_calls (s : List UInt8) (hn : s.length ≤ 9223372036854775806) (w : World) : Calls Tryd.prog 49 #[str s] w (fun e w' => ∃ x, e = .returned x ∧ x = .bool (Nm s) ∧ w' = w) := by
  refine calls_of Tryd.func49 rfl Tryd.ntmps49 rfl ?_
  repeat' (first | refine a_mov ?_ | refine a_asg ?_ | refine a_binN ?_ | refine a_notd ?_ | refine a_notb ?_ | refine a_nilc ?_ | refine a_fa ?_ | refine a_ext ?_ | refine a_lenv ?_ | refine a_lens ?_ | refine a_pick_t ?_ | refine a_pick_f ?_ | refine a_not ?_ | refine a_nilf ?_ | (refine o_nil (hK _ _ ?_); clear hK K) | refine wk_reg ?_ | refine wk_seq fun K hK => ?_ | (refine wk_skip (hK _ _ ?_); clear hK K) | (refine wk_label (hK _ _ ?_); clear hK K) | refine wk_scope ?_ | refine wk_block ?_ | refine wk_cond_t rfl ?_ | refine wk_cond_f rfl ?_ | (refine wk_exit ?_; (repeat (refine blockK_other rfl ?_)); refine blockK_same ?_; try ((repeat ((fail_if_success (refine hK _ _ ?_)); clear hK K)); refine hK _ _ ?_; clear hK K)) | (refine a_bin ?_ ?_ <;> intro _ <;> try (exfalso; omega)) | refine a_ld hl ?_ | (refine a_st hl ?_; clear hl; intro _ hl) | refine a_ix (fun _ => ?_) | fail)
  refine wk_loopH [] rfl (fun k : Nat => [(0, str s), (8, .int .i64 (s.length : Int)), (9, .int .i64 (k : Int))]) (fun k w' => (k ≤ s.length ∧ ∀ j (hj : j < s.length), j < k → okAt j s[j]) ∧ w' = w) (fun k => s.length - k) 0 ⟨rfl, rfl, rfl, trivial⟩ ⟨⟨by omega, fun j hj h => by omega⟩, rfl⟩ ?_
  rintro k t _ ⟨⟨hk, hpre⟩, rfl⟩
  by_cases hlt : k < s.length
  · have hwd := wd_iff s[k]
    have hlt2 := lt_iff s[k]
    have hc : s[k]? = some s[k] := by simp [hlt]
    generalize hck : s[k] = c at *
    have hgo : okAt k c → ∀ j (hj : j < s.length), j < k + 1 → okAt j s[j] := fun h j hj hjk => by
      by_cases e : j = k
      · subst e; rw [hck]; exact h
      · exact hpre j hj (by omega)
    have hno : ¬ okAt k c → Nm s = false := fun h => nm_false hlt (by rw [hck]; exact h)
    clear hpre hck
    by_cases hok : okAt k c
    · have hgo := hgo hok
      have hok' : ((97 ≤ c.toNat ∧ c.toNat ≤ 122) ∨ (65 ≤ c.toNat ∧ c.toNat ≤ 90)) ∨ (k ≠ 0 ∧ ((97 ≤ c.toNat ∧ c.toNat ≤ 122) ∨ (65 ≤ c.toNat ∧ c.toNat ≤ 90) ∨ (48 ≤ c.toNat ∧ c.toNat ≤ 57) ∨ c.toNat = 95)) := by
        rcases hok with h | ⟨h1, h2⟩
        · exact .inl (hlt2.1 h)
        · refine .inr ⟨h1, ?_⟩
          rcases hwd.1 h2 with h | h | h
          · rcases hlt2.1 h with h | h
            · exact .inl h
            · exact .inr (.inl h)
          · exact .inr (.inr (.inl h))
          · exact .inr (.inr (.inr h))
      clear hok hwd hlt2 hno
      repeat' (first | refine o_index (c := c) k rfl rfl rfl rfl rfl hc ?_ | refine a_mov ?_ | refine a_asg ?_ | refine a_binN ?_ | refine a_notd ?_ | refine a_notb ?_ | refine a_nilc ?_ | refine a_fa ?_ | refine a_ext ?_ | refine a_lenv ?_ | refine a_lens ?_ | refine a_pick_t ?_ | refine a_pick_f ?_ | refine a_not ?_ | refine a_nilf ?_ | (refine o_nil (hK _ _ ?_); clear hK K) | refine wk_reg ?_ | refine wk_seq fun K hK => ?_ | (refine wk_skip (hK _ _ ?_); clear hK K) | (refine wk_label (hK _ _ ?_); clear hK K) | refine wk_scope ?_ | refine wk_block ?_ | refine wk_cond_t rfl ?_ | refine wk_cond_f rfl ?_ | (refine wk_exit ?_; (repeat (refine blockK_other rfl ?_)); refine blockK_same ?_; try ((repeat ((fail_if_success (refine hK _ _ ?_)); clear hK K)); refine hK _ _ ?_; clear hK K)) | (refine a_bin ?_ ?_ <;> intro _ <;> try (exfalso; omega)) | refine a_ld hl ?_ | (refine a_st hl ?_; clear hl; intro _ hl) | refine a_ix (fun _ => ?_))
      all_goals exact o_nil ⟨k + 1, ⟨rfl, rfl, rfl, trivial⟩, rfl, ⟨⟨by omega, hgo⟩, rfl⟩, by omega⟩
    · have hno := hno hok
      have hok' : ¬ (((97 ≤ c.toNat ∧ c.toNat ≤ 122) ∨ (65 ≤ c.toNat ∧ c.toNat ≤ 90)) ∨ (k ≠ 0 ∧ ((48 ≤ c.toNat ∧ c.toNat ≤ 57) ∨ c.toNat = 95))) := by
        rintro (h | ⟨h1, h2⟩)
        · exact hok (.inl (hlt2.2 h))
        · exact hok (.inr ⟨h1, hwd.2 (.inr h2)⟩)
      clear hok hwd hlt2 hgo
      repeat' (first | refine o_index (c := c) k rfl rfl rfl rfl rfl hc ?_ | refine a_mov ?_ | refine a_asg ?_ | refine a_binN ?_ | refine a_notd ?_ | refine a_notb ?_ | refine a_nilc ?_ | refine a_fa ?_ | refine a_ext ?_ | refine a_lenv ?_ | refine a_lens ?_ | refine a_pick_t ?_ | refine a_pick_f ?_ | refine a_not ?_ | refine a_nilf ?_ | (refine o_nil (hK _ _ ?_); clear hK K) | refine wk_reg ?_ | refine wk_seq fun K hK => ?_ | (refine wk_skip (hK _ _ ?_); clear hK K) | (refine wk_label (hK _ _ ?_); clear hK K) | refine wk_scope ?_ | refine wk_block ?_ | refine wk_cond_t rfl ?_ | refine wk_cond_f rfl ?_ | (refine wk_exit ?_; (repeat (refine blockK_other rfl ?_)); refine blockK_same ?_; try ((repeat ((fail_if_success (refine hK _ _ ?_)); clear hK K)); refine hK _ _ ?_; clear hK K)) | (refine a_bin ?_ ?_ <;> intro _ <;> try (exfalso; omega)) | refine a_ld hl ?_ | (refine a_st hl ?_; clear hl; intro _ hl) | refine a_ix (fun _ => ?_))
      all_goals (refine wk_ret (retQ_tmp1 Tryd.results49 (by decide) rfl (by conv => lhs; whnf) ?_))
      all_goals exact ⟨by rw [hno], rfl⟩
  · have hke : k = s.length := by omega
    have hiff := nm_iff s
    have hall : ∀ j (hj : j < s.length), okAt j s[j] := fun j hj => hpre j hj (by omega)
    clear hpre
    repeat' (first | refine a_mov ?_ | refine a_asg ?_ | refine a_binN ?_ | refine a_notd ?_ | refine a_notb ?_ | refine a_nilc ?_ | refine a_fa ?_ | refine a_ext ?_ | refine a_lenv ?_ | refine a_lens ?_ | refine a_pick_t ?_ | refine a_pick_f ?_ | refine a_not ?_ | refine a_nilf ?_ | (refine o_nil (hK _ _ ?_); clear hK K) | refine wk_reg ?_ | refine wk_seq fun K hK => ?_ | (refine wk_skip (hK _ _ ?_); clear hK K) | (refine wk_label (hK _ _ ?_); clear hK K) | refine wk_scope ?_ | refine wk_block ?_ | refine wk_cond_t rfl ?_ | refine wk_cond_f rfl ?_ | (refine wk_exit ?_; (repeat (refine blockK_other rfl ?_)); refine blockK_same ?_; try ((repeat ((fail_if_success (refine hK _ _ ?_)); clear hK K)); refine hK _ _ ?_; clear hK K)) | (refine a_bin ?_ ?_ <;> intro _ <;> try (exfalso; omega)) | refine a_ld hl ?_ | (refine a_st hl ?_; clear hl; intro _ hl) | refine a_ix (fun _ => ?_) | refine o_nesT (b := []) rfl rfl (by simp only [str_eq]; rfl) ?_ ?_ <;> intro hemp)
    all_goals (refine wk_ret (retQ_tmp1 Tryd.results49 (by decide) rfl (by conv => lhs; whnf) ?_))
    all_goals (refine ⟨?_, rfl⟩)
    all_goals have hpos : (s = [] ↔ s.length = 0) := by cases s <;> simp
    all_goals (cases hx : Nm s)
    all_goals (first | rfl | (exfalso; have h1 := (hiff.1 hx).2; first | omega | (rw [hpos] at hemp; omega)) | (exfalso; exact absurd (hiff.2 ⟨hall, by first | omega | (rw [ne_eq, hpos] at hemp; omega), by omega⟩) (by rw [hx]; simp)))
end Go.Proofs

set_option linter.unusedVariables false
set_option linter.unusedSimpArgs false
set_option linter.unnecessarySimpa false
set_option maxRecDepth 10000
namespace Go.Fo
open Go.Lexs Go.Fin

theorem valid_bad {F : List Fact} {i : Nat} (hi : i < F.length) (h : factOk F[i] = false ∨ F[i].name ∈ (F.take i).map (·.name)) : validD F = false := by
  unfold validD
  rcases h with h | h
  · have : F.all factOk = false := List.all_eq_false.2 ⟨_, List.getElem_mem hi, by simp [h]⟩
    rw [this]; rfl
  · have : ¬ (F.map (·.name)).Nodup := fun hn => by
      have h1 : F.map (·.name) = (F.take i).map (·.name) ++ (F.drop i).map (·.name) := by rw [← List.map_append, List.take_append_drop]
      rw [h1, List.nodup_append] at hn
      exact hn.2.2 _ h _ (List.mem_map.2 ⟨F[i], by rw [List.drop_eq_getElem_cons hi]; exact List.mem_cons_self, rfl⟩) rfl
    rw [decide_eq_false this]
    simp

theorem valid_good {F : List Fact} (h : ∀ i (hi : i < F.length), factOk F[i] = true ∧ F[i].name ∉ (F.take i).map (·.name)) : validD F = decide (F.length ≤ 60) := by
  have h1 : F.all factOk = true := List.all_eq_true.2 fun f hf => by
    obtain ⟨i, hi, rfl⟩ := List.mem_iff_getElem.1 hf
    exact (h i hi).1
  have h2 : ∀ i, i ≤ F.length → ((F.take i).map (·.name)).Nodup := by
    intro i
    induction i with
    | zero => simp
    | succ i ih =>
      intro hi
      rw [List.take_succ_eq_append_getElem (by omega), List.map_append, List.nodup_append]
      refine ⟨ih (by omega), by simp, ?_⟩
      intro a ha b hb
      simp only [List.map_cons, List.map_nil, List.mem_singleton] at hb
      subst hb
      rintro rfl
      exact (h i (by omega)).2 ha
  have h3 := h2 F.length (Nat.le_refl _)
  rw [List.take_of_length_le (Nat.le_refl _)] at h3
  unfold validD
  rw [h1, decide_eq_true h3]
  rfl

theorem factOk_iff (f : Fact) : factOk f = true ↔ ((f.kind = 1 ∧ f.lo = 0 ∧ f.hi = 1) ∨ ((f.kind = 2 ∨ f.kind = 3) ∧ 0 ≤ f.lo ∧ f.lo ≤ f.hi ∧ f.hi ≤ 1000000)) ∧ Nm f.name = true := by
  unfold factOk
  simp only [Bool.and_eq_true, Bool.or_eq_true, decide_eq_true_eq]
  constructor
  · rintro ⟨h | h, h2⟩
    · exact ⟨.inl ⟨h.1.1, h.1.2, h.2⟩, h2⟩
    · exact ⟨.inr ⟨h.1.1.1, h.1.1.2, h.1.2, h.2⟩, h2⟩
  · rintro ⟨h | h, h2⟩
    · exact ⟨.inl ⟨⟨h.1, h.2.1⟩, h.2.2⟩, h2⟩
    · exact ⟨.inr ⟨⟨⟨h.1, h.2.1⟩, h.2.2.1⟩, h.2.2.2⟩, h2⟩
theorem factOk_no {f : Fact} (h : ¬ ((f.kind = 1 ∧ f.lo = 0 ∧ f.hi = 1) ∨ ((f.kind = 2 ∨ f.kind = 3) ∧ 0 ≤ f.lo ∧ f.lo ≤ f.hi ∧ f.hi ≤ 1000000))) : factOk f = false := by
  cases hf : factOk f
  · rfl
  · exact absurd ((factOk_iff f).1 hf).1 h
theorem factOk_nm {f : Fact} (h : Nm f.name = false) : factOk f = false := by
  cases hf : factOk f
  · rfl
  · rw [((factOk_iff f).1 hf).2] at h; cases h
theorem factOk_yes {f : Fact} (h : (f.kind = 1 ∧ f.lo = 0 ∧ f.hi = 1) ∨ ((f.kind = 2 ∨ f.kind = 3) ∧ 0 ≤ f.lo ∧ f.lo ≤ f.hi ∧ f.hi ≤ 1000000)) (hn : Nm f.name = true) : factOk f = true := (factOk_iff f).2 ⟨h, hn⟩
end Go.Fo

namespace Go.Proofs
open Go Go.Pd Go.Lexs Go.Fin Go.Fo
attribute [local irreducible] OpsL W RetQ OpsQ OpsC

theorem get_step {F : List Fact} {k : Nat} (hk : k < F.length) {l : List (List UInt8 × Value)} (h : ∀ s, Pd.get l s = if s ∈ (F.take k).map (·.name) then some (.bool true) else none) :
    ∀ s, Pd.get (ins l F[k].name (.bool true)) s = if s ∈ (F.take (k + 1)).map (·.name) then some (.bool true) else none := fun s => by
  rw [get_ins, h s, List.take_succ_eq_append_getElem hk, List.map_append]
  by_cases h1 : s = F[k].name
  · rw [if_pos h1, if_pos]; simp [h1]
  · rw [if_neg h1]
    by_cases h2 : s ∈ (F.take k).map (·.name)
    · rw [if_pos h2, if_pos]; exact List.mem_append_left _ h2
    · rw [if_neg h2, if_neg]
      intro h3
      rcases List.mem_append.1 h3 with h3 | h3
      · exact h2 h3
      · simp at h3; exact h1 h3

theorem keyName : Key Tryd.prog 9 str := key_str rfl

set_option maxHeartbeats 4000000 in
theorem valid_calls {F : List Fact} {v : Value} {w : World} (hd : Sl w v 4 (factsL F)) (hF : F.length ≤ 9223372036854775806) (hn : ∀ f ∈ F, f.name.length ≤ 9223372036854775806) :
    Calls Tryd.prog 17 #[.agg #[v]] w (fun e w' => ∃ x, e = .returned x ∧ x = .bool (validD F) ∧ Ext w w') := by
  obtain ⟨pa, ca, rfl, -⟩ := hd.shape (factsL_len F) (by omega)
  refine calls_of Tryd.func17 rfl Tryd.ntmps17 rfl ?_
  refine wk_seq fun K hK => ?_
  refine wk_reg ?_
  refine o_box (LH.start w (fun _ => False)) [.slice pa F.length ca] rfl rfl rfl ?_
  intro b1 w1 hb1 hl
  repeat' (first | refine a_mov ?_ | refine a_asg ?_ | refine a_binN ?_ | refine a_notd ?_ | refine a_notb ?_ | refine a_nilc ?_ | refine a_fa ?_ | refine a_ext ?_ | refine a_lenv ?_ | refine a_lens ?_ | refine a_pick_t ?_ | refine a_pick_f ?_ | refine a_not ?_ | refine a_nilf ?_ | (refine o_nil (hK _ _ ?_); clear hK K) | refine wk_reg ?_ | refine wk_seq fun K hK => ?_ | (refine wk_skip (hK _ _ ?_); clear hK K) | (refine wk_label (hK _ _ ?_); clear hK K) | refine wk_scope ?_ | refine wk_block ?_ | refine wk_cond_t rfl ?_ | refine wk_cond_f rfl ?_ | (refine wk_exit ?_; (repeat (refine blockK_other rfl ?_)); refine blockK_same ?_; try ((repeat ((fail_if_success (refine hK _ _ ?_)); clear hK K)); refine hK _ _ ?_; clear hK K)) | (refine a_bin ?_ ?_ <;> intro _ <;> try (exfalso; omega)) | refine a_ld hl ?_ | (refine a_st hl ?_; clear hl; intro _ hl) | refine a_ix (fun _ => ?_) | fail)
  refine o_makeMap hl rfl ?_
  clear hl
  intro bm w2 hbm hl
  repeat' (first | refine a_mov ?_ | refine a_asg ?_ | refine a_binN ?_ | refine a_notd ?_ | refine a_notb ?_ | refine a_nilc ?_ | refine a_fa ?_ | refine a_ext ?_ | refine a_lenv ?_ | refine a_lens ?_ | refine a_pick_t ?_ | refine a_pick_f ?_ | refine a_not ?_ | refine a_nilf ?_ | (refine o_nil (hK _ _ ?_); clear hK K) | refine wk_reg ?_ | refine wk_seq fun K hK => ?_ | (refine wk_skip (hK _ _ ?_); clear hK K) | (refine wk_label (hK _ _ ?_); clear hK K) | refine wk_scope ?_ | refine wk_block ?_ | refine wk_cond_t rfl ?_ | refine wk_cond_f rfl ?_ | (refine wk_exit ?_; (repeat (refine blockK_other rfl ?_)); refine blockK_same ?_; try ((repeat ((fail_if_success (refine hK _ _ ?_)); clear hK K)); refine hK _ _ ?_; clear hK K)) | (refine a_bin ?_ ?_ <;> intro _ <;> try (exfalso; omega)) | refine a_ld hl ?_ | (refine a_st hl ?_; clear hl; intro _ hl) | refine a_ix (fun _ => ?_) | refine a_row (hl.rowL (vs := [.slice pa F.length ca]) 1 0 1 rfl) ?_)
  refine wk_loopH [] rfl (fun k : Nat => [(1, .pointer (some ⟨b1, 0, none⟩)), (3, .map (some bm)), (10, .slice pa F.length ca), (11, .int .i64 (F.length : Int)), (12, .int .i64 (k : Int))]) (fun k w' => (k ≤ F.length ∧ ∀ i (hi : i < F.length), i < k → factOk F[i] = true ∧ F[i].name ∉ (F.take i).map (·.name)) ∧ ∃ es c l, MapR str es l ∧ (∀ s, Pd.get l s = if s ∈ (F.take k).map (·.name) then some (.bool true) else none) ∧ LH w (fun _ => False) w' [(bm, Obj.map es c), (b1, Obj.cells #[.slice pa F.length ca] 24 (0, 0))]) (fun k => F.length - k) 0 ⟨rfl, rfl, rfl, rfl, rfl, trivial⟩ ⟨⟨by omega, fun i _ h => by omega⟩, _, _, [], .nil, fun s => by simp [Pd.get], hl⟩ ?_
  clear hl w2
  rintro k t w2 ⟨⟨hk, hok⟩, es, c, l, hm, hget, hl⟩
  have he := hl.done
  by_cases hk1 : k < F.length
  · obtain ⟨b2, o, hp, hr⟩ := Sl.fact (hd.ext he) rfl hk1
    have hbad := valid_bad hk1
    have hnm := hn F[k] (List.getElem_mem hk1)
    have hgk := hget F[k].name
    have hone := factL_one F[k]
    have hstep : factOk F[k] = true → F[k].name ∉ (F.take k).map (·.name) → ∀ i (hi : i < F.length), i < k + 1 → factOk F[i] = true ∧ F[i].name ∉ (F.take i).map (·.name) := fun h1 h2 i hi hik => by
      by_cases e : i = k
      · subst e; exact ⟨h1, h2⟩
      · exact hok i hi (by omega)
    have hgets := get_step hk1 (l := l)
    generalize F[k] = f at *
    clear hok
    repeat' (first | refine a_mov ?_ | refine a_asg ?_ | refine a_binN ?_ | refine a_notd ?_ | refine a_notb ?_ | refine a_nilc ?_ | refine a_fa ?_ | refine a_ext ?_ | refine a_lenv ?_ | refine a_lens ?_ | refine a_pick_t ?_ | refine a_pick_f ?_ | refine a_not ?_ | refine a_nilf ?_ | (refine o_nil (hK _ _ ?_); clear hK K) | refine wk_reg ?_ | refine wk_seq fun K hK => ?_ | (refine wk_skip (hK _ _ ?_); clear hK K) | (refine wk_label (hK _ _ ?_); clear hK K) | refine wk_scope ?_ | refine wk_block ?_ | refine wk_cond_t rfl ?_ | refine wk_cond_f rfl ?_ | (refine wk_exit ?_; (repeat (refine blockK_other rfl ?_)); refine blockK_same ?_; try ((repeat ((fail_if_success (refine hK _ _ ?_)); clear hK K)); refine hK _ _ ?_; clear hK K)) | (refine a_bin ?_ ?_ <;> intro _ <;> try (exfalso; omega)) | refine a_ld hl ?_ | (refine a_st hl ?_; clear hl; intro _ hl) | refine a_ix (fun _ => ?_) | refine a_idx (c := 4) k hp ?_ | refine a_all hr ?_)
    refine o_alloc hl [.string ⟨#[]⟩, .int .i64 0, .int .i64 0, .int .i64 0] rfl rfl ?_
    clear hl
    intro bf w3 hbf hl
    refine o_putN (us := [str f.name, .int .i64 f.kind, .int .i64 f.lo, .int .i64 f.hi]) hl rfl rfl rfl hone rfl (.all rfl rfl) ?_
    clear hl
    intro w4 hl
    have hA := factOk_iff f
    repeat' (first | refine a_mov ?_ | refine a_asg ?_ | refine a_binN ?_ | refine a_notd ?_ | refine a_notb ?_ | refine a_nilc ?_ | refine a_fa ?_ | refine a_ext ?_ | refine a_lenv ?_ | refine a_lens ?_ | refine a_pick_t ?_ | refine a_pick_f ?_ | refine a_not ?_ | refine a_nilf ?_ | (refine o_nil (hK _ _ ?_); clear hK K) | refine wk_reg ?_ | refine wk_seq fun K hK => ?_ | (refine wk_skip (hK _ _ ?_); clear hK K) | (refine wk_label (hK _ _ ?_); clear hK K) | refine wk_scope ?_ | refine wk_block ?_ | refine wk_cond_t rfl ?_ | refine wk_cond_f rfl ?_ | (refine wk_exit ?_; (repeat (refine blockK_other rfl ?_)); refine blockK_same ?_; try ((repeat ((fail_if_success (refine hK _ _ ?_)); clear hK K)); refine hK _ _ ?_; clear hK K)) | (refine a_bin ?_ ?_ <;> intro _ <;> try (exfalso; omega)) | refine a_ld hl ?_ | (refine a_st hl ?_; clear hl; intro _ hl) | refine a_ix (fun _ => ?_) | fail)
    all_goals first
      | (refine wk_ret (retQ_tmp1 Tryd.results17 (by decide) rfl (by conv => lhs; whnf) ?_)
         exact ⟨by rw [hbad (.inl (factOk_no (by omega)))], hl.done⟩)
      | (refine a_fn (isName_calls f.name hnm _) ?_
         rintro _ _ ⟨rfl, rfl⟩
         cases hN : Nm f.name
         · repeat' (first | refine a_mov ?_ | refine a_asg ?_ | refine a_binN ?_ | refine a_notd ?_ | refine a_notb ?_ | refine a_nilc ?_ | refine a_fa ?_ | refine a_ext ?_ | refine a_lenv ?_ | refine a_lens ?_ | refine a_pick_t ?_ | refine a_pick_f ?_ | refine a_not ?_ | refine a_nilf ?_ | (refine o_nil (hK _ _ ?_); clear hK K) | refine wk_reg ?_ | refine wk_seq fun K hK => ?_ | (refine wk_skip (hK _ _ ?_); clear hK K) | (refine wk_label (hK _ _ ?_); clear hK K) | refine wk_scope ?_ | refine wk_block ?_ | refine wk_cond_t rfl ?_ | refine wk_cond_f rfl ?_ | (refine wk_exit ?_; (repeat (refine blockK_other rfl ?_)); refine blockK_same ?_; try ((repeat ((fail_if_success (refine hK _ _ ?_)); clear hK K)); refine hK _ _ ?_; clear hK K)) | (refine a_bin ?_ ?_ <;> intro _ <;> try (exfalso; omega)) | refine a_ld hl ?_ | (refine a_st hl ?_; clear hl; intro _ hl) | refine a_ix (fun _ => ?_) | fail)
           refine wk_ret (retQ_tmp1 Tryd.results17 (by decide) rfl (by conv => lhs; whnf) ?_)
           exact ⟨by rw [hbad (.inl (factOk_nm hN))], hl.done⟩
         · by_cases hsn : f.name ∈ (F.take k).map (·.name)
           · rw [if_pos hsn] at hgk
             repeat' (first | refine a_mov ?_ | refine a_asg ?_ | refine a_binN ?_ | refine a_notd ?_ | refine a_notb ?_ | refine a_nilc ?_ | refine a_fa ?_ | refine a_ext ?_ | refine a_lenv ?_ | refine a_lens ?_ | refine a_pick_t ?_ | refine a_pick_f ?_ | refine a_not ?_ | refine a_nilf ?_ | (refine o_nil (hK _ _ ?_); clear hK K) | refine wk_reg ?_ | refine wk_seq fun K hK => ?_ | (refine wk_skip (hK _ _ ?_); clear hK K) | (refine wk_label (hK _ _ ?_); clear hK K) | refine wk_scope ?_ | refine wk_block ?_ | refine wk_cond_t rfl ?_ | refine wk_cond_f rfl ?_ | (refine wk_exit ?_; (repeat (refine blockK_other rfl ?_)); refine blockK_same ?_; try ((repeat ((fail_if_success (refine hK _ _ ?_)); clear hK K)); refine hK _ _ ?_; clear hK K)) | (refine a_bin ?_ ?_ <;> intro _ <;> try (exfalso; omega)) | refine a_ld hl ?_ | (refine a_st hl ?_; clear hl; intro _ hl) | refine a_ix (fun _ => ?_) | (refine o_lookup f.name hm (hl.get 1 rfl) keyName rfl rfl rfl rfl rfl ?_; rw [hgk]))
             refine wk_ret (retQ_tmp1 Tryd.results17 (by decide) rfl (by conv => lhs; whnf) ?_)
             exact ⟨by rw [hbad (.inr hsn)], hl.done⟩
           · rw [if_neg hsn] at hgk
             repeat' (first | refine a_mov ?_ | refine a_asg ?_ | refine a_binN ?_ | refine a_notd ?_ | refine a_notb ?_ | refine a_nilc ?_ | refine a_fa ?_ | refine a_ext ?_ | refine a_lenv ?_ | refine a_lens ?_ | refine a_pick_t ?_ | refine a_pick_f ?_ | refine a_not ?_ | refine a_nilf ?_ | (refine o_nil (hK _ _ ?_); clear hK K) | refine wk_reg ?_ | refine wk_seq fun K hK => ?_ | (refine wk_skip (hK _ _ ?_); clear hK K) | (refine wk_label (hK _ _ ?_); clear hK K) | refine wk_scope ?_ | refine wk_block ?_ | refine wk_cond_t rfl ?_ | refine wk_cond_f rfl ?_ | (refine wk_exit ?_; (repeat (refine blockK_other rfl ?_)); refine blockK_same ?_; try ((repeat ((fail_if_success (refine hK _ _ ?_)); clear hK K)); refine hK _ _ ?_; clear hK K)) | (refine a_bin ?_ ?_ <;> intro _ <;> try (exfalso; omega)) | refine a_ld hl ?_ | (refine a_st hl ?_; clear hl; intro _ hl) | refine a_ix (fun _ => ?_) | (refine o_lookup f.name hm (hl.get 1 rfl) keyName rfl rfl rfl rfl rfl ?_; rw [hgk]))
             refine o_mapUpdate f.name hl 1 rfl hm keyName rfl rfl rfl rfl rfl ?_
             clear hl
             intro w5 es' c' hm' hl
             repeat' (first | refine a_mov ?_ | refine a_asg ?_ | refine a_binN ?_ | refine a_notd ?_ | refine a_notb ?_ | refine a_nilc ?_ | refine a_fa ?_ | refine a_ext ?_ | refine a_lenv ?_ | refine a_lens ?_ | refine a_pick_t ?_ | refine a_pick_f ?_ | refine a_not ?_ | refine a_nilf ?_ | (refine o_nil (hK _ _ ?_); clear hK K) | refine wk_reg ?_ | refine wk_seq fun K hK => ?_ | (refine wk_skip (hK _ _ ?_); clear hK K) | (refine wk_label (hK _ _ ?_); clear hK K) | refine wk_scope ?_ | refine wk_block ?_ | refine wk_cond_t rfl ?_ | refine wk_cond_f rfl ?_ | (refine wk_exit ?_; (repeat (refine blockK_other rfl ?_)); refine blockK_same ?_; try ((repeat ((fail_if_success (refine hK _ _ ?_)); clear hK K)); refine hK _ _ ?_; clear hK K)) | (refine a_bin ?_ ?_ <;> intro _ <;> try (exfalso; omega)) | refine a_ld hl ?_ | (refine a_st hl ?_; clear hl; intro _ hl) | refine a_ix (fun _ => ?_) | fail)
             exact o_nil ⟨k + 1, ⟨rfl, rfl, rfl, rfl, rfl, trivial⟩, rfl, ⟨⟨hk1, hstep (factOk_yes (by omega) hN) hsn⟩, _, _, _, hm', hgets hget, hl.sub (List.sublist_cons_self _ _)⟩, by omega⟩)
  · have hke : k = F.length := by omega
    have hgood := valid_good (F := F) fun i hi => hok i hi (by omega)
    clear hok hget
    repeat' (first | refine a_mov ?_ | refine a_asg ?_ | refine a_binN ?_ | refine a_notd ?_ | refine a_notb ?_ | refine a_nilc ?_ | refine a_fa ?_ | refine a_ext ?_ | refine a_lenv ?_ | refine a_lens ?_ | refine a_pick_t ?_ | refine a_pick_f ?_ | refine a_not ?_ | refine a_nilf ?_ | (refine o_nil (hK _ _ ?_); clear hK K) | refine wk_reg ?_ | refine wk_seq fun K hK => ?_ | (refine wk_skip (hK _ _ ?_); clear hK K) | (refine wk_label (hK _ _ ?_); clear hK K) | refine wk_scope ?_ | refine wk_block ?_ | refine wk_cond_t rfl ?_ | refine wk_cond_f rfl ?_ | (refine wk_exit ?_; (repeat (refine blockK_other rfl ?_)); refine blockK_same ?_; try ((repeat ((fail_if_success (refine hK _ _ ?_)); clear hK K)); refine hK _ _ ?_; clear hK K)) | (refine a_bin ?_ ?_ <;> intro _ <;> try (exfalso; omega)) | refine a_ld hl ?_ | (refine a_st hl ?_; clear hl; intro _ hl) | refine a_ix (fun _ => ?_) | refine a_row (hl.rowL (vs := [.slice pa F.length ca]) 1 0 1 rfl) ?_)
    all_goals (refine wk_ret (retQ_tmp1 Tryd.results17 (by decide) rfl (by conv => lhs; whnf) ?_))
    all_goals refine ⟨?_, hl.done⟩
    all_goals rw [hgood]
    all_goals first | rfl | (rw [decide_eq_true]; omega) | (rw [decide_eq_false]; omega) | (congr 1; rw [decide_eq_decide]; omega)
end Go.Proofs

set_option linter.unusedVariables false
set_option linter.unusedSimpArgs false
set_option linter.unnecessarySimpa false
set_option maxRecDepth 10000
namespace Go.Fo
open Go.Lexs Go.Fin

theorem fitsC_iff : ∀ (F : List Fact) (c : List Int), fitsC F c = true ↔ c.length = F.length ∧ ∀ i (h : i < F.length) (h' : i < c.length), F[i].lo ≤ c[i] ∧ c[i] ≤ F[i].hi
  | [], [] => by simp [fitsC]
  | [], _ :: _ => by simp [fitsC]
  | _ :: _, [] => by simp [fitsC]
  | f :: F, z :: c => by
    simp only [fitsC, Bool.and_eq_true, decide_eq_true_eq, fitsC_iff F c, List.length_cons, Nat.add_right_cancel_iff]
    constructor
    · rintro ⟨⟨h1, h2⟩, h3, h4⟩
      refine ⟨h3, fun i h h' => ?_⟩
      cases i with
      | zero => exact ⟨h1, h2⟩
      | succ i => exact h4 i (by omega) (by omega)
    · rintro ⟨h1, h2⟩
      refine ⟨h2 0 (by omega) (by omega), h1, fun i h h' => h2 (i + 1) (by omega) (by omega)⟩

theorem fitsC_false {F : List Fact} {c : List Int} {i : Nat} (h : i < F.length) (h' : i < c.length) (hn : ¬ (F[i].lo ≤ c[i] ∧ c[i] ≤ F[i].hi)) : fitsC F c = false := by
  cases he : fitsC F c
  · rfl
  · exact absurd (((fitsC_iff F c).1 he).2 i h h') hn
theorem fitsC_len {F : List Fact} {c : List Int} (h : c.length ≠ F.length) : fitsC F c = false := by
  cases he : fitsC F c
  · rfl
  · exact absurd ((fitsC_iff F c).1 he).1 h
end Go.Fo

namespace Go.Proofs
open Go Go.Pd Go.Lexs Go.Fin Go.Fo
attribute [local irreducible] OpsL W RetQ OpsQ OpsC

def intL (z : Int) : List Value := [.int .i64 z]
theorem intL_len (z : Int) : (intL z).length = 1 := rfl
def intsL (c : List Int) : List Value := c.flatMap intL
theorem intsL_len (c : List Int) : (intsL c).length = c.length * 1 := flat_length intL_len c

theorem Sl.intAt {w : World} {a : Option Addr} {m n : Nat} {c : List Int} (hv : Sl w (.slice a m n) 1 (intsL c)) (hm : m = c.length) {k : Nat} (hk : k < c.length) : ∃ b o, a = some ⟨b, o, none⟩ ∧ Row w b (o + k * 1) [.int .i64 c[k]] := by
  subst hm
  obtain ⟨b, o, hp, hr⟩ := hv.at (intsL_len c) (by omega) (by omega)
  exact ⟨b, o, hp, hr.elem intL_len (k := k) (t := c[k]) (by simp)⟩

end Go.Proofs

set_option linter.unusedVariables false
set_option linter.unusedSimpArgs false
set_option linter.unnecessarySimpa false
set_option maxRecDepth 10000
namespace Go.Proofs
open Go Go.Pd Go.Lexs Go.Fin Go.Fo
attribute [local irreducible] OpsL W RetQ OpsQ OpsC

set_option maxHeartbeats 2000000 in
theorem fits_calls {F : List Fact} {c : List Int} {v cv : Value} {w : World} (hd : Sl w v 4 (factsL F)) (hv : Sl w cv 1 (intsL c)) (hF : F.length ≤ 9223372036854775806) (hC : c.length ≤ 9223372036854775806) (hn : ∀ f ∈ F, f.name.length ≤ 9223372036854775806) :
    Calls Tryd.prog 19 #[.agg #[v], cv] w (fun e w' => ∃ x, e = .returned x ∧ x = .bool (fitsB F c) ∧ Ext w w') := by
  obtain ⟨pa, ca, rfl, -⟩ := hd.shape (factsL_len F) (by omega)
  obtain ⟨pc, cc, rfl, -⟩ := hv.shape (intsL_len c) (by omega)
  have hfb : fitsB F c = (validD F && fitsC F c) := rfl
  refine calls_of Tryd.func19 rfl Tryd.ntmps19 rfl ?_
  refine wk_seq fun K hK => ?_
  refine wk_reg ?_
  refine o_box (LH.start w (fun _ => False)) [.slice pa F.length ca] rfl rfl rfl ?_
  intro b w1 hb hl
  repeat' (first | refine a_mov ?_ | refine a_asg ?_ | refine a_binN ?_ | refine a_notd ?_ | refine a_notb ?_ | refine a_nilc ?_ | refine a_fa ?_ | refine a_ext ?_ | refine a_lenv ?_ | refine a_lens ?_ | refine a_pick_t ?_ | refine a_pick_f ?_ | refine a_not ?_ | refine a_nilf ?_ | (refine o_nil (hK _ _ ?_); clear hK K) | refine wk_reg ?_ | refine wk_seq fun K hK => ?_ | (refine wk_skip (hK _ _ ?_); clear hK K) | (refine wk_label (hK _ _ ?_); clear hK K) | refine wk_scope ?_ | refine wk_block ?_ | refine wk_cond_t rfl ?_ | refine wk_cond_f rfl ?_ | (refine wk_exit ?_; (repeat (refine blockK_other rfl ?_)); refine blockK_same ?_; try ((repeat ((fail_if_success (refine hK _ _ ?_)); clear hK K)); refine hK _ _ ?_; clear hK K)) | (refine a_bin ?_ ?_ <;> intro _ <;> try (exfalso; omega)) | refine a_ld hl ?_ | (refine a_st hl ?_; clear hl; intro _ hl) | refine a_ix (fun _ => ?_) | refine a_all (hl.rowL (vs := [.slice pa F.length ca]) 0 0 1 rfl) ?_)
  refine a_fn (valid_calls (hd.ext hl.done) hF hn) ?_
  rintro _ w2 ⟨rfl, he2⟩
  replace hl := hl.ext he2
  have he := hl.done
  have hr0 : Row w2 b 0 [.slice pa F.length ca] := hl.rowL (vs := [.slice pa F.length ca]) 0 0 1 rfl
  have hd1 := hd.ext he
  have hv1 := hv.ext he
  clear hl hd hv he2
  cases hvd : validD F
  · repeat' (first | refine a_mov ?_ | refine a_asg ?_ | refine a_binN ?_ | refine a_notd ?_ | refine a_notb ?_ | refine a_nilc ?_ | refine a_fa ?_ | refine a_ext ?_ | refine a_lenv ?_ | refine a_lens ?_ | refine a_pick_t ?_ | refine a_pick_f ?_ | refine a_not ?_ | refine a_nilf ?_ | (refine o_nil (hK _ _ ?_); clear hK K) | refine wk_reg ?_ | refine wk_seq fun K hK => ?_ | (refine wk_skip (hK _ _ ?_); clear hK K) | (refine wk_label (hK _ _ ?_); clear hK K) | refine wk_scope ?_ | refine wk_block ?_ | refine wk_cond_t rfl ?_ | refine wk_cond_f rfl ?_ | (refine wk_exit ?_; (repeat (refine blockK_other rfl ?_)); refine blockK_same ?_; try ((repeat ((fail_if_success (refine hK _ _ ?_)); clear hK K)); refine hK _ _ ?_; clear hK K)) | (refine a_bin ?_ ?_ <;> intro _ <;> try (exfalso; omega)) | refine a_ld hl ?_ | (refine a_st hl ?_; clear hl; intro _ hl) | refine a_ix (fun _ => ?_) | fail)
    refine wk_ret (retQ_tmp1 Tryd.results19 (by decide) rfl (by conv => lhs; whnf) ?_)
    exact ⟨by rw [hfb, hvd]; rfl, he⟩
  repeat' (first | refine a_mov ?_ | refine a_asg ?_ | refine a_binN ?_ | refine a_notd ?_ | refine a_notb ?_ | refine a_nilc ?_ | refine a_fa ?_ | refine a_ext ?_ | refine a_lenv ?_ | refine a_lens ?_ | refine a_pick_t ?_ | refine a_pick_f ?_ | refine a_not ?_ | refine a_nilf ?_ | (refine o_nil (hK _ _ ?_); clear hK K) | refine wk_reg ?_ | refine wk_seq fun K hK => ?_ | (refine wk_skip (hK _ _ ?_); clear hK K) | (refine wk_label (hK _ _ ?_); clear hK K) | refine wk_scope ?_ | refine wk_block ?_ | refine wk_cond_t rfl ?_ | refine wk_cond_f rfl ?_ | (refine wk_exit ?_; (repeat (refine blockK_other rfl ?_)); refine blockK_same ?_; try ((repeat ((fail_if_success (refine hK _ _ ?_)); clear hK K)); refine hK _ _ ?_; clear hK K)) | (refine a_bin ?_ ?_ <;> intro _ <;> try (exfalso; omega)) | refine a_ld hl ?_ | (refine a_st hl ?_; clear hl; intro _ hl) | refine a_ix (fun _ => ?_) | refine a_row hr0 ?_)
  · refine wk_ret (retQ_tmp1 Tryd.results19 (by decide) rfl (by conv => lhs; whnf) ?_)
    exact ⟨by rw [hfb, fitsC_len (by omega), Bool.and_false], he⟩
  have hlen : c.length = F.length := by omega
  have hfb : fitsB F c = fitsC F c := by rw [hfb, hvd]; rfl
  refine wk_loopH [] rfl (fun k : Nat => [(1, .slice pc c.length cc), (19, .slice pa F.length ca), (20, .int .i64 (F.length : Int)), (21, .int .i64 (k : Int))]) (fun k w' => (k ≤ F.length ∧ ∀ i (h : i < F.length) (h' : i < c.length), i < k → F[i].lo ≤ c[i] ∧ c[i] ≤ F[i].hi) ∧ Ext w2 w') (fun k => F.length - k) 0 ⟨rfl, rfl, rfl, rfl, trivial⟩ ⟨⟨by omega, fun j _ _ h => by omega⟩, .refl _ _⟩ ?_
  rintro k t w3 ⟨⟨hk, hno⟩, hw⟩
  replace hr0 := hr0.ext hw
  replace hd1 := hd1.ext hw
  replace hv1 := hv1.ext hw
  replace he := he.trans hw
  by_cases hk1 : k < F.length
  · have hk2 : k < c.length := by omega
    obtain ⟨bf, of, hpf, hrf⟩ := Sl.fact hd1 rfl hk1
    obtain ⟨bc, oc, hpc, hrc⟩ := Sl.intAt hv1 rfl hk2
    have hbad := fitsC_false hk1 hk2
    have hgood : (F[k].lo ≤ c[k] ∧ c[k] ≤ F[k].hi) → ∀ i (h : i < F.length) (h' : i < c.length), i < k + 1 → F[i].lo ≤ c[i] ∧ c[i] ≤ F[i].hi := fun h i hi hi' hik => by
      by_cases e : i = k
      · subst e; exact h
      · exact hno i hi hi' (by omega)
    clear hno
    have hone := factL_one F[k]
    generalize F[k] = f at *
    generalize c[k] = z at *
    repeat' (first | refine a_mov ?_ | refine a_asg ?_ | refine a_binN ?_ | refine a_notd ?_ | refine a_notb ?_ | refine a_nilc ?_ | refine a_fa ?_ | refine a_ext ?_ | refine a_lenv ?_ | refine a_lens ?_ | refine a_pick_t ?_ | refine a_pick_f ?_ | refine a_not ?_ | refine a_nilf ?_ | (refine o_nil (hK _ _ ?_); clear hK K) | refine wk_reg ?_ | refine wk_seq fun K hK => ?_ | (refine wk_skip (hK _ _ ?_); clear hK K) | (refine wk_label (hK _ _ ?_); clear hK K) | refine wk_scope ?_ | refine wk_block ?_ | refine wk_cond_t rfl ?_ | refine wk_cond_f rfl ?_ | (refine wk_exit ?_; (repeat (refine blockK_other rfl ?_)); refine blockK_same ?_; try ((repeat ((fail_if_success (refine hK _ _ ?_)); clear hK K)); refine hK _ _ ?_; clear hK K)) | (refine a_bin ?_ ?_ <;> intro _ <;> try (exfalso; omega)) | refine a_ld hl ?_ | (refine a_st hl ?_; clear hl; intro _ hl) | refine a_ix (fun _ => ?_) | refine a_idx (c := 4) k hpf ?_ | refine a_all hrf ?_)
    refine o_alloc (LH.start w3 (fun _ => False)) [.string ⟨#[]⟩, .int .i64 0, .int .i64 0, .int .i64 0] rfl rfl ?_
    intro bg w4 hbg hl
    repeat' (first | refine a_mov ?_ | refine a_asg ?_ | refine a_binN ?_ | refine a_notd ?_ | refine a_notb ?_ | refine a_nilc ?_ | refine a_fa ?_ | refine a_ext ?_ | refine a_lenv ?_ | refine a_lens ?_ | refine a_pick_t ?_ | refine a_pick_f ?_ | refine a_not ?_ | refine a_nilf ?_ | (refine o_nil (hK _ _ ?_); clear hK K) | refine wk_reg ?_ | refine wk_seq fun K hK => ?_ | (refine wk_skip (hK _ _ ?_); clear hK K) | (refine wk_label (hK _ _ ?_); clear hK K) | refine wk_scope ?_ | refine wk_block ?_ | refine wk_cond_t rfl ?_ | refine wk_cond_f rfl ?_ | (refine wk_exit ?_; (repeat (refine blockK_other rfl ?_)); refine blockK_same ?_; try ((repeat ((fail_if_success (refine hK _ _ ?_)); clear hK K)); refine hK _ _ ?_; clear hK K)) | (refine a_bin ?_ ?_ <;> intro _ <;> try (exfalso; omega)) | refine a_ld hl ?_ | (refine a_st hl ?_; clear hl; intro _ hl) | refine a_ix (fun _ => ?_) | fail)
    refine o_putN (us := [str f.name, .int .i64 f.kind, .int .i64 f.lo, .int .i64 f.hi]) hl rfl rfl rfl hone rfl (.all rfl rfl) ?_
    clear hl
    intro w5 hl
    have hw5 := hl.done
    have hrg : Row w5 bg 0 [str f.name, .int .i64 f.kind, .int .i64 f.lo, .int .i64 f.hi] := hl.rowL (vs := [str f.name, .int .i64 f.kind, .int .i64 f.lo, .int .i64 f.hi]) 0 0 4 rfl
    replace hrc := hrc.ext hw5
    clear hl
    repeat' (first | refine a_mov ?_ | refine a_asg ?_ | refine a_binN ?_ | refine a_notd ?_ | refine a_notb ?_ | refine a_nilc ?_ | refine a_fa ?_ | refine a_ext ?_ | refine a_lenv ?_ | refine a_lens ?_ | refine a_pick_t ?_ | refine a_pick_f ?_ | refine a_not ?_ | refine a_nilf ?_ | (refine o_nil (hK _ _ ?_); clear hK K) | refine wk_reg ?_ | refine wk_seq fun K hK => ?_ | (refine wk_skip (hK _ _ ?_); clear hK K) | (refine wk_label (hK _ _ ?_); clear hK K) | refine wk_scope ?_ | refine wk_block ?_ | refine wk_cond_t rfl ?_ | refine wk_cond_f rfl ?_ | (refine wk_exit ?_; (repeat (refine blockK_other rfl ?_)); refine blockK_same ?_; try ((repeat ((fail_if_success (refine hK _ _ ?_)); clear hK K)); refine hK _ _ ?_; clear hK K)) | (refine a_bin ?_ ?_ <;> intro _ <;> try (exfalso; omega)) | refine a_ld hl ?_ | (refine a_st hl ?_; clear hl; intro _ hl) | refine a_ix (fun _ => ?_) | fail)
    by_cases hlo : z < f.lo
    · have hbad := hbad (by omega)
      refine wk_quiet [0, 1, 2, 3, 4, 5, 6, 7, 8, 9, 10, 11, 12, 13, 14, 15] ?_
      repeat' (first | refine q_mov ?_ | refine q_asg ?_ | refine q_fa ?_ | refine q_ext ?_ | refine q_binN ?_ | refine q_notd ?_ | refine q_notb ?_ | refine q_pick_t ?_ | refine q_pick_f ?_ | refine q_nilc ?_ | refine q_skip ?_ | refine q_lens ?_ | refine q_lenv ?_ | refine q_nil ?_ | refine q_ix (fun _ => ?_) | (refine q_bin ?_ ?_ <;> intro _ <;> try (exfalso; omega)) | refine q_idx (c := 1) k hpc ?_ | refine q_row (fun w_ hw_ => hrc.ext hw_) ?_ | refine q_row (fun w_ hw_ => hrg.ext hw_) ?_ | fail)
      intro wm hwm
      refine hK _ _ ?_
      clear hK K
      repeat' (first | refine a_mov ?_ | refine a_asg ?_ | refine a_binN ?_ | refine a_notd ?_ | refine a_notb ?_ | refine a_nilc ?_ | refine a_fa ?_ | refine a_ext ?_ | refine a_lenv ?_ | refine a_lens ?_ | refine a_pick_t ?_ | refine a_pick_f ?_ | refine a_not ?_ | refine a_nilf ?_ | (refine o_nil (hK _ _ ?_); clear hK K) | refine wk_reg ?_ | refine wk_seq fun K hK => ?_ | (refine wk_skip (hK _ _ ?_); clear hK K) | (refine wk_label (hK _ _ ?_); clear hK K) | refine wk_scope ?_ | refine wk_block ?_ | refine wk_cond_t rfl ?_ | refine wk_cond_f rfl ?_ | (refine wk_exit ?_; (repeat (refine blockK_other rfl ?_)); refine blockK_same ?_; try ((repeat ((fail_if_success (refine hK _ _ ?_)); clear hK K)); refine hK _ _ ?_; clear hK K)) | (refine a_bin ?_ ?_ <;> intro _ <;> try (exfalso; omega)) | refine a_ld hl ?_ | (refine a_st hl ?_; clear hl; intro _ hl) | refine a_ix (fun _ => ?_) | fail)
      refine wk_ret (retQ_tmp1 Tryd.results19 (by decide) rfl (by conv => lhs; whnf) ?_)
      exact ⟨by rw [hfb, hbad], (he.trans hw5).trans hwm⟩
    by_cases hhi : z > f.hi
    · have hbad := hbad (by omega)
      refine wk_quiet [0, 1, 2, 3, 4, 5, 6, 7, 8, 9, 10, 11, 12, 13, 14, 15] ?_
      repeat' (first | refine q_mov ?_ | refine q_asg ?_ | refine q_fa ?_ | refine q_ext ?_ | refine q_binN ?_ | refine q_notd ?_ | refine q_notb ?_ | refine q_pick_t ?_ | refine q_pick_f ?_ | refine q_nilc ?_ | refine q_skip ?_ | refine q_lens ?_ | refine q_lenv ?_ | refine q_nil ?_ | refine q_ix (fun _ => ?_) | (refine q_bin ?_ ?_ <;> intro _ <;> try (exfalso; omega)) | refine q_idx (c := 1) k hpc ?_ | refine q_row (fun w_ hw_ => hrc.ext hw_) ?_ | refine q_row (fun w_ hw_ => hrg.ext hw_) ?_ | fail)
      intro wm hwm
      refine hK _ _ ?_
      clear hK K
      repeat' (first | refine a_mov ?_ | refine a_asg ?_ | refine a_binN ?_ | refine a_notd ?_ | refine a_notb ?_ | refine a_nilc ?_ | refine a_fa ?_ | refine a_ext ?_ | refine a_lenv ?_ | refine a_lens ?_ | refine a_pick_t ?_ | refine a_pick_f ?_ | refine a_not ?_ | refine a_nilf ?_ | (refine o_nil (hK _ _ ?_); clear hK K) | refine wk_reg ?_ | refine wk_seq fun K hK => ?_ | (refine wk_skip (hK _ _ ?_); clear hK K) | (refine wk_label (hK _ _ ?_); clear hK K) | refine wk_scope ?_ | refine wk_block ?_ | refine wk_cond_t rfl ?_ | refine wk_cond_f rfl ?_ | (refine wk_exit ?_; (repeat (refine blockK_other rfl ?_)); refine blockK_same ?_; try ((repeat ((fail_if_success (refine hK _ _ ?_)); clear hK K)); refine hK _ _ ?_; clear hK K)) | (refine a_bin ?_ ?_ <;> intro _ <;> try (exfalso; omega)) | refine a_ld hl ?_ | (refine a_st hl ?_; clear hl; intro _ hl) | refine a_ix (fun _ => ?_) | fail)
      refine wk_ret (retQ_tmp1 Tryd.results19 (by decide) rfl (by conv => lhs; whnf) ?_)
      exact ⟨by rw [hfb, hbad], (he.trans hw5).trans hwm⟩
    · refine wk_quiet [0, 1, 2, 3, 4, 5, 6, 7, 8, 9, 10, 11, 12, 13, 14, 15] ?_
      repeat' (first | refine q_mov ?_ | refine q_asg ?_ | refine q_fa ?_ | refine q_ext ?_ | refine q_binN ?_ | refine q_notd ?_ | refine q_notb ?_ | refine q_pick_t ?_ | refine q_pick_f ?_ | refine q_nilc ?_ | refine q_skip ?_ | refine q_lens ?_ | refine q_lenv ?_ | refine q_nil ?_ | refine q_ix (fun _ => ?_) | (refine q_bin ?_ ?_ <;> intro _ <;> try (exfalso; omega)) | refine q_idx (c := 1) k hpc ?_ | refine q_row (fun w_ hw_ => hrc.ext hw_) ?_ | refine q_row (fun w_ hw_ => hrg.ext hw_) ?_ | fail)
      intro wm hwm
      refine hK _ _ ?_
      clear hK K
      repeat' (first | refine a_mov ?_ | refine a_asg ?_ | refine a_binN ?_ | refine a_notd ?_ | refine a_notb ?_ | refine a_nilc ?_ | refine a_fa ?_ | refine a_ext ?_ | refine a_lenv ?_ | refine a_lens ?_ | refine a_pick_t ?_ | refine a_pick_f ?_ | refine a_not ?_ | refine a_nilf ?_ | (refine o_nil (hK _ _ ?_); clear hK K) | refine wk_reg ?_ | refine wk_seq fun K hK => ?_ | (refine wk_skip (hK _ _ ?_); clear hK K) | (refine wk_label (hK _ _ ?_); clear hK K) | refine wk_scope ?_ | refine wk_block ?_ | refine wk_cond_t rfl ?_ | refine wk_cond_f rfl ?_ | (refine wk_exit ?_; (repeat (refine blockK_other rfl ?_)); refine blockK_same ?_; try ((repeat ((fail_if_success (refine hK _ _ ?_)); clear hK K)); refine hK _ _ ?_; clear hK K)) | (refine a_bin ?_ ?_ <;> intro _ <;> try (exfalso; omega)) | refine a_ld hl ?_ | (refine a_st hl ?_; clear hl; intro _ hl) | refine a_ix (fun _ => ?_) | fail)
      exact o_nil ⟨k + 1, ⟨rfl, rfl, rfl, rfl, trivial⟩, rfl, ⟨⟨hk1, hgood (by omega)⟩, (hw.trans hw5).trans hwm⟩, by omega⟩
  · have hall := (fitsC_iff F c).2 ⟨hlen, fun i h h' => hno i h h' (by omega)⟩
    clear hno
    repeat' (first | refine a_mov ?_ | refine a_asg ?_ | refine a_binN ?_ | refine a_notd ?_ | refine a_notb ?_ | refine a_nilc ?_ | refine a_fa ?_ | refine a_ext ?_ | refine a_lenv ?_ | refine a_lens ?_ | refine a_pick_t ?_ | refine a_pick_f ?_ | refine a_not ?_ | refine a_nilf ?_ | (refine o_nil (hK _ _ ?_); clear hK K) | refine wk_reg ?_ | refine wk_seq fun K hK => ?_ | (refine wk_skip (hK _ _ ?_); clear hK K) | (refine wk_label (hK _ _ ?_); clear hK K) | refine wk_scope ?_ | refine wk_block ?_ | refine wk_cond_t rfl ?_ | refine wk_cond_f rfl ?_ | (refine wk_exit ?_; (repeat (refine blockK_other rfl ?_)); refine blockK_same ?_; try ((repeat ((fail_if_success (refine hK _ _ ?_)); clear hK K)); refine hK _ _ ?_; clear hK K)) | (refine a_bin ?_ ?_ <;> intro _ <;> try (exfalso; omega)) | refine a_ld hl ?_ | (refine a_st hl ?_; clear hl; intro _ hl) | refine a_ix (fun _ => ?_) | fail)
    refine wk_ret (retQ_tmp1 Tryd.results19 (by decide) rfl (by conv => lhs; whnf) ?_)
    exact ⟨by rw [hfb, hall], he⟩
end Go.Proofs
