/-
  Rulings: the reference's Count, comparing rulings.
-/
import Derived.Test.YtbfehpiahmodlaaQf
import Derived.Test.YtbfehpiahmodlaaQg
set_option linter.unusedVariables false
set_option linter.unusedSimpArgs false
set_option linter.unnecessarySimpa false
set_option maxRecDepth 10000
namespace Go.Rul
open Go.Lexs Go.Fin Go.Fo
theorem finalB_take {l : List Rul} {known : Int} {s : List UInt8} {i : Nat} (hi : i < l.length) : finalB (l.take (i + 1)) known s = (finalB (l.take i) known s || (decide (l[i].id = s) && (l[i].fin && decide (l[i].known ≤ known)))) := by
  unfold finalB
  rw [List.take_succ_eq_append_getElem hi, List.any_append]; simp
theorem finalB_yes {l : List Rul} {known : Int} {s : List UInt8} {r : Rul} (hm : r ∈ l) (h1 : r.id = s) (h2 : r.fin = true) (h3 : r.known ≤ known) : finalB l known s = true := by
  unfold finalB
  rw [List.any_eq_true]
  exact ⟨r, hm, by rw [decide_eq_true h1, h2, decide_eq_true h3]; rfl⟩
theorem rul_dec (a b : Rul) : a = b ↔ a.id = b.id ∧ a.tgt = b.tgt ∧ a.kind = b.kind ∧ a.fro = b.fro ∧ a.til = b.til ∧ a.read = b.read ∧ a.known = b.known ∧ a.fin = b.fin ∧ a.lifts = b.lifts := by
  cases a; cases b; rw [Rul.mk.injEq]
end Go.Rul

namespace Go.Proofs
open Go Go.Pd Go.Lexs Go.Fin Go.Fo
attribute [local irreducible] OpsL W RetQ OpsQ OpsC

/-! ### Final ones -/
set_option maxHeartbeats 2000000 in
theorem refFinal_calls (l : List Rul.Rul) (v : Value) (s : List UInt8) (known : Int) (w : World) (hL : RulsAt w l v) (hlen : l.length ≤ 1000000) :
    Calls Try.prog 50 #[v, str s, .int .i64 known] w (fun e w' => ∃ x, e = .returned x ∧ x = .bool (Rul.finalB l known s) ∧ w' = w) := by
  obtain ⟨pa, ca, rfl, -⟩ := hL.shape
  refine calls_of Try.func50 rfl Try.ntmps50 rfl ?_
  repeat' (first | refine a_mov ?_ | refine a_asg ?_ | refine a_binN ?_ | refine a_notd ?_ | refine a_notb ?_ | refine a_nilc ?_ | refine a_fa ?_ | refine a_ext ?_ | refine a_lenv ?_ | refine a_lens ?_ | refine a_pick_t ?_ | refine a_pick_f ?_ | refine a_not ?_ | refine a_nilf ?_ | (refine o_nil (hK _ _ ?_); clear hK K) | refine wk_reg ?_ | refine wk_seq fun K hK => ?_ | (refine wk_skip (hK _ _ ?_); clear hK K) | (refine wk_label (hK _ _ ?_); clear hK K) | refine wk_scope ?_ | refine wk_block ?_ | refine wk_cond_t rfl ?_ | refine wk_cond_f rfl ?_ | (refine wk_exit ?_; (repeat (refine blockK_other rfl ?_)); refine blockK_same ?_; try ((repeat ((fail_if_success (refine hK _ _ ?_)); clear hK K)); refine hK _ _ ?_; clear hK K)) | (refine a_bin ?_ ?_ <;> intro _ <;> try (exfalso; omega)) | refine a_ld hl ?_ | (refine a_st hl ?_; clear hl; intro _ hl) | refine a_ix (fun _ => ?_) | fail)
  refine wk_loopH [] rfl (fun k : Nat => [(0, .slice pa l.length ca), (1, str s), (2, .int .i64 known), (7, .int .i64 (k : Int))]) (fun k w' => (k ≤ l.length ∧ Rul.finalB (l.take k) known s = false) ∧ w' = w) (fun k => l.length - k) 0 ⟨rfl, rfl, rfl, rfl, trivial⟩ ⟨⟨by omega, rfl⟩, rfl⟩ ?_
  rintro k t w1 ⟨⟨hk, hno⟩, hw⟩
  obtain rfl := hw.symm
  by_cases hk1 : k < l.length
  · obtain ⟨b, o, kv, hp, hr, hkk⟩ := hL.at hk1
    have hst := Rul.finalB_take (known := known) (s := s) hk1
    rw [hno, Bool.false_or] at hst
    have hyes := Rul.finalB_yes (known := known) (s := s) (List.getElem_mem hk1)
    generalize l[k] = r at *
    have r0 : Row w b (o + k * 13) [str r.id] := fun i v hv => hr i v (by cases i with | zero => exact hv | succ i => simp at hv)
    have r10 : Row w b (o + k * 13 + 10) [.int .i64 r.known, .bool r.fin] := Row.sub5 hr rfl
    by_cases h1 : r.id = s
    · rw [decide_eq_true h1, Bool.true_and] at hst
      cases hf : r.fin
      · rw [hf, Bool.false_and] at hst
        rw [hf] at r10
        repeat' (first | refine a_mov ?_ | refine a_asg ?_ | refine a_binN ?_ | refine a_notd ?_ | refine a_notb ?_ | refine a_nilc ?_ | refine a_fa ?_ | refine a_ext ?_ | refine a_lenv ?_ | refine a_lens ?_ | refine a_pick_t ?_ | refine a_pick_f ?_ | refine a_not ?_ | refine a_nilf ?_ | (refine o_nil (hK _ _ ?_); clear hK K) | refine wk_reg ?_ | refine wk_seq fun K hK => ?_ | (refine wk_skip (hK _ _ ?_); clear hK K) | (refine wk_label (hK _ _ ?_); clear hK K) | refine wk_scope ?_ | refine wk_block ?_ | refine wk_cond_t rfl ?_ | refine wk_cond_f rfl ?_ | (refine wk_exit ?_; (repeat (refine blockK_other rfl ?_)); refine blockK_same ?_; try ((repeat ((fail_if_success (refine hK _ _ ?_)); clear hK K)); refine hK _ _ ?_; clear hK K)) | (refine a_bin ?_ ?_ <;> intro _ <;> try (exfalso; omega)) | refine a_ld hl ?_ | (refine a_st hl ?_; clear hl; intro _ hl) | refine a_ix (fun _ => ?_) | refine a_idx (c := 13) k hp ?_ | refine a_row r0 ?_ | refine a_row r10 ?_ | refine o_eqsT (a := r.id) (b := s) rfl rfl rfl ?_ ?_ <;> intro h2)
        · exact o_nil ⟨k + 1, ⟨rfl, rfl, rfl, rfl, trivial⟩, rfl, ⟨⟨hk1, hst⟩, rfl⟩, by omega⟩
        · exact absurd h1 h2
      · rw [hf, Bool.true_and] at hst
        rw [hf] at r10
        repeat' (first | refine a_mov ?_ | refine a_asg ?_ | refine a_binN ?_ | refine a_notd ?_ | refine a_notb ?_ | refine a_nilc ?_ | refine a_fa ?_ | refine a_ext ?_ | refine a_lenv ?_ | refine a_lens ?_ | refine a_pick_t ?_ | refine a_pick_f ?_ | refine a_not ?_ | refine a_nilf ?_ | (refine o_nil (hK _ _ ?_); clear hK K) | refine wk_reg ?_ | refine wk_seq fun K hK => ?_ | (refine wk_skip (hK _ _ ?_); clear hK K) | (refine wk_label (hK _ _ ?_); clear hK K) | refine wk_scope ?_ | refine wk_block ?_ | refine wk_cond_t rfl ?_ | refine wk_cond_f rfl ?_ | (refine wk_exit ?_; (repeat (refine blockK_other rfl ?_)); refine blockK_same ?_; try ((repeat ((fail_if_success (refine hK _ _ ?_)); clear hK K)); refine hK _ _ ?_; clear hK K)) | (refine a_bin ?_ ?_ <;> intro _ <;> try (exfalso; omega)) | refine a_ld hl ?_ | (refine a_st hl ?_; clear hl; intro _ hl) | refine a_ix (fun _ => ?_) | refine a_idx (c := 13) k hp ?_ | refine a_row r0 ?_ | refine a_row r10 ?_ | refine o_eqsT (a := r.id) (b := s) rfl rfl rfl ?_ ?_ <;> intro h2)
        · refine wk_ret (retQ_tmp1 Try.results50 (by decide) rfl (by conv => lhs; whnf) ?_)
          exact ⟨by rw [hyes h1 hf (by omega)], rfl⟩
        · rw [decide_eq_false (by omega)] at hst
          exact o_nil ⟨k + 1, ⟨rfl, rfl, rfl, rfl, trivial⟩, rfl, ⟨⟨hk1, hst⟩, rfl⟩, by omega⟩
        · exact absurd h1 h2
    · rw [decide_eq_false h1, Bool.false_and] at hst
      repeat' (first | refine a_mov ?_ | refine a_asg ?_ | refine a_binN ?_ | refine a_notd ?_ | refine a_notb ?_ | refine a_nilc ?_ | refine a_fa ?_ | refine a_ext ?_ | refine a_lenv ?_ | refine a_lens ?_ | refine a_pick_t ?_ | refine a_pick_f ?_ | refine a_not ?_ | refine a_nilf ?_ | (refine o_nil (hK _ _ ?_); clear hK K) | refine wk_reg ?_ | refine wk_seq fun K hK => ?_ | (refine wk_skip (hK _ _ ?_); clear hK K) | (refine wk_label (hK _ _ ?_); clear hK K) | refine wk_scope ?_ | refine wk_block ?_ | refine wk_cond_t rfl ?_ | refine wk_cond_f rfl ?_ | (refine wk_exit ?_; (repeat (refine blockK_other rfl ?_)); refine blockK_same ?_; try ((repeat ((fail_if_success (refine hK _ _ ?_)); clear hK K)); refine hK _ _ ?_; clear hK K)) | (refine a_bin ?_ ?_ <;> intro _ <;> try (exfalso; omega)) | refine a_ld hl ?_ | (refine a_st hl ?_; clear hl; intro _ hl) | refine a_ix (fun _ => ?_) | refine a_idx (c := 13) k hp ?_ | refine a_row r0 ?_ | refine a_row r10 ?_ | refine o_eqsT (a := r.id) (b := s) rfl rfl rfl ?_ ?_ <;> intro h2)
      · exact absurd h2 h1
      · exact o_nil ⟨k + 1, ⟨rfl, rfl, rfl, rfl, trivial⟩, rfl, ⟨⟨hk1, hst⟩, rfl⟩, by omega⟩
  · rw [List.take_of_length_le (by omega)] at hno
    repeat' (first | refine a_mov ?_ | refine a_asg ?_ | refine a_binN ?_ | refine a_notd ?_ | refine a_notb ?_ | refine a_nilc ?_ | refine a_fa ?_ | refine a_ext ?_ | refine a_lenv ?_ | refine a_lens ?_ | refine a_pick_t ?_ | refine a_pick_f ?_ | refine a_not ?_ | refine a_nilf ?_ | (refine o_nil (hK _ _ ?_); clear hK K) | refine wk_reg ?_ | refine wk_seq fun K hK => ?_ | (refine wk_skip (hK _ _ ?_); clear hK K) | (refine wk_label (hK _ _ ?_); clear hK K) | refine wk_scope ?_ | refine wk_block ?_ | refine wk_cond_t rfl ?_ | refine wk_cond_f rfl ?_ | (refine wk_exit ?_; (repeat (refine blockK_other rfl ?_)); refine blockK_same ?_; try ((repeat ((fail_if_success (refine hK _ _ ?_)); clear hK K)); refine hK _ _ ?_; clear hK K)) | (refine a_bin ?_ ?_ <;> intro _ <;> try (exfalso; omega)) | refine a_ld hl ?_ | (refine a_st hl ?_; clear hl; intro _ hl) | refine a_ix (fun _ => ?_) | fail)
    refine wk_ret (retQ_tmp1 Try.results50 (by decide) rfl (by conv => lhs; whnf) ?_)
    exact ⟨by rw [hno], rfl⟩

/-! ### Which ones count -/
set_option maxHeartbeats 4000000 in
theorem refCounts_calls (l : List Rul.Rul) (v : Value) (known : Int) (hlen : l.length ≤ 1000000) : ∀ (m i : Nat) (w : World), l.length - i = m → i < l.length → RulsAt w l v →
    Calls Try.prog 34 #[v, .int .i64 (i : Int), .int .i64 known] w (fun e w' => ∃ x, e = .returned x ∧ x = .bool (Rul.counted (Rul.finalB l known) known (l.drop i)) ∧ Ext w w') := by
  intro m
  induction m using Nat.strongRecOn with
  | _ m ih =>
  intro i w him hi hL
  have hcr := Rul.counted_ref (known := known) hi
  obtain ⟨pa, ca, rfl, -⟩ := hL.shape
  obtain ⟨b, o, kv, hp, hr, hkk⟩ := hL.at hi
  have hgen : ∃ r, r = l[i] := ⟨_, rfl⟩
  obtain ⟨r, hrr⟩ := hgen
  rw [← hrr] at hcr hr hkk
  have r0 : Row w b (o + i * 13) [str r.id, str r.tgt, .int .i64 r.kind] := fun k v hv => hr k v (by match k, hv with | 0, hv => exact hv | 1, hv => exact hv | 2, hv => exact hv)
  have r10 : Row w b (o + i * 13 + 10) [.int .i64 r.known, .bool r.fin, str r.lifts] := Row.sub5 hr rfl
  refine calls_of Try.func34 rfl Try.ntmps34 rfl ?_
  have cut : ∀ (h1 : ¬ known < r.known) (h2 : ¬ (r.kind = 6 ∧ Rul.finalB l known r.lifts = true)), Rul.counted (Rul.finalB l known) known (l.drop i) = (r.fin || decide (∀ (j : Nat) (hj : j < l.length), i < j → l[j].kind = 6 → l[j].lifts = r.id → Rul.counted (Rul.finalB l known) known (l.drop j) = false)) := fun h1 h2 => by
    rw [hcr, Bool.eq_iff_iff, Bool.or_eq_true, decide_eq_true_eq, decide_eq_true_eq]
    exact ⟨fun h => h.2.2, fun h => ⟨h1, h2, h⟩⟩
  by_cases hkn : known < r.known
  · have ho : Rul.counted (Rul.finalB l known) known (l.drop i) = false := by rw [hcr, decide_eq_false (fun h => h.1 hkn)]
    repeat' (first | refine a_mov ?_ | refine a_asg ?_ | refine a_binN ?_ | refine a_notd ?_ | refine a_notb ?_ | refine a_nilc ?_ | refine a_fa ?_ | refine a_ext ?_ | refine a_lenv ?_ | refine a_lens ?_ | refine a_pick_t ?_ | refine a_pick_f ?_ | refine a_not ?_ | refine a_nilf ?_ | (refine o_nil (hK _ _ ?_); clear hK K) | refine wk_reg ?_ | refine wk_seq fun K hK => ?_ | (refine wk_skip (hK _ _ ?_); clear hK K) | (refine wk_label (hK _ _ ?_); clear hK K) | refine wk_scope ?_ | refine wk_block ?_ | refine wk_cond_t rfl ?_ | refine wk_cond_f rfl ?_ | (refine wk_exit ?_; (repeat (refine blockK_other rfl ?_)); refine blockK_same ?_; try ((repeat ((fail_if_success (refine hK _ _ ?_)); clear hK K)); refine hK _ _ ?_; clear hK K)) | (refine a_bin ?_ ?_ <;> intro _ <;> try (exfalso; omega)) | refine a_ld hl ?_ | (refine a_st hl ?_; clear hl; intro _ hl) | refine a_ix (fun _ => ?_) | refine a_idx (c := 13) i hp ?_ | refine a_row r0 ?_ | refine a_row r10 ?_)
    refine wk_ret (retQ_tmp1 Try.results34 (by decide) rfl (by conv => lhs; whnf) ?_)
    exact ⟨by rw [ho], .refl _ _⟩
  refine wk_seq fun K hK => ?_
  refine wk_reg ?_
  repeat' (first | refine a_mov ?_ | refine a_asg ?_ | refine a_binN ?_ | refine a_notd ?_ | refine a_notb ?_ | refine a_nilc ?_ | refine a_fa ?_ | refine a_ext ?_ | refine a_lenv ?_ | refine a_lens ?_ | refine a_pick_t ?_ | refine a_pick_f ?_ | refine a_not ?_ | refine a_nilf ?_ | (refine a_bin ?_ ?_ <;> intro _ <;> try (exfalso; omega)) | refine a_ld hl ?_ | (refine a_st hl ?_; clear hl; intro _ hl) | refine a_ix (fun _ => ?_) | fail)
  (refine o_nil (hK _ _ ?_); clear hK K; refine wk_seq fun K hK => ?_)
  refine wk_cut (α := Unit) [] (fun _ => [(0, .slice pa l.length ca), (1, .int .i64 (i : Int)), (2, .int .i64 known)]) (fun _ w' => w' = w ∧ ¬ (r.kind = 6 ∧ Rul.finalB l known r.lifts = true)) ?_ ?_
  · by_cases h6 : r.kind = 6
    · repeat' (first | refine a_mov ?_ | refine a_asg ?_ | refine a_binN ?_ | refine a_notd ?_ | refine a_notb ?_ | refine a_nilc ?_ | refine a_fa ?_ | refine a_ext ?_ | refine a_lenv ?_ | refine a_lens ?_ | refine a_pick_t ?_ | refine a_pick_f ?_ | refine a_not ?_ | refine a_nilf ?_ | (refine o_nil (hK _ _ ?_); clear hK K) | refine wk_reg ?_ | refine wk_seq fun K hK => ?_ | (refine wk_skip (hK _ _ ?_); clear hK K) | (refine wk_label (hK _ _ ?_); clear hK K) | refine wk_scope ?_ | refine wk_block ?_ | refine wk_cond_t rfl ?_ | refine wk_cond_f rfl ?_ | (refine wk_exit ?_; (repeat (refine blockK_other rfl ?_)); refine blockK_same ?_; try ((repeat ((fail_if_success (refine hK _ _ ?_)); clear hK K)); refine hK _ _ ?_; clear hK K)) | (refine a_bin ?_ ?_ <;> intro _ <;> try (exfalso; omega)) | refine a_ld hl ?_ | (refine a_st hl ?_; clear hl; intro _ hl) | refine a_ix (fun _ => ?_) | refine a_idx (c := 13) i hp ?_ | refine a_row r0 ?_ | refine a_row r10 ?_)
      refine a_fn (refFinal_calls l _ r.lifts known w hL hlen) ?_
      rintro _ w1 ⟨rfl, hw⟩
      obtain rfl := hw.symm
      cases hfl : Rul.finalB l known r.lifts
      · repeat' (first | refine a_mov ?_ | refine a_asg ?_ | refine a_binN ?_ | refine a_notd ?_ | refine a_notb ?_ | refine a_nilc ?_ | refine a_fa ?_ | refine a_ext ?_ | refine a_lenv ?_ | refine a_lens ?_ | refine a_pick_t ?_ | refine a_pick_f ?_ | refine a_not ?_ | refine a_nilf ?_ | (refine o_nil (hK _ _ ?_); clear hK K) | refine wk_reg ?_ | refine wk_seq fun K hK => ?_ | (refine wk_skip (hK _ _ ?_); clear hK K) | (refine wk_label (hK _ _ ?_); clear hK K) | refine wk_scope ?_ | refine wk_block ?_ | refine wk_cond_t rfl ?_ | refine wk_cond_f rfl ?_ | (refine wk_exit ?_; (repeat (refine blockK_other rfl ?_)); refine blockK_same ?_; try ((repeat ((fail_if_success (refine hK _ _ ?_)); clear hK K)); refine hK _ _ ?_; clear hK K)) | (refine a_bin ?_ ?_ <;> intro _ <;> try (exfalso; omega)) | refine a_ld hl ?_ | (refine a_st hl ?_; clear hl; intro _ hl) | refine a_ix (fun _ => ?_) | fail)
        exact wk_skip ⟨(), ⟨rfl, rfl, rfl, trivial⟩, rfl, rfl, fun h => by rw [hfl] at h; cases h.2⟩
      · have ho : Rul.counted (Rul.finalB l known) known (l.drop i) = false := by rw [hcr, decide_eq_false (fun h => h.2.1 ⟨h6, hfl⟩)]
        repeat' (first | refine a_mov ?_ | refine a_asg ?_ | refine a_binN ?_ | refine a_notd ?_ | refine a_notb ?_ | refine a_nilc ?_ | refine a_fa ?_ | refine a_ext ?_ | refine a_lenv ?_ | refine a_lens ?_ | refine a_pick_t ?_ | refine a_pick_f ?_ | refine a_not ?_ | refine a_nilf ?_ | (refine o_nil (hK _ _ ?_); clear hK K) | refine wk_reg ?_ | refine wk_seq fun K hK => ?_ | (refine wk_skip (hK _ _ ?_); clear hK K) | (refine wk_label (hK _ _ ?_); clear hK K) | refine wk_scope ?_ | refine wk_block ?_ | refine wk_cond_t rfl ?_ | refine wk_cond_f rfl ?_ | (refine wk_exit ?_; (repeat (refine blockK_other rfl ?_)); refine blockK_same ?_; try ((repeat ((fail_if_success (refine hK _ _ ?_)); clear hK K)); refine hK _ _ ?_; clear hK K)) | (refine a_bin ?_ ?_ <;> intro _ <;> try (exfalso; omega)) | refine a_ld hl ?_ | (refine a_st hl ?_; clear hl; intro _ hl) | refine a_ix (fun _ => ?_) | fail)
        refine wk_ret (retQ_tmp1 Try.results34 (by decide) rfl (by conv => lhs; whnf) ?_)
        exact ⟨by rw [ho], .refl _ _⟩
    · repeat' (first | refine a_mov ?_ | refine a_asg ?_ | refine a_binN ?_ | refine a_notd ?_ | refine a_notb ?_ | refine a_nilc ?_ | refine a_fa ?_ | refine a_ext ?_ | refine a_lenv ?_ | refine a_lens ?_ | refine a_pick_t ?_ | refine a_pick_f ?_ | refine a_not ?_ | refine a_nilf ?_ | (refine o_nil (hK _ _ ?_); clear hK K) | refine wk_reg ?_ | refine wk_seq fun K hK => ?_ | (refine wk_skip (hK _ _ ?_); clear hK K) | (refine wk_label (hK _ _ ?_); clear hK K) | refine wk_scope ?_ | refine wk_block ?_ | refine wk_cond_t rfl ?_ | refine wk_cond_f rfl ?_ | (refine wk_exit ?_; (repeat (refine blockK_other rfl ?_)); refine blockK_same ?_; try ((repeat ((fail_if_success (refine hK _ _ ?_)); clear hK K)); refine hK _ _ ?_; clear hK K)) | (refine a_bin ?_ ?_ <;> intro _ <;> try (exfalso; omega)) | refine a_ld hl ?_ | (refine a_st hl ?_; clear hl; intro _ hl) | refine a_ix (fun _ => ?_) | refine a_idx (c := 13) i hp ?_ | refine a_row r0 ?_ | refine a_row r10 ?_)
      exact wk_skip ⟨(), ⟨rfl, rfl, rfl, trivial⟩, rfl, rfl, fun h => h6 h.1⟩
  rintro - t w1 ⟨hw, hnf⟩
  obtain rfl := hw.symm
  refine hK _ _ ?_
  clear hK K
  have hcut := cut hkn hnf
  clear cut hcr hnf
  cases hfin : r.fin
  · rw [hfin, Bool.false_or] at hcut
    rw [hfin] at r10
    repeat' (first | refine a_mov ?_ | refine a_asg ?_ | refine a_binN ?_ | refine a_notd ?_ | refine a_notb ?_ | refine a_nilc ?_ | refine a_fa ?_ | refine a_ext ?_ | refine a_lenv ?_ | refine a_lens ?_ | refine a_pick_t ?_ | refine a_pick_f ?_ | refine a_not ?_ | refine a_nilf ?_ | (refine o_nil (hK _ _ ?_); clear hK K) | refine wk_reg ?_ | refine wk_seq fun K hK => ?_ | (refine wk_skip (hK _ _ ?_); clear hK K) | (refine wk_label (hK _ _ ?_); clear hK K) | refine wk_scope ?_ | refine wk_block ?_ | refine wk_cond_t rfl ?_ | refine wk_cond_f rfl ?_ | (refine wk_exit ?_; (repeat (refine blockK_other rfl ?_)); refine blockK_same ?_; try ((repeat ((fail_if_success (refine hK _ _ ?_)); clear hK K)); refine hK _ _ ?_; clear hK K)) | (refine a_bin ?_ ?_ <;> intro _ <;> try (exfalso; omega)) | refine a_ld hl ?_ | (refine a_st hl ?_; clear hl; intro _ hl) | refine a_ix (fun _ => ?_) | fail)
    refine wk_loopH [] rfl (fun k : Nat => [(0, .slice pa l.length ca), (1, .int .i64 (i : Int)), (2, .int .i64 known), (7, .int .i64 (k : Int))]) (fun k w' => (i < k ∧ k ≤ l.length ∧ ∀ (j : Nat) (hj : j < l.length), i < j → j < k → l[j].kind = 6 → l[j].lifts = r.id → Rul.counted (Rul.finalB l known) known (l.drop j) = false) ∧ Ext w w') (fun k => l.length - k) (i + 1) ⟨rfl, rfl, rfl, rfl, trivial⟩ ⟨⟨by omega, by omega, fun j hj h1 h2 => by omega⟩, .refl _ _⟩ ?_
    rintro k t w1 ⟨⟨hik, hk, hpre⟩, he⟩
    replace r0 := r0.ext he
    replace r10 := r10.ext he
    by_cases hk1 : k < l.length
    · obtain ⟨bk, ok, kvk, hpk, hrk, -⟩ := (hL.ext he).at hk1
      have hih := fun w' (hw' : Ext w1 w') => ih (l.length - k) (by omega) k w' rfl hk1 ((hL.ext he).ext hw')
      have hgo : (l[k].kind = 6 → l[k].lifts = r.id → Rul.counted (Rul.finalB l known) known (l.drop k) = false) → ∀ (j : Nat) (hj : j < l.length), i < j → j < k + 1 → l[j].kind = 6 → l[j].lifts = r.id → Rul.counted (Rul.finalB l known) known (l.drop j) = false := fun h j hj h1 h2 => by
        by_cases e : j = k
        · subst e; exact h
        · exact hpre j hj h1 (by omega)
      have hstop : l[k].kind = 6 → l[k].lifts = r.id → Rul.counted (Rul.finalB l known) known (l.drop k) = true → Rul.counted (Rul.finalB l known) known (l.drop i) = false := fun h1 h2 h3 => by
        rw [hcut, decide_eq_false]
        intro h
        rw [h k hk1 hik h1 h2] at h3; cases h3
      clear hpre hcut
      generalize l[k] = y at *
      have y0 : Row w1 bk (ok + k * 13) [str y.id, str y.tgt, .int .i64 y.kind] := fun k v hv => hrk k v (by match k, hv with | 0, hv => exact hv | 1, hv => exact hv | 2, hv => exact hv)
      have y12 : Row w1 bk (ok + k * 13 + 12) [str y.lifts] := Row.sub5 hrk rfl
      by_cases h6 : y.kind = 6
      · by_cases h7 : y.lifts = r.id
        · cases hck : Rul.counted (Rul.finalB l known) known (l.drop k)
          all_goals simp only [hck] at hih
          all_goals repeat' (first | refine a_mov ?_ | refine a_asg ?_ | refine a_binN ?_ | refine a_notd ?_ | refine a_notb ?_ | refine a_nilc ?_ | refine a_fa ?_ | refine a_ext ?_ | refine a_lenv ?_ | refine a_lens ?_ | refine a_pick_t ?_ | refine a_pick_f ?_ | refine a_not ?_ | refine a_nilf ?_ | (refine o_nil (hK _ _ ?_); clear hK K) | refine wk_reg ?_ | refine wk_seq fun K hK => ?_ | (refine wk_skip (hK _ _ ?_); clear hK K) | (refine wk_label (hK _ _ ?_); clear hK K) | refine wk_scope ?_ | refine wk_block ?_ | refine wk_cond_t rfl ?_ | refine wk_cond_f rfl ?_ | (refine wk_exit ?_; (repeat (refine blockK_other rfl ?_)); refine blockK_same ?_; try ((repeat ((fail_if_success (refine hK _ _ ?_)); clear hK K)); refine hK _ _ ?_; clear hK K)) | (refine a_bin ?_ ?_ <;> intro _ <;> try (exfalso; omega)) | refine a_ld hl ?_ | (refine a_st hl ?_; clear hl; intro _ hl) | refine a_ix (fun _ => ?_) | refine a_idx (c := 13) i hp ?_ | refine a_row r10 ?_)
          all_goals refine wk_quiet [0, 1, 2, 3, 4, 5, 6, 7, 8, 9, 10, 11, 12, 13, 14, 15, 16, 17, 18, 19, 20, 21, 22, 23, 24] ?_
          all_goals repeat' (first | refine q_mov ?_ | refine q_asg ?_ | refine q_fa ?_ | refine q_ext ?_ | refine q_binN ?_ | refine q_notd ?_ | refine q_notb ?_ | refine q_pick_t ?_ | refine q_pick_f ?_ | refine q_nilc ?_ | refine q_skip ?_ | refine q_lens ?_ | refine q_lenv ?_ | refine q_nil ?_ | refine q_ix (fun _ => ?_) | (refine q_bin ?_ ?_ <;> intro _ <;> try (exfalso; omega)) | refine q_idx (c := 13) k hpk ?_ | refine q_idx (c := 13) i hp ?_ | refine q_row (fun w_ hw_ => y0.ext hw_) ?_ | refine q_row (fun w_ hw_ => y12.ext hw_) ?_ | refine q_row (fun w_ hw_ => r0.ext hw_) ?_ | refine q_fn hih ?_ | (refine q_eqsT (a := y.lifts) (b := r.id) rfl rfl rfl rfl ?_ ?_ <;> intro h8))
          all_goals first | exact absurd h7 h8 | skip
          all_goals (intro w2 hw2; refine hK _ _ ?_; clear hK K)
          all_goals repeat' (first | refine a_mov ?_ | refine a_asg ?_ | refine a_binN ?_ | refine a_notd ?_ | refine a_notb ?_ | refine a_nilc ?_ | refine a_fa ?_ | refine a_ext ?_ | refine a_lenv ?_ | refine a_lens ?_ | refine a_pick_t ?_ | refine a_pick_f ?_ | refine a_not ?_ | refine a_nilf ?_ | (refine o_nil (hK _ _ ?_); clear hK K) | refine wk_reg ?_ | refine wk_seq fun K hK => ?_ | (refine wk_skip (hK _ _ ?_); clear hK K) | (refine wk_label (hK _ _ ?_); clear hK K) | refine wk_scope ?_ | refine wk_block ?_ | refine wk_cond_t rfl ?_ | refine wk_cond_f rfl ?_ | (refine wk_exit ?_; (repeat (refine blockK_other rfl ?_)); refine blockK_same ?_; try ((repeat ((fail_if_success (refine hK _ _ ?_)); clear hK K)); refine hK _ _ ?_; clear hK K)) | (refine a_bin ?_ ?_ <;> intro _ <;> try (exfalso; omega)) | refine a_ld hl ?_ | (refine a_st hl ?_; clear hl; intro _ hl) | refine a_ix (fun _ => ?_) | fail)
          · exact o_nil ⟨k + 1, ⟨rfl, rfl, rfl, rfl, trivial⟩, rfl, ⟨⟨by omega, hk1, hgo fun _ _ => hck⟩, he.trans hw2⟩, by omega⟩
          · refine wk_ret (retQ_tmp1 Try.results34 (by decide) rfl (by conv => lhs; whnf) ?_)
            exact ⟨by rw [hstop h6 h7 hck], he.trans hw2⟩
        · repeat' (first | refine a_mov ?_ | refine a_asg ?_ | refine a_binN ?_ | refine a_notd ?_ | refine a_notb ?_ | refine a_nilc ?_ | refine a_fa ?_ | refine a_ext ?_ | refine a_lenv ?_ | refine a_lens ?_ | refine a_pick_t ?_ | refine a_pick_f ?_ | refine a_not ?_ | refine a_nilf ?_ | (refine o_nil (hK _ _ ?_); clear hK K) | refine wk_reg ?_ | refine wk_seq fun K hK => ?_ | (refine wk_skip (hK _ _ ?_); clear hK K) | (refine wk_label (hK _ _ ?_); clear hK K) | refine wk_scope ?_ | refine wk_block ?_ | refine wk_cond_t rfl ?_ | refine wk_cond_f rfl ?_ | (refine wk_exit ?_; (repeat (refine blockK_other rfl ?_)); refine blockK_same ?_; try ((repeat ((fail_if_success (refine hK _ _ ?_)); clear hK K)); refine hK _ _ ?_; clear hK K)) | (refine a_bin ?_ ?_ <;> intro _ <;> try (exfalso; omega)) | refine a_ld hl ?_ | (refine a_st hl ?_; clear hl; intro _ hl) | refine a_ix (fun _ => ?_) | refine a_idx (c := 13) i hp ?_ | refine a_row r10 ?_)
          refine wk_quiet [0, 1, 2, 3, 4, 5, 6, 7, 8, 9, 10, 11, 12, 13, 14, 15, 16, 17, 18, 19, 20, 21, 22, 23, 24] ?_
          repeat' (first | refine q_mov ?_ | refine q_asg ?_ | refine q_fa ?_ | refine q_ext ?_ | refine q_binN ?_ | refine q_notd ?_ | refine q_notb ?_ | refine q_pick_t ?_ | refine q_pick_f ?_ | refine q_nilc ?_ | refine q_skip ?_ | refine q_lens ?_ | refine q_lenv ?_ | refine q_nil ?_ | refine q_ix (fun _ => ?_) | (refine q_bin ?_ ?_ <;> intro _ <;> try (exfalso; omega)) | refine q_idx (c := 13) k hpk ?_ | refine q_idx (c := 13) i hp ?_ | refine q_row (fun w_ hw_ => y0.ext hw_) ?_ | refine q_row (fun w_ hw_ => y12.ext hw_) ?_ | refine q_row (fun w_ hw_ => r0.ext hw_) ?_ | refine q_fn hih ?_ | (refine q_eqsT (a := y.lifts) (b := r.id) rfl rfl rfl rfl ?_ ?_ <;> intro h8))
          all_goals first | exact absurd h8 h7 | skip
          intro w2 hw2
          refine hK _ _ ?_
          clear hK K
          repeat' (first | refine a_mov ?_ | refine a_asg ?_ | refine a_binN ?_ | refine a_notd ?_ | refine a_notb ?_ | refine a_nilc ?_ | refine a_fa ?_ | refine a_ext ?_ | refine a_lenv ?_ | refine a_lens ?_ | refine a_pick_t ?_ | refine a_pick_f ?_ | refine a_not ?_ | refine a_nilf ?_ | (refine o_nil (hK _ _ ?_); clear hK K) | refine wk_reg ?_ | refine wk_seq fun K hK => ?_ | (refine wk_skip (hK _ _ ?_); clear hK K) | (refine wk_label (hK _ _ ?_); clear hK K) | refine wk_scope ?_ | refine wk_block ?_ | refine wk_cond_t rfl ?_ | refine wk_cond_f rfl ?_ | (refine wk_exit ?_; (repeat (refine blockK_other rfl ?_)); refine blockK_same ?_; try ((repeat ((fail_if_success (refine hK _ _ ?_)); clear hK K)); refine hK _ _ ?_; clear hK K)) | (refine a_bin ?_ ?_ <;> intro _ <;> try (exfalso; omega)) | refine a_ld hl ?_ | (refine a_st hl ?_; clear hl; intro _ hl) | refine a_ix (fun _ => ?_) | fail)
          exact o_nil ⟨k + 1, ⟨rfl, rfl, rfl, rfl, trivial⟩, rfl, ⟨⟨by omega, hk1, hgo fun _ h => absurd h h7⟩, he.trans hw2⟩, by omega⟩
      · repeat' (first | refine a_mov ?_ | refine a_asg ?_ | refine a_binN ?_ | refine a_notd ?_ | refine a_notb ?_ | refine a_nilc ?_ | refine a_fa ?_ | refine a_ext ?_ | refine a_lenv ?_ | refine a_lens ?_ | refine a_pick_t ?_ | refine a_pick_f ?_ | refine a_not ?_ | refine a_nilf ?_ | (refine o_nil (hK _ _ ?_); clear hK K) | refine wk_reg ?_ | refine wk_seq fun K hK => ?_ | (refine wk_skip (hK _ _ ?_); clear hK K) | (refine wk_label (hK _ _ ?_); clear hK K) | refine wk_scope ?_ | refine wk_block ?_ | refine wk_cond_t rfl ?_ | refine wk_cond_f rfl ?_ | (refine wk_exit ?_; (repeat (refine blockK_other rfl ?_)); refine blockK_same ?_; try ((repeat ((fail_if_success (refine hK _ _ ?_)); clear hK K)); refine hK _ _ ?_; clear hK K)) | (refine a_bin ?_ ?_ <;> intro _ <;> try (exfalso; omega)) | refine a_ld hl ?_ | (refine a_st hl ?_; clear hl; intro _ hl) | refine a_ix (fun _ => ?_) | refine a_idx (c := 13) i hp ?_ | refine a_row r10 ?_)
        refine wk_quiet [0, 1, 2, 3, 4, 5, 6, 7, 8, 9, 10, 11, 12, 13, 14, 15, 16, 17, 18, 19, 20, 21, 22, 23, 24] ?_
        repeat' (first | refine q_mov ?_ | refine q_asg ?_ | refine q_fa ?_ | refine q_ext ?_ | refine q_binN ?_ | refine q_notd ?_ | refine q_notb ?_ | refine q_pick_t ?_ | refine q_pick_f ?_ | refine q_nilc ?_ | refine q_skip ?_ | refine q_lens ?_ | refine q_lenv ?_ | refine q_nil ?_ | refine q_ix (fun _ => ?_) | (refine q_bin ?_ ?_ <;> intro _ <;> try (exfalso; omega)) | refine q_idx (c := 13) k hpk ?_ | refine q_idx (c := 13) i hp ?_ | refine q_row (fun w_ hw_ => y0.ext hw_) ?_ | refine q_row (fun w_ hw_ => y12.ext hw_) ?_ | refine q_row (fun w_ hw_ => r0.ext hw_) ?_ | refine q_fn hih ?_)
        intro w2 hw2
        refine hK _ _ ?_
        clear hK K
        repeat' (first | refine a_mov ?_ | refine a_asg ?_ | refine a_binN ?_ | refine a_notd ?_ | refine a_notb ?_ | refine a_nilc ?_ | refine a_fa ?_ | refine a_ext ?_ | refine a_lenv ?_ | refine a_lens ?_ | refine a_pick_t ?_ | refine a_pick_f ?_ | refine a_not ?_ | refine a_nilf ?_ | (refine o_nil (hK _ _ ?_); clear hK K) | refine wk_reg ?_ | refine wk_seq fun K hK => ?_ | (refine wk_skip (hK _ _ ?_); clear hK K) | (refine wk_label (hK _ _ ?_); clear hK K) | refine wk_scope ?_ | refine wk_block ?_ | refine wk_cond_t rfl ?_ | refine wk_cond_f rfl ?_ | (refine wk_exit ?_; (repeat (refine blockK_other rfl ?_)); refine blockK_same ?_; try ((repeat ((fail_if_success (refine hK _ _ ?_)); clear hK K)); refine hK _ _ ?_; clear hK K)) | (refine a_bin ?_ ?_ <;> intro _ <;> try (exfalso; omega)) | refine a_ld hl ?_ | (refine a_st hl ?_; clear hl; intro _ hl) | refine a_ix (fun _ => ?_) | fail)
        exact o_nil ⟨k + 1, ⟨rfl, rfl, rfl, rfl, trivial⟩, rfl, ⟨⟨by omega, hk1, hgo fun h => absurd h h6⟩, he.trans hw2⟩, by omega⟩
    · have ho : Rul.counted (Rul.finalB l known) known (l.drop i) = true := by
        rw [hcut, decide_eq_true_eq]
        exact fun j hj h1 => hpre j hj h1 (by omega)
      repeat' (first | refine a_mov ?_ | refine a_asg ?_ | refine a_binN ?_ | refine a_notd ?_ | refine a_notb ?_ | refine a_nilc ?_ | refine a_fa ?_ | refine a_ext ?_ | refine a_lenv ?_ | refine a_lens ?_ | refine a_pick_t ?_ | refine a_pick_f ?_ | refine a_not ?_ | refine a_nilf ?_ | (refine o_nil (hK _ _ ?_); clear hK K) | refine wk_reg ?_ | refine wk_seq fun K hK => ?_ | (refine wk_skip (hK _ _ ?_); clear hK K) | (refine wk_label (hK _ _ ?_); clear hK K) | refine wk_scope ?_ | refine wk_block ?_ | refine wk_cond_t rfl ?_ | refine wk_cond_f rfl ?_ | (refine wk_exit ?_; (repeat (refine blockK_other rfl ?_)); refine blockK_same ?_; try ((repeat ((fail_if_success (refine hK _ _ ?_)); clear hK K)); refine hK _ _ ?_; clear hK K)) | (refine a_bin ?_ ?_ <;> intro _ <;> try (exfalso; omega)) | refine a_ld hl ?_ | (refine a_st hl ?_; clear hl; intro _ hl) | refine a_ix (fun _ => ?_) | fail)
      refine wk_ret (retQ_tmp1 Try.results34 (by decide) rfl (by conv => lhs; whnf) ?_)
      exact ⟨by rw [ho], he⟩
  · rw [hfin, Bool.true_or] at hcut
    rw [hfin] at r10
    repeat' (first | refine a_mov ?_ | refine a_asg ?_ | refine a_binN ?_ | refine a_notd ?_ | refine a_notb ?_ | refine a_nilc ?_ | refine a_fa ?_ | refine a_ext ?_ | refine a_lenv ?_ | refine a_lens ?_ | refine a_pick_t ?_ | refine a_pick_f ?_ | refine a_not ?_ | refine a_nilf ?_ | (refine o_nil (hK _ _ ?_); clear hK K) | refine wk_reg ?_ | refine wk_seq fun K hK => ?_ | (refine wk_skip (hK _ _ ?_); clear hK K) | (refine wk_label (hK _ _ ?_); clear hK K) | refine wk_scope ?_ | refine wk_block ?_ | refine wk_cond_t rfl ?_ | refine wk_cond_f rfl ?_ | (refine wk_exit ?_; (repeat (refine blockK_other rfl ?_)); refine blockK_same ?_; try ((repeat ((fail_if_success (refine hK _ _ ?_)); clear hK K)); refine hK _ _ ?_; clear hK K)) | (refine a_bin ?_ ?_ <;> intro _ <;> try (exfalso; omega)) | refine a_ld hl ?_ | (refine a_st hl ?_; clear hl; intro _ hl) | refine a_ix (fun _ => ?_) | fail)
    refine wk_loopH [] rfl (fun _ : Unit => [(0, .slice pa l.length ca), (1, .int .i64 (i : Int)), (2, .int .i64 known), (7, .int .i64 ((i : Int) + 1))]) (fun _ w' => w' = w) (fun _ => 0) () ⟨rfl, rfl, rfl, rfl, trivial⟩ rfl ?_
    rintro - t w1 hw
    obtain rfl := hw.symm
    repeat' (first | refine a_mov ?_ | refine a_asg ?_ | refine a_binN ?_ | refine a_notd ?_ | refine a_notb ?_ | refine a_nilc ?_ | refine a_fa ?_ | refine a_ext ?_ | refine a_lenv ?_ | refine a_lens ?_ | refine a_pick_t ?_ | refine a_pick_f ?_ | refine a_not ?_ | refine a_nilf ?_ | (refine o_nil (hK _ _ ?_); clear hK K) | refine wk_reg ?_ | refine wk_seq fun K hK => ?_ | (refine wk_skip (hK _ _ ?_); clear hK K) | (refine wk_label (hK _ _ ?_); clear hK K) | refine wk_scope ?_ | refine wk_block ?_ | refine wk_cond_t rfl ?_ | refine wk_cond_f rfl ?_ | (refine wk_exit ?_; (repeat (refine blockK_other rfl ?_)); refine blockK_same ?_; try ((repeat ((fail_if_success (refine hK _ _ ?_)); clear hK K)); refine hK _ _ ?_; clear hK K)) | (refine a_bin ?_ ?_ <;> intro _ <;> try (exfalso; omega)) | refine a_ld hl ?_ | (refine a_st hl ?_; clear hl; intro _ hl) | refine a_ix (fun _ => ?_) | refine a_idx (c := 13) i hp ?_ | refine a_row r10 ?_)
    all_goals (refine wk_ret (retQ_tmp1 Try.results34 (by decide) rfl (by conv => lhs; whnf) ?_))
    all_goals exact ⟨by rw [hcut], .refl _ _⟩
end Go.Proofs
