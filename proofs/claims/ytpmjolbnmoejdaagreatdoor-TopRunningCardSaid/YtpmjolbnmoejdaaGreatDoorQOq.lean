/-
  Matters: the closures that look at elements.
-/
import Derived.Test.YtpmjolbnmoejdaaGreatDoorQToDf
import Derived.Test.YtpmjolbnmoejdaaGreatDoorQToN
import Derived.Test.YtpmjolbnmoejdaaGreatDoorQFr
import Derived.Test.YtpmjolbnmoejdaaGreatDoorQLD
set_option linter.unusedVariables false
set_option linter.unusedSimpArgs false
set_option linter.unnecessarySimpa false
set_option maxRecDepth 10000
namespace Go.Proofs
open Go Go.Pd Go.Top
open Go.Fin (Nm)
attribute [local irreducible] OpsL W RetQ OpsQ OpsC
def rightL (r : Right) : List Value := [str r.name, .int .i64 r.since]
theorem rightL_len (r : Right) : (rightL r).length = 2 := rfl
theorem rightKey_calls (r : Right) (w : World) : Calls Tryz.prog 84 #[.agg (rightL r).toArray] w (fun e w' => ∃ v, e = .returned v ∧ v = str r.name ∧ Ext w w') := by
  refine calls_of Tryz.func84 rfl Tryz.ntmps84 rfl ?_
  repeat' (first | refine a_asg ?_ | refine a_fa ?_ | (refine o_nil (hK _ _ ?_); clear hK K) | refine wk_reg ?_ | refine wk_seq fun K hK => ?_ | fail)
  refine o_box (LH.start w (fun _ => False)) (rightL r) rfl rfl rfl ?_
  intro b1 w1 hb1 hl
  have hr : Row w1 b1 0 [str r.name, .int .i64 r.since] := hl.rowL (vs := rightL r) 0 0 2 rfl
  have e1 : Ext w w1 := hl.done
  clear hl
  repeat' (first | refine a_row hr ?_ | refine a_asg ?_ | refine a_fa ?_ | (refine o_nil (hK _ _ ?_); clear hK K) | refine wk_reg ?_ | refine wk_seq fun K hK => ?_ | fail)
  refine wk_ret (retQ_tmp1 Tryz.results84 (by decide) rfl (by conv => lhs; whnf) ?_)
  exact ⟨rfl, e1⟩
theorem limKey_calls (p : Lim × Value) (w : World) : Calls Tryz.prog 87 #[.agg (limL p).toArray] w (fun e w' => ∃ v, e = .returned v ∧ v = str p.1.id ∧ Ext w w') := by
  refine calls_of Tryz.func87 rfl Tryz.ntmps87 rfl ?_
  repeat' (first | refine a_asg ?_ | refine a_fa ?_ | (refine o_nil (hK _ _ ?_); clear hK K) | refine wk_reg ?_ | refine wk_seq fun K hK => ?_ | fail)
  refine o_box (LH.start w (fun _ => False)) (limL p) (by rfl) rfl rfl ?_
  intro b1 w1 hb1 hl
  have hr : Row w1 b1 0 [str p.1.id, .int .i64 p.1.n, .int .i64 p.1.u, .int .i64 p.1.f, p.2] := hl.rowL (vs := limL p) 0 0 5 rfl
  have e1 : Ext w w1 := hl.done
  clear hl
  repeat' (first | refine a_row hr ?_ | refine a_asg ?_ | refine a_fa ?_ | (refine o_nil (hK _ _ ?_); clear hK K) | refine wk_reg ?_ | refine wk_seq fun K hK => ?_ | fail)
  refine wk_ret (retQ_tmp1 Tryz.results87 (by decide) rfl (by conv => lhs; whnf) ?_)
  exact ⟨rfl, e1⟩
theorem textKey_calls (s : Tx) (w : World) : Calls Tryz.prog 92 #[str s] w (fun e w' => ∃ v, e = .returned v ∧ v = str s ∧ Ext w w') := by
  refine calls_of Tryz.func92 rfl Tryz.ntmps92 rfl ?_
  repeat' (first | refine a_mov ?_ | refine a_asg ?_ | (refine o_nil (hK _ _ ?_); clear hK K) | refine wk_reg ?_ | refine wk_seq fun K hK => ?_ | fail)
  refine wk_ret (retQ_tmp1 Tryz.results92 (by decide) rfl (by conv => lhs; whnf) ?_)
  exact ⟨rfl, .refl _ _⟩
theorem rightGood_calls (r : Right) (o : Int) {bm : Nat} {w : World} {vs : List Value} (hm : Row w bm 0 vs) (ho : vs[1]? = some (.int .i64 o)) : Calls Tryz.prog 85 #[.agg (rightL r).toArray, .pointer (some ⟨bm, 0, none⟩)] w (fun e w' => ∃ v, e = .returned v ∧ v = .bool (rightB o r) ∧ Ext w w') := by
  refine calls_of Tryz.func85 rfl Tryz.ntmps85 rfl ?_
  repeat' (first | refine a_mov ?_ | refine a_asg ?_ | refine a_fa ?_ | refine a_pick_t ?_ | refine a_pick_f ?_ | refine a_not ?_ | (refine o_nil (hK _ _ ?_); clear hK K) | refine wk_reg ?_ | refine wk_seq fun K hK => ?_ | (refine a_bin ?_ ?_ <;> intro _ <;> try (exfalso; omega)) | fail)
  refine o_box (LH.start w (fun _ => False)) (rightL r) rfl rfl rfl ?_
  intro b1 w1 hb1 hl
  have hr : Row w1 b1 0 [str r.name, .int .i64 r.since] := hl.rowL (vs := rightL r) 0 0 2 rfl
  have e1 : Ext w w1 := hl.done
  have hm := hm.ext e1
  clear hl
  repeat' (first | refine a_row hr ?_ | refine a_mov ?_ | refine a_asg ?_ | refine a_fa ?_ | refine a_pick_t ?_ | refine a_pick_f ?_ | refine a_not ?_ | (refine o_nil (hK _ _ ?_); clear hK K) | refine wk_reg ?_ | refine wk_seq fun K hK => ?_ | (refine a_bin ?_ ?_ <;> intro _ <;> try (exfalso; omega)) | fail)
  refine a_fn (name_calls r.name w1) ?_
  rintro v w2 ⟨rfl, e2⟩
  have hr := hr.ext e2
  have hm := hm.ext e2
  have e2 := e1.trans e2
  cases hn : Nm r.name
  · repeat' (first | refine a_mov ?_ | refine a_asg ?_ | refine a_fa ?_ | refine a_pick_t ?_ | refine a_pick_f ?_ | refine a_not ?_ | (refine o_nil (hK _ _ ?_); clear hK K) | refine wk_reg ?_ | refine wk_seq fun K hK => ?_ | (refine a_bin ?_ ?_ <;> intro _ <;> try (exfalso; omega)) | fail)
    refine wk_ret (retQ_tmp1 Tryz.results85 (by decide) rfl (by conv => lhs; whnf) ?_)
    exact ⟨by unfold rightB; rw [hn]; rfl, e2⟩
  by_cases hge : o ≤ r.since
  · repeat' (first | refine a_row hr ?_ | refine a_row hm (hj := ⟨1, rfl, ho⟩) ?_ | refine a_mov ?_ | refine a_asg ?_ | refine a_fa ?_ | refine a_pick_t ?_ | refine a_pick_f ?_ | refine a_not ?_ | (refine o_nil (hK _ _ ?_); clear hK K) | refine wk_reg ?_ | refine wk_seq fun K hK => ?_ | (refine a_bin ?_ ?_ <;> intro _ <;> try (exfalso; omega)) | fail)
    refine a_fn (mis_calls r.since w2) ?_
    rintro v w2 ⟨rfl, rfl⟩
    cases hd : isD r.since
    all_goals repeat' (first | refine a_mov ?_ | refine a_asg ?_ | refine a_fa ?_ | refine a_pick_t ?_ | refine a_pick_f ?_ | refine a_not ?_ | (refine o_nil (hK _ _ ?_); clear hK K) | refine wk_reg ?_ | refine wk_seq fun K hK => ?_ | (refine a_bin ?_ ?_ <;> intro _ <;> try (exfalso; omega)) | fail)
    all_goals (refine wk_ret (retQ_tmp1 Tryz.results85 (by decide) rfl (by conv => lhs; whnf) ?_))
    all_goals exact ⟨by unfold rightB; rw [hn, decide_eq_true hge, hd]; rfl, e2⟩
  · repeat' (first | refine a_row hr ?_ | refine a_row hm (hj := ⟨1, rfl, ho⟩) ?_ | refine a_mov ?_ | refine a_asg ?_ | refine a_fa ?_ | refine a_pick_t ?_ | refine a_pick_f ?_ | refine a_not ?_ | (refine o_nil (hK _ _ ?_); clear hK K) | refine wk_reg ?_ | refine wk_seq fun K hK => ?_ | (refine a_bin ?_ ?_ <;> intro _ <;> try (exfalso; omega)) | fail)
    refine wk_ret (retQ_tmp1 Tryz.results85 (by decide) rfl (by conv => lhs; whnf) ?_)
    exact ⟨by unfold rightB; rw [hn, decide_eq_false hge]; rfl, e2⟩
def moveL (m : IPair) : List Value := [.int .i64 m.x, .int .i64 m.y]
theorem moveL_len (m : IPair) : (moveL m).length = 2 := rfl
theorem moveKey_calls (m : IPair) (w : World) : Calls Tryz.prog 94 #[.agg (moveL m).toArray] w (fun e w' => ∃ v, e = .returned v ∧ v = ipV m ∧ Ext w w') := by
  refine calls_of Tryz.func94 rfl Tryz.ntmps94 rfl ?_
  repeat' (first | (refine o_nil (hK _ _ ?_); clear hK K) | refine wk_reg ?_ | refine wk_seq fun K hK => ?_ | fail)
  refine o_box (LH.start w (fun _ => False)) (moveL m) rfl rfl rfl ?_
  intro b1 w1 hb1 hl
  refine o_alloc hl [.int .i64 0, .int .i64 0] rfl rfl ?_
  clear hl
  intro b2 w2 hb2 hl
  repeat' (first | (refine o_nil (hK _ _ ?_); clear hK K) | refine wk_reg ?_ | refine wk_seq fun K hK => ?_ | fail)
  refine a_all (vs := moveL m) (hl.rowL 1 0 2 rfl) ?_
  refine o_store hl 0 (moveL m) rfl rfl rfl rfl rfl (by simp [moveL]) rfl ?_
  clear hl
  intro w3 hl
  have hl : LH w (fun _ => False) w3 [(b2, .cells (moveL m).toArray 81 (0, 0)), _] := hl
  repeat' (first | (refine o_nil (hK _ _ ?_); clear hK K) | refine wk_reg ?_ | refine wk_seq fun K hK => ?_ | fail)
  refine wk_ret (retQ_res [.agg (moveL m).toArray] rfl rfl ⟨by decide, ⟨⟨b2, 0, none⟩, rfl, run_loadVarN rfl rfl (hl.rowL (vs := moveL m) 0 0 2 rfl)⟩, trivial⟩ ?_)
  exact ⟨rfl, hl.done⟩
set_option maxHeartbeats 2000000 in
theorem moveGood_calls (m : IPair) (n : Nat) {bn : Nat} {w : World} (hn : Row w bn 0 [.int .i64 (n : Int)]) : Calls Tryz.prog 95 #[.agg (moveL m).toArray, .pointer (some ⟨bn, 0, none⟩)] w (fun e w' => ∃ v, e = .returned v ∧ v = .bool (moveB n m) ∧ Ext w w') := by
  refine calls_of Tryz.func95 rfl Tryz.ntmps95 rfl ?_
  repeat' (first | refine a_mov ?_ | refine a_asg ?_ | refine a_pick_t ?_ | refine a_pick_f ?_ | refine a_not ?_ | (refine o_nil (hK _ _ ?_); clear hK K) | refine wk_reg ?_ | refine wk_seq fun K hK => ?_ | (refine a_bin ?_ ?_ <;> intro _ <;> try (exfalso; omega)) | fail)
  refine o_box (LH.start w (fun _ => False)) (moveL m) rfl rfl rfl ?_
  intro b2 w1 hb2 hl
  have hr : Row w1 b2 0 [.int .i64 m.x, .int .i64 m.y] := hl.rowL (vs := moveL m) 0 0 2 rfl
  have e1 : Ext w w1 := hl.done
  have hn := hn.ext e1
  clear hl
  repeat' (first | refine o_indexArr (k := 1) 0 (by omega) rfl rfl rfl rfl rfl (by omega) ?_ | refine o_indexArr (k := 1) 1 (by omega) rfl rfl rfl rfl rfl (by omega) ?_ | refine a_row hr ?_ | refine a_row hn ?_ | refine o_min rfl rfl rfl ?_ | refine o_max rfl rfl rfl ?_ | refine a_mov ?_ | refine a_asg ?_ | refine a_pick_t ?_ | refine a_pick_f ?_ | refine a_not ?_ | (refine o_nil (hK _ _ ?_); clear hK K) | refine wk_reg ?_ | refine wk_seq fun K hK => ?_ | (refine a_bin ?_ ?_ <;> intro _ <;> try (exfalso; omega)) | fail)
  all_goals (refine wk_ret (retQ_tmp1 Tryz.results95 (by decide) rfl (by conv => lhs; whnf) ?_))
  all_goals (refine ⟨congrArg Value.bool ?_, e1⟩; unfold moveB; first | (rw [eq_comm, decide_eq_true_iff]; omega) | (rw [eq_comm, decide_eq_false_iff_not]; omega))
end Go.Proofs

set_option linter.unusedVariables false
set_option linter.unusedSimpArgs false
set_option linter.unnecessarySimpa false
set_option maxRecDepth 10000
namespace Go.Proofs
open Go Go.Pd Go.Top
attribute [local irreducible] OpsL W RetQ OpsQ OpsC
theorem isNaN_calls (a : Int) (w : World) : Calls Tryz.prog 126 #[.int .i64 a] w (fun e w' => ∃ v, e = .returned v ∧ v = .bool false ∧ w' = w) := by
  refine calls_of Tryz.func126 rfl Tryz.ntmps126 rfl ?_
  repeat' (first | refine a_mov ?_ | refine a_asg ?_ | (refine o_nil (hK _ _ ?_); clear hK K) | refine wk_reg ?_ | refine wk_seq fun K hK => ?_ | (refine a_bin ?_ ?_ <;> intro _ <;> try (exfalso; omega)) | fail)
  refine wk_ret (retQ_tmp1 Tryz.results126 (by decide) rfl (by conv => lhs; whnf) ?_)
  exact ⟨rfl, rfl⟩
theorem less_calls (a b : Int) (w : World) : Calls Tryz.prog 108 #[.int .i64 a, .int .i64 b] w (fun e w' => ∃ v, e = .returned v ∧ v = .bool (decide (a < b)) ∧ w' = w) := by
  refine calls_of Tryz.func108 rfl Tryz.ntmps108 rfl ?_
  repeat' (first | refine a_mov ?_ | refine a_asg ?_ | refine a_pick_f ?_ | refine a_not ?_ | (refine o_nil (hK _ _ ?_); clear hK K) | refine wk_reg ?_ | refine wk_seq fun K hK => ?_ | (refine a_bin ?_ ?_ <;> intro _ <;> try (exfalso; omega)) | fail)
  refine a_fn (isNaN_calls a w) ?_
  rintro v w ⟨rfl, rfl⟩
  by_cases h : a < b
  · repeat' (first | refine a_mov ?_ | refine a_asg ?_ | refine a_pick_f ?_ | refine a_not ?_ | (refine o_nil (hK _ _ ?_); clear hK K) | refine wk_reg ?_ | refine wk_seq fun K hK => ?_ | (refine a_bin ?_ ?_ <;> intro _ <;> try (exfalso; omega)) | fail)
    refine wk_ret (retQ_tmp1 Tryz.results108 (by decide) rfl (by conv => lhs; whnf) ?_)
    exact ⟨by rw [decide_eq_true h], rfl⟩
  · repeat' (first | refine a_mov ?_ | refine a_asg ?_ | refine a_pick_f ?_ | refine a_not ?_ | (refine o_nil (hK _ _ ?_); clear hK K) | refine wk_reg ?_ | refine wk_seq fun K hK => ?_ | (refine a_bin ?_ ?_ <;> intro _ <;> try (exfalso; omega)) | fail)
    refine wk_ret (retQ_tmp1 Tryz.results108 (by decide) rfl (by conv => lhs; whnf) ?_)
    exact ⟨by rw [decide_eq_false h], rfl⟩
theorem caseBad_calls (z : Int) (w : World) : Calls Tryz.prog 79 #[.int .i64 z] w (fun e w' => ∃ v, e = .returned v ∧ v = .bool (!decide (0 ≤ z ∧ z ≤ 1000000)) ∧ w' = w) := by
  refine calls_of Tryz.func79 rfl Tryz.ntmps79 rfl ?_
  repeat' (first | refine a_mov ?_ | refine a_asg ?_ | refine a_pick_t ?_ | refine a_pick_f ?_ | refine a_not ?_ | (refine o_nil (hK _ _ ?_); clear hK K) | refine wk_reg ?_ | refine wk_seq fun K hK => ?_ | (refine a_bin ?_ ?_ <;> intro _ <;> try (exfalso; omega)) | fail)
  all_goals (refine wk_ret (retQ_tmp1 Tryz.results79 (by decide) rfl (by conv => lhs; whnf) ?_))
  all_goals (refine ⟨congrArg Value.bool ?_, rfl⟩; first | (rw [eq_comm, Bool.not_eq_true', decide_eq_false_iff_not]; omega) | (rw [eq_comm, Bool.not_eq_false', decide_eq_true_iff]; omega))
end Go.Proofs

set_option linter.unusedVariables false
set_option linter.unusedSimpArgs false
set_option linter.unnecessarySimpa false
set_option maxRecDepth 10000
namespace Go.Top
theorem sortedI_iff : ∀ (l : List Int), sortedI l = true ↔ ∀ i (h : i + 1 < l.length), l[i]'(by omega) ≤ l[i + 1]
  | [] => by simp [sortedI]
  | [a] => by simp [sortedI]
  | a :: b :: r => by
    unfold sortedI
    rw [Bool.and_eq_true, decide_eq_true_eq, sortedI_iff (b :: r)]
    constructor
    · rintro ⟨h1, h2⟩ i h
      cases i with
      | zero => exact h1
      | succ i => exact h2 i (by simpa using h)
    · intro h
      exact ⟨h 0 (by simp), fun i hi => h (i + 1) (by simpa using hi)⟩
end Go.Top
namespace Go.Proofs
open Go Go.Pd Go.Top
attribute [local irreducible] OpsL W RetQ OpsQ OpsC
set_option maxHeartbeats 2000000 in
theorem isSorted_calls {l : List Int} {lv : Value} {w : World} (hL : Sl w lv 1 (l.flatMap fun z => [Value.int .i64 z])) (hlen : l.length ≤ 140737488351232) : Calls Tryz.prog 80 #[lv] w (fun e w' => ∃ v, e = .returned v ∧ v = .bool (sortedI l) ∧ Ext w w') := by
  obtain ⟨a, c, rfl, hp⟩ := sl_each (f := fun z : Int => [Value.int .i64 z]) (fun _ => rfl) (by decide) hL
  refine calls_of Tryz.func80 rfl Tryz.ntmps80 rfl ?_
  repeat' (first | refine a_mov ?_ | refine a_asg ?_ | refine a_binN ?_ | refine a_lenv ?_ | (refine o_nil (hK _ _ ?_); clear hK K) | refine wk_reg ?_ | refine wk_seq fun K hK => ?_ | (refine wk_skip (hK _ _ ?_); clear hK K) | refine wk_block ?_ | refine wk_cond_t rfl ?_ | refine wk_cond_f rfl ?_ | (refine wk_exit ?_; (repeat (refine blockK_other rfl ?_)); refine blockK_same ?_; try ((repeat ((fail_if_success (refine hK _ _ ?_)); clear hK K)); refine hK _ _ ?_; clear hK K)) | (refine a_bin ?_ ?_ <;> intro _ <;> try (exfalso; omega)) | fail)
  refine wk_loopH [] rfl (fun i : Nat => [(0, .slice a l.length c), (3, .int .i64 ((l.length : Int) - 1 - (i : Int)))]) (fun i w' => (i ≤ l.length ∧ ∀ j (h : j + 1 < l.length), l.length - 1 - i ≤ j → l[j]'(by omega) ≤ l[j + 1]) ∧ Ext w w') (fun i => l.length - i) 0 ⟨rfl, congrArg (Value.int .i64) (by omega), trivial⟩ ⟨⟨Nat.zero_le _, fun j h hj => absurd hj (by omega)⟩, .refl _ _⟩ ?_
  rintro i t w1 ⟨⟨hi, hs⟩, e1⟩
  by_cases hlt : i + 1 < l.length
  · obtain ⟨b1, o1, hp1, hr1⟩ := hp (l.length - 1 - i) (by omega)
    obtain ⟨b2, o2, hp2, hr2⟩ := hp (l.length - 2 - i) (by omega)
    have hr1 := hr1 w1 e1
    have hr2 := hr2 w1 e1
    have hless : ∀ w_, Ext w1 w_ → Calls Tryz.prog 108 #[.int .i64 (l[l.length - 1 - i]'(by omega)), .int .i64 (l[l.length - 2 - i]'(by omega))] w_ (fun e w' => ∃ x, e = .returned x ∧ x = .bool (decide ((l[l.length - 1 - i]'(by omega)) < (l[l.length - 2 - i]'(by omega)))) ∧ Ext w_ w') := fun w_ _ => (less_calls _ _ w_).mono fun e w' ⟨v, h1, h2, h3⟩ => ⟨v, h1, h2, by rw [h3]; exact .refl _ _⟩
    repeat' (first | refine a_mov ?_ | refine a_asg ?_ | refine a_binN ?_ | refine a_lenv ?_ | (refine o_nil (hK _ _ ?_); clear hK K) | refine wk_reg ?_ | refine wk_seq fun K hK => ?_ | (refine wk_skip (hK _ _ ?_); clear hK K) | refine wk_block ?_ | refine wk_cond_t rfl ?_ | refine wk_cond_f rfl ?_ | (refine wk_exit ?_; (repeat (refine blockK_other rfl ?_)); refine blockK_same ?_; try ((repeat ((fail_if_success (refine hK _ _ ?_)); clear hK K)); refine hK _ _ ?_; clear hK K)) | (refine a_bin ?_ ?_ <;> intro _ <;> try (exfalso; omega)) | fail)
    refine wk_quiet [0, 1, 2, 3, 4, 5, 6, 7, 8, 9] ?_
    repeat' (first | refine q_mov ?_ | refine q_binN ?_ | refine q_nil ?_ | refine q_idx (c := 1) (l.length - 1 - i) hp1 ?_ | refine q_idx (c := 1) (l.length - 2 - i) hp2 ?_ | refine q_row (fun w_ hw_ => hr1.ext hw_) ?_ | refine q_row (fun w_ hw_ => hr2.ext hw_) ?_ | refine q_fn hless ?_ | fail)
    intro w2 e2
    have e2 := e1.trans e2
    refine hK _ _ ?_
    clear hK K
    by_cases h : (l[l.length - 1 - i]'(by omega)) < (l[l.length - 2 - i]'(by omega))
    · rw [decide_eq_true h]
      repeat' (first | refine a_mov ?_ | refine a_asg ?_ | refine a_binN ?_ | refine a_lenv ?_ | (refine o_nil (hK _ _ ?_); clear hK K) | refine wk_reg ?_ | refine wk_seq fun K hK => ?_ | (refine wk_skip (hK _ _ ?_); clear hK K) | refine wk_block ?_ | refine wk_cond_t rfl ?_ | refine wk_cond_f rfl ?_ | (refine wk_exit ?_; (repeat (refine blockK_other rfl ?_)); refine blockK_same ?_; try ((repeat ((fail_if_success (refine hK _ _ ?_)); clear hK K)); refine hK _ _ ?_; clear hK K)) | (refine a_bin ?_ ?_ <;> intro _ <;> try (exfalso; omega)) | fail)
      refine wk_ret (retQ_tmp1 Tryz.results80 (by decide) rfl (by conv => lhs; whnf) ?_)
      refine ⟨congrArg Value.bool ?_, e2⟩
      cases hsl : sortedI l
      · rfl
      · have h3 := (sortedI_iff l).1 hsl (l.length - 2 - i) (by omega)
        have e : l.length - 2 - i + 1 = l.length - 1 - i := by omega
        simp only [e] at h3
        omega
    · rw [decide_eq_false h]
      repeat' (first | refine a_mov ?_ | refine a_asg ?_ | refine a_binN ?_ | refine a_lenv ?_ | (refine o_nil (hK _ _ ?_); clear hK K) | refine wk_reg ?_ | refine wk_seq fun K hK => ?_ | (refine wk_skip (hK _ _ ?_); clear hK K) | refine wk_block ?_ | refine wk_cond_t rfl ?_ | refine wk_cond_f rfl ?_ | (refine wk_exit ?_; (repeat (refine blockK_other rfl ?_)); refine blockK_same ?_; try ((repeat ((fail_if_success (refine hK _ _ ?_)); clear hK K)); refine hK _ _ ?_; clear hK K)) | (refine a_bin ?_ ?_ <;> intro _ <;> try (exfalso; omega)) | fail)
      refine o_nil ⟨i + 1, ⟨rfl, congrArg (Value.int .i64) (by push_cast; omega), trivial⟩, rfl, ⟨⟨by omega, fun j hj hij => ?_⟩, e2⟩, by omega⟩
      by_cases hji : l.length - 1 - i ≤ j
      · exact hs j hj hji
      · have e : j = l.length - 2 - i := by omega
        subst e
        have e : l.length - 2 - i + 1 = l.length - 1 - i := by omega
        simp only [e]
        omega
  · repeat' (first | refine a_mov ?_ | refine a_asg ?_ | refine a_binN ?_ | refine a_lenv ?_ | (refine o_nil (hK _ _ ?_); clear hK K) | refine wk_reg ?_ | refine wk_seq fun K hK => ?_ | (refine wk_skip (hK _ _ ?_); clear hK K) | refine wk_block ?_ | refine wk_cond_t rfl ?_ | refine wk_cond_f rfl ?_ | (refine wk_exit ?_; (repeat (refine blockK_other rfl ?_)); refine blockK_same ?_; try ((repeat ((fail_if_success (refine hK _ _ ?_)); clear hK K)); refine hK _ _ ?_; clear hK K)) | (refine a_bin ?_ ?_ <;> intro _ <;> try (exfalso; omega)) | fail)
    refine wk_ret (retQ_tmp1 Tryz.results80 (by decide) rfl (by conv => lhs; whnf) ?_)
    exact ⟨congrArg Value.bool ((sortedI_iff l).2 fun j h => hs j h (by omega)).symm, e1⟩
end Go.Proofs
