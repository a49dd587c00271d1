/-
  The calendar: days of dates, dates of days.
-/
import Derived.Test.YtpmjolbnmoejdaaGreatDoorQToA
set_option linter.unusedVariables false
set_option linter.unusedSimpArgs false
set_option linter.unnecessarySimpa false
set_option maxRecDepth 10000
namespace Go.Top
theorem beginL_400 {y x : Nat} (h : x < y) (h2 : x % 400 = 0) (h3 : x + 400 ≤ y) : beginL y x = 146097 + beginL y (x + 400) := by rw [beginL, dif_pos h, if_pos ⟨h2, h3⟩]
theorem beginL_one {y x : Nat} (h : x < y) (h2 : ¬ (x % 400 = 0 ∧ x + 400 ≤ y)) : beginL y x = daysL x + beginL y (x + 1) := by rw [beginL, dif_pos h, if_neg h2]
theorem beginL_end {y x : Nat} (h : ¬ x < y) : beginL y x = 0 := by rw [beginL, dif_neg h]
theorem beginL_le (y : Nat) : ∀ k x, y - x ≤ k → beginL y x ≤ 366 * (y - x) := by
  intro k
  induction k using Nat.strongRecOn with
  | _ k ih =>
    intro x hk
    by_cases h : x < y
    · by_cases h2 : x % 400 = 0 ∧ x + 400 ≤ y
      · rw [beginL_400 h h2.1 h2.2]
        have := ih (y - (x + 400)) (by omega) (x + 400) (Nat.le_refl _)
        omega
      · rw [beginL_one h h2]
        have := ih (y - (x + 1)) (by omega) (x + 1) (Nat.le_refl _)
        have := daysL_le x
        omega
    · rw [beginL_end h]; omega
theorem yearL_step {y d : Nat} (h : daysL y ≤ d) : yearL y d = yearL (y + 1) (d - daysL y) := by rw [yearL, dif_pos h]
theorem yearL_end {y d : Nat} (h : ¬ daysL y ≤ d) : yearL y d = (y, d) := by rw [yearL, dif_neg h]
end Go.Top
namespace Go.Proofs
open Go Go.Pd Go.Top
attribute [local irreducible] OpsL W RetQ OpsQ OpsC
set_option maxHeartbeats 2000000 in
theorem begin_calls (y : Nat) (h1 : 1600 ≤ y) (h2 : y ≤ 9999) (w : World) : Calls Tryz.prog 115 #[.int .i64 (y : Int)] w (fun e w' => ∃ v, e = .returned v ∧ v = .int .i64 (beginL y 1600 : Int) ∧ w' = w) := by
  refine calls_of Tryz.func115 rfl Tryz.ntmps115 rfl ?_
  repeat' (first | refine a_mov ?_ | refine a_asg ?_ | refine a_binN ?_ | refine a_pick_t ?_ | refine a_pick_f ?_ | refine a_not ?_ | (refine o_nil (hK _ _ ?_); clear hK K) | refine wk_reg ?_ | refine wk_seq fun K hK => ?_ | (refine wk_skip (hK _ _ ?_); clear hK K) | refine wk_block ?_ | refine wk_cond_t rfl ?_ | refine wk_cond_f rfl ?_ | (refine wk_exit ?_; (repeat (refine blockK_other rfl ?_)); refine blockK_same ?_; try ((repeat ((fail_if_success (refine hK _ _ ?_)); clear hK K)); refine hK _ _ ?_; clear hK K)) | (refine a_bin ?_ ?_ <;> intro _ <;> try (exfalso; omega)) | fail)
  refine wk_loopH [] rfl (fun p : Nat × Nat => [(0, .int .i64 (y : Int)), (3, .int .i64 (p.1 : Int)), (4, .int .i64 (p.2 : Int))]) (fun p w' => (p.1 + beginL y p.2 = beginL y 1600 ∧ 1600 ≤ p.2 ∧ p.2 ≤ y ∧ p.1 ≤ 366 * p.2) ∧ w' = w) (fun p => y - p.2) (0, 1600) ⟨rfl, rfl, rfl, trivial⟩ ⟨⟨Nat.zero_add _, by omega, by omega, by omega⟩, rfl⟩ ?_
  rintro ⟨a, x⟩ t w' ⟨⟨e, hx1, hx2, ha⟩, rfl⟩
  simp only at e hx1 hx2 ha
  have hd := daysL_le x
  by_cases hlt : x < y
  · by_cases h4 : x % 400 = 0 ∧ x + 400 ≤ y
    · rw [beginL_400 hlt h4.1 h4.2] at e
      repeat' (first | refine a_rem ?_ | refine a_mov ?_ | refine a_asg ?_ | refine a_binN ?_ | refine a_pick_t ?_ | refine a_pick_f ?_ | refine a_not ?_ | (refine o_nil (hK _ _ ?_); clear hK K) | refine wk_reg ?_ | refine wk_seq fun K hK => ?_ | (refine wk_skip (hK _ _ ?_); clear hK K) | refine wk_block ?_ | refine wk_cond_t rfl ?_ | refine wk_cond_f rfl ?_ | (refine wk_exit ?_; (repeat (refine blockK_other rfl ?_)); refine blockK_same ?_; try ((repeat ((fail_if_success (refine hK _ _ ?_)); clear hK K)); refine hK _ _ ?_; clear hK K)) | (refine a_bin ?_ ?_ <;> intro _ <;> try (exfalso; omega)) | fail)
      exact ⟨(a + 146097, x + 400), ⟨rfl, rfl, rfl, trivial⟩, rfl, ⟨⟨by simp only; omega, by simp only; omega, by simp only; omega, by simp only; omega⟩, rfl⟩, by simp only; omega⟩
    · rw [beginL_one hlt h4] at e
      repeat' (first | refine a_rem ?_ | refine a_mov ?_ | refine a_asg ?_ | refine a_binN ?_ | refine a_pick_t ?_ | refine a_pick_f ?_ | refine a_not ?_ | (refine o_nil (hK _ _ ?_); clear hK K) | refine wk_reg ?_ | refine wk_seq fun K hK => ?_ | (refine wk_skip (hK _ _ ?_); clear hK K) | refine wk_block ?_ | refine wk_cond_t rfl ?_ | refine wk_cond_f rfl ?_ | (refine wk_exit ?_; (repeat (refine blockK_other rfl ?_)); refine blockK_same ?_; try ((repeat ((fail_if_success (refine hK _ _ ?_)); clear hK K)); refine hK _ _ ?_; clear hK K)) | (refine a_bin ?_ ?_ <;> intro _ <;> try (exfalso; omega)) | fail)
      all_goals (refine o_fn (days_calls x w') rfl (fun _ => rfl) rfl ?_)
      all_goals (rintro v w4 ⟨rfl, rfl⟩)
      all_goals repeat' (first | refine a_mov ?_ | refine a_asg ?_ | refine a_binN ?_ | refine a_pick_t ?_ | refine a_pick_f ?_ | refine a_not ?_ | (refine o_nil (hK _ _ ?_); clear hK K) | refine wk_reg ?_ | refine wk_seq fun K hK => ?_ | (refine wk_skip (hK _ _ ?_); clear hK K) | refine wk_block ?_ | refine wk_cond_t rfl ?_ | refine wk_cond_f rfl ?_ | (refine wk_exit ?_; (repeat (refine blockK_other rfl ?_)); refine blockK_same ?_; try ((repeat ((fail_if_success (refine hK _ _ ?_)); clear hK K)); refine hK _ _ ?_; clear hK K)) | (refine a_bin ?_ ?_ <;> intro _ <;> try (exfalso; omega)) | fail)
      all_goals exact o_nil ⟨(a + daysL x, x + 1), ⟨rfl, rfl, rfl, trivial⟩, rfl, ⟨⟨by simp only; omega, by simp only; omega, by simp only; omega, by simp only; omega⟩, rfl⟩, by simp only; omega⟩
  · rw [beginL_end hlt] at e
    repeat' (first | refine a_rem ?_ | refine a_mov ?_ | refine a_asg ?_ | refine a_binN ?_ | refine a_pick_t ?_ | refine a_pick_f ?_ | refine a_not ?_ | (refine o_nil (hK _ _ ?_); clear hK K) | refine wk_reg ?_ | refine wk_seq fun K hK => ?_ | (refine wk_skip (hK _ _ ?_); clear hK K) | refine wk_block ?_ | refine wk_cond_t rfl ?_ | refine wk_cond_f rfl ?_ | (refine wk_exit ?_; (repeat (refine blockK_other rfl ?_)); refine blockK_same ?_; try ((repeat ((fail_if_success (refine hK _ _ ?_)); clear hK K)); refine hK _ _ ?_; clear hK K)) | (refine a_bin ?_ ?_ <;> intro _ <;> try (exfalso; omega)) | fail)
    all_goals (refine wk_ret (retQ_tmp1 Tryz.results115 (by decide) rfl (by conv => lhs; whnf) ?_))
    all_goals exact ⟨by rw [← e]; rfl, rfl⟩
theorem monthsL_len (y : Nat) : (monthsL y).length = 12 := rfl
theorem monthsL_le {y i : Nat} (h : i < 12) : (monthsL y).getD i 0 ≤ 31 := by
  unfold monthsL
  revert h i
  cases leapL y <;> decide
theorem mVals_at {y i : Nat} (h : i < 12) : (mVals y)[i]? = some (.int .i64 ((monthsL y).getD i 0 : Int)) := by
  unfold mVals
  rw [List.getElem?_map, List.getD_eq_getElem?_getD, List.getElem?_eq_getElem (by rw [monthsL_len]; exact h)]
  rfl
theorem sum_take_le (y : Nat) : ∀ k, k ≤ 12 → ((monthsL y).take k).sum ≤ 31 * k := by
  intro k
  induction k with
  | zero => intro _; simp
  | succ k ih =>
    intro h
    rw [List.take_succ_eq_append_getElem (by rw [monthsL_len]; omega), List.sum_append]
    have h1 := monthsL_le (y := y) (i := k) (by omega)
    rw [List.getD_eq_getElem?_getD, List.getElem?_eq_getElem (by rw [monthsL_len]; omega), Option.getD_some] at h1
    have := ih (by omega)
    simp only [List.sum_cons, List.sum_nil]
    omega
theorem sum_take_succ (y : Nat) {k : Nat} (h : k < 12) : ((monthsL y).take (k + 1)).sum = ((monthsL y).take k).sum + (monthsL y).getD k 0 := by
  rw [List.take_succ_eq_append_getElem (by rw [monthsL_len]; omega), List.sum_append, List.getD_eq_getElem?_getD, List.getElem?_eq_getElem (by rw [monthsL_len]; omega), Option.getD_some]
  simp
def OptOut (o : Option Nat) (v : Value) : Prop := match o with
  | some d => v = .tuple #[.int .i64 (d : Int), .int .i64 0]
  | none => ∃ e : Int, e ≠ 0 ∧ v = .tuple #[.int .i64 0, .int .i64 e]
set_option maxHeartbeats 4000000 in
theorem day_calls (y m d : Nat) (h1 : 1600 ≤ y) (h2 : y ≤ 9999) (hm1 : 1 ≤ m) (hm2 : m ≤ 12) (hd : d ≤ 1000) (w : World) : Calls Tryz.prog 104 #[.int .i64 (y : Int), .int .i64 (m : Int), .int .i64 (d : Int)] w (fun e w' => ∃ v, e = .returned v ∧ OptOut (dayL y m d) v ∧ Ext w w') := by
  obtain ⟨i, rfl⟩ : ∃ i, m = i + 1 := ⟨m - 1, by omega⟩
  have hle := monthsL_le (y := y) (i := i) (by omega)
  have hdl : dayL y (i + 1) d = (if 1 ≤ d ∧ d ≤ (monthsL y).getD i 0 then (let n := beginL y 1600 + (d - 1) + ((monthsL y).take i).sum; if n ≤ 1000000 then some n else none) else none) := rfl
  rw [hdl]
  clear hdl
  have hat : (mVals y).toArray[i]? = _ := (List.getElem?_toArray ..).trans (mVals_at (y := y) (i := i) (by omega))
  refine calls_of Tryz.func104 rfl Tryz.ntmps104 rfl ?_
  repeat' (first | refine a_mov ?_ | refine a_asg ?_ | refine a_binN ?_ | refine a_notb ?_ | refine a_lenv ?_ | refine a_pick_t ?_ | refine a_pick_f ?_ | refine a_not ?_ | (refine o_nil (hK _ _ ?_); clear hK K) | refine wk_reg ?_ | refine wk_seq fun K hK => ?_ | (refine wk_skip (hK _ _ ?_); clear hK K) | refine wk_block ?_ | refine wk_cond_t rfl ?_ | refine wk_cond_f rfl ?_ | (refine wk_exit ?_; (repeat (refine blockK_other rfl ?_)); refine blockK_same ?_; try ((repeat ((fail_if_success (refine hK _ _ ?_)); clear hK K)); refine hK _ _ ?_; clear hK K)) | (refine a_bin ?_ ?_ <;> intro _ <;> try (exfalso; omega)) | fail)
  · refine wk_ret (retQ_tmp2 Tryz.results104 (by decide) (by decide) rfl (by conv => lhs; whnf) (by conv => lhs; whnf) ?_)
    rw [if_neg (by omega)]
    exact ⟨⟨1, by decide, rfl⟩, .refl _ _⟩
  refine o_fn (months12_calls y h1 h2 w) rfl (fun _ => rfl) rfl ?_
  rintro v w1 ⟨rfl, e1⟩
  repeat' (first | refine a_idxv i hat ?_ | refine a_mov ?_ | refine a_asg ?_ | refine a_binN ?_ | refine a_notb ?_ | refine a_lenv ?_ | refine a_pick_t ?_ | refine a_pick_f ?_ | refine a_not ?_ | (refine o_nil (hK _ _ ?_); clear hK K) | refine wk_reg ?_ | refine wk_seq fun K hK => ?_ | (refine wk_skip (hK _ _ ?_); clear hK K) | refine wk_block ?_ | refine wk_cond_t rfl ?_ | refine wk_cond_f rfl ?_ | (refine wk_exit ?_; (repeat (refine blockK_other rfl ?_)); refine blockK_same ?_; try ((repeat ((fail_if_success (refine hK _ _ ?_)); clear hK K)); refine hK _ _ ?_; clear hK K)) | (refine a_bin ?_ ?_ <;> intro _ <;> try (exfalso; omega)) | fail)
  · refine wk_ret (retQ_tmp2 Tryz.results104 (by decide) (by decide) rfl (by conv => lhs; whnf) (by conv => lhs; whnf) ?_)
    rw [if_neg (by omega)]
    exact ⟨⟨1, by decide, rfl⟩, e1⟩
  refine o_fn (begin_calls y h1 h2 w1) rfl (fun _ => rfl) rfl ?_
  rintro v w1 ⟨rfl, rfl⟩
  have hbl := beginL_le y _ 1600 (Nat.le_refl _)
  have hbl2 : beginL y 1600 ≤ 3100000 := by omega
  clear hbl
  repeat' (first | refine a_mov ?_ | refine a_asg ?_ | refine a_binN ?_ | refine a_notb ?_ | refine a_lenv ?_ | refine a_pick_t ?_ | refine a_pick_f ?_ | refine a_not ?_ | (refine o_nil (hK _ _ ?_); clear hK K) | refine wk_reg ?_ | refine wk_seq fun K hK => ?_ | (refine wk_skip (hK _ _ ?_); clear hK K) | refine wk_block ?_ | refine wk_cond_t rfl ?_ | refine wk_cond_f rfl ?_ | (refine wk_exit ?_; (repeat (refine blockK_other rfl ?_)); refine blockK_same ?_; try ((repeat ((fail_if_success (refine hK _ _ ?_)); clear hK K)); refine hK _ _ ?_; clear hK K)) | (refine a_bin ?_ ?_ <;> intro _ <;> try (exfalso; omega)) | fail)
  refine o_fn (months12_calls y h1 h2 w1) rfl (fun _ => rfl) rfl ?_
  rintro v w2 ⟨rfl, e2⟩
  repeat' (first | refine a_mov ?_ | refine a_asg ?_ | refine a_binN ?_ | refine a_notb ?_ | refine a_lenv ?_ | refine a_pick_t ?_ | refine a_pick_f ?_ | refine a_not ?_ | (refine o_nil (hK _ _ ?_); clear hK K) | refine wk_reg ?_ | refine wk_seq fun K hK => ?_ | (refine wk_skip (hK _ _ ?_); clear hK K) | refine wk_block ?_ | refine wk_cond_t rfl ?_ | refine wk_cond_f rfl ?_ | (refine wk_exit ?_; (repeat (refine blockK_other rfl ?_)); refine blockK_same ?_; try ((repeat ((fail_if_success (refine hK _ _ ?_)); clear hK K)); refine hK _ _ ?_; clear hK K)) | (refine a_bin ?_ ?_ <;> intro _ <;> try (exfalso; omega)) | fail)
  refine o_alloc (LH.start w2 (fun _ => False)) zero12 rfl rfl ?_
  intro b9 w3 hb9 hl
  repeat' (first | refine a_mov ?_ | refine a_asg ?_ | refine a_binN ?_ | refine a_notb ?_ | refine a_lenv ?_ | refine a_pick_t ?_ | refine a_pick_f ?_ | refine a_not ?_ | (refine o_nil (hK _ _ ?_); clear hK K) | refine wk_reg ?_ | refine wk_seq fun K hK => ?_ | (refine wk_skip (hK _ _ ?_); clear hK K) | refine wk_block ?_ | refine wk_cond_t rfl ?_ | refine wk_cond_f rfl ?_ | (refine wk_exit ?_; (repeat (refine blockK_other rfl ?_)); refine blockK_same ?_; try ((repeat ((fail_if_success (refine hK _ _ ?_)); clear hK K)); refine hK _ _ ?_; clear hK K)) | (refine a_bin ?_ ?_ <;> intro _ <;> try (exfalso; omega)) | fail)
  refine o_store hl 0 (mVals y) rfl rfl rfl rfl rfl (by rw [mVals_len]; decide) (mVals_one y) ?_
  clear hl
  intro w4 hl
  have hl : LH w2 (fun _ => False) w4 [(b9, .cells (mVals y).toArray 149 (0, 0))] := hl
  have hrow : Row w4 b9 0 (mVals y) := hl.rowL 0 0 12 rfl
  have e4 : Ext w w4 := (e1.trans e2).trans hl.done
  clear hl e1 e2
  repeat' (first | refine a_cutA i ?_ | refine a_mov ?_ | refine a_asg ?_ | refine a_binN ?_ | refine a_notb ?_ | refine a_lenv ?_ | refine a_pick_t ?_ | refine a_pick_f ?_ | refine a_not ?_ | (refine o_nil (hK _ _ ?_); clear hK K) | refine wk_reg ?_ | refine wk_seq fun K hK => ?_ | (refine wk_skip (hK _ _ ?_); clear hK K) | refine wk_block ?_ | refine wk_cond_t rfl ?_ | refine wk_cond_f rfl ?_ | (refine wk_exit ?_; (repeat (refine blockK_other rfl ?_)); refine blockK_same ?_; try ((repeat ((fail_if_success (refine hK _ _ ?_)); clear hK K)); refine hK _ _ ?_; clear hK K)) | (refine a_bin ?_ ?_ <;> intro _ <;> try (exfalso; omega)) | fail)
  refine wk_loopH [] rfl (fun k : Nat => [(8, .int .i64 ((beginL y 1600 + (d - 1) + ((monthsL y).take k).sum : Nat) : Int)), (46, .slice (some ⟨b9, 0, none⟩) i 12), (47, .int .i64 (i : Int)), (48, .int .i64 (k : Int))]) (fun k w' => k ≤ i ∧ w' = w4) (fun k => i - k) 0 ⟨?_, rfl, rfl, rfl, trivial⟩ ⟨by omega, rfl⟩ ?_
  · exact congrArg (Value.int .i64) (by simp only [List.take_zero, List.sum_nil]; omega)
  rintro k t w4 ⟨hk, rfl⟩
  have hst := sum_take_le y k (by omega)
  by_cases hlt : k < i
  · have hat2 : (mVals y)[k]? = _ := mVals_at (y := y) (i := k) (by omega)
    have hle2 := monthsL_le (y := y) (i := k) (by omega)
    have hsum := sum_take_succ y (k := k) (by omega)
    repeat' (first | refine a_idx (c := 1) k rfl ?_ | refine a_row hrow (v := .int .i64 ((monthsL y).getD k 0 : Int)) ?_ (hj := ⟨k, by omega, hat2⟩) | refine a_mov ?_ | refine a_asg ?_ | refine a_binN ?_ | refine a_notb ?_ | refine a_lenv ?_ | refine a_pick_t ?_ | refine a_pick_f ?_ | refine a_not ?_ | (refine o_nil (hK _ _ ?_); clear hK K) | refine wk_reg ?_ | refine wk_seq fun K hK => ?_ | (refine wk_skip (hK _ _ ?_); clear hK K) | refine wk_block ?_ | refine wk_cond_t rfl ?_ | refine wk_cond_f rfl ?_ | (refine wk_exit ?_; (repeat (refine blockK_other rfl ?_)); refine blockK_same ?_; try ((repeat ((fail_if_success (refine hK _ _ ?_)); clear hK K)); refine hK _ _ ?_; clear hK K)) | (refine a_bin ?_ ?_ <;> intro _ <;> try (exfalso; omega)) | fail)
    all_goals exact o_nil ⟨k + 1, ⟨congrArg (Value.int .i64) (by rw [hsum]; push_cast; omega), rfl, rfl, rfl, trivial⟩, rfl, ⟨by omega, rfl⟩, by omega⟩
  · obtain rfl : k = i := by omega
    repeat' (first | refine a_mov ?_ | refine a_asg ?_ | refine a_binN ?_ | refine a_notb ?_ | refine a_lenv ?_ | refine a_pick_t ?_ | refine a_pick_f ?_ | refine a_not ?_ | (refine o_nil (hK _ _ ?_); clear hK K) | refine wk_reg ?_ | refine wk_seq fun K hK => ?_ | (refine wk_skip (hK _ _ ?_); clear hK K) | refine wk_block ?_ | refine wk_cond_t rfl ?_ | refine wk_cond_f rfl ?_ | (refine wk_exit ?_; (repeat (refine blockK_other rfl ?_)); refine blockK_same ?_; try ((repeat ((fail_if_success (refine hK _ _ ?_)); clear hK K)); refine hK _ _ ?_; clear hK K)) | (refine a_bin ?_ ?_ <;> intro _ <;> try (exfalso; omega)) | fail)
    refine o_fn (cis_calls ((beginL y 1600 + (d - 1) + ((monthsL y).take k).sum : Nat) : Int) w4) rfl (fun _ => rfl) rfl ?_
    rintro v w5 ⟨rfl, rfl⟩
    cases hz : isD ((beginL y 1600 + (d - 1) + ((monthsL y).take k).sum : Nat) : Int)
    · repeat' (first | refine a_mov ?_ | refine a_asg ?_ | refine a_binN ?_ | refine a_notb ?_ | refine a_lenv ?_ | refine a_pick_t ?_ | refine a_pick_f ?_ | refine a_not ?_ | (refine o_nil (hK _ _ ?_); clear hK K) | refine wk_reg ?_ | refine wk_seq fun K hK => ?_ | (refine wk_skip (hK _ _ ?_); clear hK K) | refine wk_block ?_ | refine wk_cond_t rfl ?_ | refine wk_cond_f rfl ?_ | (refine wk_exit ?_; (repeat (refine blockK_other rfl ?_)); refine blockK_same ?_; try ((repeat ((fail_if_success (refine hK _ _ ?_)); clear hK K)); refine hK _ _ ?_; clear hK K)) | (refine a_bin ?_ ?_ <;> intro _ <;> try (exfalso; omega)) | fail)
      refine wk_ret (retQ_tmp2 Tryz.results104 (by decide) (by decide) rfl (by conv => lhs; whnf) (by conv => lhs; whnf) ?_)
      simp only [isD, decide_eq_false_iff_not] at hz
      simp only
      rw [if_pos ⟨by omega, by omega⟩, if_neg (by omega)]
      exact ⟨⟨10, by decide, rfl⟩, e4⟩
    · repeat' (first | refine a_mov ?_ | refine a_asg ?_ | refine a_binN ?_ | refine a_notb ?_ | refine a_lenv ?_ | refine a_pick_t ?_ | refine a_pick_f ?_ | refine a_not ?_ | (refine o_nil (hK _ _ ?_); clear hK K) | refine wk_reg ?_ | refine wk_seq fun K hK => ?_ | (refine wk_skip (hK _ _ ?_); clear hK K) | refine wk_block ?_ | refine wk_cond_t rfl ?_ | refine wk_cond_f rfl ?_ | (refine wk_exit ?_; (repeat (refine blockK_other rfl ?_)); refine blockK_same ?_; try ((repeat ((fail_if_success (refine hK _ _ ?_)); clear hK K)); refine hK _ _ ?_; clear hK K)) | (refine a_bin ?_ ?_ <;> intro _ <;> try (exfalso; omega)) | fail)
      refine wk_ret (retQ_tmp2 Tryz.results104 (by decide) (by decide) rfl (by conv => lhs; whnf) (by conv => lhs; whnf) ?_)
      simp only [isD, decide_eq_true_eq] at hz
      simp only
      rw [if_pos ⟨by omega, by omega⟩, if_pos (by omega)]
      exact ⟨rfl, e4⟩
/-! ### Dates of days -/
theorem yearL_ok : ∀ (d y : Nat), (yearL y d).2 < daysL (yearL y d).1 ∧ y ≤ (yearL y d).1 ∧ 365 * (yearL y d).1 + (yearL y d).2 ≤ 365 * y + d := by
  intro d
  induction d using Nat.strongRecOn with
  | _ d ih =>
    intro y
    have h1 := daysL_ge y
    by_cases hle : daysL y ≤ d
    · rw [yearL_step hle]
      have := ih (d - daysL y) (by omega) (y + 1)
      omega
    · rw [yearL_end hle]
      exact ⟨by simp only; omega, by simp only; omega, by simp only; omega⟩
theorem monL_cons (l : Nat) (ls : List Nat) (d : Nat) : monL (l :: ls) d = if l ≤ d then ((monL ls (d - l)).1 + 1, (monL ls (d - l)).2) else (0, d) := rfl
theorem monL_ok : ∀ (l : List Nat) (d : Nat), d < l.sum → (monL l d).1 < l.length ∧ (∀ x ∈ l, x ≤ 31) → (monL l d).1 < l.length ∧ (monL l d).2 ≤ 30
  | [], d, h, _ => by simp at h
  | a :: l, d, h, hx => by
    unfold monL
    have ha := hx.2 a List.mem_cons_self
    split
    · rename_i hle
      have hl : d - a < l.sum := by simp only [List.sum_cons] at h; omega
      have h1 := hx.1
      unfold monL at h1
      rw [if_pos hle] at h1
      simp only [List.length_cons] at h1 ⊢
      have := monL_ok l (d - a) hl ⟨by omega, fun x hm => hx.2 x (List.mem_cons_of_mem _ hm)⟩
      omega
    · simp only [List.length_cons]; omega
theorem monL_lt : ∀ (l : List Nat) (d : Nat), d < l.sum → (monL l d).1 < l.length
  | [], d, h => by simp at h
  | a :: l, d, h => by
    unfold monL
    split
    · have hl : d - a < l.sum := by simp only [List.sum_cons] at h; omega
      have := monL_lt l (d - a) hl
      simp only [List.length_cons]
      omega
    · simp only [List.length_cons]; omega
theorem months_sum (y : Nat) : (monthsL y).sum = daysL y := by unfold monthsL daysL; split <;> rfl
theorem months_le (y : Nat) : ∀ x ∈ monthsL y, x ≤ 31 := by unfold monthsL; cases leapL y <;> decide
theorem dateL_ok {d : Nat} (h : d ≤ 1000000) : 1600 ≤ (dateL d).1 ∧ (dateL d).1 ≤ 5000 ∧ (dateL d).2.1 < 12 ∧ (dateL d).2.2 ≤ 30 := by
  have h1 := yearL_ok (d % 146097) (1600 + d / 146097 * 400)
  have h2 : (yearL (1600 + d / 146097 * 400) (d % 146097)).2 < (monthsL (yearL (1600 + d / 146097 * 400) (d % 146097)).1).sum := by rw [months_sum]; exact h1.1
  have h3 := monL_ok _ _ h2 ⟨monL_lt _ _ h2, months_le _⟩
  unfold dateL
  simp only
  rw [monthsL_len] at h3
  refine ⟨by omega, by omega, h3.1, h3.2⟩
set_option maxHeartbeats 4000000 in
theorem date_calls (d : Nat) (hd : d ≤ 1000000) (w : World) : Calls Tryz.prog 102 #[.int .i64 (d : Int)] w (fun e w' => ∃ v, e = .returned v ∧ v = .tuple #[.int .i64 ((dateL d).1 : Int), .int .i64 ((dateL d).2.1 + 1 : Nat), .int .i64 ((dateL d).2.2 + 1 : Nat), .int .i64 0] ∧ Ext w w') := by
  have hy := yearL_ok (d % 146097) (1600 + d / 146097 * 400)
  have hdef : dateL d = ((yearL (1600 + d / 146097 * 400) (d % 146097)).1, monL (monthsL (yearL (1600 + d / 146097 * 400) (d % 146097)).1) (yearL (1600 + d / 146097 * 400) (d % 146097)).2) := rfl
  rw [hdef]
  clear hdef
  generalize hY : yearL (1600 + d / 146097 * 400) (d % 146097) = Y at *
  have hms : Y.2 < (monthsL Y.1).sum := by rw [months_sum]; exact hy.1
  have hml := monL_lt _ _ hms
  rw [monthsL_len] at hml
  refine calls_of Tryz.func102 rfl Tryz.ntmps102 rfl ?_
  repeat' (first | refine a_mov ?_ | refine a_asg ?_ | refine a_binN ?_ | refine a_notb ?_ | (refine o_nil (hK _ _ ?_); clear hK K) | refine wk_reg ?_ | refine wk_seq fun K hK => ?_ | (refine wk_skip (hK _ _ ?_); clear hK K) | refine wk_block ?_ | refine wk_cond_t rfl ?_ | refine wk_cond_f rfl ?_ | (refine wk_exit ?_; (repeat (refine blockK_other rfl ?_)); refine blockK_same ?_; try ((repeat ((fail_if_success (refine hK _ _ ?_)); clear hK K)); refine hK _ _ ?_; clear hK K)) | (refine a_bin ?_ ?_ <;> intro _ <;> try (exfalso; omega)) | fail)
  refine o_fn (cis_calls d w) rfl (fun _ => rfl) rfl ?_
  rintro v w ⟨rfl, rfl⟩
  have hz : isD (d : Int) = true := by simp only [isD, decide_eq_true_eq]; omega
  rw [hz]
  repeat' (first | refine a_rem ?_ | refine a_quo ?_ | refine a_mov ?_ | refine a_asg ?_ | refine a_binN ?_ | refine a_notb ?_ | (refine o_nil (hK _ _ ?_); clear hK K) | refine wk_reg ?_ | refine wk_seq fun K hK => ?_ | (refine wk_skip (hK _ _ ?_); clear hK K) | refine wk_block ?_ | refine wk_cond_t rfl ?_ | refine wk_cond_f rfl ?_ | (refine wk_exit ?_; (repeat (refine blockK_other rfl ?_)); refine blockK_same ?_; try ((repeat ((fail_if_success (refine hK _ _ ?_)); clear hK K)); refine hK _ _ ?_; clear hK K)) | (refine a_bin ?_ ?_ <;> intro _ <;> try (exfalso; omega)) | fail)
  refine wk_loopH [] rfl (fun p : Nat × Nat => [(0, .int .i64 (p.2 : Int)), (6, .int .i64 (p.1 : Int))]) (fun p w' => (yearL p.1 p.2 = Y ∧ 1600 ≤ p.1 ∧ 365 * p.1 + p.2 ≤ 365 * (1600 + d / 146097 * 400) + d % 146097) ∧ w' = w) (fun p => p.2) (1600 + d / 146097 * 400, d % 146097) ⟨rfl, rfl, trivial⟩ ⟨⟨hY, by omega, Nat.le_refl _⟩, rfl⟩ ?_
  rintro ⟨y, q⟩ t w ⟨⟨e, hy1, hy2⟩, rfl⟩
  simp only at e hy1 hy2
  have hdl := daysL_le y
  have hdg := daysL_ge y
  repeat' (first | refine a_mov ?_ | refine a_asg ?_ | refine a_binN ?_ | refine a_notb ?_ | (refine o_nil (hK _ _ ?_); clear hK K) | refine wk_reg ?_ | refine wk_seq fun K hK => ?_ | (refine wk_skip (hK _ _ ?_); clear hK K) | refine wk_block ?_ | refine wk_cond_t rfl ?_ | refine wk_cond_f rfl ?_ | (refine wk_exit ?_; (repeat (refine blockK_other rfl ?_)); refine blockK_same ?_; try ((repeat ((fail_if_success (refine hK _ _ ?_)); clear hK K)); refine hK _ _ ?_; clear hK K)) | (refine a_bin ?_ ?_ <;> intro _ <;> try (exfalso; omega)) | fail)
  refine o_fn (days_calls y w) rfl (fun _ => rfl) rfl ?_
  rintro v w ⟨rfl, rfl⟩
  by_cases hle : daysL y ≤ q
  · rw [yearL_step hle] at e
    repeat' (first | refine a_mov ?_ | refine a_asg ?_ | refine a_binN ?_ | refine a_notb ?_ | (refine o_nil (hK _ _ ?_); clear hK K) | refine wk_reg ?_ | refine wk_seq fun K hK => ?_ | (refine wk_skip (hK _ _ ?_); clear hK K) | refine wk_block ?_ | refine wk_cond_t rfl ?_ | refine wk_cond_f rfl ?_ | (refine wk_exit ?_; (repeat (refine blockK_other rfl ?_)); refine blockK_same ?_; try ((repeat ((fail_if_success (refine hK _ _ ?_)); clear hK K)); refine hK _ _ ?_; clear hK K)) | (refine a_bin ?_ ?_ <;> intro _ <;> try (exfalso; omega)) | fail)
    refine o_fn (days_calls y w) rfl (fun _ => rfl) rfl ?_
    rintro v w ⟨rfl, rfl⟩
    repeat' (first | refine a_mov ?_ | refine a_asg ?_ | refine a_binN ?_ | refine a_notb ?_ | (refine o_nil (hK _ _ ?_); clear hK K) | refine wk_reg ?_ | refine wk_seq fun K hK => ?_ | (refine wk_skip (hK _ _ ?_); clear hK K) | refine wk_block ?_ | refine wk_cond_t rfl ?_ | refine wk_cond_f rfl ?_ | (refine wk_exit ?_; (repeat (refine blockK_other rfl ?_)); refine blockK_same ?_; try ((repeat ((fail_if_success (refine hK _ _ ?_)); clear hK K)); refine hK _ _ ?_; clear hK K)) | (refine a_bin ?_ ?_ <;> intro _ <;> try (exfalso; omega)) | fail)
    exact o_nil ⟨(y + 1, q - daysL y), ⟨congrArg (Value.int .i64) (by simp only; omega), rfl, trivial⟩, rfl, ⟨⟨e, by simp only; omega, by simp only; omega⟩, rfl⟩, by simp only; omega⟩
  · rw [yearL_end hle] at e
    subst e
    simp only at *
    repeat' (first | refine a_mov ?_ | refine a_asg ?_ | refine a_binN ?_ | refine a_notb ?_ | (refine o_nil (hK _ _ ?_); clear hK K) | refine wk_reg ?_ | refine wk_seq fun K hK => ?_ | (refine wk_skip (hK _ _ ?_); clear hK K) | refine wk_block ?_ | refine wk_cond_t rfl ?_ | refine wk_cond_f rfl ?_ | (refine wk_exit ?_; (repeat (refine blockK_other rfl ?_)); refine blockK_same ?_; try ((repeat ((fail_if_success (refine hK _ _ ?_)); clear hK K)); refine hK _ _ ?_; clear hK K)) | (refine a_bin ?_ ?_ <;> intro _ <;> try (exfalso; omega)) | fail)
    refine o_fn (months12_calls y hy1 (by omega) w) rfl (fun _ => rfl) rfl ?_
    rintro v w1 ⟨rfl, e1⟩
    repeat' (first | refine a_mov ?_ | refine a_asg ?_ | refine a_binN ?_ | refine a_notb ?_ | (refine o_nil (hK _ _ ?_); clear hK K) | refine wk_reg ?_ | refine wk_seq fun K hK => ?_ | (refine wk_skip (hK _ _ ?_); clear hK K) | refine wk_block ?_ | refine wk_cond_t rfl ?_ | refine wk_cond_f rfl ?_ | (refine wk_exit ?_; (repeat (refine blockK_other rfl ?_)); refine blockK_same ?_; try ((repeat ((fail_if_success (refine hK _ _ ?_)); clear hK K)); refine hK _ _ ?_; clear hK K)) | (refine a_bin ?_ ?_ <;> intro _ <;> try (exfalso; omega)) | fail)
    refine o_alloc (LH.start w1 (fun _ => False)) zero12 rfl rfl ?_
    intro b8 w2 hb8 hl
    repeat' (first | refine a_mov ?_ | refine a_asg ?_ | refine a_binN ?_ | refine a_notb ?_ | (refine o_nil (hK _ _ ?_); clear hK K) | refine wk_reg ?_ | refine wk_seq fun K hK => ?_ | (refine wk_skip (hK _ _ ?_); clear hK K) | refine wk_block ?_ | refine wk_cond_t rfl ?_ | refine wk_cond_f rfl ?_ | (refine wk_exit ?_; (repeat (refine blockK_other rfl ?_)); refine blockK_same ?_; try ((repeat ((fail_if_success (refine hK _ _ ?_)); clear hK K)); refine hK _ _ ?_; clear hK K)) | (refine a_bin ?_ ?_ <;> intro _ <;> try (exfalso; omega)) | fail)
    refine o_store hl 0 (mVals y) rfl rfl rfl rfl rfl (by rw [mVals_len]; decide) (mVals_one y) ?_
    clear hl
    intro w3 hl
    have hl : LH w1 (fun _ => False) w3 [(b8, .cells (mVals y).toArray 149 (0, 0))] := hl
    have hrow : Row w3 b8 0 (mVals y) := hl.rowL 0 0 12 rfl
    have e3 : Ext w w3 := e1.trans hl.done
    clear hl e1
    repeat' (first | refine a_mov ?_ | refine a_asg ?_ | refine a_binN ?_ | refine a_notb ?_ | (refine o_nil (hK _ _ ?_); clear hK K) | refine wk_reg ?_ | refine wk_seq fun K hK => ?_ | (refine wk_skip (hK _ _ ?_); clear hK K) | refine wk_block ?_ | refine wk_cond_t rfl ?_ | refine wk_cond_f rfl ?_ | (refine wk_exit ?_; (repeat (refine blockK_other rfl ?_)); refine blockK_same ?_; try ((repeat ((fail_if_success (refine hK _ _ ?_)); clear hK K)); refine hK _ _ ?_; clear hK K)) | (refine a_bin ?_ ?_ <;> intro _ <;> try (exfalso; omega)) | fail)
    refine wk_loopH [] rfl (fun p : Nat × Nat × Nat => [(0, .int .i64 (p.2.1 : Int)), (6, .int .i64 (y : Int)), (7, .int .i64 (p.1 : Int)), (8, .pointer (some ⟨p.2.2, 0, none⟩))]) (fun p w' => (p.1 ≤ 12 ∧ p.1 + (monL ((monthsL y).drop p.1) p.2.1).1 = (monL (monthsL y) q).1 ∧ (monL ((monthsL y).drop p.1) p.2.1).2 = (monL (monthsL y) q).2 ∧ p.2.1 ≤ 366) ∧ Row w' p.2.2 0 (mVals y) ∧ Ext w w') (fun p => 12 - p.1) (0, q, b8) ⟨rfl, rfl, rfl, rfl, trivial⟩ ⟨⟨by omega, Nat.zero_add _, rfl, by simp only; omega⟩, hrow, e3⟩ ?_
    clear hrow e3
    rintro ⟨k, z, b⟩ t w4 ⟨⟨hk, hm1, hm2, hz2⟩, hrow, e4⟩
    simp only at hk hm1 hm2 hz2 hrow
    change WK _ _ _ _ _ _ ((⟨t, []⟩ : St).with [(0, .int .i64 (z : Int)), (6, .int .i64 (y : Int)), (7, .int .i64 (k : Int)), (8, .pointer (some ⟨b, 0, none⟩))]) w4
    have hk12 : k < 12 := by
      rcases Nat.lt_or_ge k 12 with h | h
      · exact h
      · have : k = 12 := by omega
        subst this
        have : (monthsL y).drop 12 = [] := rfl
        rw [this] at hm1
        simp only [monL] at hm1
        omega
    have hdrop : (monthsL y).drop k = (monthsL y).getD k 0 :: (monthsL y).drop (k + 1) := by
      rw [List.drop_eq_getElem_cons (by rw [monthsL_len]; exact hk12), List.getD_eq_getElem?_getD, List.getElem?_eq_getElem (by rw [monthsL_len]; exact hk12)]
      rfl
    have hat : (mVals y)[k]? = _ := mVals_at (y := y) (i := k) hk12
    have hle2 := monthsL_le (y := y) (i := k) hk12
    rw [hdrop] at hm1 hm2
    generalize (monthsL y).getD k 0 = L at *
    rw [monL_cons] at hm1 hm2
    by_cases hL : L ≤ z
    · rw [if_pos hL] at hm1 hm2
      repeat' (first | refine o_indexArr (k := 1) k (by omega) rfl rfl rfl rfl rfl (by omega) ?_ | refine a_row hrow (v := .int .i64 (L : Int)) ?_ (hj := ⟨k, by omega, hat⟩) | refine a_mov ?_ | refine a_asg ?_ | refine a_binN ?_ | refine a_notb ?_ | (refine o_nil (hK _ _ ?_); clear hK K) | refine wk_reg ?_ | refine wk_seq fun K hK => ?_ | (refine wk_skip (hK _ _ ?_); clear hK K) | refine wk_block ?_ | refine wk_cond_t rfl ?_ | refine wk_cond_f rfl ?_ | (refine wk_exit ?_; (repeat (refine blockK_other rfl ?_)); refine blockK_same ?_; try ((repeat ((fail_if_success (refine hK _ _ ?_)); clear hK K)); refine hK _ _ ?_; clear hK K)) | (refine a_bin ?_ ?_ <;> intro _ <;> try (exfalso; omega)) | fail)
      refine a_all (vs := mVals y) hrow ?_
      repeat' (first | refine a_mov ?_ | refine a_asg ?_ | refine a_binN ?_ | refine a_notb ?_ | (refine o_nil (hK _ _ ?_); clear hK K) | refine wk_reg ?_ | refine wk_seq fun K hK => ?_ | (refine wk_skip (hK _ _ ?_); clear hK K) | refine wk_block ?_ | refine wk_cond_t rfl ?_ | refine wk_cond_f rfl ?_ | (refine wk_exit ?_; (repeat (refine blockK_other rfl ?_)); refine blockK_same ?_; try ((repeat ((fail_if_success (refine hK _ _ ?_)); clear hK K)); refine hK _ _ ?_; clear hK K)) | (refine a_bin ?_ ?_ <;> intro _ <;> try (exfalso; omega)) | fail)
      refine o_alloc (LH.start w4 (fun _ => False)) zero12 rfl rfl ?_
      intro b9 w5 hb9 hl
      repeat' (first | refine a_mov ?_ | refine a_asg ?_ | refine a_binN ?_ | refine a_notb ?_ | (refine o_nil (hK _ _ ?_); clear hK K) | refine wk_reg ?_ | refine wk_seq fun K hK => ?_ | (refine wk_skip (hK _ _ ?_); clear hK K) | refine wk_block ?_ | refine wk_cond_t rfl ?_ | refine wk_cond_f rfl ?_ | (refine wk_exit ?_; (repeat (refine blockK_other rfl ?_)); refine blockK_same ?_; try ((repeat ((fail_if_success (refine hK _ _ ?_)); clear hK K)); refine hK _ _ ?_; clear hK K)) | (refine a_bin ?_ ?_ <;> intro _ <;> try (exfalso; omega)) | fail)
      refine o_store hl 0 (mVals y) rfl rfl rfl rfl rfl (by rw [mVals_len]; decide) (mVals_one y) ?_
      clear hl
      intro w6 hl
      have hl : LH w4 (fun _ => False) w6 [(b9, .cells (mVals y).toArray 149 (0, 0))] := hl
      repeat' (first | refine a_mov ?_ | refine a_asg ?_ | refine a_binN ?_ | refine a_notb ?_ | (refine o_nil (hK _ _ ?_); clear hK K) | refine wk_reg ?_ | refine wk_seq fun K hK => ?_ | (refine wk_skip (hK _ _ ?_); clear hK K) | refine wk_block ?_ | refine wk_cond_t rfl ?_ | refine wk_cond_f rfl ?_ | (refine wk_exit ?_; (repeat (refine blockK_other rfl ?_)); refine blockK_same ?_; try ((repeat ((fail_if_success (refine hK _ _ ?_)); clear hK K)); refine hK _ _ ?_; clear hK K)) | (refine a_bin ?_ ?_ <;> intro _ <;> try (exfalso; omega)) | fail)
      exact o_nil ⟨(k + 1, z - L, b9), ⟨congrArg (Value.int .i64) (by simp only; omega), rfl, rfl, rfl, trivial⟩, rfl, ⟨⟨by simp only; omega, by simp only; omega, hm2, by simp only; omega⟩, hl.rowL 0 0 12 rfl, e4.trans hl.done⟩, by simp only; omega⟩
    · rw [if_neg hL] at hm1 hm2
      repeat' (first | refine o_indexArr (k := 1) k (by omega) rfl rfl rfl rfl rfl (by omega) ?_ | refine a_row hrow (v := .int .i64 (L : Int)) ?_ (hj := ⟨k, by omega, hat⟩) | refine a_mov ?_ | refine a_asg ?_ | refine a_binN ?_ | refine a_notb ?_ | (refine o_nil (hK _ _ ?_); clear hK K) | refine wk_reg ?_ | refine wk_seq fun K hK => ?_ | (refine wk_skip (hK _ _ ?_); clear hK K) | refine wk_block ?_ | refine wk_cond_t rfl ?_ | refine wk_cond_f rfl ?_ | (refine wk_exit ?_; (repeat (refine blockK_other rfl ?_)); refine blockK_same ?_; try ((repeat ((fail_if_success (refine hK _ _ ?_)); clear hK K)); refine hK _ _ ?_; clear hK K)) | (refine a_bin ?_ ?_ <;> intro _ <;> try (exfalso; omega)) | fail)
      refine wk_ret (retQ_res [.int .i64 (y : Int), .int .i64 ((k : Int) + 1), .int .i64 ((z : Int) + 1), .int .i64 0] rfl rfl ⟨by decide, rfl, by decide, rfl, by decide, rfl, by decide, rfl, trivial⟩ ?_)
      refine ⟨?_, e4⟩
      simp only at hm1 hm2
      rw [← hm1, ← hm2]
      rfl
set_option maxHeartbeats 4000000 in
theorem later_calls (d n : Nat) (hd : d ≤ 1000000) (hn : n ≤ 12000000) (w : World) : Calls Tryz.prog 70 #[.int .i64 (d : Int), .int .i64 (n : Int)] w (fun e w' => ∃ v, e = .returned v ∧ OptOut (laterL d n) v ∧ Ext w w') := by
  have hok := dateL_ok hd
  have hdef : laterL d n = (let k := n + 12 * (dateL d).1 + (dateL d).2.1; if k / 12 > 9999 then none else dayL (k / 12) (k % 12 + 1) (min ((dateL d).2.2 + 1) ((monthsL (k / 12)).getD (k % 12) 0))) := rfl
  rw [hdef]
  clear hdef
  refine calls_of Tryz.func70 rfl Tryz.ntmps70 rfl ?_
  repeat' (first | refine a_mov ?_ | refine a_asg ?_ | refine a_binN ?_ | refine a_ext ?_ | (refine o_nil (hK _ _ ?_); clear hK K) | refine wk_reg ?_ | refine wk_seq fun K hK => ?_ | (refine wk_skip (hK _ _ ?_); clear hK K) | refine wk_cond_t rfl ?_ | refine wk_cond_f rfl ?_ | (refine a_bin ?_ ?_ <;> intro _ <;> try (exfalso; omega)) | fail)
  refine o_fn (date_calls d hd w) rfl (fun _ => rfl) rfl ?_
  rintro v w1 ⟨rfl, e1⟩
  generalize dateL d = Y at *
  obtain ⟨Y, M, D⟩ := Y
  simp only at hok ⊢
  have hN : ((n : Int) + (12 * (Y : Int) + ((M + 1 : Nat) : Int) - 1)) = ((n + 12 * Y + M : Nat) : Int) := by push_cast; omega
  have hY : 1600 ≤ (n + 12 * Y + M) / 12 := by omega
  have hKb : n + 12 * Y + M ≤ 13000000 := by omega
  generalize hKe : n + 12 * Y + M = N at *
  repeat' (first | refine a_quo ?_ | refine a_mov ?_ | refine a_asg ?_ | refine a_binN ?_ | refine a_ext ?_ | (refine o_nil (hK _ _ ?_); clear hK K) | refine wk_reg ?_ | refine wk_seq fun K hK => ?_ | (refine wk_skip (hK _ _ ?_); clear hK K) | refine wk_cond_t rfl ?_ | refine wk_cond_f rfl ?_ | (refine a_bin ?_ ?_ <;> intro _ <;> try (exfalso; omega)) | fail)
  · refine wk_ret (retQ_tmp2 Tryz.results70 (by decide) (by decide) rfl (by conv => lhs; whnf) (by conv => lhs; whnf) ?_)
    rw [if_pos (by omega)]
    exact ⟨⟨10, by decide, rfl⟩, e1⟩
  have h9 : N / 12 ≤ 9999 := by omega
  rw [hN]
  refine o_fn (months12_calls (N / 12) hY h9 w1) rfl (fun _ => rfl) rfl ?_
  rintro v w2 ⟨rfl, e2⟩
  repeat' (first | refine a_mov ?_ | refine a_asg ?_ | refine a_binN ?_ | refine a_ext ?_ | (refine o_nil (hK _ _ ?_); clear hK K) | refine wk_reg ?_ | refine wk_seq fun K hK => ?_ | (refine wk_skip (hK _ _ ?_); clear hK K) | refine wk_cond_t rfl ?_ | refine wk_cond_f rfl ?_ | (refine a_bin ?_ ?_ <;> intro _ <;> try (exfalso; omega)) | fail)
  refine o_alloc (LH.start w2 (fun _ => False)) zero12 rfl rfl ?_
  intro b10 w3 hb10 hl
  repeat' (first | refine a_mov ?_ | refine a_asg ?_ | refine a_binN ?_ | refine a_ext ?_ | (refine o_nil (hK _ _ ?_); clear hK K) | refine wk_reg ?_ | refine wk_seq fun K hK => ?_ | (refine wk_skip (hK _ _ ?_); clear hK K) | refine wk_cond_t rfl ?_ | refine wk_cond_f rfl ?_ | (refine a_bin ?_ ?_ <;> intro _ <;> try (exfalso; omega)) | fail)
  refine o_store hl 0 (mVals (N / 12)) rfl rfl rfl rfl rfl (by rw [mVals_len]; decide) (mVals_one _) ?_
  clear hl
  intro w4 hl
  have hl : LH w2 (fun _ => False) w4 [(b10, .cells (mVals (N / 12)).toArray 149 (0, 0))] := hl
  have hrow : Row w4 b10 0 (mVals (N / 12)) := hl.rowL 0 0 12 rfl
  have e4 : Ext w w4 := (e1.trans e2).trans hl.done
  clear hl e1 e2
  have hk12 : N % 12 < 12 := by omega
  have hat : (mVals (N / 12))[N % 12]? = _ := mVals_at (y := N / 12) (i := N % 12) hk12
  have hle2 := monthsL_le (y := N / 12) (i := N % 12) hk12
  repeat' (first | refine a_quo ?_ | refine a_rem ?_ | refine o_indexArr (k := 1) (N % 12) (by omega) rfl rfl rfl rfl rfl (by omega) ?_ | refine a_row hrow (v := .int .i64 ((monthsL (N / 12)).getD (N % 12) 0 : Int)) ?_ (hj := ⟨N % 12, by omega, hat⟩) | refine o_min rfl rfl rfl ?_ | refine a_mov ?_ | refine a_asg ?_ | refine a_binN ?_ | refine a_ext ?_ | (refine o_nil (hK _ _ ?_); clear hK K) | refine wk_reg ?_ | refine wk_seq fun K hK => ?_ | (refine wk_skip (hK _ _ ?_); clear hK K) | refine wk_cond_t rfl ?_ | refine wk_cond_f rfl ?_ | (refine a_bin ?_ ?_ <;> intro _ <;> try (exfalso; omega)) | fail)
  have hmin : (min ((D + 1 : Nat) : Int) ((monthsL (N / 12)).getD (N % 12) 0 : Int)) = ((min (D + 1) ((monthsL (N / 12)).getD (N % 12) 0) : Nat) : Int) := by omega
  rw [hmin]
  refine o_fn (day_calls (N / 12) (N % 12 + 1) (min (D + 1) ((monthsL (N / 12)).getD (N % 12) 0)) hY h9 (by omega) (by omega) (by omega) w4) rfl (fun _ => rfl) rfl ?_
  rintro v w5 ⟨ho, e5⟩
  generalize hod : dayL (N / 12) (N % 12 + 1) (min (D + 1) ((monthsL (N / 12)).getD (N % 12) 0)) = o at ho
  cases o with
  | none =>
    obtain ⟨e, he, rfl⟩ := ho
    repeat' (first | refine a_mov ?_ | refine a_asg ?_ | refine a_binN ?_ | refine a_ext ?_ | (refine o_nil (hK _ _ ?_); clear hK K) | refine wk_reg ?_ | refine wk_seq fun K hK => ?_ | (refine wk_skip (hK _ _ ?_); clear hK K) | refine wk_cond_t rfl ?_ | refine wk_cond_f rfl ?_ | (refine a_bin ?_ ?_ <;> intro _ <;> try (exfalso; omega)) | fail)
    refine wk_ret (retQ_tmp2 Tryz.results70 (by decide) (by decide) rfl (by conv => lhs; whnf) (by conv => lhs; whnf) ?_)
    rw [if_neg (by omega)]
    refine ⟨?_, e4.trans e5⟩
    show OptOut (dayL (N / 12) (N % 12 + 1) (min (D + 1) ((monthsL (N / 12)).getD (N % 12) 0))) _
    rw [hod]
    exact ⟨e, he, rfl⟩
  | some o =>
    have ho : v = _ := ho
    subst ho
    repeat' (first | refine a_mov ?_ | refine a_asg ?_ | refine a_binN ?_ | refine a_ext ?_ | (refine o_nil (hK _ _ ?_); clear hK K) | refine wk_reg ?_ | refine wk_seq fun K hK => ?_ | (refine wk_skip (hK _ _ ?_); clear hK K) | refine wk_cond_t rfl ?_ | refine wk_cond_f rfl ?_ | (refine a_bin ?_ ?_ <;> intro _ <;> try (exfalso; omega)) | fail)
    refine wk_ret (retQ_tmp2 Tryz.results70 (by decide) (by decide) rfl (by conv => lhs; whnf) (by conv => lhs; whnf) ?_)
    rw [if_neg (by omega)]
    refine ⟨?_, e4.trans e5⟩
    show OptOut (dayL (N / 12) (N % 12 + 1) (min (D + 1) ((monthsL (N / 12)).getD (N % 12) 0))) _
    rw [hod]
    rfl
end Go.Proofs
