/-
  Limits: the day by which days have passed; the first open day.
-/
import Derived.Test.YtpmjolbnmoejdaaGreatDoorQFr
import Derived.Test.YtpmjolbnmoejdaaGreatDoorQL2
import Derived.Test.YtpmjolbnmoejdaaGreatDoorQLC
set_option linter.unusedVariables false
set_option linter.unusedSimpArgs false
set_option linter.unnecessarySimpa false
set_option maxRecDepth 10000
namespace Go.Top
theorem afterL_take (n : Int) (c : List Stop) (d : Int) {k : Nat} (h : k < c.length) : afterL n (c.take (k + 1)) d = (if c[k].a ≤ afterL n (c.take k) d ∧ 0 < n then afterL n (c.take k) d + (c[k].b - c[k].a) else afterL n (c.take k) d) := by
  induction c generalizing d k with
  | nil => simp at h
  | cons s c ih =>
    cases k with
    | zero => simp [afterL]
    | succ k =>
      simp only [List.take_succ_cons, afterL, List.getElem_cons_succ]
      exact ih _ (by simpa using h)
theorem openL_yes {c : List Stop} {d : Nat} (h : d ≤ 1000000) (h2 : (!pausedL c d && openD d) = true) : openL c d = some d := by rw [openL, dif_pos h, if_pos h2]
theorem openL_no {c : List Stop} {d : Nat} (h : d ≤ 1000000) (h2 : (!pausedL c d && openD d) = false) : openL c d = openL c (d + 1) := by rw [openL, dif_pos h, if_neg (by rw [h2]; decide)]
theorem openL_end {c : List Stop} {d : Nat} (h : ¬ d ≤ 1000000) : openL c d = none := by rw [openL, dif_neg h]
end Go.Top
namespace Go.Proofs
open Go Go.Pd Go.Top
attribute [local irreducible] OpsL W RetQ OpsQ OpsC
set_option maxHeartbeats 2000000 in
theorem after_calls {w : World} {b : Nat} {f n : Int} {c : List Stop} (h : ClockIn w b f c) (hok : stopsOK f c) (hf : 0 ≤ f) (hc : c.length ≤ 100) (hfb : f ≤ 1000000) (hn : -1000000 ≤ n ∧ n ≤ 1000000) : Calls Tryz.prog 35 #[.pointer (some ⟨b, 0, none⟩), .int .i64 n] w (fun e w' => ∃ v, e = .returned v ∧ v = .int .i64 (afterL n c (f + n)) ∧ Ext w w') := by
  obtain ⟨cv, hr, hs⟩ := h
  obtain ⟨ca, cc, rfl, hp⟩ := sl_each stopL_len (by decide) hs
  refine calls_of Tryz.func35 rfl Tryz.ntmps35 rfl ?_
  repeat' (first | refine a_row hr ?_ | refine a_mov ?_ | refine a_asg ?_ | refine a_binN ?_ | refine a_nilc ?_ | refine a_fa ?_ | refine a_lenv ?_ | refine a_pick_t ?_ | refine a_pick_f ?_ | refine a_not ?_ | (refine o_nil (hK _ _ ?_); clear hK K) | refine wk_reg ?_ | refine wk_seq fun K hK => ?_ | (refine wk_skip (hK _ _ ?_); clear hK K) | refine wk_block ?_ | refine wk_cond_t rfl ?_ | refine wk_cond_f rfl ?_ | (refine wk_exit ?_; (repeat (refine blockK_other rfl ?_)); refine blockK_same ?_; try ((repeat ((fail_if_success (refine hK _ _ ?_)); clear hK K)); refine hK _ _ ?_; clear hK K)) | (refine a_bin ?_ ?_ <;> intro _ <;> try (exfalso; omega)) | refine a_ld hl ?_ | fail)
  refine wk_loopH [] rfl (fun k : Nat => [(1, .int .i64 n), (5, .int .i64 (afterL n (c.take k) (f + n))), (17, .slice ca c.length cc), (18, .int .i64 (c.length : Int)), (19, .int .i64 (k : Int))]) (fun k w' => k ≤ c.length ∧ Ext w w') (fun k => c.length - k) 0 ⟨rfl, rfl, rfl, rfl, rfl, trivial⟩ ⟨Nat.zero_le _, .refl _ _⟩ ?_
  rintro k t w1 ⟨hk, e1⟩
  by_cases hlt : k < c.length
  · obtain ⟨bb, o, hpp, hrr⟩ := hp k hlt
    have hrr := hrr w1 e1
    have hst := hok _ (List.getElem_mem hlt)
    have hle := afterL_le (f := f) (n := n) hf (c.take k) (f + n) (fun x hx => hok x (List.mem_of_mem_take hx))
    have hge := afterL_ge (f := f) (n := n) (c.take k) (f + n) (fun x hx => hok x (List.mem_of_mem_take hx))
    have htl : (c.take k).length ≤ 100 := by rw [List.length_take]; omega
    have hnext := afterL_take n c (f + n) hlt
    generalize hD : afterL n (c.take k) (f + n) = D at *
    repeat' (first | refine a_mov ?_ | refine a_asg ?_ | refine a_binN ?_ | refine a_nilc ?_ | refine a_fa ?_ | refine a_lenv ?_ | refine a_pick_t ?_ | refine a_pick_f ?_ | refine a_not ?_ | (refine o_nil (hK _ _ ?_); clear hK K) | refine wk_reg ?_ | refine wk_seq fun K hK => ?_ | (refine wk_skip (hK _ _ ?_); clear hK K) | refine wk_block ?_ | refine wk_cond_t rfl ?_ | refine wk_cond_f rfl ?_ | (refine wk_exit ?_; (repeat (refine blockK_other rfl ?_)); refine blockK_same ?_; try ((repeat ((fail_if_success (refine hK _ _ ?_)); clear hK K)); refine hK _ _ ?_; clear hK K)) | (refine a_bin ?_ ?_ <;> intro _ <;> try (exfalso; omega)) | refine a_ld hl ?_ | refine a_idx (c := 2) k hpp ?_ | refine a_all hrr ?_ | fail)
    refine o_alloc (LH.start w1 (fun _ => False)) [.int .i64 0, .int .i64 0] rfl rfl ?_
    intro b7 w2 hb7 hl
    repeat' (first | refine a_mov ?_ | refine a_asg ?_ | refine a_binN ?_ | refine a_nilc ?_ | refine a_fa ?_ | refine a_lenv ?_ | refine a_pick_t ?_ | refine a_pick_f ?_ | refine a_not ?_ | (refine o_nil (hK _ _ ?_); clear hK K) | refine wk_reg ?_ | refine wk_seq fun K hK => ?_ | (refine wk_skip (hK _ _ ?_); clear hK K) | refine wk_block ?_ | refine wk_cond_t rfl ?_ | refine wk_cond_f rfl ?_ | (refine wk_exit ?_; (repeat (refine blockK_other rfl ?_)); refine blockK_same ?_; try ((repeat ((fail_if_success (refine hK _ _ ?_)); clear hK K)); refine hK _ _ ?_; clear hK K)) | (refine a_bin ?_ ?_ <;> intro _ <;> try (exfalso; omega)) | refine a_ld hl ?_ | fail)
    refine o_store hl 0 (stopL c[k]) rfl rfl rfl rfl rfl (by rw [stopL_len]; decide) rfl ?_
    clear hl
    intro w3 hl
    have hl : LH w1 (fun _ => False) w3 [(b7, .cells [.int .i64 c[k].a, .int .i64 c[k].b].toArray 93 (0, 0))] := hl
    generalize c[k] = s at *
    obtain ⟨sa, sb⟩ := s
    simp only at hnext hst hl
    repeat' (first | refine a_mov ?_ | refine a_asg ?_ | refine a_binN ?_ | refine a_nilc ?_ | refine a_fa ?_ | refine a_lenv ?_ | refine a_pick_t ?_ | refine a_pick_f ?_ | refine a_not ?_ | (refine o_nil (hK _ _ ?_); clear hK K) | refine wk_reg ?_ | refine wk_seq fun K hK => ?_ | (refine wk_skip (hK _ _ ?_); clear hK K) | refine wk_block ?_ | refine wk_cond_t rfl ?_ | refine wk_cond_f rfl ?_ | (refine wk_exit ?_; (repeat (refine blockK_other rfl ?_)); refine blockK_same ?_; try ((repeat ((fail_if_success (refine hK _ _ ?_)); clear hK K)); refine hK _ _ ?_; clear hK K)) | (refine a_bin ?_ ?_ <;> intro _ <;> try (exfalso; omega)) | refine a_ld hl ?_ | fail)
    all_goals (first | rw [if_pos (by omega)] at hnext | rw [if_neg (by omega)] at hnext)
    all_goals exact o_nil ⟨k + 1, ⟨rfl, congrArg (Value.int .i64) hnext.symm, rfl, rfl, rfl, trivial⟩, rfl, ⟨by omega, e1.trans hl.done⟩, by omega⟩
  · obtain rfl : k = c.length := by omega
    rw [List.take_length]
    repeat' (first | refine a_mov ?_ | refine a_asg ?_ | refine a_binN ?_ | refine a_nilc ?_ | refine a_fa ?_ | refine a_lenv ?_ | refine a_pick_t ?_ | refine a_pick_f ?_ | refine a_not ?_ | (refine o_nil (hK _ _ ?_); clear hK K) | refine wk_reg ?_ | refine wk_seq fun K hK => ?_ | (refine wk_skip (hK _ _ ?_); clear hK K) | refine wk_block ?_ | refine wk_cond_t rfl ?_ | refine wk_cond_f rfl ?_ | (refine wk_exit ?_; (repeat (refine blockK_other rfl ?_)); refine blockK_same ?_; try ((repeat ((fail_if_success (refine hK _ _ ?_)); clear hK K)); refine hK _ _ ?_; clear hK K)) | (refine a_bin ?_ ?_ <;> intro _ <;> try (exfalso; omega)) | refine a_ld hl ?_ | fail)
    refine wk_ret (retQ_tmp1 Tryz.results35 (by decide) rfl (by conv => lhs; whnf) ?_)
    exact ⟨rfl, e1⟩
def pausedV (b : Nat) : Value := .func (.func 36) #[.pointer (some ⟨b, 0, none⟩)] #[]
set_option maxHeartbeats 2000000 in
theorem lopen_calls {w : World} {b : Nat} {f : Int} {c : List Stop} (h : ClockIn w b f c) (hc : c.length ≤ 100) (d : Nat) (hd : d ≤ 1000000000) : Calls Tryz.prog 34 #[.int .i64 (d : Int), pausedV b, .slice none 0 0] w (fun e w' => ∃ v, e = .returned v ∧ OptOut (openL c d) v ∧ Ext w w') := by
  refine calls_of Tryz.func34 rfl Tryz.ntmps34 rfl ?_
  repeat' (first | refine a_mov ?_ | refine a_asg ?_ | refine a_binN ?_ | refine a_notb ?_ | refine a_pick_t ?_ | refine a_pick_f ?_ | refine a_not ?_ | (refine o_nil (hK _ _ ?_); clear hK K) | refine wk_reg ?_ | refine wk_seq fun K hK => ?_ | (refine wk_skip (hK _ _ ?_); clear hK K) | refine wk_block ?_ | refine wk_cond_t rfl ?_ | refine wk_cond_f rfl ?_ | (refine wk_exit ?_; (repeat (refine blockK_other rfl ?_)); refine blockK_same ?_; try ((repeat ((fail_if_success (refine hK _ _ ?_)); clear hK K)); refine hK _ _ ?_; clear hK K)) | (refine a_bin ?_ ?_ <;> intro _ <;> try (exfalso; omega)) | fail)
  refine wk_loopH [] rfl (fun k : Nat => [(0, .int .i64 (k : Int)), (1, pausedV b), (2, .slice none 0 0)]) (fun k w' => (k ≤ 1000000001 ∧ openL c k = openL c d) ∧ Ext w w') (fun k => 1000001 - k) d ⟨rfl, rfl, rfl, trivial⟩ ⟨⟨by omega, rfl⟩, .refl _ _⟩ ?_
  rintro k t w1 ⟨⟨hk, ho⟩, e1⟩
  by_cases hk1 : k ≤ 1000000
  · repeat' (first | refine a_mov ?_ | refine a_asg ?_ | refine a_binN ?_ | refine a_notb ?_ | refine a_pick_t ?_ | refine a_pick_f ?_ | refine a_not ?_ | (refine o_nil (hK _ _ ?_); clear hK K) | refine wk_reg ?_ | refine wk_seq fun K hK => ?_ | (refine wk_skip (hK _ _ ?_); clear hK K) | refine wk_block ?_ | refine wk_cond_t rfl ?_ | refine wk_cond_f rfl ?_ | (refine wk_exit ?_; (repeat (refine blockK_other rfl ?_)); refine blockK_same ?_; try ((repeat ((fail_if_success (refine hK _ _ ?_)); clear hK K)); refine hK _ _ ?_; clear hK K)) | (refine a_bin ?_ ?_ <;> intro _ <;> try (exfalso; omega)) | fail)
    refine a_fw (⟨_, _, _, rfl, fun _ => rfl, paused_calls (h.ext e1) hc (k : Int)⟩ : CallF Tryz.prog (pausedV b) #[.int .i64 (k : Int)] w1 _) ?_
    rintro v w2 ⟨rfl, e2⟩
    have e2 := e1.trans e2
    cases hp : pausedL c k
    · repeat' (first | refine a_mov ?_ | refine a_asg ?_ | refine a_binN ?_ | refine a_notb ?_ | refine a_pick_t ?_ | refine a_pick_f ?_ | refine a_not ?_ | (refine o_nil (hK _ _ ?_); clear hK K) | refine wk_reg ?_ | refine wk_seq fun K hK => ?_ | (refine wk_skip (hK _ _ ?_); clear hK K) | refine wk_block ?_ | refine wk_cond_t rfl ?_ | refine wk_cond_f rfl ?_ | (refine wk_exit ?_; (repeat (refine blockK_other rfl ?_)); refine blockK_same ?_; try ((repeat ((fail_if_success (refine hK _ _ ?_)); clear hK K)); refine hK _ _ ?_; clear hK K)) | (refine a_bin ?_ ?_ <;> intro _ <;> try (exfalso; omega)) | fail)
      refine o_fn (work_calls k w2) rfl (fun _ => rfl) rfl ?_
      rintro v w3 ⟨rfl, e3⟩
      cases hw : openD k
      · rw [openL_no hk1 (by rw [hp, hw]; rfl)] at ho
        repeat' (first | refine a_mov ?_ | refine a_asg ?_ | refine a_binN ?_ | refine a_notb ?_ | refine a_pick_t ?_ | refine a_pick_f ?_ | refine a_not ?_ | (refine o_nil (hK _ _ ?_); clear hK K) | refine wk_reg ?_ | refine wk_seq fun K hK => ?_ | (refine wk_skip (hK _ _ ?_); clear hK K) | refine wk_block ?_ | refine wk_cond_t rfl ?_ | refine wk_cond_f rfl ?_ | (refine wk_exit ?_; (repeat (refine blockK_other rfl ?_)); refine blockK_same ?_; try ((repeat ((fail_if_success (refine hK _ _ ?_)); clear hK K)); refine hK _ _ ?_; clear hK K)) | (refine a_bin ?_ ?_ <;> intro _ <;> try (exfalso; omega)) | fail)
        exact o_nil ⟨k + 1, ⟨rfl, rfl, rfl, trivial⟩, rfl, ⟨⟨by omega, ho⟩, e2.trans e3⟩, by omega⟩
      · rw [openL_yes hk1 (by rw [hp, hw]; rfl)] at ho
        repeat' (first | refine a_mov ?_ | refine a_asg ?_ | refine a_binN ?_ | refine a_notb ?_ | refine a_pick_t ?_ | refine a_pick_f ?_ | refine a_not ?_ | (refine o_nil (hK _ _ ?_); clear hK K) | refine wk_reg ?_ | refine wk_seq fun K hK => ?_ | (refine wk_skip (hK _ _ ?_); clear hK K) | refine wk_block ?_ | refine wk_cond_t rfl ?_ | refine wk_cond_f rfl ?_ | (refine wk_exit ?_; (repeat (refine blockK_other rfl ?_)); refine blockK_same ?_; try ((repeat ((fail_if_success (refine hK _ _ ?_)); clear hK K)); refine hK _ _ ?_; clear hK K)) | (refine a_bin ?_ ?_ <;> intro _ <;> try (exfalso; omega)) | fail)
        refine wk_ret (retQ_tmp2 Tryz.results34 (by decide) (by decide) rfl (by conv => lhs; whnf) (by conv => lhs; whnf) ?_)
        exact ⟨by rw [← ho]; rfl, e2.trans e3⟩
    · rw [openL_no hk1 (by rw [hp]; rfl)] at ho
      repeat' (first | refine a_mov ?_ | refine a_asg ?_ | refine a_binN ?_ | refine a_notb ?_ | refine a_pick_t ?_ | refine a_pick_f ?_ | refine a_not ?_ | (refine o_nil (hK _ _ ?_); clear hK K) | refine wk_reg ?_ | refine wk_seq fun K hK => ?_ | (refine wk_skip (hK _ _ ?_); clear hK K) | refine wk_block ?_ | refine wk_cond_t rfl ?_ | refine wk_cond_f rfl ?_ | (refine wk_exit ?_; (repeat (refine blockK_other rfl ?_)); refine blockK_same ?_; try ((repeat ((fail_if_success (refine hK _ _ ?_)); clear hK K)); refine hK _ _ ?_; clear hK K)) | (refine a_bin ?_ ?_ <;> intro _ <;> try (exfalso; omega)) | fail)
      exact o_nil ⟨k + 1, ⟨rfl, rfl, rfl, trivial⟩, rfl, ⟨⟨by omega, ho⟩, e2⟩, by omega⟩
  · rw [openL_end hk1] at ho
    repeat' (first | refine a_mov ?_ | refine a_asg ?_ | refine a_binN ?_ | refine a_notb ?_ | refine a_pick_t ?_ | refine a_pick_f ?_ | refine a_not ?_ | (refine o_nil (hK _ _ ?_); clear hK K) | refine wk_reg ?_ | refine wk_seq fun K hK => ?_ | (refine wk_skip (hK _ _ ?_); clear hK K) | refine wk_block ?_ | refine wk_cond_t rfl ?_ | refine wk_cond_f rfl ?_ | (refine wk_exit ?_; (repeat (refine blockK_other rfl ?_)); refine blockK_same ?_; try ((repeat ((fail_if_success (refine hK _ _ ?_)); clear hK K)); refine hK _ _ ?_; clear hK K)) | (refine a_bin ?_ ?_ <;> intro _ <;> try (exfalso; omega)) | fail)
    refine wk_ret (retQ_tmp2 Tryz.results34 (by decide) (by decide) rfl (by conv => lhs; whnf) (by conv => lhs; whnf) ?_)
    exact ⟨by rw [← ho]; exact ⟨10, by decide, rfl⟩, e1⟩
end Go.Proofs

set_option linter.unusedVariables false
set_option linter.unusedSimpArgs false
set_option linter.unnecessarySimpa false
set_option maxRecDepth 10000
namespace Go.Proofs
open Go Go.Pd Go.Top
attribute [local irreducible] OpsL W RetQ OpsQ OpsC
theorem stopsL_len (c : List Stop) : (c.flatMap stopL).length = c.length * 2 := flat_length stopL_len c
def startB (b3 b13 : Nat) (f : Int) (cv : Value) : List (Nat × Obj) := [(b3, .cells [.pointer (some ⟨b13, 0, none⟩)].toArray 84 (0, 0)), clockB b13 f cv]
set_option maxHeartbeats 4000000 in
theorem join_calls {w0 w : World} {M : Nat → Prop} {b3 b13 : Nat} {f : Int} {cv : Value} {acc : List (Nat × Obj)} {rs : List Stop} (s : Stop) (hl : LH w0 M w (startB b3 b13 f cv ++ acc)) (ha : Acc cv 2 93 rs.length (rs.reverse.flatMap stopL) acc) (hlen : rs.length ≤ 100) :
    Calls Tryz.prog 74 #[.agg (stopL s).toArray, .pointer (some ⟨b3, 0, none⟩)] w (fun e w' => ∃ v, e = .returned v ∧ ∃ cv' acc', LH w0 M w' (startB b3 b13 f cv' ++ acc') ∧ Acc cv' 2 93 (joinS rs s).length ((joinS rs s).reverse.flatMap stopL) acc') := by
  obtain ⟨m, hm⟩ : ∃ m, rs.length = m := ⟨_, rfl⟩
  rw [hm] at ha hlen
  obtain ⟨ca, cc, rfl⟩ := ha.shape
  refine calls_of Tryz.func74 rfl Tryz.ntmps74 rfl ?_
  repeat' (first | refine a_asg ?_ | refine a_binN ?_ | refine a_nilc ?_ | refine a_fa ?_ | refine a_lenv ?_ | (refine o_nil (hK _ _ ?_); clear hK K) | refine wk_reg ?_ | refine wk_seq fun K hK => ?_ | (refine wk_skip (hK _ _ ?_); clear hK K) | refine wk_cond_t rfl ?_ | refine wk_cond_f rfl ?_ | fail)
  refine o_box hl (stopL s) rfl rfl rfl ?_
  clear hl
  intro b2 w1 hb2 hl
  have hl : LH w0 M w1 ((b2, .cells [.int .i64 s.a, .int .i64 s.b].toArray 93 (0, 0)) :: (b3, .cells [.pointer (some ⟨b13, 0, none⟩)].toArray 84 (0, 0)) :: (b13, .cells [.int .i64 f, .slice ca m cc].toArray 125 (0, 0)) :: acc) := hl
  have hr2 : Row w1 b2 0 [.int .i64 s.a, .int .i64 s.b] := hl.rowL 0 0 2 rfl
  have hr3 : Row w1 b3 0 [.pointer (some ⟨b13, 0, none⟩)] := hl.rowL 1 0 1 rfl
  have hr13 : Row w1 b13 0 [.int .i64 f, .slice ca m cc] := hl.rowL 2 0 2 rfl
  repeat' (first | refine a_row hr2 ?_ | refine a_row hr3 ?_ | refine a_row hr13 ?_ | refine a_asg ?_ | refine a_binN ?_ | refine a_nilc ?_ | refine a_fa ?_ | refine a_lenv ?_ | (refine o_nil (hK _ _ ?_); clear hK K) | refine wk_reg ?_ | refine wk_seq fun K hK => ?_ | (refine wk_skip (hK _ _ ?_); clear hK K) | refine wk_cond_t rfl ?_ | refine wk_cond_f rfl ?_ | fail)
  cases rs with
  | nil =>
    have hm0 : m = 0 := hm.symm
    refine wk_draw [0, 1, 2, 3, 4, 5, 6, 7, 8, 9, 10, 11, 12, 13, 14] [] [] (fun w' => To w1 w' w1.heap) (fun _ => True) rfl (by kernel_rfl) (by intro _ _ _ _ h; first | exact h | (simp only [BlockK, NoGoto, RetQ] at h)) (fun _ h => h) (fun _ _ => trivial) ?_
    repeat' (first | refine q_mov ?_ | refine q_fa ?_ | refine q_pick_t ?_ | refine q_pick_f ?_ | refine q_nilc ?_ | refine q_skip ?_ | refine q_nil ?_ | (refine q_bin ?_ ?_ <;> intro _ <;> try (exfalso; omega)) | fail)
    intro w2 hw2
    refine ops_nil (hK _ _ ?_)
    clear hK K
    replace hl := hl.heap hw2
    clear hr2 hr3 hr13
    refine wk_cond_f rfl ?_
    refine wk_skip (hK _ _ ?_)
    clear hK K
    have hr2 : Row w2 b2 0 [.int .i64 s.a, .int .i64 s.b] := hl.rowL (vs := [.int .i64 s.a, .int .i64 s.b]) 0 0 2 rfl
    refine wk_drawP [0, 1, 2, 3, 4, 5, 8, 9] [0, 1, 4] [6, 7, 10] [] [] (fun w' => To w2 w' (w2).heap) (fun w' => Row w' b3 0 [.pointer (some ⟨b13, 0, none⟩)] ∧ Row w' b13 0 [.int .i64 f, .slice ca m cc]) rfl (by kernel_rfl) (by intro _ _ _ _ h; first | exact h | (simp only [BlockK, NoGoto, RetQ] at h)) (fun _ h => h) (fun w' h => ⟨(hl.heap h).rowL (vs := [.pointer (some ⟨b13, 0, none⟩)]) 1 0 1 rfl, (hl.heap h).rowL (vs := [.int .i64 f, .slice ca m cc]) 2 0 2 rfl⟩) ?_
    repeat' (first | refine q_mov ?_ | refine q_fa ?_ | refine q_pick_t ?_ | refine q_pick_f ?_ | refine q_nilc ?_ | refine q_skip ?_ | refine q_nil ?_ | (refine q_bin ?_ ?_ <;> intro _ <;> try (exfalso; omega)) | refine q_late rfl rfl rfl rfl (fun w' hw' => r_load rfl rfl (hw'.1 0 _ rfl)) ?_ | refine q_late rfl rfl rfl rfl (fun w' hw' => r_load rfl rfl (hw'.2 1 _ rfl)) ?_ | refine q_all (fun w_ hw_ => hr2.ext (Upd.of_heap hw_)) ?_ | fail)
    intro w3 hw3
    replace hl := hl.heap hw3
    clear hr2
    refine opsD_tail rfl rfl ?_
    refine o_buildSlice hl (stopL s) rfl rfl (by kernel_rfl) ?_
    clear hl
    intro bt w4 hbt hl
    refine o_nil ⟨.inl ⟨hl.rowL (vs := [.pointer (some ⟨b13, 0, none⟩)]) 2 0 1 rfl, hl.rowL (vs := [.int .i64 f, .slice ca m cc]) 3 0 2 rfl⟩, ?_⟩
    refine opsD_tail rfl rfl ?_
    refine o_append (us := stopL s) (bl' := [(bt, _), (b2, _), (b3, _), (b13, _)]) (bytes := 16) (q := 1) hl ha (hl.rowL (vs := stopL s) 0 0 2 rfl) rfl rfl (by decide) (by omega) (by omega) rfl rfl (by kernel_rfl) rfl rfl ?_
    clear hl
    intro v' w5 acc' hl ha'
    obtain ⟨va, vc, rfl⟩ := ha'.shape
    refine o_nil ⟨.inl ⟨hl.rowL (vs := [.pointer (some ⟨b13, 0, none⟩)]) 2 0 1 rfl, hl.rowL (vs := [.int .i64 f, .slice ca m cc]) 3 0 2 rfl⟩, ?_⟩
    refine opsD_tail rfl rfl ?_
    refine o_put1 (b := b13) (o := 1) (v := .slice va (m + 1) vc) hl rfl rfl rfl ⟨rfl, rfl⟩ rfl (.there (.there (.there (.here rfl rfl)))) ?_
    clear hl
    intro w6 hl
    refine o_nil ⟨.inr (by kernel_rfl), ?_⟩
    refine opsD_nil ?_
    unfold PostQ
    refine q_nil ?_
    have hl : LH w0 M w6 (startB b3 b13 f (.slice va (m + 1) vc) ++ acc') := (hl.sub (List.sublist_cons_self _ _)).sub (List.sublist_cons_self _ _)
    subst hm0
    exact retQ_tmp0 rfl rfl ⟨_, _, hl, ha'⟩
  | cons k r =>
    have hm1 : m = r.length + 1 := hm.symm
    have hs : Sl w1 (.slice ca m cc) 2 ((k :: r).reverse.flatMap stopL) := LH.acc_sl (l := [(b2, _), (b3, _), (b13, _)]) hl ha
    obtain ⟨a', c', he, hp⟩ := sl_each stopL_len (by decide) hs
    obtain ⟨h1, -, -⟩ := Value.slice.inj he
    subst h1
    obtain ⟨bb, oo, hpp, hrow⟩ := hp r.length (by simp)
    have hlast : (k :: r).reverse[r.length]'(by simp) = k := by simp
    rw [hlast] at hrow
    by_cases hle : s.a ≤ k.b
    · refine wk_draw [0, 1, 2, 3, 4, 5, 6, 7, 8, 9, 10, 11, 12, 13, 14] [] [] (fun w' => To w1 w' w1.heap) (fun _ => True) rfl (by kernel_rfl) (by intro _ _ _ _ h; first | exact h | (simp only [BlockK, NoGoto, RetQ] at h)) (fun _ h => h) (fun _ _ => trivial) ?_
      repeat' (first | refine q_mov ?_ | refine q_fa ?_ | refine q_pick_t ?_ | refine q_pick_f ?_ | refine q_nilc ?_ | refine q_skip ?_ | refine q_nil ?_ | (refine q_bin ?_ ?_ <;> intro _ <;> try (exfalso; omega)) | refine q_row (fun w_ hw_ => hr2.ext (Upd.of_heap hw_)) ?_ | refine q_row (fun w_ hw_ => hr3.ext (Upd.of_heap hw_)) ?_ | refine q_row (fun w_ hw_ => hr13.ext (Upd.of_heap hw_)) ?_ | refine q_idx (c := 2) r.length hpp ?_ | refine q_row (fun w_ hw_ => hrow w_ (Upd.of_heap hw_)) ?_ | fail)
      intro w2 hw2
      refine ops_nil (hK _ _ ?_)
      clear hK K
      have x2 : Ext w1 w2 := Upd.of_heap hw2
      replace hl := hl.heap hw2
      have hr2 := hr2.ext x2
      have hr3 := hr3.ext x2
      have hr13 := hr13.ext x2
      have hrow := hrow w2 x2
      refine wk_cond_t rfl ?_
      refine wk_seq fun K hK => ?_
      refine wk_lastQ [0, 1, 2, 3, 4, 5, 6, 7, 8, 9, 10, 11, 12, 13, 14, 15, 16, 17] (List.dropLast_concat_getLast (by simp)).symm (by kernel_rfl) (by kernel_rfl) ?_
      repeat' (first | refine q_mov ?_ | refine q_fa ?_ | refine q_pick_t ?_ | refine q_pick_f ?_ | refine q_nilc ?_ | refine q_skip ?_ | refine q_nil ?_ | (refine q_bin ?_ ?_ <;> intro _ <;> try (exfalso; omega)) | refine q_row (fun w_ hw_ => hr2.ext hw_) ?_ | refine q_row (fun w_ hw_ => hr3.ext hw_) ?_ | refine q_row (fun w_ hw_ => hr13.ext hw_) ?_ | refine q_idx (c := 2) r.length hpp ?_ | refine q_row (fun w_ hw_ => hrow.ext hw_) ?_ | refine q_pur rfl rfl rfl (fun _ => r_max rfl rfl) ?_ | fail)
      intro w3 x3
      have hl := hl.ext x3
      rcases ha.2 with ⟨-, h0, -⟩ | ⟨b, cap, cur, hcv, rfl, k1, k2, k3, k4⟩
      · omega
      obtain ⟨hca, -, rfl⟩ := Value.slice.inj hcv
      have hbo : bb = b ∧ oo = 0 := by
        rw [hca] at hpp
        cases hpp
        exact ⟨rfl, rfl⟩
      obtain ⟨rfl, rfl⟩ := hbo
      have hcur : cur = ((k :: r).reverse.flatMap stopL ++ cur.toList.drop (m * 2)).toArray := by
        rw [← k4, List.take_append_drop]
      generalize hjk : cur.toList.drop (m * 2) = junk at hcur
      have hj : joinS (k :: r) s = { a := k.a, b := max k.b s.b } :: r := by simp only [joinS]; rw [if_pos hle]
      have hjl : junk.length = (cc - m) * 2 := by
        rw [← hjk, List.length_drop]
        simp only [Array.length_toList, k3]
        omega
      clear hjk
      rw [hcur] at hl
      refine o_store hl 3 [.int .i64 (max k.b s.b)] rfl rfl rfl rfl rfl (by rw [List.length_append, stopsL_len]; simp only [List.length_reverse, List.length_cons, List.length_nil]; omega) rfl ?_
      clear hl
      intro w4 hl
      have hA : (r.reverse.flatMap stopL).length = r.length * 2 := by rw [stopsL_len, List.length_reverse]
      have hf1 : (k :: r).reverse.flatMap stopL = r.reverse.flatMap stopL ++ [.int .i64 k.a, .int .i64 k.b] := by simp [stopL]
      have hf2 : (joinS (k :: r) s).reverse.flatMap stopL = r.reverse.flatMap stopL ++ [.int .i64 k.a, .int .i64 (max k.b s.b)] := by rw [hj]; simp [stopL]
      have hput : putL ((k :: r).reverse.flatMap stopL ++ junk) (0 + r.length * 2 + 1) [.int .i64 (max k.b s.b)] = (joinS (k :: r) s).reverse.flatMap stopL ++ junk := by
        rw [hf1, hf2, Nat.zero_add, ← hA, List.append_assoc, List.append_assoc, putL_app]
        rfl
      rw [hput] at hl
      refine o_nil (hK _ _ ?_)
      clear hK K
      have hjlen : (joinS (k :: r) s).length = m := by rw [hj, hm1]; rfl
      refine wk_ret (retQ_tmp0 rfl rfl ⟨.slice ca m cc, [(bb, .cells ((joinS (k :: r) s).reverse.flatMap stopL ++ junk).toArray 93 (0, 0))], hl.sub (List.sublist_cons_self _ _), ?_, .inr ⟨bb, cc, _, by rw [hjlen, hca], rfl, by rw [hjlen]; exact k1, k2, ?_, ?_⟩⟩)
      · rw [stopsL_len, List.length_reverse]
      · simp only [List.size_toArray, List.length_append]
        rw [stopsL_len, List.length_reverse, hjlen, hjl]
        omega
      · rw [List.take_left' (by rw [stopsL_len, List.length_reverse])]
    · refine wk_draw [0, 1, 2, 3, 4, 5, 6, 7, 8, 9, 10, 11, 12, 13, 14] [] [] (fun w' => To w1 w' w1.heap) (fun _ => True) rfl (by kernel_rfl) (by intro _ _ _ _ h; first | exact h | (simp only [BlockK, NoGoto, RetQ] at h)) (fun _ h => h) (fun _ _ => trivial) ?_
      repeat' (first | refine q_mov ?_ | refine q_fa ?_ | refine q_pick_t ?_ | refine q_pick_f ?_ | refine q_nilc ?_ | refine q_skip ?_ | refine q_nil ?_ | (refine q_bin ?_ ?_ <;> intro _ <;> try (exfalso; omega)) | refine q_row (fun w_ hw_ => hr2.ext (Upd.of_heap hw_)) ?_ | refine q_row (fun w_ hw_ => hr3.ext (Upd.of_heap hw_)) ?_ | refine q_row (fun w_ hw_ => hr13.ext (Upd.of_heap hw_)) ?_ | refine q_idx (c := 2) r.length hpp ?_ | refine q_row (fun w_ hw_ => hrow w_ (Upd.of_heap hw_)) ?_ | fail)
      intro w2 hw2
      refine ops_nil (hK _ _ ?_)
      clear hK K
      replace hl := hl.heap hw2
      clear hr2 hr3 hr13 hrow hp
      refine wk_cond_f rfl ?_
      refine wk_skip (hK _ _ ?_)
      clear hK K
      have hr2 : Row w2 b2 0 [.int .i64 s.a, .int .i64 s.b] := hl.rowL (vs := [.int .i64 s.a, .int .i64 s.b]) 0 0 2 rfl
      refine wk_drawP [0, 1, 2, 3, 4, 5, 8, 9] [0, 1, 4] [6, 7, 10] [] [] (fun w' => To w2 w' (w2).heap) (fun w' => Row w' b3 0 [.pointer (some ⟨b13, 0, none⟩)] ∧ Row w' b13 0 [.int .i64 f, .slice ca m cc]) rfl (by kernel_rfl) (by intro _ _ _ _ h; first | exact h | (simp only [BlockK, NoGoto, RetQ] at h)) (fun _ h => h) (fun w' h => ⟨(hl.heap h).rowL (vs := [.pointer (some ⟨b13, 0, none⟩)]) 1 0 1 rfl, (hl.heap h).rowL (vs := [.int .i64 f, .slice ca m cc]) 2 0 2 rfl⟩) ?_
      repeat' (first | refine q_mov ?_ | refine q_fa ?_ | refine q_pick_t ?_ | refine q_pick_f ?_ | refine q_nilc ?_ | refine q_skip ?_ | refine q_nil ?_ | (refine q_bin ?_ ?_ <;> intro _ <;> try (exfalso; omega)) | refine q_late rfl rfl rfl rfl (fun w' hw' => r_load rfl rfl (hw'.1 0 _ rfl)) ?_ | refine q_late rfl rfl rfl rfl (fun w' hw' => r_load rfl rfl (hw'.2 1 _ rfl)) ?_ | refine q_all (fun w_ hw_ => hr2.ext (Upd.of_heap hw_)) ?_ | fail)
      intro w3 hw3
      replace hl := hl.heap hw3
      clear hr2
      refine opsD_tail rfl rfl ?_
      refine o_buildSlice hl (stopL s) rfl rfl (by kernel_rfl) ?_
      clear hl
      intro bt w4 hbt hl
      refine o_nil ⟨.inl ⟨hl.rowL (vs := [.pointer (some ⟨b13, 0, none⟩)]) 2 0 1 rfl, hl.rowL (vs := [.int .i64 f, .slice ca m cc]) 3 0 2 rfl⟩, ?_⟩
      refine opsD_tail rfl rfl ?_
      refine o_append (us := stopL s) (bl' := [(bt, _), (b2, _), (b3, _), (b13, _)]) (bytes := 16) (q := 1) hl ha (hl.rowL (vs := stopL s) 0 0 2 rfl) rfl rfl (by decide) (by omega) (by omega) rfl rfl (by kernel_rfl) rfl rfl ?_
      clear hl
      intro v' w5 acc' hl ha'
      obtain ⟨va, vc, rfl⟩ := ha'.shape
      refine o_nil ⟨.inl ⟨hl.rowL (vs := [.pointer (some ⟨b13, 0, none⟩)]) 2 0 1 rfl, hl.rowL (vs := [.int .i64 f, .slice ca m cc]) 3 0 2 rfl⟩, ?_⟩
      refine opsD_tail rfl rfl ?_
      refine o_put1 (b := b13) (o := 1) (v := .slice va (m + 1) vc) hl rfl rfl rfl ⟨rfl, rfl⟩ rfl (.there (.there (.there (.here rfl rfl)))) ?_
      clear hl
      intro w6 hl
      refine o_nil ⟨.inr (by kernel_rfl), ?_⟩
      refine opsD_nil ?_
      unfold PostQ
      refine q_nil ?_
      have hl : LH w0 M w6 (startB b3 b13 f (.slice va (m + 1) vc) ++ acc') := (hl.sub (List.sublist_cons_self _ _)).sub (List.sublist_cons_self _ _)
      subst hm1
      have hj : joinS (k :: r) s = s :: k :: r := by simp only [joinS]; rw [if_neg hle]
      refine retQ_tmp0 rfl rfl ⟨_, _, hl, ?_⟩
      rw [hj, List.reverse_cons, List.flatMap_append]
      simpa using ha'
end Go.Proofs
