/-
  The calendar: the last day of a term.
-/
import Derived.Test.YtpmjolbnmoejdaaGreatDoorQCd
set_option linter.unusedVariables false
set_option linter.unusedSimpArgs false
set_option linter.unnecessarySimpa false
set_option maxRecDepth 10000
namespace Go.Proofs
open Go Go.Pd Go.Top
attribute [local irreducible] OpsL W RetQ OpsQ OpsC
def endB (b9 b10 : Nat) (x e : Int) : List (Nat × Obj) := [(b10, .cells [.int .i64 e].toArray 40 (0, 0)), (b9, .cells [.int .i64 x].toArray 3 (0, 0))]
def EndIs (o : Option Nat) (x e : Int) : Prop := match o with
  | some z => e = 0 ∧ x = z
  | none => e ≠ 0
set_option maxHeartbeats 2000000 in
theorem later1_calls {w0 w : World} {M : Nat → Prop} {b3 b9 b10 d n : Nat} {x e : Int} (hl : LH w0 M w (endB b9 b10 x e)) (hr : Row w b3 0 [.int .i64 (d : Int)]) (hd : d ≤ 1000000) (hn : n ≤ 12000000) :
    Calls Tryz.prog 69 #[.int .i64 (n : Int), .pointer (some ⟨b3, 0, none⟩), .pointer (some ⟨b9, 0, none⟩), .pointer (some ⟨b10, 0, none⟩)] w (fun c w' => ∃ v, c = .returned v ∧ ∃ x' e', EndIs (laterL d n) x' e' ∧ LH w0 M w' (endB b9 b10 x' e')) := by
  refine calls_of Tryz.func69 rfl Tryz.ntmps69 rfl ?_
  unfold endB at *
  repeat' (first | refine a_row hr ?_ | refine a_mov ?_ | refine a_ext ?_ | (refine o_nil (hK _ _ ?_); clear hK K) | refine wk_reg ?_ | (refine a_st hl ?_; clear hl; intro _ hl) | fail)
  refine o_fn (later_calls d n hd hn w) rfl (fun _ => rfl) rfl ?_
  rintro v w1 ⟨ho, e1⟩
  have hl := hl.ext e1
  cases hod : laterL d n with
  | none =>
    rw [hod] at ho
    obtain ⟨e2, he, rfl⟩ := ho
    repeat' (first | refine a_mov ?_ | refine a_ext ?_ | (refine o_nil (hK _ _ ?_); clear hK K) | refine wk_reg ?_ | (refine a_st hl ?_; clear hl; intro _ hl) | fail)
    exact o_nil (retQ_tmp0 rfl rfl ⟨0, e2, he, hl⟩)
  | some z =>
    rw [hod] at ho
    have ho : v = _ := ho
    subst ho
    repeat' (first | refine a_mov ?_ | refine a_ext ?_ | (refine o_nil (hK _ _ ?_); clear hK K) | refine wk_reg ?_ | (refine a_st hl ?_; clear hl; intro _ hl) | fail)
    exact o_nil (retQ_tmp0 rfl rfl ⟨z, 0, ⟨rfl, rfl⟩, hl⟩)
set_option maxHeartbeats 4000000 in
theorem add_calls (d n : Nat) (u : Int) (hd : d ≤ 1000000) (hn : n ≤ 1000000) (hu : 1 ≤ u ∧ u ≤ 5) (w : World) : Calls Tryz.prog 32 #[.int .i64 (d : Int), .agg #[.int .i64 (n : Int), .int .i64 u], .slice none 0 0] w (fun c w' => ∃ v, c = .returned v ∧ OptOut (addL d n u) v ∧ Ext w w') := by
  refine calls_of Tryz.func32 rfl Tryz.ntmps32 rfl ?_
  repeat' (first | refine a_mov ?_ | refine a_asg ?_ | refine a_binN ?_ | refine a_notb ?_ | refine a_fa ?_ | refine a_lenv ?_ | refine a_pick_t ?_ | refine a_pick_f ?_ | refine a_not ?_ | (refine o_nil (hK _ _ ?_); clear hK K) | refine wk_reg ?_ | refine wk_seq fun K hK => ?_ | (refine wk_skip (hK _ _ ?_); clear hK K) | refine wk_block ?_ | refine wk_cond_t rfl ?_ | refine wk_cond_f rfl ?_ | (refine wk_exit ?_; (repeat (refine blockK_other rfl ?_)); refine blockK_same ?_; try ((repeat ((fail_if_success (refine hK _ _ ?_)); clear hK K)); refine hK _ _ ?_; clear hK K)) | (refine a_bin ?_ ?_ <;> intro _ <;> try (exfalso; omega)) | refine a_ld hl ?_ | (refine a_st hl ?_; clear hl; intro _ hl) | fail)
  refine o_box (LH.start w (fun _ => False)) [.int .i64 (d : Int)] rfl rfl rfl ?_
  intro b3 w1 hb3 hl
  refine o_box hl [.int .i64 (n : Int), .int .i64 u] rfl rfl rfl ?_
  clear hl
  intro b4 w2 hb4 hl
  have hr3 : Row w2 b3 0 [.int .i64 (d : Int)] := hl.rowL 1 0 1 rfl
  have hr4 : Row w2 b4 0 [.int .i64 (n : Int), .int .i64 u] := hl.rowL 0 0 2 rfl
  have e2 : Ext w w2 := hl.done
  clear hl
  repeat' (first | refine a_row hr3 ?_ | refine a_mov ?_ | refine a_asg ?_ | refine a_binN ?_ | refine a_notb ?_ | refine a_fa ?_ | refine a_lenv ?_ | refine a_pick_t ?_ | refine a_pick_f ?_ | refine a_not ?_ | (refine o_nil (hK _ _ ?_); clear hK K) | refine wk_reg ?_ | refine wk_seq fun K hK => ?_ | (refine wk_skip (hK _ _ ?_); clear hK K) | refine wk_block ?_ | refine wk_cond_t rfl ?_ | refine wk_cond_f rfl ?_ | (refine wk_exit ?_; (repeat (refine blockK_other rfl ?_)); refine blockK_same ?_; try ((repeat ((fail_if_success (refine hK _ _ ?_)); clear hK K)); refine hK _ _ ?_; clear hK K)) | (refine a_bin ?_ ?_ <;> intro _ <;> try (exfalso; omega)) | refine a_ld hl ?_ | (refine a_st hl ?_; clear hl; intro _ hl) | fail)
  refine o_fn (cis_calls d w2) rfl (fun _ => rfl) rfl ?_
  rintro v w2 ⟨rfl, rfl⟩
  have hz : isD (d : Int) = true := by simp only [isD, decide_eq_true_eq]; omega
  rw [hz]
  repeat' (first | refine a_row hr4 ?_ | refine a_mov ?_ | refine a_asg ?_ | refine a_binN ?_ | refine a_notb ?_ | refine a_fa ?_ | refine a_lenv ?_ | refine a_pick_t ?_ | refine a_pick_f ?_ | refine a_not ?_ | (refine o_nil (hK _ _ ?_); clear hK K) | refine wk_reg ?_ | refine wk_seq fun K hK => ?_ | (refine wk_skip (hK _ _ ?_); clear hK K) | refine wk_block ?_ | refine wk_cond_t rfl ?_ | refine wk_cond_f rfl ?_ | (refine wk_exit ?_; (repeat (refine blockK_other rfl ?_)); refine blockK_same ?_; try ((repeat ((fail_if_success (refine hK _ _ ?_)); clear hK K)); refine hK _ _ ?_; clear hK K)) | (refine a_bin ?_ ?_ <;> intro _ <;> try (exfalso; omega)) | refine a_ld hl ?_ | (refine a_st hl ?_; clear hl; intro _ hl) | fail)
  refine o_fn (closedOn_calls w2) rfl (fun _ => rfl) rfl ?_
  rintro mv w3 ⟨ho, e3⟩
  have hr3 := hr3.ext e3
  have hr4 := hr4.ext e3
  have e3 := e2.trans e3
  clear e2
  refine o_mf [mv] [] rfl rfl rfl ?_
  repeat' (first | refine a_row hr3 ?_ | refine a_mov ?_ | refine a_asg ?_ | refine a_binN ?_ | refine a_notb ?_ | refine a_fa ?_ | refine a_lenv ?_ | refine a_pick_t ?_ | refine a_pick_f ?_ | refine a_not ?_ | (refine o_nil (hK _ _ ?_); clear hK K) | refine wk_reg ?_ | refine wk_seq fun K hK => ?_ | (refine wk_skip (hK _ _ ?_); clear hK K) | refine wk_block ?_ | refine wk_cond_t rfl ?_ | refine wk_cond_f rfl ?_ | (refine wk_exit ?_; (repeat (refine blockK_other rfl ?_)); refine blockK_same ?_; try ((repeat ((fail_if_success (refine hK _ _ ?_)); clear hK K)); refine hK _ _ ?_; clear hK K)) | (refine a_bin ?_ ?_ <;> intro _ <;> try (exfalso; omega)) | refine a_ld hl ?_ | (refine a_st hl ?_; clear hl; intro _ hl) | fail)
  refine o_alloc (LH.start w3 (fun _ => False)) [.int .i64 0] rfl rfl ?_
  intro b9 w4 hb9 hl
  refine o_alloc hl [.int .i64 0] rfl rfl ?_
  clear hl
  intro b10 w5 hb10 hl
  refine a_st hl ?_
  clear hl
  intro w6 hl
  refine a_st hl ?_
  clear hl
  intro w7 hl
  have hl : LH w3 (fun _ => False) w7 (endB b9 b10 d 0) := hl
  (refine o_nil (hK _ _ ?_); clear hK K; refine wk_seq fun K hK => ?_)
  refine wk_reg ?_
  refine o_mf [] [.pointer (some ⟨b3, 0, none⟩), .pointer (some ⟨b9, 0, none⟩), .pointer (some ⟨b10, 0, none⟩)] rfl rfl rfl ?_
  refine a_asg ?_
  (refine o_nil (hK _ _ ?_); clear hK K; refine wk_seq fun K hK => ?_)
  refine wk_cut [] (fun _ : Unit => [(8, openV mv), (9, .pointer (some ⟨b9, 0, none⟩)), (10, .pointer (some ⟨b10, 0, none⟩))]) (fun _ w' => ∃ x e, EndIs (endL d n u) x e ∧ LH w3 (fun _ => False) w' (endB b9 b10 x e)) ?_ ?_
  · unfold endB at hl
    obtain hu1 | hu2 | hu3 | hu4 | hu5 : u = 1 ∨ u = 2 ∨ u = 3 ∨ u = 4 ∨ u = 5 := by omega
    · subst hu1
      have hr4 := hr4.ext hl.done
      repeat' (first | refine a_row hr4 ?_ | refine a_mov ?_ | refine a_asg ?_ | refine a_binN ?_ | refine a_notb ?_ | refine a_fa ?_ | refine a_lenv ?_ | refine a_pick_t ?_ | refine a_pick_f ?_ | refine a_not ?_ | (refine o_nil (hK _ _ ?_); clear hK K) | refine wk_reg ?_ | refine wk_seq fun K hK => ?_ | (refine wk_skip (hK _ _ ?_); clear hK K) | refine wk_block ?_ | refine wk_cond_t rfl ?_ | refine wk_cond_f rfl ?_ | (refine wk_exit ?_; (repeat (refine blockK_other rfl ?_)); refine blockK_same ?_; try ((repeat ((fail_if_success (refine hK _ _ ?_)); clear hK K)); refine hK _ _ ?_; clear hK K)) | (refine a_bin ?_ ?_ <;> intro _ <;> try (exfalso; omega)) | refine a_ld hl ?_ | (refine a_st hl ?_; clear hl; intro _ hl) | fail)
      all_goals exact o_nil ⟨(), ⟨rfl, rfl, rfl, trivial⟩, rfl, (d + n : Nat), 0, ⟨rfl, rfl⟩, hl⟩
    · subst hu2
      have hr4 := hr4.ext hl.done
      repeat' (first | refine a_row hr4 ?_ | refine a_mov ?_ | refine a_asg ?_ | refine a_binN ?_ | refine a_notb ?_ | refine a_fa ?_ | refine a_lenv ?_ | refine a_pick_t ?_ | refine a_pick_f ?_ | refine a_not ?_ | (refine o_nil (hK _ _ ?_); clear hK K) | refine wk_reg ?_ | refine wk_seq fun K hK => ?_ | (refine wk_skip (hK _ _ ?_); clear hK K) | refine wk_block ?_ | refine wk_cond_t rfl ?_ | refine wk_cond_f rfl ?_ | (refine wk_exit ?_; (repeat (refine blockK_other rfl ?_)); refine blockK_same ?_; try ((repeat ((fail_if_success (refine hK _ _ ?_)); clear hK K)); refine hK _ _ ?_; clear hK K)) | (refine a_bin ?_ ?_ <;> intro _ <;> try (exfalso; omega)) | refine a_ld hl ?_ | (refine a_st hl ?_; clear hl; intro _ hl) | fail)
      all_goals exact o_nil ⟨(), ⟨rfl, rfl, rfl, trivial⟩, rfl, (d + 7 * n : Nat), 0, ⟨rfl, rfl⟩, hl⟩
    · subst hu3
      have hr3 := hr3.ext hl.done
      have hr4 := hr4.ext hl.done
      repeat' (first | refine a_row hr4 ?_ | refine a_mov ?_ | refine a_asg ?_ | refine a_binN ?_ | refine a_notb ?_ | refine a_fa ?_ | refine a_lenv ?_ | refine a_pick_t ?_ | refine a_pick_f ?_ | refine a_not ?_ | (refine o_nil (hK _ _ ?_); clear hK K) | refine wk_reg ?_ | refine wk_seq fun K hK => ?_ | (refine wk_skip (hK _ _ ?_); clear hK K) | refine wk_block ?_ | refine wk_cond_t rfl ?_ | refine wk_cond_f rfl ?_ | (refine wk_exit ?_; (repeat (refine blockK_other rfl ?_)); refine blockK_same ?_; try ((repeat ((fail_if_success (refine hK _ _ ?_)); clear hK K)); refine hK _ _ ?_; clear hK K)) | (refine a_bin ?_ ?_ <;> intro _ <;> try (exfalso; omega)) | refine a_ld hl ?_ | (refine a_st hl ?_; clear hl; intro _ hl) | fail)
      refine a_fc #[.int .i64 (n : Int)] #[.pointer (some ⟨b3, 0, none⟩), .pointer (some ⟨b9, 0, none⟩), .pointer (some ⟨b10, 0, none⟩)] #[.int .i64 (n : Int), .pointer (some ⟨b3, 0, none⟩), .pointer (some ⟨b9, 0, none⟩), .pointer (some ⟨b10, 0, none⟩)] rfl (later1_calls hl hr3 hd (by omega)) ?_
      rintro v w8 ⟨x, e, he, hl⟩
      repeat' (first | refine a_mov ?_ | refine a_asg ?_ | refine a_binN ?_ | refine a_notb ?_ | refine a_fa ?_ | refine a_lenv ?_ | refine a_pick_t ?_ | refine a_pick_f ?_ | refine a_not ?_ | (refine o_nil (hK _ _ ?_); clear hK K) | refine wk_reg ?_ | refine wk_seq fun K hK => ?_ | (refine wk_skip (hK _ _ ?_); clear hK K) | refine wk_block ?_ | refine wk_cond_t rfl ?_ | refine wk_cond_f rfl ?_ | (refine wk_exit ?_; (repeat (refine blockK_other rfl ?_)); refine blockK_same ?_; try ((repeat ((fail_if_success (refine hK _ _ ?_)); clear hK K)); refine hK _ _ ?_; clear hK K)) | (refine a_bin ?_ ?_ <;> intro _ <;> try (exfalso; omega)) | refine a_ld hl ?_ | (refine a_st hl ?_; clear hl; intro _ hl) | fail)
      all_goals exact o_nil ⟨(), ⟨rfl, rfl, rfl, trivial⟩, rfl, x, e, he, hl⟩
    · subst hu4
      have hr3 := hr3.ext hl.done
      have hr4 := hr4.ext hl.done
      repeat' (first | refine a_row hr4 ?_ | refine a_mov ?_ | refine a_asg ?_ | refine a_binN ?_ | refine a_notb ?_ | refine a_fa ?_ | refine a_lenv ?_ | refine a_pick_t ?_ | refine a_pick_f ?_ | refine a_not ?_ | (refine o_nil (hK _ _ ?_); clear hK K) | refine wk_reg ?_ | refine wk_seq fun K hK => ?_ | (refine wk_skip (hK _ _ ?_); clear hK K) | refine wk_block ?_ | refine wk_cond_t rfl ?_ | refine wk_cond_f rfl ?_ | (refine wk_exit ?_; (repeat (refine blockK_other rfl ?_)); refine blockK_same ?_; try ((repeat ((fail_if_success (refine hK _ _ ?_)); clear hK K)); refine hK _ _ ?_; clear hK K)) | (refine a_bin ?_ ?_ <;> intro _ <;> try (exfalso; omega)) | refine a_ld hl ?_ | (refine a_st hl ?_; clear hl; intro _ hl) | fail)
      refine a_fc #[.int .i64 ((12 * n : Nat) : Int)] #[.pointer (some ⟨b3, 0, none⟩), .pointer (some ⟨b9, 0, none⟩), .pointer (some ⟨b10, 0, none⟩)] #[.int .i64 ((12 * n : Nat) : Int), .pointer (some ⟨b3, 0, none⟩), .pointer (some ⟨b9, 0, none⟩), .pointer (some ⟨b10, 0, none⟩)] rfl (later1_calls hl hr3 hd (by omega)) ?_
      rintro v w8 ⟨x, e, he, hl⟩
      repeat' (first | refine a_mov ?_ | refine a_asg ?_ | refine a_binN ?_ | refine a_notb ?_ | refine a_fa ?_ | refine a_lenv ?_ | refine a_pick_t ?_ | refine a_pick_f ?_ | refine a_not ?_ | (refine o_nil (hK _ _ ?_); clear hK K) | refine wk_reg ?_ | refine wk_seq fun K hK => ?_ | (refine wk_skip (hK _ _ ?_); clear hK K) | refine wk_block ?_ | refine wk_cond_t rfl ?_ | refine wk_cond_f rfl ?_ | (refine wk_exit ?_; (repeat (refine blockK_other rfl ?_)); refine blockK_same ?_; try ((repeat ((fail_if_success (refine hK _ _ ?_)); clear hK K)); refine hK _ _ ?_; clear hK K)) | (refine a_bin ?_ ?_ <;> intro _ <;> try (exfalso; omega)) | refine a_ld hl ?_ | (refine a_st hl ?_; clear hl; intro _ hl) | fail)
      all_goals exact o_nil ⟨(), ⟨rfl, rfl, rfl, trivial⟩, rfl, x, e, he, hl⟩
    · subst hu5
      have hr4' := hr4.ext hl.done
      repeat' (first | refine a_row hr4' ?_ | refine a_mov ?_ | refine a_asg ?_ | refine a_binN ?_ | refine a_notb ?_ | refine a_fa ?_ | refine a_lenv ?_ | refine a_pick_t ?_ | refine a_pick_f ?_ | refine a_not ?_ | (refine o_nil (hK _ _ ?_); clear hK K) | refine wk_reg ?_ | refine wk_seq fun K hK => ?_ | (refine wk_skip (hK _ _ ?_); clear hK K) | refine wk_block ?_ | refine wk_cond_t rfl ?_ | refine wk_cond_f rfl ?_ | (refine wk_exit ?_; (repeat (refine blockK_other rfl ?_)); refine blockK_same ?_; try ((repeat ((fail_if_success (refine hK _ _ ?_)); clear hK K)); refine hK _ _ ?_; clear hK K)) | (refine a_bin ?_ ?_ <;> intro _ <;> try (exfalso; omega)) | refine a_ld hl ?_ | (refine a_st hl ?_; clear hl; intro _ hl) | fail)
      refine wk_loopH [] rfl (fun p : Nat × Nat => [(4, .pointer (some ⟨b4, 0, none⟩)), (8, openV mv), (9, .pointer (some ⟨b9, 0, none⟩)), (10, .pointer (some ⟨b10, 0, none⟩)), (12, .int .i64 (p.1 : Int))]) (fun p w' => (p.1 ≤ n ∧ workL (n - p.1) p.2 = workL n d ∧ p.2 ≤ 1000003) ∧ LH w3 (fun _ => False) w' (endB b9 b10 (p.2 : Int) 0)) (fun p => n - p.1) (0, d) ⟨rfl, rfl, rfl, rfl, rfl, trivial⟩ ⟨⟨Nat.zero_le _, rfl, by simp only; omega⟩, hl⟩ ?_
      clear hl hr4'
      rintro ⟨k, x⟩ t w8 ⟨⟨hk, hx, hx2⟩, hl⟩
      simp only at hk hx hx2
      change LH w3 (fun _ => False) w8 (endB b9 b10 (x : Int) 0) at hl
      unfold endB at hl
      have hr4' := hr4.ext hl.done
      have ho := ho.ext hl.done
      by_cases hlt : k < n
      · obtain ⟨m, hm⟩ : ∃ m, n - k = m + 1 := ⟨n - k - 1, by omega⟩
        rw [hm, workL] at hx
        repeat' (first | refine a_row hr4' ?_ | refine a_mov ?_ | refine a_asg ?_ | refine a_binN ?_ | refine a_notb ?_ | refine a_fa ?_ | refine a_lenv ?_ | refine a_pick_t ?_ | refine a_pick_f ?_ | refine a_not ?_ | (refine o_nil (hK _ _ ?_); clear hK K) | refine wk_reg ?_ | refine wk_seq fun K hK => ?_ | (refine wk_skip (hK _ _ ?_); clear hK K) | refine wk_block ?_ | refine wk_cond_t rfl ?_ | refine wk_cond_f rfl ?_ | (refine wk_exit ?_; (repeat (refine blockK_other rfl ?_)); refine blockK_same ?_; try ((repeat ((fail_if_success (refine hK _ _ ?_)); clear hK K)); refine hK _ _ ?_; clear hK K)) | (refine a_bin ?_ ?_ <;> intro _ <;> try (exfalso; omega)) | refine a_ld hl ?_ | (refine a_st hl ?_; clear hl; intro _ hl) | fail)
        refine o_fn (cis_calls x w8) rfl (fun _ => rfl) rfl ?_
        rintro v w8 ⟨rfl, rfl⟩
        by_cases hz1 : x ≤ 1000000
        · have hz : isD (x : Int) = true := by simp only [isD, decide_eq_true_eq]; omega
          rw [hz]
          rw [if_pos hz1] at hx
          have hle := fromL_le (x + 1)
          repeat' (first | refine a_mov ?_ | refine a_asg ?_ | refine a_binN ?_ | refine a_notb ?_ | refine a_fa ?_ | refine a_lenv ?_ | refine a_pick_t ?_ | refine a_pick_f ?_ | refine a_not ?_ | (refine o_nil (hK _ _ ?_); clear hK K) | refine wk_reg ?_ | refine wk_seq fun K hK => ?_ | (refine wk_skip (hK _ _ ?_); clear hK K) | refine wk_block ?_ | refine wk_cond_t rfl ?_ | refine wk_cond_f rfl ?_ | (refine wk_exit ?_; (repeat (refine blockK_other rfl ?_)); refine blockK_same ?_; try ((repeat ((fail_if_success (refine hK _ _ ?_)); clear hK K)); refine hK _ _ ?_; clear hK K)) | (refine a_bin ?_ ?_ <;> intro _ <;> try (exfalso; omega)) | refine a_ld hl ?_ | (refine a_st hl ?_; clear hl; intro _ hl) | fail)
          refine o_fn (from_calls (x + 1) (by omega) ho) rfl (fun _ => rfl) rfl ?_
          rintro v w8 ⟨rfl, rfl⟩
          repeat' (first | refine a_mov ?_ | refine a_asg ?_ | refine a_binN ?_ | refine a_notb ?_ | refine a_fa ?_ | refine a_lenv ?_ | refine a_pick_t ?_ | refine a_pick_f ?_ | refine a_not ?_ | (refine o_nil (hK _ _ ?_); clear hK K) | refine wk_reg ?_ | refine wk_seq fun K hK => ?_ | (refine wk_skip (hK _ _ ?_); clear hK K) | refine wk_block ?_ | refine wk_cond_t rfl ?_ | refine wk_cond_f rfl ?_ | (refine wk_exit ?_; (repeat (refine blockK_other rfl ?_)); refine blockK_same ?_; try ((repeat ((fail_if_success (refine hK _ _ ?_)); clear hK K)); refine hK _ _ ?_; clear hK K)) | (refine a_bin ?_ ?_ <;> intro _ <;> try (exfalso; omega)) | refine a_ld hl ?_ | (refine a_st hl ?_; clear hl; intro _ hl) | fail)
          exact o_nil ⟨(k + 1, fromL (x + 1)), ⟨rfl, rfl, rfl, rfl, rfl, trivial⟩, rfl, ⟨⟨by simp only; omega, by simp only; rw [show n - (k + 1) = m by omega]; exact hx, by simp only; omega⟩, hl⟩, by simp only; omega⟩
        · have hz : isD (x : Int) = false := by simp only [isD, decide_eq_false_iff_not]; omega
          rw [hz]
          rw [if_neg hz1] at hx
          repeat' (first | refine a_mov ?_ | refine a_asg ?_ | refine a_binN ?_ | refine a_notb ?_ | refine a_fa ?_ | refine a_lenv ?_ | refine a_pick_t ?_ | refine a_pick_f ?_ | refine a_not ?_ | (refine o_nil (hK _ _ ?_); clear hK K) | refine wk_reg ?_ | refine wk_seq fun K hK => ?_ | (refine wk_skip (hK _ _ ?_); clear hK K) | refine wk_block ?_ | refine wk_cond_t rfl ?_ | refine wk_cond_f rfl ?_ | (refine wk_exit ?_; (repeat (refine blockK_other rfl ?_)); refine blockK_same ?_; try ((repeat ((fail_if_success (refine hK _ _ ?_)); clear hK K)); refine hK _ _ ?_; clear hK K)) | (refine a_bin ?_ ?_ <;> intro _ <;> try (exfalso; omega)) | refine a_ld hl ?_ | (refine a_st hl ?_; clear hl; intro _ hl) | fail)
          exact ⟨(), ⟨rfl, rfl, rfl, trivial⟩, rfl, x, 0, ⟨rfl, congrArg Nat.cast hx⟩, hl⟩
      · obtain rfl : k = n := by omega
        rw [Nat.sub_self, workL] at hx
        repeat' (first | refine a_row hr4' ?_ | refine a_mov ?_ | refine a_asg ?_ | refine a_binN ?_ | refine a_notb ?_ | refine a_fa ?_ | refine a_lenv ?_ | refine a_pick_t ?_ | refine a_pick_f ?_ | refine a_not ?_ | (refine o_nil (hK _ _ ?_); clear hK K) | refine wk_reg ?_ | refine wk_seq fun K hK => ?_ | (refine wk_skip (hK _ _ ?_); clear hK K) | refine wk_block ?_ | refine wk_cond_t rfl ?_ | refine wk_cond_f rfl ?_ | (refine wk_exit ?_; (repeat (refine blockK_other rfl ?_)); refine blockK_same ?_; try ((repeat ((fail_if_success (refine hK _ _ ?_)); clear hK K)); refine hK _ _ ?_; clear hK K)) | (refine a_bin ?_ ?_ <;> intro _ <;> try (exfalso; omega)) | refine a_ld hl ?_ | (refine a_st hl ?_; clear hl; intro _ hl) | fail)
        exact ⟨(), ⟨rfl, rfl, rfl, trivial⟩, rfl, x, 0, ⟨rfl, congrArg Nat.cast hx⟩, hl⟩
  · rintro _ t w8 ⟨x, e, he, hl⟩
    refine hK _ _ ?_
    clear hK K
    have hadl : addL d n u = (match endL d n u with | none => none | some e => if e ≤ 1000000 ∧ fromL e ≤ 1000000 then some (fromL e) else none) := rfl
    have ho := ho.ext hl.done
    have e8 := e3.trans hl.done
    unfold endB at hl
    cases hod : endL d n u with
    | none =>
      rw [hod] at he hadl
      have he : e ≠ 0 := he
      repeat' (first | refine a_mov ?_ | refine a_asg ?_ | refine a_binN ?_ | refine a_notb ?_ | refine a_fa ?_ | refine a_lenv ?_ | refine a_pick_t ?_ | refine a_pick_f ?_ | refine a_not ?_ | (refine o_nil (hK _ _ ?_); clear hK K) | refine wk_reg ?_ | refine wk_seq fun K hK => ?_ | (refine wk_skip (hK _ _ ?_); clear hK K) | refine wk_block ?_ | refine wk_cond_t rfl ?_ | refine wk_cond_f rfl ?_ | (refine wk_exit ?_; (repeat (refine blockK_other rfl ?_)); refine blockK_same ?_; try ((repeat ((fail_if_success (refine hK _ _ ?_)); clear hK K)); refine hK _ _ ?_; clear hK K)) | (refine a_bin ?_ ?_ <;> intro _ <;> try (exfalso; omega)) | refine a_ld hl ?_ | (refine a_st hl ?_; clear hl; intro _ hl) | fail)
      refine wk_ret (retQ_tmp2 Tryz.results32 (by decide) (by decide) rfl (by conv => lhs; whnf) (by conv => lhs; whnf) ?_)
      refine ⟨?_, e8⟩
      rw [hadl]
      exact ⟨10, by decide, rfl⟩
    | some z =>
      rw [hod] at he hadl
      obtain ⟨rfl, rfl⟩ := he
      simp only at hadl
      repeat' (first | refine a_mov ?_ | refine a_asg ?_ | refine a_binN ?_ | refine a_notb ?_ | refine a_fa ?_ | refine a_lenv ?_ | refine a_pick_t ?_ | refine a_pick_f ?_ | refine a_not ?_ | (refine o_nil (hK _ _ ?_); clear hK K) | refine wk_reg ?_ | refine wk_seq fun K hK => ?_ | (refine wk_skip (hK _ _ ?_); clear hK K) | refine wk_block ?_ | refine wk_cond_t rfl ?_ | refine wk_cond_f rfl ?_ | (refine wk_exit ?_; (repeat (refine blockK_other rfl ?_)); refine blockK_same ?_; try ((repeat ((fail_if_success (refine hK _ _ ?_)); clear hK K)); refine hK _ _ ?_; clear hK K)) | (refine a_bin ?_ ?_ <;> intro _ <;> try (exfalso; omega)) | refine a_ld hl ?_ | (refine a_st hl ?_; clear hl; intro _ hl) | fail)
      refine o_fn (cis_calls z w8) rfl (fun _ => rfl) rfl ?_
      rintro v w8 ⟨rfl, rfl⟩
      by_cases hz1 : z ≤ 1000000
      · have hz : isD (z : Int) = true := by simp only [isD, decide_eq_true_eq]; omega
        rw [hz]
        repeat' (first | refine a_mov ?_ | refine a_asg ?_ | refine a_binN ?_ | refine a_notb ?_ | refine a_fa ?_ | refine a_lenv ?_ | refine a_pick_t ?_ | refine a_pick_f ?_ | refine a_not ?_ | (refine o_nil (hK _ _ ?_); clear hK K) | refine wk_reg ?_ | refine wk_seq fun K hK => ?_ | (refine wk_skip (hK _ _ ?_); clear hK K) | refine wk_block ?_ | refine wk_cond_t rfl ?_ | refine wk_cond_f rfl ?_ | (refine wk_exit ?_; (repeat (refine blockK_other rfl ?_)); refine blockK_same ?_; try ((repeat ((fail_if_success (refine hK _ _ ?_)); clear hK K)); refine hK _ _ ?_; clear hK K)) | (refine a_bin ?_ ?_ <;> intro _ <;> try (exfalso; omega)) | refine a_ld hl ?_ | (refine a_st hl ?_; clear hl; intro _ hl) | fail)
        refine o_fn (from_calls z (by omega) ho) rfl (fun _ => rfl) rfl ?_
        rintro v w8 ⟨rfl, rfl⟩
        repeat' (first | refine a_mov ?_ | refine a_asg ?_ | refine a_binN ?_ | refine a_notb ?_ | refine a_fa ?_ | refine a_lenv ?_ | refine a_pick_t ?_ | refine a_pick_f ?_ | refine a_not ?_ | (refine o_nil (hK _ _ ?_); clear hK K) | refine wk_reg ?_ | refine wk_seq fun K hK => ?_ | (refine wk_skip (hK _ _ ?_); clear hK K) | refine wk_block ?_ | refine wk_cond_t rfl ?_ | refine wk_cond_f rfl ?_ | (refine wk_exit ?_; (repeat (refine blockK_other rfl ?_)); refine blockK_same ?_; try ((repeat ((fail_if_success (refine hK _ _ ?_)); clear hK K)); refine hK _ _ ?_; clear hK K)) | (refine a_bin ?_ ?_ <;> intro _ <;> try (exfalso; omega)) | refine a_ld hl ?_ | (refine a_st hl ?_; clear hl; intro _ hl) | fail)
        refine o_fn (cis_calls (fromL z : Int) _) rfl (fun _ => rfl) rfl ?_
        rintro v w10 ⟨rfl, rfl⟩
        by_cases hz2 : fromL z ≤ 1000000
        · have hz : isD (fromL z : Int) = true := by simp only [isD, decide_eq_true_eq]; omega
          rw [hz]
          repeat' (first | refine a_mov ?_ | refine a_asg ?_ | refine a_binN ?_ | refine a_notb ?_ | refine a_fa ?_ | refine a_lenv ?_ | refine a_pick_t ?_ | refine a_pick_f ?_ | refine a_not ?_ | (refine o_nil (hK _ _ ?_); clear hK K) | refine wk_reg ?_ | refine wk_seq fun K hK => ?_ | (refine wk_skip (hK _ _ ?_); clear hK K) | refine wk_block ?_ | refine wk_cond_t rfl ?_ | refine wk_cond_f rfl ?_ | (refine wk_exit ?_; (repeat (refine blockK_other rfl ?_)); refine blockK_same ?_; try ((repeat ((fail_if_success (refine hK _ _ ?_)); clear hK K)); refine hK _ _ ?_; clear hK K)) | (refine a_bin ?_ ?_ <;> intro _ <;> try (exfalso; omega)) | refine a_ld hl ?_ | (refine a_st hl ?_; clear hl; intro _ hl) | fail)
          refine wk_ret (retQ_tmp2 Tryz.results32 (by decide) (by decide) rfl (by conv => lhs; whnf) (by conv => lhs; whnf) ?_)
          refine ⟨?_, e3.trans hl.done⟩
          rw [hadl, if_pos ⟨hz1, hz2⟩]
          rfl
        · have hz : isD (fromL z : Int) = false := by simp only [isD, decide_eq_false_iff_not]; omega
          rw [hz]
          repeat' (first | refine a_mov ?_ | refine a_asg ?_ | refine a_binN ?_ | refine a_notb ?_ | refine a_fa ?_ | refine a_lenv ?_ | refine a_pick_t ?_ | refine a_pick_f ?_ | refine a_not ?_ | (refine o_nil (hK _ _ ?_); clear hK K) | refine wk_reg ?_ | refine wk_seq fun K hK => ?_ | (refine wk_skip (hK _ _ ?_); clear hK K) | refine wk_block ?_ | refine wk_cond_t rfl ?_ | refine wk_cond_f rfl ?_ | (refine wk_exit ?_; (repeat (refine blockK_other rfl ?_)); refine blockK_same ?_; try ((repeat ((fail_if_success (refine hK _ _ ?_)); clear hK K)); refine hK _ _ ?_; clear hK K)) | (refine a_bin ?_ ?_ <;> intro _ <;> try (exfalso; omega)) | refine a_ld hl ?_ | (refine a_st hl ?_; clear hl; intro _ hl) | fail)
          refine wk_ret (retQ_tmp2 Tryz.results32 (by decide) (by decide) rfl (by conv => lhs; whnf) (by conv => lhs; whnf) ?_)
          refine ⟨?_, e3.trans hl.done⟩
          rw [hadl, if_neg (by omega)]
          exact ⟨10, by decide, rfl⟩
      · have hz : isD (z : Int) = false := by simp only [isD, decide_eq_false_iff_not]; omega
        rw [hz]
        repeat' (first | refine a_mov ?_ | refine a_asg ?_ | refine a_binN ?_ | refine a_notb ?_ | refine a_fa ?_ | refine a_lenv ?_ | refine a_pick_t ?_ | refine a_pick_f ?_ | refine a_not ?_ | (refine o_nil (hK _ _ ?_); clear hK K) | refine wk_reg ?_ | refine wk_seq fun K hK => ?_ | (refine wk_skip (hK _ _ ?_); clear hK K) | refine wk_block ?_ | refine wk_cond_t rfl ?_ | refine wk_cond_f rfl ?_ | (refine wk_exit ?_; (repeat (refine blockK_other rfl ?_)); refine blockK_same ?_; try ((repeat ((fail_if_success (refine hK _ _ ?_)); clear hK K)); refine hK _ _ ?_; clear hK K)) | (refine a_bin ?_ ?_ <;> intro _ <;> try (exfalso; omega)) | refine a_ld hl ?_ | (refine a_st hl ?_; clear hl; intro _ hl) | fail)
        refine wk_ret (retQ_tmp2 Tryz.results32 (by decide) (by decide) rfl (by conv => lhs; whnf) (by conv => lhs; whnf) ?_)
        refine ⟨?_, e8⟩
        rw [hadl, if_neg (by omega)]
        exact ⟨10, by decide, rfl⟩
end Go.Proofs
