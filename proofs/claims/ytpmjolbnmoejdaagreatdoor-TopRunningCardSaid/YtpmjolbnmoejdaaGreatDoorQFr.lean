/-
  Limits: is a limit proper.
-/
import Derived.Test.YtpmjolbnmoejdaaGreatDoorQToE
import Derived.Test.YtpmjolbnmoejdaaGreatDoorQToIs
set_option linter.unusedVariables false
set_option linter.unusedSimpArgs false
set_option linter.unnecessarySimpa false
set_option maxRecDepth 10000
namespace Go.Proofs
open Go Go.Pd Go.Top
open Go.Fin (Nm)
attribute [local irreducible] OpsL W RetQ OpsQ OpsC
def stopL (s : Stop) : List Value := [.int .i64 s.a, .int .i64 s.b]
def limL (p : Lim × Value) : List Value := [str p.1.id, .int .i64 p.1.n, .int .i64 p.1.u, .int .i64 p.1.f, p.2]
theorem stopL_len (s : Stop) : (stopL s).length = 2 := rfl
theorem limL_len (p : Lim × Value) : (limL p).length = 5 := rfl
def LimIn (w : World) (p : Lim × Value) : Prop := Sl w p.2 2 (p.1.st.flatMap stopL) ∧ p.1.st.length ≤ 140737488351232 ∧ p.1.id.length ≤ 140737488351232
theorem LimIn.ext {w w' : World} {p : Lim × Value} (h : LimIn w p) (e : Ext w w') : LimIn w' p := ⟨h.1.ext e, h.2⟩
theorem isDay_calls (z : Int) (w : World) : Calls Tryz.prog 48 #[.int .i64 z] w (fun e w' => ∃ v, e = .returned v ∧ v = .bool (isD z) ∧ w' = w) := by
  refine calls_of Tryz.func48 rfl Tryz.ntmps48 rfl ?_
  repeat' (first | refine a_mov ?_ | refine a_asg ?_ | refine a_pick_t ?_ | refine a_pick_f ?_ | refine a_not ?_ | (refine o_nil (hK _ _ ?_); clear hK K) | refine wk_reg ?_ | refine wk_seq fun K hK => ?_ | (refine a_bin ?_ ?_ <;> intro _ <;> try (exfalso; omega)) | fail)
  all_goals (refine wk_ret (retQ_tmp1 Tryz.results48 (by decide) rfl (by conv => lhs; whnf) ?_))
  all_goals (refine ⟨congrArg Value.bool ?_, rfl⟩; unfold isD; first | (rw [eq_comm, decide_eq_true_iff]; omega) | (rw [eq_comm, decide_eq_false_iff_not]; omega))
theorem properStop_calls (s : Stop) (w : World) : Calls Tryz.prog 63 #[.agg (stopL s).toArray] w (fun e w' => ∃ v, e = .returned v ∧ v = .bool (stopB s) ∧ Ext w w') := by
  refine calls_of Tryz.func63 rfl Tryz.ntmps63 rfl ?_
  repeat' (first | refine a_mov ?_ | refine a_asg ?_ | refine a_fa ?_ | refine a_pick_t ?_ | refine a_pick_f ?_ | refine a_not ?_ | (refine o_nil (hK _ _ ?_); clear hK K) | refine wk_reg ?_ | refine wk_seq fun K hK => ?_ | (refine a_bin ?_ ?_ <;> intro _ <;> try (exfalso; omega)) | refine a_ld hl ?_ | fail)
  refine o_box (LH.start w (fun _ => False)) (stopL s) rfl rfl rfl ?_
  intro b1 w1 hb1 hl
  unfold stopL at hl
  repeat' (first | refine a_mov ?_ | refine a_asg ?_ | refine a_fa ?_ | refine a_pick_t ?_ | refine a_pick_f ?_ | refine a_not ?_ | (refine o_nil (hK _ _ ?_); clear hK K) | refine wk_reg ?_ | refine wk_seq fun K hK => ?_ | (refine a_bin ?_ ?_ <;> intro _ <;> try (exfalso; omega)) | refine a_ld hl ?_ | fail)
  all_goals (refine wk_ret (retQ_tmp1 Tryz.results63 (by decide) rfl (by conv => lhs; whnf) ?_))
  all_goals (refine ⟨congrArg Value.bool ?_, hl.done⟩; unfold stopB; first | (rw [eq_comm, decide_eq_true_iff]; omega) | (rw [eq_comm, decide_eq_false_iff_not]; omega))
theorem properTerm_calls (n u : Int) (w : World) : Calls Tryz.prog 49 #[.agg #[.int .i64 n, .int .i64 u]] w (fun e w' => ∃ v, e = .returned v ∧ v = .bool (termB n u) ∧ Ext w w') := by
  refine calls_of Tryz.func49 rfl Tryz.ntmps49 rfl ?_
  repeat' (first | refine a_mov ?_ | refine a_asg ?_ | refine a_fa ?_ | refine a_pick_t ?_ | refine a_pick_f ?_ | refine a_not ?_ | (refine o_nil (hK _ _ ?_); clear hK K) | refine wk_reg ?_ | refine wk_seq fun K hK => ?_ | (refine a_bin ?_ ?_ <;> intro _ <;> try (exfalso; omega)) | refine a_ld hl ?_ | fail)
  refine o_box (LH.start w (fun _ => False)) [.int .i64 n, .int .i64 u] rfl rfl rfl ?_
  intro b1 w1 hb1 hl
  repeat' (first | refine a_mov ?_ | refine a_asg ?_ | refine a_fa ?_ | refine a_pick_t ?_ | refine a_pick_f ?_ | refine a_not ?_ | (refine o_nil (hK _ _ ?_); clear hK K) | refine wk_reg ?_ | refine wk_seq fun K hK => ?_ | (refine a_bin ?_ ?_ <;> intro _ <;> try (exfalso; omega)) | refine a_ld hl ?_ | fail)
  all_goals (refine wk_ret (retQ_tmp1 Tryz.results49 (by decide) rfl (by conv => lhs; whnf) ?_))
  all_goals (refine ⟨congrArg Value.bool ?_, hl.done⟩; unfold termB; first | (rw [eq_comm, decide_eq_true_iff]; omega) | (rw [eq_comm, decide_eq_false_iff_not]; omega))
theorem wrong_calls (s : Stop) (w : World) : Calls Tryz.prog 62 #[.agg (stopL s).toArray] w (fun e w' => ∃ v, e = .returned v ∧ v = .bool (!stopB s) ∧ Ext w w') := by
  refine calls_of Tryz.func62 rfl Tryz.ntmps62 rfl ?_
  repeat' (first | refine a_asg ?_ | refine a_notb ?_ | (refine o_nil (hK _ _ ?_); clear hK K) | refine wk_reg ?_ | refine wk_seq fun K hK => ?_ | fail)
  refine o_box (LH.start w (fun _ => False)) (stopL s) rfl rfl rfl ?_
  intro b1 w1 hb1 hl
  refine a_asg ?_
  (refine o_nil (hK _ _ ?_); clear hK K; refine wk_seq fun K hK => ?_)
  refine wk_reg ?_
  refine a_all (vs := stopL s) (hl.rowL 0 0 2 rfl) ?_
  refine a_fn (properStop_calls s w1) ?_
  rintro v w2 ⟨rfl, e2⟩
  cases hsb : stopB s
  all_goals repeat' (first | refine a_asg ?_ | refine a_notb ?_ | (refine o_nil (hK _ _ ?_); clear hK K) | refine wk_reg ?_ | refine wk_seq fun K hK => ?_ | fail)
  all_goals (refine wk_ret (retQ_tmp1 Tryz.results62 (by decide) rfl (by conv => lhs; whnf) ?_))
  all_goals exact ⟨by rw [hsb], hl.done.trans e2⟩
theorem lim_shape {w : World} {p : Lim × Value} (h : LimIn w p) : ∃ a c, p.2 = .slice a p.1.st.length c := by
  obtain ⟨a, c, h1, -⟩ := h.1.shape (flat_length stopL_len p.1.st) (by omega)
  exact ⟨a, c, h1⟩
set_option maxHeartbeats 2000000 in
theorem proper_calls {p : Lim × Value} {w : World} (h : LimIn w p) : Calls Tryz.prog 31 #[.agg (limL p).toArray] w (fun e w' => ∃ v, e = .returned v ∧ v = .bool (properB p.1) ∧ Ext w w') := by
  obtain ⟨l, sv⟩ := p
  obtain ⟨sa, sc, hsv⟩ := lim_shape h
  simp only at hsv
  subst hsv
  have hp : properB l = (Nm l.id && isD l.f && termB l.n l.u && decide (l.st.length ≤ 60) && l.st.all stopB) := rfl
  refine calls_of Tryz.func31 rfl Tryz.ntmps31 rfl ?_
  repeat' (first | refine a_mov ?_ | refine a_asg ?_ | refine a_notb ?_ | refine a_fa ?_ | refine a_lenv ?_ | refine a_pick_t ?_ | refine a_pick_f ?_ | refine a_not ?_ | (refine o_nil (hK _ _ ?_); clear hK K) | refine wk_reg ?_ | refine wk_seq fun K hK => ?_ | (refine a_bin ?_ ?_ <;> intro _ <;> try (exfalso; omega)) | fail)
  refine o_box (LH.start w (fun _ => False)) (limL (l, .slice sa l.st.length sc)) rfl rfl rfl ?_
  intro b1 w1 hb1 hl
  have h1 := h.ext hl.done
  have e1 : Ext w w1 := hl.done
  have hr : Row w1 b1 0 (limL (l, .slice sa l.st.length sc)) := hl.rowL 0 0 5 rfl
  have hr2 : Row w1 b1 1 [.int .i64 l.n, .int .i64 l.u] := hl.rowL (vs := limL (l, .slice sa l.st.length sc)) 0 1 2 rfl
  unfold limL at hr
  simp only at hr
  clear hl
  repeat' (first | refine a_row hr ?_ | refine a_mov ?_ | refine a_asg ?_ | refine a_notb ?_ | refine a_fa ?_ | refine a_lenv ?_ | refine a_pick_t ?_ | refine a_pick_f ?_ | refine a_not ?_ | (refine o_nil (hK _ _ ?_); clear hK K) | refine wk_reg ?_ | refine wk_seq fun K hK => ?_ | (refine a_bin ?_ ?_ <;> intro _ <;> try (exfalso; omega)) | fail)
  refine a_fn (isName_calls l.id (Nat.le_trans h.2.2 (by decide +kernel)) w1) ?_
  rintro v w1 ⟨rfl, rfl⟩
  cases h1b : Nm l.id
  · repeat' (first | refine a_row hr ?_ | refine a_mov ?_ | refine a_asg ?_ | refine a_notb ?_ | refine a_fa ?_ | refine a_lenv ?_ | refine a_pick_t ?_ | refine a_pick_f ?_ | refine a_not ?_ | (refine o_nil (hK _ _ ?_); clear hK K) | refine wk_reg ?_ | refine wk_seq fun K hK => ?_ | (refine a_bin ?_ ?_ <;> intro _ <;> try (exfalso; omega)) | fail)
    refine wk_ret (retQ_tmp1 Tryz.results31 (by decide) rfl (by conv => lhs; whnf) ?_)
    exact ⟨by rw [hp, h1b]; rfl, e1⟩
  repeat' (first | refine a_row hr ?_ | refine a_mov ?_ | refine a_asg ?_ | refine a_notb ?_ | refine a_fa ?_ | refine a_lenv ?_ | refine a_pick_t ?_ | refine a_pick_f ?_ | refine a_not ?_ | (refine o_nil (hK _ _ ?_); clear hK K) | refine wk_reg ?_ | refine wk_seq fun K hK => ?_ | (refine a_bin ?_ ?_ <;> intro _ <;> try (exfalso; omega)) | fail)
  refine a_fn (isDay_calls l.f w1) ?_
  rintro v w1 ⟨rfl, rfl⟩
  cases h2b : isD l.f
  · repeat' (first | refine a_row hr ?_ | refine a_mov ?_ | refine a_asg ?_ | refine a_notb ?_ | refine a_fa ?_ | refine a_lenv ?_ | refine a_pick_t ?_ | refine a_pick_f ?_ | refine a_not ?_ | (refine o_nil (hK _ _ ?_); clear hK K) | refine wk_reg ?_ | refine wk_seq fun K hK => ?_ | (refine a_bin ?_ ?_ <;> intro _ <;> try (exfalso; omega)) | fail)
    refine wk_ret (retQ_tmp1 Tryz.results31 (by decide) rfl (by conv => lhs; whnf) ?_)
    exact ⟨by rw [hp, h1b, h2b]; rfl, e1⟩
  repeat' (first | refine a_row hr ?_ | refine a_mov ?_ | refine a_asg ?_ | refine a_notb ?_ | refine a_fa ?_ | refine a_lenv ?_ | refine a_pick_t ?_ | refine a_pick_f ?_ | refine a_not ?_ | (refine o_nil (hK _ _ ?_); clear hK K) | refine wk_reg ?_ | refine wk_seq fun K hK => ?_ | (refine a_bin ?_ ?_ <;> intro _ <;> try (exfalso; omega)) | fail)
  refine a_all hr2 ?_
  refine a_fn (properTerm_calls l.n l.u w1) ?_
  rintro v w2 ⟨rfl, e2⟩
  have hr := hr.ext e2
  have e2 := e1.trans e2
  have h1 := h.ext e2
  cases h3b : termB l.n l.u
  · repeat' (first | refine a_row hr ?_ | refine a_mov ?_ | refine a_asg ?_ | refine a_notb ?_ | refine a_fa ?_ | refine a_lenv ?_ | refine a_pick_t ?_ | refine a_pick_f ?_ | refine a_not ?_ | (refine o_nil (hK _ _ ?_); clear hK K) | refine wk_reg ?_ | refine wk_seq fun K hK => ?_ | (refine a_bin ?_ ?_ <;> intro _ <;> try (exfalso; omega)) | fail)
    refine wk_ret (retQ_tmp1 Tryz.results31 (by decide) rfl (by conv => lhs; whnf) ?_)
    exact ⟨by rw [hp, h1b, h2b, h3b]; rfl, e2⟩
  by_cases h4 : l.st.length ≤ 60
  · repeat' (first | refine a_row hr ?_ | refine a_mov ?_ | refine a_asg ?_ | refine a_notb ?_ | refine a_fa ?_ | refine a_lenv ?_ | refine a_pick_t ?_ | refine a_pick_f ?_ | refine a_not ?_ | (refine o_nil (hK _ _ ?_); clear hK K) | refine wk_reg ?_ | refine wk_seq fun K hK => ?_ | (refine a_bin ?_ ?_ <;> intro _ <;> try (exfalso; omega)) | fail)
    refine a_fn (stopAny_calls (f := stopL) (q := fun s => !stopB s) stopL_len h1.1 h1.2.1 (fun x _ w3 e3 => callF_ca (ca := #[]) rfl (fun _ => rfl) (wrong_calls x w3))) ?_
    rintro v w3 ⟨rfl, e3⟩
    have hany : l.st.all stopB = !(l.st.any fun s => !stopB s) := by rw [List.not_any_eq_all_not]; simp
    cases h5 : l.st.any fun s => !stopB s
    all_goals repeat' (first | refine a_mov ?_ | refine a_asg ?_ | refine a_notb ?_ | refine a_fa ?_ | refine a_lenv ?_ | refine a_pick_t ?_ | refine a_pick_f ?_ | refine a_not ?_ | (refine o_nil (hK _ _ ?_); clear hK K) | refine wk_reg ?_ | refine wk_seq fun K hK => ?_ | (refine a_bin ?_ ?_ <;> intro _ <;> try (exfalso; omega)) | fail)
    all_goals (refine wk_ret (retQ_tmp1 Tryz.results31 (by decide) rfl (by conv => lhs; whnf) ?_))
    all_goals exact ⟨by rw [hp, h1b, h2b, h3b, hany, h5, decide_eq_true h4]; rfl, e2.trans e3⟩
  · repeat' (first | refine a_row hr ?_ | refine a_mov ?_ | refine a_asg ?_ | refine a_notb ?_ | refine a_fa ?_ | refine a_lenv ?_ | refine a_pick_t ?_ | refine a_pick_f ?_ | refine a_not ?_ | (refine o_nil (hK _ _ ?_); clear hK K) | refine wk_reg ?_ | refine wk_seq fun K hK => ?_ | (refine a_bin ?_ ?_ <;> intro _ <;> try (exfalso; omega)) | fail)
    refine wk_ret (retQ_tmp1 Tryz.results31 (by decide) rfl (by conv => lhs; whnf) ?_)
    exact ⟨by rw [hp, h1b, h2b, h3b, decide_eq_false h4]; rfl, e2⟩
/-! ### A limit's clock -/
def clockB (b : Nat) (f : Int) (cv : Value) : Nat × Obj := (b, .cells [.int .i64 f, cv].toArray 125 (0, 0))
def ClockIn (w : World) (b : Nat) (f : Int) (c : List Stop) : Prop := ∃ cv, Row w b 0 [.int .i64 f, cv] ∧ Sl w cv 2 (c.flatMap stopL)
theorem ClockIn.ext {w w' : World} {b : Nat} {f : Int} {c : List Stop} (h : ClockIn w b f c) (e : Ext w w') : ClockIn w' b f c := by
  obtain ⟨cv, h1, h2⟩ := h
  exact ⟨cv, h1.ext e, h2.ext e⟩
theorem paused1_calls (s : Stop) (d : Int) {bd : Nat} {w : World} (hr : Row w bd 0 [.int .i64 d]) : Calls Tryz.prog 76 #[.agg (stopL s).toArray, .pointer (some ⟨bd, 0, none⟩)] w (fun e w' => ∃ v, e = .returned v ∧ v = .bool (decide (s.a ≤ d ∧ d < s.b)) ∧ Ext w w') := by
  refine calls_of Tryz.func76 rfl Tryz.ntmps76 rfl ?_
  repeat' (first | refine a_mov ?_ | refine a_asg ?_ | refine a_fa ?_ | refine a_pick_t ?_ | refine a_pick_f ?_ | refine a_not ?_ | (refine o_nil (hK _ _ ?_); clear hK K) | refine wk_reg ?_ | refine wk_seq fun K hK => ?_ | (refine a_bin ?_ ?_ <;> intro _ <;> try (exfalso; omega)) | refine a_ld hl ?_ | fail)
  refine o_box (LH.start w (fun _ => False)) (stopL s) rfl rfl rfl ?_
  intro b1 w1 hb1 hl
  have hr := hr.ext hl.done
  unfold stopL at hl
  repeat' (first | refine a_row hr ?_ | refine a_mov ?_ | refine a_asg ?_ | refine a_fa ?_ | refine a_pick_t ?_ | refine a_pick_f ?_ | refine a_not ?_ | (refine o_nil (hK _ _ ?_); clear hK K) | refine wk_reg ?_ | refine wk_seq fun K hK => ?_ | (refine a_bin ?_ ?_ <;> intro _ <;> try (exfalso; omega)) | refine a_ld hl ?_ | fail)
  all_goals (refine wk_ret (retQ_tmp1 Tryz.results76 (by decide) rfl (by conv => lhs; whnf) ?_))
  all_goals (refine ⟨congrArg Value.bool ?_, hl.done⟩; first | (rw [eq_comm, decide_eq_true_iff]; omega) | (rw [eq_comm, decide_eq_false_iff_not]; omega))
theorem paused_calls {w : World} {b : Nat} {f : Int} {c : List Stop} (h : ClockIn w b f c) (hc : c.length ≤ 100) (d : Int) : Calls Tryz.prog 36 #[.pointer (some ⟨b, 0, none⟩), .int .i64 d] w (fun e w' => ∃ v, e = .returned v ∧ v = .bool (pausedL c d) ∧ Ext w w') := by
  refine calls_of Tryz.func36 rfl Tryz.ntmps36 rfl ?_
  repeat' (first | refine a_mov ?_ | refine a_asg ?_ | refine a_nilc ?_ | refine a_fa ?_ | (refine o_nil (hK _ _ ?_); clear hK K) | refine wk_reg ?_ | refine wk_seq fun K hK => ?_ | fail)
  refine o_box (LH.start w (fun _ => False)) [.int .i64 d] rfl rfl rfl ?_
  intro b1 w1 hb1 hl
  obtain ⟨cv, hr, hs⟩ := h.ext hl.done
  have hd : Row w1 b1 0 [.int .i64 d] := hl.rowL 0 0 1 rfl
  have e1 : Ext w w1 := hl.done
  clear hl
  repeat' (first | refine a_row hr ?_ | refine o_mf [] [.pointer (some ⟨b1, 0, none⟩)] rfl rfl rfl ?_ | refine a_mov ?_ | refine a_asg ?_ | refine a_nilc ?_ | refine a_fa ?_ | (refine o_nil (hK _ _ ?_); clear hK K) | refine wk_reg ?_ | refine wk_seq fun K hK => ?_ | fail)
  refine a_fn (stopAny_calls (f := stopL) (q := fun s => decide (s.a ≤ d ∧ d < s.b)) stopL_len hs (by omega) (fun x _ w3 e3 => callF_ca (ca := #[.pointer (some ⟨b1, 0, none⟩)]) rfl (fun _ => rfl) (paused1_calls x d (hd.ext e3)))) ?_
  rintro v w3 ⟨rfl, e3⟩
  repeat' (first | refine a_mov ?_ | refine a_asg ?_ | refine a_nilc ?_ | refine a_fa ?_ | (refine o_nil (hK _ _ ?_); clear hK K) | refine wk_reg ?_ | refine wk_seq fun K hK => ?_ | fail)
  refine wk_ret (retQ_tmp1 Tryz.results36 (by decide) rfl (by conv => lhs; whnf) ?_)
  exact ⟨rfl, e1.trans e3⟩
end Go.Proofs

set_option linter.unusedVariables false
set_option linter.unusedSimpArgs false
set_option linter.unnecessarySimpa false
set_option maxRecDepth 10000
namespace Go.Proofs
open Go Go.Pd Go.Top
attribute [local irreducible] OpsL W RetQ OpsQ OpsC
theorem stopClone_calls {α : Type} {l : List α} {f : α → List Value} {cv : Value} {w : World} (hk : ∀ x, (f x).length = 2) (hone : (l.flatMap f).all Value.oneCell' = true) (hv : Sl w cv 2 (l.flatMap f)) (hC : l.length ≤ 1000000) :
    Calls Tryz.prog 112 #[cv] w (fun e w' => ∃ v, e = .returned v ∧ ∃ acc, LH w (fun _ => False) w' acc ∧ Acc v 2 93 l.length (l.flatMap f) acc) := by
  obtain ⟨pc, cc, rfl, -⟩ := hv.shape (flat_length hk l) (by omega)
  refine calls_of Tryz.func112 rfl Tryz.ntmps112 rfl ?_
  refine wk_seq fun K hK => ?_
  refine wk_reg ?_
  refine a_asg ?_
  refine o_nil (hK _ _ ?_)
  clear hK K
  refine wk_seq fun K hK => ?_
  refine wk_seq fun K2 hK2 => ?_
  refine wk_reg ?_
  refine a_mov ?_
  refine o_seq rfl rfl rfl rfl ?_
  refine o_nil (hK2 _ _ ?_)
  clear hK2 K2
  cases pc with
  | none =>
    have hc0 : l = [] := by
      rcases hv with ⟨-, h⟩ | ⟨a, m, cc2, h1, -⟩
      · have h2 := flat_length hk l
        rw [h] at h2
        exact List.eq_nil_of_length_eq_zero (by simp at h2; omega)
      · cases h1
    subst hc0
    refine wk_cond_t rfl ?_
    refine wk_seq fun K2 hK2 => ?_
    refine wk_reg ?_
    refine a_asg ?_
    refine o_nil (hK2 _ _ ?_)
    refine wk_ret (retQ_tmp1 Tryz.results112 (by decide) rfl (by conv => lhs; whnf) ?_)
    exact ⟨[], LH.start w _, Acc.nil _ _⟩
  | some a =>
    refine wk_cond_f rfl ?_
    refine wk_skip (hK _ _ ?_)
    clear hK K
    refine wk_seq fun K hK => ?_
    refine wk_reg ?_
    refine o_buildSlice0 (LH.start w (fun _ => False)) rfl rfl rfl ?_
    intro b0 w1 hb0 hl
    have hl : LH w (fun _ => False) w1 ([] ++ [(b0, .cells #[] 93 (0, 0))]) := hl
    refine a_mov ?_
    refine o_appendS (bl' := []) (k := 2) (bytes := 16) (q := l.length) (us := l.flatMap f) hl (Acc.empty 2 93 b0) (hv.ext hl.done) (flat_length hk l) (by decide) hone (by omega) (by omega) rfl rfl rfl rfl rfl rfl ?_
    clear hl
    intro v1 w2 acc1 hl hacc
    refine a_asg ?_
    refine o_nil (hK _ _ ?_)
    refine wk_ret (retQ_tmp1 Tryz.results112 (by decide) rfl (by conv => lhs; whnf) ?_)
    refine ⟨acc1, hl, ?_⟩
    rw [List.nil_append, Nat.zero_add] at hacc
    exact hacc
theorem limitClone_calls {α : Type} {l : List α} {f : α → List Value} {cv : Value} {w : World} (hk : ∀ x, (f x).length = 5) (hone : (l.flatMap f).all Value.oneCell' = true) (hv : Sl w cv 5 (l.flatMap f)) (hC : l.length ≤ 1000000) :
    Calls Tryz.prog 19 #[cv] w (fun e w' => ∃ v, e = .returned v ∧ ∃ acc, LH w (fun _ => False) w' acc ∧ Acc v 5 56 l.length (l.flatMap f) acc) := by
  obtain ⟨pc, cc, rfl, -⟩ := hv.shape (flat_length hk l) (by omega)
  refine calls_of Tryz.func19 rfl Tryz.ntmps19 rfl ?_
  refine wk_seq fun K hK => ?_
  refine wk_reg ?_
  refine a_asg ?_
  refine o_nil (hK _ _ ?_)
  clear hK K
  refine wk_seq fun K hK => ?_
  refine wk_seq fun K2 hK2 => ?_
  refine wk_reg ?_
  refine a_mov ?_
  refine o_seq rfl rfl rfl rfl ?_
  refine o_nil (hK2 _ _ ?_)
  clear hK2 K2
  cases pc with
  | none =>
    have hc0 : l = [] := by
      rcases hv with ⟨-, h⟩ | ⟨a, m, cc2, h1, -⟩
      · have h2 := flat_length hk l
        rw [h] at h2
        exact List.eq_nil_of_length_eq_zero (by simp at h2; omega)
      · cases h1
    subst hc0
    refine wk_cond_t rfl ?_
    refine wk_seq fun K2 hK2 => ?_
    refine wk_reg ?_
    refine a_asg ?_
    refine o_nil (hK2 _ _ ?_)
    refine wk_ret (retQ_tmp1 Tryz.results19 (by decide) rfl (by conv => lhs; whnf) ?_)
    exact ⟨[], LH.start w _, Acc.nil _ _⟩
  | some a =>
    refine wk_cond_f rfl ?_
    refine wk_skip (hK _ _ ?_)
    clear hK K
    refine wk_seq fun K hK => ?_
    refine wk_reg ?_
    refine o_buildSlice0 (LH.start w (fun _ => False)) rfl rfl rfl ?_
    intro b0 w1 hb0 hl
    have hl : LH w (fun _ => False) w1 ([] ++ [(b0, .cells #[] 56 (0, 0))]) := hl
    refine a_mov ?_
    refine o_appendS (bl' := []) (k := 5) (bytes := 64) (q := l.length) (us := l.flatMap f) hl (Acc.empty 5 56 b0) (hv.ext hl.done) (flat_length hk l) (by decide) hone (by omega) (by omega) rfl rfl rfl rfl rfl rfl ?_
    clear hl
    intro v1 w2 acc1 hl hacc
    refine a_asg ?_
    refine o_nil (hK _ _ ?_)
    refine wk_ret (retQ_tmp1 Tryz.results19 (by decide) rfl (by conv => lhs; whnf) ?_)
    refine ⟨acc1, hl, ?_⟩
    rw [List.nil_append, Nat.zero_add] at hacc
    exact hacc
theorem intClone_calls {α : Type} {l : List α} {f : α → List Value} {cv : Value} {w : World} (hk : ∀ x, (f x).length = 1) (hone : (l.flatMap f).all Value.oneCell' = true) (hv : Sl w cv 1 (l.flatMap f)) (hC : l.length ≤ 1000000) :
    Calls Tryz.prog 26 #[cv] w (fun e w' => ∃ v, e = .returned v ∧ ∃ acc, LH w (fun _ => False) w' acc ∧ Acc v 1 3 l.length (l.flatMap f) acc) := by
  obtain ⟨pc, cc, rfl, -⟩ := hv.shape (flat_length hk l) (by omega)
  refine calls_of Tryz.func26 rfl Tryz.ntmps26 rfl ?_
  refine wk_seq fun K hK => ?_
  refine wk_reg ?_
  refine a_asg ?_
  refine o_nil (hK _ _ ?_)
  clear hK K
  refine wk_seq fun K hK => ?_
  refine wk_seq fun K2 hK2 => ?_
  refine wk_reg ?_
  refine a_mov ?_
  refine o_seq rfl rfl rfl rfl ?_
  refine o_nil (hK2 _ _ ?_)
  clear hK2 K2
  cases pc with
  | none =>
    have hc0 : l = [] := by
      rcases hv with ⟨-, h⟩ | ⟨a, m, cc2, h1, -⟩
      · have h2 := flat_length hk l
        rw [h] at h2
        exact List.eq_nil_of_length_eq_zero (by simp at h2; omega)
      · cases h1
    subst hc0
    refine wk_cond_t rfl ?_
    refine wk_seq fun K2 hK2 => ?_
    refine wk_reg ?_
    refine a_asg ?_
    refine o_nil (hK2 _ _ ?_)
    refine wk_ret (retQ_tmp1 Tryz.results26 (by decide) rfl (by conv => lhs; whnf) ?_)
    exact ⟨[], LH.start w _, Acc.nil _ _⟩
  | some a =>
    refine wk_cond_f rfl ?_
    refine wk_skip (hK _ _ ?_)
    clear hK K
    refine wk_seq fun K hK => ?_
    refine wk_reg ?_
    refine o_buildSlice0 (LH.start w (fun _ => False)) rfl rfl rfl ?_
    intro b0 w1 hb0 hl
    have hl : LH w (fun _ => False) w1 ([] ++ [(b0, .cells #[] 3 (0, 0))]) := hl
    refine a_mov ?_
    refine o_appendS (bl' := []) (k := 1) (bytes := 8) (q := l.length) (us := l.flatMap f) hl (Acc.empty 1 3 b0) (hv.ext hl.done) (flat_length hk l) (by decide) hone (by omega) (by omega) rfl rfl rfl rfl rfl rfl ?_
    clear hl
    intro v1 w2 acc1 hl hacc
    refine a_asg ?_
    refine o_nil (hK _ _ ?_)
    refine wk_ret (retQ_tmp1 Tryz.results26 (by decide) rfl (by conv => lhs; whnf) ?_)
    refine ⟨acc1, hl, ?_⟩
    rw [List.nil_append, Nat.zero_add] at hacc
    exact hacc
end Go.Proofs
