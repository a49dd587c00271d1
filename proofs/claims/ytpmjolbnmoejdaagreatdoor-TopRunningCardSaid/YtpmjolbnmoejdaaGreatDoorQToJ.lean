/-
  Limits: the last day; a new term; a further stop.
-/
import Derived.Test.YtpmjolbnmoejdaaGreatDoorQToI
set_option linter.unusedVariables false
set_option linter.unusedSimpArgs false
set_option linter.unnecessarySimpa false
set_option maxRecDepth 10000
namespace Go.Proofs
open Go Go.Pd Go.Top
attribute [local irreducible] OpsL W RetQ OpsQ OpsC
set_option maxHeartbeats 4000000 in
theorem due_calls {p : Lim × Value} {w : World} (h : LimIn w p) : Calls Tryz.prog 14 #[.agg (limL p).toArray, .slice none 0 0] w (fun e w' => ∃ v, e = .returned v ∧ OptOut (dueL p.1) v ∧ Ext w w') := by
  obtain ⟨l, sv⟩ := p
  obtain ⟨sa, sc, hsv⟩ := lim_shape h
  simp only at hsv
  subst hsv
  obtain ⟨id, n, u, f, st⟩ := l
  generalize hL : (⟨id, n, u, f, st⟩ : Lim) = l at *
  have hdl : dueL l = (if properB l then (match addL l.f.toNat l.n.toNat l.u with | none => none | some e => openL (clockL l.f l.st) (afterL (e - l.f) (clockL l.f l.st) (l.f + (e - l.f))).toNat) else none) := rfl
  refine calls_of Tryz.func14 rfl Tryz.ntmps14 rfl ?_
  repeat' (first | refine a_mov ?_ | refine a_asg ?_ | refine a_binN ?_ | refine a_notb ?_ | refine a_fa ?_ | refine a_ext ?_ | (refine o_nil (hK _ _ ?_); clear hK K) | refine wk_reg ?_ | refine wk_seq fun K hK => ?_ | (refine wk_skip (hK _ _ ?_); clear hK K) | refine wk_cond_t rfl ?_ | refine wk_cond_f rfl ?_ | (refine a_bin ?_ ?_ <;> intro _ <;> try (exfalso; omega)) | fail)
  refine o_box (LH.start w (fun _ => False)) (limL (l, .slice sa l.st.length sc)) rfl rfl rfl ?_
  intro b2 w1 hb2 hl
  have h1 := h.ext hl.done
  have e1 : Ext w w1 := hl.done
  have hr0 : Row w1 b2 0 (limL (l, .slice sa l.st.length sc)) := hl.rowL 0 0 5 rfl
  have hr2 : Row w1 b2 1 [.int .i64 l.n, .int .i64 l.u] := hl.rowL (vs := limL (l, .slice sa l.st.length sc)) 0 1 2 rfl
  clear hl
  repeat' (first | refine a_mov ?_ | refine a_asg ?_ | refine a_binN ?_ | refine a_notb ?_ | refine a_fa ?_ | refine a_ext ?_ | (refine o_nil (hK _ _ ?_); clear hK K) | refine wk_reg ?_ | refine wk_seq fun K hK => ?_ | (refine wk_skip (hK _ _ ?_); clear hK K) | refine wk_cond_t rfl ?_ | refine wk_cond_f rfl ?_ | (refine a_bin ?_ ?_ <;> intro _ <;> try (exfalso; omega)) | fail)
  refine a_all hr0 ?_
  refine a_fn (proper_calls h1) ?_
  rintro v w2 ⟨rfl, e2⟩
  have h2 := h1.ext e2
  have hr0 := hr0.ext e2
  have hr2 := hr2.ext e2
  have e2 := e1.trans e2
  cases hp : properB l
  · repeat' (first | refine a_mov ?_ | refine a_asg ?_ | refine a_binN ?_ | refine a_notb ?_ | refine a_fa ?_ | refine a_ext ?_ | (refine o_nil (hK _ _ ?_); clear hK K) | refine wk_reg ?_ | refine wk_seq fun K hK => ?_ | (refine wk_skip (hK _ _ ?_); clear hK K) | refine wk_cond_t rfl ?_ | refine wk_cond_f rfl ?_ | (refine a_bin ?_ ?_ <;> intro _ <;> try (exfalso; omega)) | fail)
    refine wk_ret (retQ_tmp2 Tryz.results14 (by decide) (by decide) rfl (by conv => lhs; whnf) (by conv => lhs; whnf) ?_)
    refine ⟨?_, e2⟩
    show OptOut (dueL l) _
    rw [hdl, hp]
    exact ⟨1, by decide, rfl⟩
  have hpp := hp
  simp only [properB, isD, termB, Bool.and_eq_true, decide_eq_true_eq] at hpp
  obtain ⟨⟨⟨⟨-, hf⟩, ht⟩, hlen⟩, hst⟩ := hpp
  rw [hp, if_pos rfl] at hdl
  have hcok := clockL_ok (f := l.f) hst
  have hclen := clockL_len l.f l.st
  have hr : Row w2 b2 0 [Pd.str l.id, .int .i64 l.n, .int .i64 l.u, .int .i64 l.f, .slice sa l.st.length sc] := hr0
  subst hL
  simp only at *
  obtain ⟨F, rfl⟩ := Int.eq_ofNat_of_zero_le hf.1
  obtain ⟨N, rfl⟩ := Int.eq_ofNat_of_zero_le ht.2.2.1
  repeat' (first | refine a_row hr ?_ | refine a_mov ?_ | refine a_asg ?_ | refine a_binN ?_ | refine a_notb ?_ | refine a_fa ?_ | refine a_ext ?_ | (refine o_nil (hK _ _ ?_); clear hK K) | refine wk_reg ?_ | refine wk_seq fun K hK => ?_ | (refine wk_skip (hK _ _ ?_); clear hK K) | refine wk_cond_t rfl ?_ | refine wk_cond_f rfl ?_ | (refine a_bin ?_ ?_ <;> intro _ <;> try (exfalso; omega)) | fail)
  refine a_all hr2 ?_
  repeat' (first | refine a_mov ?_ | refine a_asg ?_ | refine a_binN ?_ | refine a_notb ?_ | refine a_fa ?_ | refine a_ext ?_ | (refine a_bin ?_ ?_ <;> intro _ <;> try (exfalso; omega)) | fail)
  refine a_fn (add_calls F N u (by omega) (by omega) (by omega) w2) ?_
  rintro v w3 ⟨ho, e3⟩
  have h3 := h2.ext e3
  have hr0 := hr0.ext e3
  have hr := hr.ext e3
  have e3 := e2.trans e3
  simp only [Int.toNat_natCast] at hdl
  cases had : addL F N u with
  | none =>
    rw [had] at ho hdl
    obtain ⟨e, he, rfl⟩ := ho
    repeat' (first | refine a_mov ?_ | refine a_asg ?_ | refine a_binN ?_ | refine a_notb ?_ | refine a_fa ?_ | refine a_ext ?_ | (refine o_nil (hK _ _ ?_); clear hK K) | refine wk_reg ?_ | refine wk_seq fun K hK => ?_ | (refine wk_skip (hK _ _ ?_); clear hK K) | refine wk_cond_t rfl ?_ | refine wk_cond_f rfl ?_ | (refine a_bin ?_ ?_ <;> intro _ <;> try (exfalso; omega)) | fail)
    refine wk_ret (retQ_tmp2 Tryz.results14 (by decide) (by decide) rfl (by conv => lhs; whnf) (by conv => lhs; whnf) ?_)
    refine ⟨?_, e3⟩
    rw [hdl]
    exact ⟨e, he, rfl⟩
  | some E =>
    rw [had] at ho hdl
    have ho : v = _ := ho
    subst ho
    have hE := addL_le had
    repeat' (first | refine a_mov ?_ | refine a_asg ?_ | refine a_binN ?_ | refine a_notb ?_ | refine a_fa ?_ | refine a_ext ?_ | (refine o_nil (hK _ _ ?_); clear hK K) | refine wk_reg ?_ | refine wk_seq fun K hK => ?_ | (refine wk_skip (hK _ _ ?_); clear hK K) | refine wk_cond_t rfl ?_ | refine wk_cond_f rfl ?_ | (refine a_bin ?_ ?_ <;> intro _ <;> try (exfalso; omega)) | fail)
    refine a_all hr0 ?_
    refine a_fn (start_calls h3 hp) ?_
    rintro v w4 ⟨b, rfl, hck, e4⟩
    have hck : ClockIn w4 b (F : Int) (clockL (F : Int) st) := hck
    have hr := hr.ext e4
    have e4 := e3.trans e4
    repeat' (first | refine a_row hr ?_ | refine a_mov ?_ | refine a_asg ?_ | refine a_binN ?_ | refine a_notb ?_ | refine a_fa ?_ | refine a_ext ?_ | (refine o_nil (hK _ _ ?_); clear hK K) | refine wk_reg ?_ | refine wk_seq fun K hK => ?_ | (refine wk_skip (hK _ _ ?_); clear hK K) | refine wk_cond_t rfl ?_ | refine wk_cond_f rfl ?_ | (refine a_bin ?_ ?_ <;> intro _ <;> try (exfalso; omega)) | fail)
    refine a_fn (after_calls (n := (E : Int) - F) hck hcok hf.1 (by omega) hf.2 (by omega)) ?_
    rintro v w5 ⟨rfl, e5⟩
    have hck := hck.ext e5
    have e5 := e4.trans e5
    have hle := afterL_le (f := (F : Int)) (n := (E : Int) - F) hf.1 (clockL F st) (F + ((E : Int) - F)) hcok
    have hge := afterL_ge (f := (F : Int)) (n := (E : Int) - F) (clockL F st) (F + ((E : Int) - F)) hcok
    simp only at hdl
    obtain ⟨D, hD⟩ := Int.eq_ofNat_of_zero_le (a := afterL ((E : Int) - F) (clockL F st) (F + ((E : Int) - F))) (by omega)
    rw [hD] at hdl hle hge ⊢
    rw [Int.toNat_natCast] at hdl
    repeat' (first | refine a_mov ?_ | refine a_asg ?_ | refine a_binN ?_ | refine a_notb ?_ | refine a_fa ?_ | refine a_ext ?_ | (refine o_nil (hK _ _ ?_); clear hK K) | refine wk_reg ?_ | refine wk_seq fun K hK => ?_ | (refine wk_skip (hK _ _ ?_); clear hK K) | refine wk_cond_t rfl ?_ | refine wk_cond_f rfl ?_ | (refine a_bin ?_ ?_ <;> intro _ <;> try (exfalso; omega)) | refine o_mf [.pointer (some ⟨b, 0, none⟩)] [] rfl rfl rfl ?_ | fail)
    refine a_fn (lopen_calls hck (by omega) D (by omega)) ?_
    rintro v w6 ⟨ho, e6⟩
    rw [← hdl] at ho
    cases hd : dueL ⟨id, N, u, F, st⟩ with
    | none =>
      rw [hd] at ho
      obtain ⟨e, he, rfl⟩ := ho
      repeat' (first | refine a_mov ?_ | refine a_asg ?_ | refine a_binN ?_ | refine a_notb ?_ | refine a_fa ?_ | refine a_ext ?_ | (refine o_nil (hK _ _ ?_); clear hK K) | refine wk_reg ?_ | refine wk_seq fun K hK => ?_ | (refine wk_skip (hK _ _ ?_); clear hK K) | refine wk_cond_t rfl ?_ | refine wk_cond_f rfl ?_ | (refine a_bin ?_ ?_ <;> intro _ <;> try (exfalso; omega)) | fail)
      refine wk_ret (retQ_tmp2 Tryz.results14 (by decide) (by decide) rfl (by conv => lhs; whnf) (by conv => lhs; whnf) ?_)
      refine ⟨?_, e5.trans e6⟩
      rw [hd]
      exact ⟨e, he, rfl⟩
    | some d =>
      rw [hd] at ho
      have ho : v = _ := ho
      subst ho
      repeat' (first | refine a_mov ?_ | refine a_asg ?_ | refine a_binN ?_ | refine a_notb ?_ | refine a_fa ?_ | refine a_ext ?_ | (refine o_nil (hK _ _ ?_); clear hK K) | refine wk_reg ?_ | refine wk_seq fun K hK => ?_ | (refine wk_skip (hK _ _ ?_); clear hK K) | refine wk_cond_t rfl ?_ | refine wk_cond_f rfl ?_ | (refine a_bin ?_ ?_ <;> intro _ <;> try (exfalso; omega)) | fail)
      refine wk_ret (retQ_tmp2 Tryz.results14 (by decide) (by decide) rfl (by conv => lhs; whnf) (by conv => lhs; whnf) ?_)
      refine ⟨?_, e5.trans e6⟩
      rw [hd]
      rfl
def zeroL : List Value := [.string ⟨#[]⟩, .int .i64 0, .int .i64 0, .int .i64 0, .slice none 0 0]
def ChgOut (o : Option Lim) (sv v : Value) : Prop := match o with
  | some l => v = .tuple #[.agg (limL (l, sv)).toArray, .int .i64 0]
  | none => ∃ e : Int, e ≠ 0 ∧ v = .tuple #[.agg zeroL.toArray, .int .i64 e]
theorem limL_one (p : Lim × Value) (h : p.2.oneCell' = true) : (limL p).all Value.oneCell' = true := by
  simp only [limL, List.all_cons, List.all_nil, Bool.and_true, h, str_eq]
  rfl
theorem limL_len0 : zeroL.length = 5 := rfl
set_option maxHeartbeats 4000000 in
theorem change_calls {p : Lim × Value} {w : World} (h : LimIn w p) (day n u least : Int) : Calls Tryz.prog 22 #[.agg (limL p).toArray, .int .i64 day, .agg #[.int .i64 n, .int .i64 u], .int .i64 least, .slice none 0 0] w (fun e w' => ∃ v, e = .returned v ∧ ChgOut (changeL p.1 day n u least) p.2 v ∧ Ext w w') := by
  obtain ⟨l, sv⟩ := p
  obtain ⟨sa, sc, hsv⟩ := lim_shape h
  simp only at hsv
  subst hsv
  have hone := limL_one (l, .slice sa l.st.length sc) rfl
  have hcl : changeL l day n u least = (if properB l && isD day && termB n u && decide (0 ≤ least ∧ least ≤ 1000000) then
    match dueL l with
    | none => none
    | some e =>
      if (e : Int) < day then some l else
      match dueL { l with n := n, u := u } with
      | none => none
      | some e2 => if (e2 : Int) < day + least then (match dueL { l with f := day, n := least, u := 1 } with | none => none | some _ => some { l with f := day, n := least, u := 1 }) else some { l with n := n, u := u }
    else none) := rfl
  simp only
  refine calls_of Tryz.func22 rfl Tryz.ntmps22 rfl ?_
  repeat' (first | refine a_mov ?_ | refine a_asg ?_ | refine a_binN ?_ | refine a_notb ?_ | refine a_fa ?_ | refine a_ext ?_ | refine a_pick_t ?_ | refine a_pick_f ?_ | refine a_not ?_ | (refine o_nil (hK _ _ ?_); clear hK K) | refine wk_reg ?_ | refine wk_seq fun K hK => ?_ | (refine wk_skip (hK _ _ ?_); clear hK K) | refine wk_cond_t rfl ?_ | refine wk_cond_f rfl ?_ | (refine a_bin ?_ ?_ <;> intro _ <;> try (exfalso; omega)) | (refine a_st hl ?_; clear hl; intro _ hl) | fail)
  refine o_box (LH.start w (fun _ => False)) (limL (l, .slice sa l.st.length sc)) rfl rfl rfl ?_
  intro b5 w1 hb5 hl
  refine o_box hl [.int .i64 n, .int .i64 u] rfl rfl rfl ?_
  clear hl
  intro b7 w2 hb7 hl
  refine o_alloc hl zeroL rfl (by kernel_rfl) ?_
  clear hl
  intro b10 w3 hb10 hl
  repeat' (first | refine a_mov ?_ | refine a_asg ?_ | refine a_binN ?_ | refine a_notb ?_ | refine a_fa ?_ | refine a_ext ?_ | refine a_pick_t ?_ | refine a_pick_f ?_ | refine a_not ?_ | (refine o_nil (hK _ _ ?_); clear hK K) | refine wk_reg ?_ | refine wk_seq fun K hK => ?_ | (refine wk_skip (hK _ _ ?_); clear hK K) | refine wk_cond_t rfl ?_ | refine wk_cond_f rfl ?_ | (refine a_bin ?_ ?_ <;> intro _ <;> try (exfalso; omega)) | (refine a_st hl ?_; clear hl; intro _ hl) | fail)
  refine a_all (vs := limL (l, .slice sa l.st.length sc)) (hl.rowL 2 0 5 rfl) ?_
  refine a_fn (proper_calls (h.ext hl.done)) ?_
  rintro v w4 ⟨rfl, e4⟩
  replace hl := hl.ext e4
  cases hp : properB l
  · rw [hp] at hcl
    repeat' (first | refine a_mov ?_ | refine a_asg ?_ | refine a_binN ?_ | refine a_notb ?_ | refine a_fa ?_ | refine a_ext ?_ | refine a_pick_t ?_ | refine a_pick_f ?_ | refine a_not ?_ | (refine o_nil (hK _ _ ?_); clear hK K) | refine wk_reg ?_ | refine wk_seq fun K hK => ?_ | (refine wk_skip (hK _ _ ?_); clear hK K) | refine wk_cond_t rfl ?_ | refine wk_cond_f rfl ?_ | (refine a_bin ?_ ?_ <;> intro _ <;> try (exfalso; omega)) | (refine a_st hl ?_; clear hl; intro _ hl) | fail)
    refine o_build zeroL rfl (by kernel_rfl) ?_
    repeat' (first | refine a_mov ?_ | refine a_asg ?_ | refine a_binN ?_ | refine a_notb ?_ | refine a_fa ?_ | refine a_ext ?_ | refine a_pick_t ?_ | refine a_pick_f ?_ | refine a_not ?_ | (refine a_bin ?_ ?_ <;> intro _ <;> try (exfalso; omega)) | (refine a_st hl ?_; clear hl; intro _ hl) | fail)
    refine o_store hl 0 zeroL rfl rfl rfl rfl rfl (by rw [limL_len0]; decide) rfl ?_
    clear hl
    intro w9 hl
    have hl : LH w (fun _ => False) w9 [(b10, .cells zeroL.toArray 56 (0, 0)), _, _] := hl
    repeat' (first | refine a_mov ?_ | refine a_asg ?_ | refine a_binN ?_ | refine a_notb ?_ | refine a_fa ?_ | refine a_ext ?_ | refine a_pick_t ?_ | refine a_pick_f ?_ | refine a_not ?_ | (refine o_nil (hK _ _ ?_); clear hK K) | refine wk_reg ?_ | refine wk_seq fun K hK => ?_ | (refine wk_skip (hK _ _ ?_); clear hK K) | refine wk_cond_t rfl ?_ | refine wk_cond_f rfl ?_ | (refine a_bin ?_ ?_ <;> intro _ <;> try (exfalso; omega)) | (refine a_st hl ?_; clear hl; intro _ hl) | fail)
    refine wk_ret (retQ_res [.agg zeroL.toArray, .int .i64 1] rfl rfl ⟨by decide, ⟨⟨b10, 0, none⟩, rfl, run_loadVarN rfl rfl (hl.rowL (vs := zeroL) 0 0 5 rfl)⟩, by decide, rfl, trivial⟩ ?_)
    refine ⟨?_, hl.done⟩
    rw [hcl]
    exact ⟨1, by decide, rfl⟩
  repeat' (first | refine a_mov ?_ | refine a_asg ?_ | refine a_binN ?_ | refine a_notb ?_ | refine a_fa ?_ | refine a_ext ?_ | refine a_pick_t ?_ | refine a_pick_f ?_ | refine a_not ?_ | (refine o_nil (hK _ _ ?_); clear hK K) | refine wk_reg ?_ | refine wk_seq fun K hK => ?_ | (refine wk_skip (hK _ _ ?_); clear hK K) | refine wk_cond_t rfl ?_ | refine wk_cond_f rfl ?_ | (refine a_bin ?_ ?_ <;> intro _ <;> try (exfalso; omega)) | (refine a_st hl ?_; clear hl; intro _ hl) | fail)
  refine a_fn (isDay_calls day w4) ?_
  rintro v w4 ⟨rfl, rfl⟩
  cases hd : isD day
  · rw [hp, hd] at hcl
    repeat' (first | refine a_mov ?_ | refine a_asg ?_ | refine a_binN ?_ | refine a_notb ?_ | refine a_fa ?_ | refine a_ext ?_ | refine a_pick_t ?_ | refine a_pick_f ?_ | refine a_not ?_ | (refine o_nil (hK _ _ ?_); clear hK K) | refine wk_reg ?_ | refine wk_seq fun K hK => ?_ | (refine wk_skip (hK _ _ ?_); clear hK K) | refine wk_cond_t rfl ?_ | refine wk_cond_f rfl ?_ | (refine a_bin ?_ ?_ <;> intro _ <;> try (exfalso; omega)) | (refine a_st hl ?_; clear hl; intro _ hl) | fail)
    refine o_build zeroL rfl (by kernel_rfl) ?_
    repeat' (first | refine a_mov ?_ | refine a_asg ?_ | refine a_binN ?_ | refine a_notb ?_ | refine a_fa ?_ | refine a_ext ?_ | refine a_pick_t ?_ | refine a_pick_f ?_ | refine a_not ?_ | (refine a_bin ?_ ?_ <;> intro _ <;> try (exfalso; omega)) | (refine a_st hl ?_; clear hl; intro _ hl) | fail)
    refine o_store hl 0 zeroL rfl rfl rfl rfl rfl (by rw [limL_len0]; decide) rfl ?_
    clear hl
    intro w9 hl
    have hl : LH w (fun _ => False) w9 [(b10, .cells zeroL.toArray 56 (0, 0)), _, _] := hl
    repeat' (first | refine a_mov ?_ | refine a_asg ?_ | refine a_binN ?_ | refine a_notb ?_ | refine a_fa ?_ | refine a_ext ?_ | refine a_pick_t ?_ | refine a_pick_f ?_ | refine a_not ?_ | (refine o_nil (hK _ _ ?_); clear hK K) | refine wk_reg ?_ | refine wk_seq fun K hK => ?_ | (refine wk_skip (hK _ _ ?_); clear hK K) | refine wk_cond_t rfl ?_ | refine wk_cond_f rfl ?_ | (refine a_bin ?_ ?_ <;> intro _ <;> try (exfalso; omega)) | (refine a_st hl ?_; clear hl; intro _ hl) | fail)
    refine wk_ret (retQ_res [.agg zeroL.toArray, .int .i64 1] rfl rfl ⟨by decide, ⟨⟨b10, 0, none⟩, rfl, run_loadVarN rfl rfl (hl.rowL (vs := zeroL) 0 0 5 rfl)⟩, by decide, rfl, trivial⟩ ?_)
    refine ⟨?_, hl.done⟩
    rw [hcl]
    exact ⟨1, by decide, rfl⟩
  repeat' (first | refine a_mov ?_ | refine a_asg ?_ | refine a_binN ?_ | refine a_notb ?_ | refine a_fa ?_ | refine a_ext ?_ | refine a_pick_t ?_ | refine a_pick_f ?_ | refine a_not ?_ | (refine o_nil (hK _ _ ?_); clear hK K) | refine wk_reg ?_ | refine wk_seq fun K hK => ?_ | (refine wk_skip (hK _ _ ?_); clear hK K) | refine wk_cond_t rfl ?_ | refine wk_cond_f rfl ?_ | (refine a_bin ?_ ?_ <;> intro _ <;> try (exfalso; omega)) | (refine a_st hl ?_; clear hl; intro _ hl) | fail)
  refine a_all (vs := [.int .i64 n, .int .i64 u]) (hl.rowL 1 0 2 rfl) ?_
  refine a_fn (properTerm_calls n u w4) ?_
  rintro v w5 ⟨rfl, e5⟩
  replace hl := hl.ext e5
  cases ht : termB n u
  · rw [hp, hd, ht] at hcl
    repeat' (first | refine a_mov ?_ | refine a_asg ?_ | refine a_binN ?_ | refine a_notb ?_ | refine a_fa ?_ | refine a_ext ?_ | refine a_pick_t ?_ | refine a_pick_f ?_ | refine a_not ?_ | (refine o_nil (hK _ _ ?_); clear hK K) | refine wk_reg ?_ | refine wk_seq fun K hK => ?_ | (refine wk_skip (hK _ _ ?_); clear hK K) | refine wk_cond_t rfl ?_ | refine wk_cond_f rfl ?_ | (refine a_bin ?_ ?_ <;> intro _ <;> try (exfalso; omega)) | (refine a_st hl ?_; clear hl; intro _ hl) | fail)
    refine o_build zeroL rfl (by kernel_rfl) ?_
    repeat' (first | refine a_mov ?_ | refine a_asg ?_ | refine a_binN ?_ | refine a_notb ?_ | refine a_fa ?_ | refine a_ext ?_ | refine a_pick_t ?_ | refine a_pick_f ?_ | refine a_not ?_ | (refine a_bin ?_ ?_ <;> intro _ <;> try (exfalso; omega)) | (refine a_st hl ?_; clear hl; intro _ hl) | fail)
    refine o_store hl 0 zeroL rfl rfl rfl rfl rfl (by rw [limL_len0]; decide) rfl ?_
    clear hl
    intro w9 hl
    have hl : LH w (fun _ => False) w9 [(b10, .cells zeroL.toArray 56 (0, 0)), _, _] := hl
    repeat' (first | refine a_mov ?_ | refine a_asg ?_ | refine a_binN ?_ | refine a_notb ?_ | refine a_fa ?_ | refine a_ext ?_ | refine a_pick_t ?_ | refine a_pick_f ?_ | refine a_not ?_ | (refine o_nil (hK _ _ ?_); clear hK K) | refine wk_reg ?_ | refine wk_seq fun K hK => ?_ | (refine wk_skip (hK _ _ ?_); clear hK K) | refine wk_cond_t rfl ?_ | refine wk_cond_f rfl ?_ | (refine a_bin ?_ ?_ <;> intro _ <;> try (exfalso; omega)) | (refine a_st hl ?_; clear hl; intro _ hl) | fail)
    refine wk_ret (retQ_res [.agg zeroL.toArray, .int .i64 1] rfl rfl ⟨by decide, ⟨⟨b10, 0, none⟩, rfl, run_loadVarN rfl rfl (hl.rowL (vs := zeroL) 0 0 5 rfl)⟩, by decide, rfl, trivial⟩ ?_)
    refine ⟨?_, hl.done⟩
    rw [hcl]
    exact ⟨1, by decide, rfl⟩
  by_cases hle : 0 ≤ least ∧ least ≤ 1000000
  · rw [hp, hd, ht, decide_eq_true hle] at hcl
    replace hcl := hcl.trans (if_pos rfl)
    simp only [isD, decide_eq_true_eq] at hd
    repeat' (first | refine a_mov ?_ | refine a_asg ?_ | refine a_binN ?_ | refine a_notb ?_ | refine a_fa ?_ | refine a_ext ?_ | refine a_pick_t ?_ | refine a_pick_f ?_ | refine a_not ?_ | (refine o_nil (hK _ _ ?_); clear hK K) | refine wk_reg ?_ | refine wk_seq fun K hK => ?_ | (refine wk_skip (hK _ _ ?_); clear hK K) | refine wk_cond_t rfl ?_ | refine wk_cond_f rfl ?_ | (refine a_bin ?_ ?_ <;> intro _ <;> try (exfalso; omega)) | (refine a_st hl ?_; clear hl; intro _ hl) | fail)
    refine a_all (vs := limL (l, .slice sa l.st.length sc)) (hl.rowL 2 0 5 rfl) ?_
    repeat' (first | refine a_mov ?_ | refine a_asg ?_ | refine a_binN ?_ | refine a_notb ?_ | refine a_fa ?_ | refine a_ext ?_ | refine a_pick_t ?_ | refine a_pick_f ?_ | refine a_not ?_ | (refine a_bin ?_ ?_ <;> intro _ <;> try (exfalso; omega)) | (refine a_st hl ?_; clear hl; intro _ hl) | fail)
    refine a_fn (due_calls (h.ext hl.done)) ?_
    rintro v w6 ⟨ho, e6⟩
    replace hl := hl.ext e6
    simp only at ho
    cases hdu : dueL l with
    | none =>
      rw [hdu] at ho hcl
      obtain ⟨e, he, rfl⟩ := ho
      repeat' (first | refine a_mov ?_ | refine a_asg ?_ | refine a_binN ?_ | refine a_notb ?_ | refine a_fa ?_ | refine a_ext ?_ | refine a_pick_t ?_ | refine a_pick_f ?_ | refine a_not ?_ | (refine o_nil (hK _ _ ?_); clear hK K) | refine wk_reg ?_ | refine wk_seq fun K hK => ?_ | (refine wk_skip (hK _ _ ?_); clear hK K) | refine wk_cond_t rfl ?_ | refine wk_cond_f rfl ?_ | (refine a_bin ?_ ?_ <;> intro _ <;> try (exfalso; omega)) | (refine a_st hl ?_; clear hl; intro _ hl) | fail)
      refine o_build zeroL rfl (by kernel_rfl) ?_
      repeat' (first | refine a_mov ?_ | refine a_asg ?_ | refine a_binN ?_ | refine a_notb ?_ | refine a_fa ?_ | refine a_ext ?_ | refine a_pick_t ?_ | refine a_pick_f ?_ | refine a_not ?_ | (refine a_bin ?_ ?_ <;> intro _ <;> try (exfalso; omega)) | (refine a_st hl ?_; clear hl; intro _ hl) | fail)
      refine o_store hl 0 zeroL rfl rfl rfl rfl rfl (by rw [limL_len0]; decide) rfl ?_
      clear hl
      intro w9 hl
      have hl : LH w (fun _ => False) w9 [(b10, .cells zeroL.toArray 56 (0, 0)), _, _] := hl
      repeat' (first | refine a_mov ?_ | refine a_asg ?_ | refine a_binN ?_ | refine a_notb ?_ | refine a_fa ?_ | refine a_ext ?_ | refine a_pick_t ?_ | refine a_pick_f ?_ | refine a_not ?_ | (refine o_nil (hK _ _ ?_); clear hK K) | refine wk_reg ?_ | refine wk_seq fun K hK => ?_ | (refine wk_skip (hK _ _ ?_); clear hK K) | refine wk_cond_t rfl ?_ | refine wk_cond_f rfl ?_ | (refine a_bin ?_ ?_ <;> intro _ <;> try (exfalso; omega)) | (refine a_st hl ?_; clear hl; intro _ hl) | fail)
      refine wk_ret (retQ_res [.agg zeroL.toArray, .int .i64 e] rfl rfl ⟨by decide, ⟨⟨b10, 0, none⟩, rfl, run_loadVarN rfl rfl (hl.rowL (vs := zeroL) 0 0 5 rfl)⟩, by decide, rfl, trivial⟩ ?_)
      refine ⟨?_, hl.done⟩
      rw [hcl]
      exact ⟨e, he, rfl⟩
    | some e =>
      rw [hdu] at ho hcl
      have ho : v = _ := ho
      subst ho
      simp only at hcl
      by_cases hlt : (e : Int) < day
      · rw [if_pos hlt] at hcl
        repeat' (first | refine a_mov ?_ | refine a_asg ?_ | refine a_binN ?_ | refine a_notb ?_ | refine a_fa ?_ | refine a_ext ?_ | refine a_pick_t ?_ | refine a_pick_f ?_ | refine a_not ?_ | (refine o_nil (hK _ _ ?_); clear hK K) | refine wk_reg ?_ | refine wk_seq fun K hK => ?_ | (refine wk_skip (hK _ _ ?_); clear hK K) | refine wk_cond_t rfl ?_ | refine wk_cond_f rfl ?_ | (refine a_bin ?_ ?_ <;> intro _ <;> try (exfalso; omega)) | (refine a_st hl ?_; clear hl; intro _ hl) | fail)
        refine a_all (vs := limL (l, .slice sa l.st.length sc)) (hl.rowL 2 0 5 rfl) ?_
        refine o_store hl 0 (limL (l, .slice sa l.st.length sc)) rfl rfl rfl rfl rfl (by rw [limL_len]; decide) hone ?_
        clear hl
        intro w9 hl
        have hl : LH w (fun _ => False) w9 [(b10, .cells (limL (l, .slice sa l.st.length sc)).toArray 56 (0, 0)), _, _] := hl
        repeat' (first | refine a_mov ?_ | refine a_asg ?_ | refine a_binN ?_ | refine a_notb ?_ | refine a_fa ?_ | refine a_ext ?_ | refine a_pick_t ?_ | refine a_pick_f ?_ | refine a_not ?_ | (refine o_nil (hK _ _ ?_); clear hK K) | refine wk_reg ?_ | refine wk_seq fun K hK => ?_ | (refine wk_skip (hK _ _ ?_); clear hK K) | refine wk_cond_t rfl ?_ | refine wk_cond_f rfl ?_ | (refine a_bin ?_ ?_ <;> intro _ <;> try (exfalso; omega)) | (refine a_st hl ?_; clear hl; intro _ hl) | fail)
        refine wk_ret (retQ_res [.agg (limL (l, .slice sa l.st.length sc)).toArray, .int .i64 0] rfl rfl ⟨by decide, ⟨⟨b10, 0, none⟩, rfl, run_loadVarN rfl rfl (hl.rowL (vs := limL (l, .slice sa l.st.length sc)) 0 0 5 rfl)⟩, by decide, rfl, trivial⟩ ?_)
        refine ⟨?_, hl.done⟩
        rw [hcl]
        rfl
      · rw [if_neg hlt] at hcl
        repeat' (first | refine a_mov ?_ | refine a_asg ?_ | refine a_binN ?_ | refine a_notb ?_ | refine a_fa ?_ | refine a_ext ?_ | refine a_pick_t ?_ | refine a_pick_f ?_ | refine a_not ?_ | (refine o_nil (hK _ _ ?_); clear hK K) | refine wk_reg ?_ | refine wk_seq fun K hK => ?_ | (refine wk_skip (hK _ _ ?_); clear hK K) | refine wk_cond_t rfl ?_ | refine wk_cond_f rfl ?_ | (refine a_bin ?_ ?_ <;> intro _ <;> try (exfalso; omega)) | (refine a_st hl ?_; clear hl; intro _ hl) | fail)
        refine a_all (vs := [.int .i64 n, .int .i64 u]) (hl.rowL 1 0 2 rfl) ?_
        repeat' (first | refine a_mov ?_ | refine a_asg ?_ | refine a_binN ?_ | refine a_notb ?_ | refine a_fa ?_ | refine a_ext ?_ | refine a_pick_t ?_ | refine a_pick_f ?_ | refine a_not ?_ | (refine a_bin ?_ ?_ <;> intro _ <;> try (exfalso; omega)) | (refine a_st hl ?_; clear hl; intro _ hl) | fail)
        refine o_store hl 2 [.int .i64 n, .int .i64 u] rfl rfl rfl rfl rfl (by simp [limL]) rfl ?_
        clear hl
        intro w7 hl
        have hl : LH w (fun _ => False) w7 [(b10, .cells zeroL.toArray 56 (0, 0)), (b7, .cells [.int .i64 n, .int .i64 u].toArray 53 (0, 0)), (b5, .cells (limL ({ l with n := n, u := u }, .slice sa l.st.length sc)).toArray 56 (0, 0))] := hl
        have hone := limL_one ({ l with n := n, u := u }, .slice sa l.st.length sc) rfl
        have h2 : LimIn w ({ l with n := n, u := u }, .slice sa l.st.length sc) := h
        repeat' (first | refine a_mov ?_ | refine a_asg ?_ | refine a_binN ?_ | refine a_notb ?_ | refine a_fa ?_ | refine a_ext ?_ | refine a_pick_t ?_ | refine a_pick_f ?_ | refine a_not ?_ | (refine o_nil (hK _ _ ?_); clear hK K) | refine wk_reg ?_ | refine wk_seq fun K hK => ?_ | (refine wk_skip (hK _ _ ?_); clear hK K) | refine wk_cond_t rfl ?_ | refine wk_cond_f rfl ?_ | (refine a_bin ?_ ?_ <;> intro _ <;> try (exfalso; omega)) | (refine a_st hl ?_; clear hl; intro _ hl) | fail)
        refine a_all (vs := limL ({ l with n := n, u := u }, .slice sa l.st.length sc)) (hl.rowL 2 0 5 rfl) ?_
        repeat' (first | refine a_mov ?_ | refine a_asg ?_ | refine a_binN ?_ | refine a_notb ?_ | refine a_fa ?_ | refine a_ext ?_ | refine a_pick_t ?_ | refine a_pick_f ?_ | refine a_not ?_ | (refine a_bin ?_ ?_ <;> intro _ <;> try (exfalso; omega)) | (refine a_st hl ?_; clear hl; intro _ hl) | fail)
        refine a_fn (due_calls (h2.ext hl.done)) ?_
        rintro v w8 ⟨ho, e8⟩
        replace hl := hl.ext e8
        simp only at ho
        cases hdu2 : dueL { l with n := n, u := u } with
        | none =>
          rw [hdu2] at ho hcl
          obtain ⟨e, he, rfl⟩ := ho
          repeat' (first | refine a_mov ?_ | refine a_asg ?_ | refine a_binN ?_ | refine a_notb ?_ | refine a_fa ?_ | refine a_ext ?_ | refine a_pick_t ?_ | refine a_pick_f ?_ | refine a_not ?_ | (refine o_nil (hK _ _ ?_); clear hK K) | refine wk_reg ?_ | refine wk_seq fun K hK => ?_ | (refine wk_skip (hK _ _ ?_); clear hK K) | refine wk_cond_t rfl ?_ | refine wk_cond_f rfl ?_ | (refine a_bin ?_ ?_ <;> intro _ <;> try (exfalso; omega)) | (refine a_st hl ?_; clear hl; intro _ hl) | fail)
          refine o_build zeroL rfl (by kernel_rfl) ?_
          repeat' (first | refine a_mov ?_ | refine a_asg ?_ | refine a_binN ?_ | refine a_notb ?_ | refine a_fa ?_ | refine a_ext ?_ | refine a_pick_t ?_ | refine a_pick_f ?_ | refine a_not ?_ | (refine a_bin ?_ ?_ <;> intro _ <;> try (exfalso; omega)) | (refine a_st hl ?_; clear hl; intro _ hl) | fail)
          refine o_store hl 0 zeroL rfl rfl rfl rfl rfl (by rw [limL_len0]; decide) rfl ?_
          clear hl
          intro w9 hl
          have hl : LH w (fun _ => False) w9 [(b10, .cells zeroL.toArray 56 (0, 0)), _, _] := hl
          repeat' (first | refine a_mov ?_ | refine a_asg ?_ | refine a_binN ?_ | refine a_notb ?_ | refine a_fa ?_ | refine a_ext ?_ | refine a_pick_t ?_ | refine a_pick_f ?_ | refine a_not ?_ | (refine o_nil (hK _ _ ?_); clear hK K) | refine wk_reg ?_ | refine wk_seq fun K hK => ?_ | (refine wk_skip (hK _ _ ?_); clear hK K) | refine wk_cond_t rfl ?_ | refine wk_cond_f rfl ?_ | (refine a_bin ?_ ?_ <;> intro _ <;> try (exfalso; omega)) | (refine a_st hl ?_; clear hl; intro _ hl) | fail)
          refine wk_ret (retQ_res [.agg zeroL.toArray, .int .i64 e] rfl rfl ⟨by decide, ⟨⟨b10, 0, none⟩, rfl, run_loadVarN rfl rfl (hl.rowL (vs := zeroL) 0 0 5 rfl)⟩, by decide, rfl, trivial⟩ ?_)
          refine ⟨?_, hl.done⟩
          rw [hcl]
          exact ⟨e, he, rfl⟩
        | some e2 =>
          rw [hdu2] at ho hcl
          have ho : v = _ := ho
          subst ho
          simp only at hcl
          by_cases hlt2 : (e2 : Int) < day + least
          · rw [if_pos hlt2] at hcl
            repeat' (first | refine a_mov ?_ | refine a_asg ?_ | refine a_binN ?_ | refine a_notb ?_ | refine a_fa ?_ | refine a_ext ?_ | refine a_pick_t ?_ | refine a_pick_f ?_ | refine a_not ?_ | (refine o_nil (hK _ _ ?_); clear hK K) | refine wk_reg ?_ | refine wk_seq fun K hK => ?_ | (refine wk_skip (hK _ _ ?_); clear hK K) | refine wk_cond_t rfl ?_ | refine wk_cond_f rfl ?_ | (refine a_bin ?_ ?_ <;> intro _ <;> try (exfalso; omega)) | (refine a_st hl ?_; clear hl; intro _ hl) | fail)
            refine o_build [.int .i64 least, .int .i64 1] rfl (by kernel_rfl) ?_
            repeat' (first | refine a_mov ?_ | refine a_asg ?_ | refine a_binN ?_ | refine a_notb ?_ | refine a_fa ?_ | refine a_ext ?_ | refine a_pick_t ?_ | refine a_pick_f ?_ | refine a_not ?_ | (refine a_bin ?_ ?_ <;> intro _ <;> try (exfalso; omega)) | (refine a_st hl ?_; clear hl; intro _ hl) | fail)
            refine o_store hl 2 [.int .i64 least, .int .i64 1] rfl rfl rfl rfl rfl (by simp [limL, putL]) rfl ?_
            clear hl
            intro w11 hl
            have hl : LH w (fun _ => False) w11 [(b10, .cells zeroL.toArray 56 (0, 0)), (b7, .cells [.int .i64 n, .int .i64 u].toArray 53 (0, 0)), (b5, .cells (limL ({ l with f := day, n := least, u := 1 }, .slice sa l.st.length sc)).toArray 56 (0, 0))] := hl
            have hone := limL_one ({ l with f := day, n := least, u := 1 }, .slice sa l.st.length sc) rfl
            have h3 : LimIn w ({ l with f := day, n := least, u := 1 }, .slice sa l.st.length sc) := h
            repeat' (first | refine a_mov ?_ | refine a_asg ?_ | refine a_binN ?_ | refine a_notb ?_ | refine a_fa ?_ | refine a_ext ?_ | refine a_pick_t ?_ | refine a_pick_f ?_ | refine a_not ?_ | (refine o_nil (hK _ _ ?_); clear hK K) | refine wk_reg ?_ | refine wk_seq fun K hK => ?_ | (refine wk_skip (hK _ _ ?_); clear hK K) | refine wk_cond_t rfl ?_ | refine wk_cond_f rfl ?_ | (refine a_bin ?_ ?_ <;> intro _ <;> try (exfalso; omega)) | (refine a_st hl ?_; clear hl; intro _ hl) | fail)
            refine a_all (vs := limL ({ l with f := day, n := least, u := 1 }, .slice sa l.st.length sc)) (hl.rowL 2 0 5 rfl) ?_
            repeat' (first | refine a_mov ?_ | refine a_asg ?_ | refine a_binN ?_ | refine a_notb ?_ | refine a_fa ?_ | refine a_ext ?_ | refine a_pick_t ?_ | refine a_pick_f ?_ | refine a_not ?_ | (refine a_bin ?_ ?_ <;> intro _ <;> try (exfalso; omega)) | (refine a_st hl ?_; clear hl; intro _ hl) | fail)
            refine a_fn (due_calls (h3.ext hl.done)) ?_
            rintro v w12 ⟨ho, e12⟩
            replace hl := hl.ext e12
            simp only at ho
            cases hdu3 : dueL { l with f := day, n := least, u := 1 } with
            | none =>
              rw [hdu3] at ho hcl
              obtain ⟨e, he, rfl⟩ := ho
              repeat' (first | refine a_mov ?_ | refine a_asg ?_ | refine a_binN ?_ | refine a_notb ?_ | refine a_fa ?_ | refine a_ext ?_ | refine a_pick_t ?_ | refine a_pick_f ?_ | refine a_not ?_ | (refine o_nil (hK _ _ ?_); clear hK K) | refine wk_reg ?_ | refine wk_seq fun K hK => ?_ | (refine wk_skip (hK _ _ ?_); clear hK K) | refine wk_cond_t rfl ?_ | refine wk_cond_f rfl ?_ | (refine a_bin ?_ ?_ <;> intro _ <;> try (exfalso; omega)) | (refine a_st hl ?_; clear hl; intro _ hl) | fail)
              refine o_build zeroL rfl (by kernel_rfl) ?_
              repeat' (first | refine a_mov ?_ | refine a_asg ?_ | refine a_binN ?_ | refine a_notb ?_ | refine a_fa ?_ | refine a_ext ?_ | refine a_pick_t ?_ | refine a_pick_f ?_ | refine a_not ?_ | (refine a_bin ?_ ?_ <;> intro _ <;> try (exfalso; omega)) | (refine a_st hl ?_; clear hl; intro _ hl) | fail)
              refine o_store hl 0 zeroL rfl rfl rfl rfl rfl (by rw [limL_len0]; decide) rfl ?_
              clear hl
              intro w9 hl
              have hl : LH w (fun _ => False) w9 [(b10, .cells zeroL.toArray 56 (0, 0)), _, _] := hl
              repeat' (first | refine a_mov ?_ | refine a_asg ?_ | refine a_binN ?_ | refine a_notb ?_ | refine a_fa ?_ | refine a_ext ?_ | refine a_pick_t ?_ | refine a_pick_f ?_ | refine a_not ?_ | (refine o_nil (hK _ _ ?_); clear hK K) | refine wk_reg ?_ | refine wk_seq fun K hK => ?_ | (refine wk_skip (hK _ _ ?_); clear hK K) | refine wk_cond_t rfl ?_ | refine wk_cond_f rfl ?_ | (refine a_bin ?_ ?_ <;> intro _ <;> try (exfalso; omega)) | (refine a_st hl ?_; clear hl; intro _ hl) | fail)
              refine wk_ret (retQ_res [.agg zeroL.toArray, .int .i64 e] rfl rfl ⟨by decide, ⟨⟨b10, 0, none⟩, rfl, run_loadVarN rfl rfl (hl.rowL (vs := zeroL) 0 0 5 rfl)⟩, by decide, rfl, trivial⟩ ?_)
              refine ⟨?_, hl.done⟩
              rw [hcl]
              exact ⟨e, he, rfl⟩
            | some e3 =>
              rw [hdu3] at ho hcl
              have ho : v = _ := ho
              subst ho
              simp only at hcl
              repeat' (first | refine a_mov ?_ | refine a_asg ?_ | refine a_binN ?_ | refine a_notb ?_ | refine a_fa ?_ | refine a_ext ?_ | refine a_pick_t ?_ | refine a_pick_f ?_ | refine a_not ?_ | (refine o_nil (hK _ _ ?_); clear hK K) | refine wk_reg ?_ | refine wk_seq fun K hK => ?_ | (refine wk_skip (hK _ _ ?_); clear hK K) | refine wk_cond_t rfl ?_ | refine wk_cond_f rfl ?_ | (refine a_bin ?_ ?_ <;> intro _ <;> try (exfalso; omega)) | (refine a_st hl ?_; clear hl; intro _ hl) | fail)
              refine a_all (vs := limL ({ l with f := day, n := least, u := 1 }, .slice sa l.st.length sc)) (hl.rowL 2 0 5 rfl) ?_
              refine o_store hl 0 (limL ({ l with f := day, n := least, u := 1 }, .slice sa l.st.length sc)) rfl rfl rfl rfl rfl (by rw [limL_len]; decide) hone ?_
              clear hl
              intro w9 hl
              have hl : LH w (fun _ => False) w9 [(b10, .cells (limL ({ l with f := day, n := least, u := 1 }, .slice sa l.st.length sc)).toArray 56 (0, 0)), _, _] := hl
              repeat' (first | refine a_mov ?_ | refine a_asg ?_ | refine a_binN ?_ | refine a_notb ?_ | refine a_fa ?_ | refine a_ext ?_ | refine a_pick_t ?_ | refine a_pick_f ?_ | refine a_not ?_ | (refine o_nil (hK _ _ ?_); clear hK K) | refine wk_reg ?_ | refine wk_seq fun K hK => ?_ | (refine wk_skip (hK _ _ ?_); clear hK K) | refine wk_cond_t rfl ?_ | refine wk_cond_f rfl ?_ | (refine a_bin ?_ ?_ <;> intro _ <;> try (exfalso; omega)) | (refine a_st hl ?_; clear hl; intro _ hl) | fail)
              refine wk_ret (retQ_res [.agg (limL ({ l with f := day, n := least, u := 1 }, .slice sa l.st.length sc)).toArray, .int .i64 0] rfl rfl ⟨by decide, ⟨⟨b10, 0, none⟩, rfl, run_loadVarN rfl rfl (hl.rowL (vs := limL ({ l with f := day, n := least, u := 1 }, .slice sa l.st.length sc)) 0 0 5 rfl)⟩, by decide, rfl, trivial⟩ ?_)
              refine ⟨?_, hl.done⟩
              rw [hcl]
              rfl
          · rw [if_neg hlt2] at hcl
            repeat' (first | refine a_mov ?_ | refine a_asg ?_ | refine a_binN ?_ | refine a_notb ?_ | refine a_fa ?_ | refine a_ext ?_ | refine a_pick_t ?_ | refine a_pick_f ?_ | refine a_not ?_ | (refine o_nil (hK _ _ ?_); clear hK K) | refine wk_reg ?_ | refine wk_seq fun K hK => ?_ | (refine wk_skip (hK _ _ ?_); clear hK K) | refine wk_cond_t rfl ?_ | refine wk_cond_f rfl ?_ | (refine a_bin ?_ ?_ <;> intro _ <;> try (exfalso; omega)) | (refine a_st hl ?_; clear hl; intro _ hl) | fail)
            refine a_all (vs := limL ({ l with n := n, u := u }, .slice sa l.st.length sc)) (hl.rowL 2 0 5 rfl) ?_
            refine o_store hl 0 (limL ({ l with n := n, u := u }, .slice sa l.st.length sc)) rfl rfl rfl rfl rfl (by rw [limL_len]; decide) hone ?_
            clear hl
            intro w9 hl
            have hl : LH w (fun _ => False) w9 [(b10, .cells (limL ({ l with n := n, u := u }, .slice sa l.st.length sc)).toArray 56 (0, 0)), _, _] := hl
            repeat' (first | refine a_mov ?_ | refine a_asg ?_ | refine a_binN ?_ | refine a_notb ?_ | refine a_fa ?_ | refine a_ext ?_ | refine a_pick_t ?_ | refine a_pick_f ?_ | refine a_not ?_ | (refine o_nil (hK _ _ ?_); clear hK K) | refine wk_reg ?_ | refine wk_seq fun K hK => ?_ | (refine wk_skip (hK _ _ ?_); clear hK K) | refine wk_cond_t rfl ?_ | refine wk_cond_f rfl ?_ | (refine a_bin ?_ ?_ <;> intro _ <;> try (exfalso; omega)) | (refine a_st hl ?_; clear hl; intro _ hl) | fail)
            refine wk_ret (retQ_res [.agg (limL ({ l with n := n, u := u }, .slice sa l.st.length sc)).toArray, .int .i64 0] rfl rfl ⟨by decide, ⟨⟨b10, 0, none⟩, rfl, run_loadVarN rfl rfl (hl.rowL (vs := limL ({ l with n := n, u := u }, .slice sa l.st.length sc)) 0 0 5 rfl)⟩, by decide, rfl, trivial⟩ ?_)
            refine ⟨?_, hl.done⟩
            rw [hcl]
            rfl
  · rw [hp, hd, ht, decide_eq_false hle] at hcl
    replace hcl := hcl.trans (if_neg (by decide))
    repeat' (first | refine a_mov ?_ | refine a_asg ?_ | refine a_binN ?_ | refine a_notb ?_ | refine a_fa ?_ | refine a_ext ?_ | refine a_pick_t ?_ | refine a_pick_f ?_ | refine a_not ?_ | (refine o_nil (hK _ _ ?_); clear hK K) | refine wk_reg ?_ | refine wk_seq fun K hK => ?_ | (refine wk_skip (hK _ _ ?_); clear hK K) | refine wk_cond_t rfl ?_ | refine wk_cond_f rfl ?_ | (refine a_bin ?_ ?_ <;> intro _ <;> try (exfalso; omega)) | (refine a_st hl ?_; clear hl; intro _ hl) | fail)
    · skip
      refine o_build zeroL rfl (by kernel_rfl) ?_
      repeat' (first | refine a_mov ?_ | refine a_asg ?_ | refine a_binN ?_ | refine a_notb ?_ | refine a_fa ?_ | refine a_ext ?_ | refine a_pick_t ?_ | refine a_pick_f ?_ | refine a_not ?_ | (refine a_bin ?_ ?_ <;> intro _ <;> try (exfalso; omega)) | (refine a_st hl ?_; clear hl; intro _ hl) | fail)
      refine o_store hl 0 zeroL rfl rfl rfl rfl rfl (by rw [limL_len0]; decide) rfl ?_
      clear hl
      intro w9 hl
      have hl : LH w (fun _ => False) w9 [(b10, .cells zeroL.toArray 56 (0, 0)), _, _] := hl
      repeat' (first | refine a_mov ?_ | refine a_asg ?_ | refine a_binN ?_ | refine a_notb ?_ | refine a_fa ?_ | refine a_ext ?_ | refine a_pick_t ?_ | refine a_pick_f ?_ | refine a_not ?_ | (refine o_nil (hK _ _ ?_); clear hK K) | refine wk_reg ?_ | refine wk_seq fun K hK => ?_ | (refine wk_skip (hK _ _ ?_); clear hK K) | refine wk_cond_t rfl ?_ | refine wk_cond_f rfl ?_ | (refine a_bin ?_ ?_ <;> intro _ <;> try (exfalso; omega)) | (refine a_st hl ?_; clear hl; intro _ hl) | fail)
      refine wk_ret (retQ_res [.agg zeroL.toArray, .int .i64 1] rfl rfl ⟨by decide, ⟨⟨b10, 0, none⟩, rfl, run_loadVarN rfl rfl (hl.rowL (vs := zeroL) 0 0 5 rfl)⟩, by decide, rfl, trivial⟩ ?_)
      refine ⟨?_, hl.done⟩
      rw [hcl]
      exact ⟨1, by decide, rfl⟩
    · skip
      refine o_build zeroL rfl (by kernel_rfl) ?_
      repeat' (first | refine a_mov ?_ | refine a_asg ?_ | refine a_binN ?_ | refine a_notb ?_ | refine a_fa ?_ | refine a_ext ?_ | refine a_pick_t ?_ | refine a_pick_f ?_ | refine a_not ?_ | (refine a_bin ?_ ?_ <;> intro _ <;> try (exfalso; omega)) | (refine a_st hl ?_; clear hl; intro _ hl) | fail)
      refine o_store hl 0 zeroL rfl rfl rfl rfl rfl (by rw [limL_len0]; decide) rfl ?_
      clear hl
      intro w9 hl
      have hl : LH w (fun _ => False) w9 [(b10, .cells zeroL.toArray 56 (0, 0)), _, _] := hl
      repeat' (first | refine a_mov ?_ | refine a_asg ?_ | refine a_binN ?_ | refine a_notb ?_ | refine a_fa ?_ | refine a_ext ?_ | refine a_pick_t ?_ | refine a_pick_f ?_ | refine a_not ?_ | (refine o_nil (hK _ _ ?_); clear hK K) | refine wk_reg ?_ | refine wk_seq fun K hK => ?_ | (refine wk_skip (hK _ _ ?_); clear hK K) | refine wk_cond_t rfl ?_ | refine wk_cond_f rfl ?_ | (refine a_bin ?_ ?_ <;> intro _ <;> try (exfalso; omega)) | (refine a_st hl ?_; clear hl; intro _ hl) | fail)
      refine wk_ret (retQ_res [.agg zeroL.toArray, .int .i64 1] rfl rfl ⟨by decide, ⟨⟨b10, 0, none⟩, rfl, run_loadVarN rfl rfl (hl.rowL (vs := zeroL) 0 0 5 rfl)⟩, by decide, rfl, trivial⟩ ?_)
      refine ⟨?_, hl.done⟩
      rw [hcl]
      exact ⟨1, by decide, rfl⟩
end Go.Proofs
