/-
  Facts: the reader's ranges (span, flag).
-/
import Derived.Test.YtcanaadgcgophaaDoorFaK
set_option linter.unusedVariables false
set_option linter.unusedSimpArgs false
set_option linter.unnecessarySimpa false
set_option maxRecDepth 10000
namespace Go.Proofs
open Go Go.Pd Go.Fac
open Go.Lexs (Tok)
attribute [local irreducible] OpsL W RetQ OpsQ OpsC
/-- What a reader of ranges answers. -/
def SpanV (w : World) (pb : Nat) (tv : Value) (ts : List Tok) (en : Int) (i : Nat) (read : List Tok → Rd (Int × Int)) (v : Value) (w' : World) : Prop :=
  ∃ p j, read (ts.drop i) = .ok p (ts.drop j) ∧ i ≤ j ∧ j ≤ ts.length ∧ v = .tuple #[.int .i64 p.1, .int .i64 p.2] ∧ LH w (OneB pb) w' [psB pb tv j en]
set_option maxHeartbeats 4000000 in
theorem span_calls {w : World} {pb : Nat} {tv : Value} {ts : List Tok} {i : Nat} {en : Int} (hT : TK w pb tv ts) (hl : LH w (OneB pb) w [psB pb tv i en]) (hi : i ≤ ts.length) :
    Calls Tryd.prog 39 #[.pointer (some ⟨pb, 0, none⟩)] w (EndP (SpanV w pb tv ts en i (spanP en)) (RdZ w pb (spanP en (ts.drop i)))) := by
  have hlen := hT.2.2
  refine calls_ofP Tryd.func39 rfl Tryd.ntmps39 rfl ?_
  refine wk_seq fun K hK => ?_
  refine wk_reg ?_
  refine a_asg ?_
  refine a_asg ?_
  refine o_nil (hK _ _ ?_)
  clear hK K
  refine wk_seq fun K hK => ?_
  refine wk_reg ?_
  refine a_mov ?_
  refine a_fnP (take_calls (k := 2) (wd := []) hT hl hi) ?_ ?_ rfl (fun _ => rfl) (by simp only [str_nil]; rfl)
  rotate_left
  · rintro ch w1 ⟨e, a, hr, rfl, hu⟩
    refine retP_panic rfl ⟨e, a, ?_, rfl, hu⟩
    unfold spanP
    rw [hr]
    rfl
  rintro _ w1 ⟨h1, hr1, rfl, hl1⟩
  replace hl := hl.swap hl1
  clear hl1
  generalize ht1 : ts[i] = t1 at hr1
  refine o_alloc hl [.int .i64 0, .string "".toByteArray, .int .i64 0, .int .i64 0] (by kernel_rfl) rfl ?_
  clear hl
  intro b4 w2 hb hl
  refine o_putN (us := tokL t1) hl rfl rfl rfl (by simp only [tokL, List.all_cons, List.all_nil, oneCell_str]; rfl) rfl (.here rfl rfl) ?_
  clear hl
  intro w3 hl
  replace hl := hl.perm (List.Perm.swap _ _ _)
  refine o_nil (hK _ _ ?_)
  clear hK K
  have hra : Row w3 b4 0 (tokL t1) := hl.rowL (vs := tokL t1) 1 0 4 rfl
  have hsp1 : spanP en (ts.drop i) = if 1000000 < t1.num then .bad 10 t1.pos else (takeK en 1 kTo (ts.drop (i + 1))).bind fun _ r => (takeK en 2 [] r).bind fun hi r => if 1000000 < hi.num ∨ hi.num < t1.num then .bad 10 hi.pos else .ok ((t1.num : Int), (hi.num : Int)) r := by
    unfold spanP
    rw [hr1]
    rfl
  refine wk_seq fun K hK => ?_
  refine wk_reg ?_
  by_cases hbig : 1000000 < t1.num
  · repeat' (first | refine a_mov ?_ | refine a_asg ?_ | refine a_binN ?_ | refine a_notd ?_ | refine a_notb ?_ | refine a_nilc ?_ | refine a_fa ?_ | refine a_ext ?_ | refine a_lenv ?_ | refine a_lens ?_ | refine a_pick_t ?_ | refine a_pick_f ?_ | refine a_not ?_ | refine a_nilf ?_ | (refine a_bin ?_ ?_ <;> intro _ <;> try (exfalso; omega)) | refine a_ld hl ?_ | (refine a_st hl ?_; clear hl; intro _ hl) | refine a_ix (fun _ => ?_) | refine a_row hra ?_ | fail)
    refine a_all hra ?_
    refine a_fnP (check_calls (b := true) (e := 10) (a := t1.pos) (k := t1.kind) (num := t1.num) (tx := t1.text)) ?_ ?_
    · rintro v w4 ⟨h, -⟩
      cases h
    · rintro ch w4 ⟨-, rfl, hx⟩
      refine retP_panic rfl ⟨10, t1.pos, ?_, rfl, (hl.ext hx).upd⟩
      rw [hsp1, if_pos hbig]
  rw [if_neg hbig] at hsp1
  repeat' (first | refine a_mov ?_ | refine a_asg ?_ | refine a_binN ?_ | refine a_notd ?_ | refine a_notb ?_ | refine a_nilc ?_ | refine a_fa ?_ | refine a_ext ?_ | refine a_lenv ?_ | refine a_lens ?_ | refine a_pick_t ?_ | refine a_pick_f ?_ | refine a_not ?_ | refine a_nilf ?_ | (refine a_bin ?_ ?_ <;> intro _ <;> try (exfalso; omega)) | refine a_ld hl ?_ | (refine a_st hl ?_; clear hl; intro _ hl) | refine a_ix (fun _ => ?_) | refine a_row hra ?_ | fail)
  refine a_all hra ?_
  refine a_fnP (check_calls (b := false) (e := 10) (a := t1.pos) (k := t1.kind) (num := t1.num) (tx := t1.text)) ?_ ?_
  rotate_left
  · rintro ch w4 ⟨h, -⟩
    cases h
  rintro v w4 ⟨-, hx4⟩
  replace hl := hl.ext hx4
  clear hra
  refine o_nil (hK _ _ ?_)
  clear hK K
  refine wk_seq fun K hK => ?_
  refine wk_reg ?_
  refine a_mov ?_
  refine a_fnP (take_calls (k := 1) (wd := kTo) (hT.upd hl.upd) hl.one h1) ?_ ?_ rfl (fun _ => rfl) (by simp only [kTo, str_eq]; rfl)
  rotate_left
  · rintro ch w5 ⟨e, a, hr, rfl, hu⟩
    refine retP_panic rfl ⟨e, a, ?_, rfl, hl.upd.trans hu fun k hk hM => hM⟩
    rw [hsp1, hr]
    rfl
  rintro _ w5 ⟨h2, hr2, rfl, hl2⟩
  replace hl := hl.swap hl2
  clear hl2
  rw [hr2] at hsp1
  refine o_nil (hK _ _ ?_)
  clear hK K
  refine wk_seq fun K hK => ?_
  refine wk_reg ?_
  refine a_mov ?_
  refine a_fnP (take_calls (k := 2) (wd := []) (hT.upd hl.upd) hl.one h2) ?_ ?_ rfl (fun _ => rfl) (by simp only [str_nil]; rfl)
  rotate_left
  · rintro ch w6 ⟨e, a, hr, rfl, hu⟩
    refine retP_panic rfl ⟨e, a, ?_, rfl, hl.upd.trans hu fun k hk hM => hM⟩
    rw [hsp1]
    simp only [Rd.bind]
    rw [hr]
  rintro _ w6 ⟨h3, hr3, rfl, hl3⟩
  replace hl := hl.swap hl3
  clear hl3
  simp only [Rd.bind] at hsp1
  rw [hr3] at hsp1
  simp only at hsp1
  generalize ht2 : ts[i + 1 + 1] = t2 at hr3 hsp1
  refine o_alloc hl [.int .i64 0, .string "".toByteArray, .int .i64 0, .int .i64 0] (by kernel_rfl) rfl ?_
  clear hl
  intro b5 w7 hb hl
  refine o_putN (us := tokL t2) hl rfl rfl rfl (by simp only [tokL, List.all_cons, List.all_nil, oneCell_str]; rfl) rfl (.here rfl rfl) ?_
  clear hl
  intro w8 hl
  replace hl := hl.perm (List.Perm.swap _ _ _)
  refine o_nil (hK _ _ ?_)
  clear hK K
  have hra : Row w8 b4 0 (tokL t1) := hl.rowL (vs := tokL t1) 2 0 4 rfl
  have hrb : Row w8 b5 0 (tokL t2) := hl.rowL (vs := tokL t2) 1 0 4 rfl
  refine wk_seq fun K hK => ?_
  refine wk_reg ?_
  by_cases hbad : 1000000 < t2.num ∨ t2.num < t1.num
  · have hpan : ∀ (w9 : World) (ch : List PanicEntry), (true = true ∧ ch = faultC 10 t2.pos ∧ Ext w8 w9) → RdZ w pb (spanP en (ts.drop i)) ch w9 := fun w9 ch ⟨_, h, hx⟩ => ⟨10, t2.pos, by rw [hsp1, if_pos hbad], h, (hl.ext hx).upd⟩
    by_cases hb1 : 1000000 < t2.num
    · repeat' (first | refine a_mov ?_ | refine a_asg ?_ | refine a_binN ?_ | refine a_notd ?_ | refine a_notb ?_ | refine a_nilc ?_ | refine a_fa ?_ | refine a_ext ?_ | refine a_lenv ?_ | refine a_lens ?_ | refine a_pick_t ?_ | refine a_pick_f ?_ | refine a_not ?_ | refine a_nilf ?_ | (refine a_bin ?_ ?_ <;> intro _ <;> try (exfalso; omega)) | refine a_ld hl ?_ | (refine a_st hl ?_; clear hl; intro _ hl) | refine a_ix (fun _ => ?_) | refine a_row hra ?_ | refine a_row hrb ?_ | fail)
      refine a_all hrb ?_
      refine a_fnP (check_calls (b := true) (e := 10) (a := t2.pos) (k := t2.kind) (num := t2.num) (tx := t2.text)) ?_ ?_
      · rintro v w9 ⟨h, -⟩
        cases h
      · exact fun ch w9 h => retP_panic rfl (hpan w9 ch h)
    · have hb2 := hbad.resolve_left hb1
      repeat' (first | refine a_mov ?_ | refine a_asg ?_ | refine a_binN ?_ | refine a_notd ?_ | refine a_notb ?_ | refine a_nilc ?_ | refine a_fa ?_ | refine a_ext ?_ | refine a_lenv ?_ | refine a_lens ?_ | refine a_pick_t ?_ | refine a_pick_f ?_ | refine a_not ?_ | refine a_nilf ?_ | (refine a_bin ?_ ?_ <;> intro _ <;> try (exfalso; omega)) | refine a_ld hl ?_ | (refine a_st hl ?_; clear hl; intro _ hl) | refine a_ix (fun _ => ?_) | refine a_row hra ?_ | refine a_row hrb ?_ | fail)
      refine a_all hrb ?_
      refine a_fnP (check_calls (b := true) (e := 10) (a := t2.pos) (k := t2.kind) (num := t2.num) (tx := t2.text)) ?_ ?_
      · rintro v w9 ⟨h, -⟩
        cases h
      · exact fun ch w9 h => retP_panic rfl (hpan w9 ch h)
  · rw [if_neg hbad] at hsp1
    repeat' (first | refine a_mov ?_ | refine a_asg ?_ | refine a_binN ?_ | refine a_notd ?_ | refine a_notb ?_ | refine a_nilc ?_ | refine a_fa ?_ | refine a_ext ?_ | refine a_lenv ?_ | refine a_lens ?_ | refine a_pick_t ?_ | refine a_pick_f ?_ | refine a_not ?_ | refine a_nilf ?_ | (refine a_bin ?_ ?_ <;> intro _ <;> try (exfalso; omega)) | refine a_ld hl ?_ | (refine a_st hl ?_; clear hl; intro _ hl) | refine a_ix (fun _ => ?_) | refine a_row hra ?_ | refine a_row hrb ?_ | fail)
    refine a_all hrb ?_
    refine a_fnP (check_calls (b := false) (e := 10) (a := t2.pos) (k := t2.kind) (num := t2.num) (tx := t2.text)) ?_ ?_
    rotate_left
    · rintro ch w9 ⟨h, -⟩
      cases h
    rintro v w9 ⟨-, hx9⟩
    replace hl := hl.ext hx9
    replace hra := hra.ext hx9
    replace hrb := hrb.ext hx9
    refine o_nil (hK _ _ ?_)
    clear hK K
    refine wk_seq fun K hK => ?_
    refine wk_np (wk_quiet (List.range 6) ?_)
    repeat' (first | refine q_mov ?_ | refine q_asg ?_ | refine q_fa ?_ | refine q_ext ?_ | refine q_binN ?_ | refine q_notd ?_ | refine q_notb ?_ | refine q_pick_t ?_ | refine q_pick_f ?_ | refine q_nilc ?_ | refine q_skip ?_ | refine q_lens ?_ | refine q_lenv ?_ | refine q_nil ?_ | refine q_ix (fun _ => ?_) | (refine q_bin ?_ ?_ <;> intro _ <;> try (exfalso; omega)) | refine q_row (fun w_ hw_ => hra.ext hw_) ?_ | refine q_row (fun w_ hw_ => hrb.ext hw_) ?_ | fail)
    intro w10 hx10
    refine hK _ _ ?_
    refine wk_ret (retP_of (retQ_tmp2 Tryd.results39 (by decide) (by decide) rfl (by conv => lhs; whnf) (by conv => lhs; whnf) ?_) rfl)
    exact ⟨((t1.num : Int), (t2.num : Int)), i + 1 + 1 + 1, hsp1, by omega, h3, rfl, (hl.ext hx10).sub (List.cons_sublist_cons.2 (List.nil_sublist _))⟩
theorem flag_calls {w : World} {pb : Nat} {tv : Value} {ts : List Tok} {i : Nat} {en : Int} (hl : LH w (OneB pb) w [psB pb tv i en]) (hi : i ≤ ts.length) :
    Calls Tryd.prog 38 #[.pointer (some ⟨pb, 0, none⟩)] w (EndP (SpanV w pb tv ts en i (Rd.ok (0, 1))) (RdZ w pb (Rd.ok ((0 : Int), (1 : Int)) (ts.drop i)))) := by
  refine calls_ofP Tryd.func38 rfl Tryd.ntmps38 rfl ?_
  refine wk_seq fun K hK => ?_
  refine wk_reg ?_
  refine a_asg ?_
  refine a_asg ?_
  refine o_nil (hK _ _ ?_)
  clear hK K
  refine wk_seq fun K hK => ?_
  refine wk_reg ?_
  refine a_asg ?_
  refine a_asg ?_
  refine o_nil (hK _ _ ?_)
  refine wk_ret (retP_of (retQ_tmp2 Tryd.results38 (by decide) (by decide) rfl (by conv => lhs; whnf) (by conv => lhs; whnf) ?_) rfl)
  exact ⟨(0, 1), i, rfl, Nat.le_refl _, hi, rfl, hl⟩
end Go.Proofs
