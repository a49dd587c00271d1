/-
  Facts: the chapter's examples; tokens apart.
-/
import Derived.Test.YtcanaadgcgophaaDoorQFaV
import Derived.Test.YtcanaadgcgophaaDoorQFaS
import Derived.Test.YtcanaadgcgophaaDoorQFaT
import Derived.Test.YtcanaadgcgophaaDoorQFaP
import Derived.Test.YtcanaadgcgophaaDoorQFaQ
set_option linter.unusedVariables false
set_option linter.unusedSimpArgs false
set_option linter.unnecessarySimpa false
set_option maxRecDepth 10000
namespace Go.Fac
open Go.Fo
open Go.Lexs (Tok)
def exD : Tx := [97, 103, 101, 32, 110, 117, 109, 98, 101, 114, 32, 48, 32, 116, 111, 32, 49, 53, 48, 59, 32, 109, 101, 109, 98, 101, 114, 32, 102, 108, 97, 103, 59]
def exE : Tx := [97, 103, 101, 32, 110, 117, 109, 98, 101, 114, 32, 53, 32, 116, 111, 32, 52, 59]
def exC1 : Tx := [109, 101, 109, 98, 101, 114, 32, 61, 32, 49, 44, 32, 97, 103, 101, 32, 61, 32, 51, 48]
def exC2 : Tx := [97, 103, 101, 32, 61, 32, 49, 53, 49, 44, 32, 109, 101, 109, 98, 101, 114, 32, 61, 32, 49]
def exC3 : Tx := [97, 103, 101, 32, 61, 32, 51, 48]
def exT : Tx := [97, 103, 101, 32, 110, 117, 109, 98, 101, 114, 32, 48, 32, 116, 111, 32, 49, 53, 48, 59, 10, 109, 101, 109, 98, 101, 114, 32, 102, 108, 97, 103, 59, 10]
def exU : Tx := [97, 103, 101, 32, 61, 32, 51, 48, 44, 32, 109, 101, 109, 98, 101, 114, 32, 61, 32, 49]
def dom2 : List Fact := [⟨[97, 103, 101], 2, 0, 150⟩, ⟨[109, 101, 109, 98, 101, 114], 1, 0, 1⟩]
theorem ex_D : parseD exD = .inl dom2 := by kernel_rfl
theorem ex_E : parseD exE = .inr (10, 16) := by kernel_rfl
theorem ex_C1 : parseC dom2 exC1 = .inl [30, 1] := by kernel_rfl
theorem ex_C2 : parseC dom2 exC2 = .inr (10, 6) := by kernel_rfl
theorem ex_C3 : parseC dom2 exC3 = .inr (11, 8) := by kernel_rfl
theorem ex_N1 : nextC dom2 [30, 1] = some [31, 0] := by kernel_rfl
theorem ex_N2 : nextC dom2 [150, 1] = none := by kernel_rfl
theorem ex_L : leastC dom2 = [0, 0] := by kernel_rfl
theorem ex_T : textD dom2 = exT := by
  have h0 : decS 0 = [48] := decS_small (by decide)
  have h1 : decS 1 = [49] := decS_small (by decide)
  have h15 : decS 15 = [49, 53] := by rw [decS_big (by decide), show 15 / 10 = 1 from rfl, h1]; rfl
  have h150 : decS 150 = [49, 53, 48] := by rw [decS_big (by decide), show 150 / 10 = 15 from rfl, h15]; rfl
  have hv : validD dom2 = true := by kernel_rfl
  unfold textD
  rw [if_pos hv]
  show factS _ ++ (factS _ ++ []) = _
  simp only [factS, kindW]
  rw [if_neg (by decide), if_pos trivial, if_pos trivial, show (0 : Int).toNat = 0 from rfl, show (150 : Int).toNat = 150 from rfl, h0, h150]
  rfl
theorem ex_U : textC dom2 [30, 1] = exU := by
  have h0 : (decS 0) = [48] := decS_small (by decide)
  have h1 : decS 1 = [49] := decS_small (by decide)
  have h3 : decS 3 = [51] := decS_small (by decide)
  have h30 : decS 30 = [51, 48] := by rw [decS_big (by decide), show 30 / 10 = 3 from rfl, h3]; rfl
  have hv : fitsB dom2 [30, 1] = true := by kernel_rfl
  unfold textC
  rw [if_pos hv]
  show itemS _ _ ++ (44 :: 32 :: itemS _ _) = _
  simp only [itemS]
  rw [show (30 : Int).toNat = 30 from rfl, show (1 : Int).toNat = 1 from rfl, h30, h1]
  rfl
def faO : List Fact ⊕ (Int × Int) → List Fact
  | .inl F => F
  | .inr _ => []
def erO {α : Type} : α ⊕ (Int × Int) → Int
  | .inl _ => 0
  | .inr p => p.1
def atO {α : Type} : α ⊕ (Int × Int) → Int
  | .inl _ => 0
  | .inr p => p.2
def caO : List Int ⊕ (Int × Int) → List Int
  | .inl c => c
  | .inr _ => []
end Go.Fac
namespace Go.Proofs
open Go Go.Pd Go.Fac Go.Fo
open Go.Lexs (Tok)
attribute [local irreducible] OpsL W RetQ OpsQ OpsC
theorem parseD_calls2 (text : Tx) (w : World) : Calls Tryd.prog 11 #[str text] w (fun e w' => ∃ v, e = .returned v ∧ (∃ dv, v = .tuple #[.agg #[dv], .int .i64 (erO (parseD text)), .int .i64 (atO (parseD text))] ∧ Sl w' dv 4 (factsL (faO (parseD text)))) ∧ Ext w w') := by
  refine Calls.mono (parseD_calls text w) ?_
  rintro e w' ⟨v, rfl, hx, hv⟩
  cases hp : parseD text with
  | inl s =>
    rw [hp] at hv
    obtain ⟨fv, rfl, hs⟩ := hv
    exact ⟨_, rfl, ⟨fv, rfl, hs⟩, hx⟩
  | inr p =>
    rw [hp] at hv
    exact ⟨_, rfl, ⟨.slice none 0 0, hv, Sl.nil _ _⟩, hx⟩
theorem parseC_calls2 {F : List Fact} {dv : Value} {w : World} (hd : Sl w dv 4 (factsL F)) (hF : F.length ≤ 9223372036854775806) (hn : ∀ f ∈ F, f.name.length ≤ 9223372036854775806) (text : Tx) : Calls Tryd.prog 13 #[.agg #[dv], str text] w (fun e w' => ∃ v, e = .returned v ∧ (∃ cv, v = .tuple #[cv, .int .i64 (erO (parseC F text)), .int .i64 (atO (parseC F text))] ∧ Sl w' cv 1 (intsL (caO (parseC F text)))) ∧ Ext w w') := by
  refine Calls.mono (parseC_calls hd hF hn text) ?_
  rintro e w' ⟨v, rfl, hx, hv⟩
  cases hp : parseC F text with
  | inl s =>
    rw [hp] at hv
    obtain ⟨cv, rfl, hs⟩ := hv
    exact ⟨_, rfl, ⟨cv, rfl, hs⟩, hx⟩
  | inr p =>
    rw [hp] at hv
    exact ⟨_, rfl, ⟨.slice none 0 0, hv, Sl.nil _ _⟩, hx⟩
set_option maxHeartbeats 8000000 in
theorem head_calls {w : World} (ht : Tabs w) : Calls Tryd.prog 9 #[] w (fun e w' => ∃ v, e = .returned v ∧ v = .bool true ∧ Ext w w') := by
  have hF2 : dom2.length ≤ 9223372036854775806 := by decide
  have hn2 : ∀ f ∈ dom2, f.name.length ≤ 9223372036854775806 := by decide
  refine calls_of Tryd.func9 rfl Tryd.ntmps9 rfl ?_
  refine wk_seq fun K hK => ?_
  refine wk_reg ?_
  refine a_asg ?_
  refine o_nil (hK _ _ ?_)
  clear hK K
  refine wk_seq fun K hK => ?_
  refine wk_reg ?_
  refine a_fn (parseD_calls2 exD w) ?_ rfl (fun _ => rfl) (by simp only [exD, str_eq]; rfl)
  rintro _ w1 ⟨⟨dv, rfl, hd⟩, hx1⟩
  rw [ex_D] at hd ⊢
  rw [show erO (Sum.inl dom2 : List Fact ⊕ (Int × Int)) = 0 from rfl, show atO (Sum.inl dom2 : List Fact ⊕ (Int × Int)) = 0 from rfl]
  obtain ⟨da, dc, rfl, -⟩ := hd.shape (m := 2) rfl (by omega)
  refine a_mov ?_
  refine a_ext ?_
  refine a_ext ?_
  refine a_ext ?_
  refine o_alloc (LH.start w1 (fun _ => False)) [.slice none 0 0] rfl rfl ?_
  intro b1 wa_ hb_ hl
  refine o_putN (us := [.slice da 2 dc]) hl rfl rfl rfl rfl rfl (.here rfl rfl) ?_
  clear hl
  intro w2 hl
  have hx2 := hl.done
  have hr : Row w2 b1 0 [.slice da 2 dc] := hl.rowL (vs := [.slice da 2 dc]) 0 0 1 rfl
  clear hl
  refine a_asg ?_
  refine a_asg ?_
  refine o_nil (hK _ _ ?_)
  clear hK K
  replace hd := hd.ext hx2
  have hd : Sl w2 (.slice da 2 dc) 4 (factsL dom2) := hd
  have ht2 := (ht.ext hx1).ext hx2
  replace hx1 := hx1.trans hx2
  clear hx2
  refine wk_seq fun K hK => ?_
  refine wk_seq fun K2 hK2 => ?_
  refine wk_reg ?_
  repeat' (first | refine a_mov ?_ | refine a_asg ?_ | refine a_binN ?_ | refine a_notd ?_ | refine a_notb ?_ | refine a_nilc ?_ | refine a_fa ?_ | refine a_ext ?_ | refine a_lenv ?_ | refine a_lens ?_ | refine a_pick_t ?_ | refine a_pick_f ?_ | refine a_not ?_ | refine a_nilf ?_ | (refine a_bin ?_ ?_ <;> intro _ <;> try (exfalso; omega)) | refine a_ld hl ?_ | (refine a_st hl ?_; clear hl; intro _ hl) | refine a_ix (fun _ => ?_) | refine a_row hr ?_ | fail)
  refine o_nil (hK2 _ _ ?_)
  clear hK2 K2
  refine wk_cond_f rfl ?_
  refine wk_skip (hK _ _ ?_)
  clear hK K
  refine wk_seq fun K hK => ?_
  refine wk_reg ?_
  refine a_all hr ?_
  refine a_fn (parseC_calls2 hd hF2 hn2 exC1) ?_ rfl (fun _ => rfl) (by simp only [exC1, str_eq]; rfl)
  rintro _ w3 ⟨⟨c1, rfl, hc1⟩, hx3⟩
  rw [ex_C1] at hc1 ⊢
  rw [show erO (Sum.inl [30, 1] : List Int ⊕ (Int × Int)) = 0 from rfl, show atO (Sum.inl [30, 1] : List Int ⊕ (Int × Int)) = 0 from rfl]
  replace hd := hd.ext hx3
  replace hr := hr.ext hx3
  repeat' (first | refine a_mov ?_ | refine a_asg ?_ | refine a_binN ?_ | refine a_notd ?_ | refine a_notb ?_ | refine a_nilc ?_ | refine a_fa ?_ | refine a_ext ?_ | refine a_lenv ?_ | refine a_lens ?_ | refine a_pick_t ?_ | refine a_pick_f ?_ | refine a_not ?_ | refine a_nilf ?_ | (refine a_bin ?_ ?_ <;> intro _ <;> try (exfalso; omega)) | refine a_ld hl ?_ | (refine a_st hl ?_; clear hl; intro _ hl) | refine a_ix (fun _ => ?_) | fail)
  refine o_nil (hK _ _ ?_)
  clear hK K
  refine wk_seq fun K hK => ?_
  refine wk_reg ?_
  refine a_all hr ?_
  refine a_fn (parseC_calls2 hd hF2 hn2 exC2) ?_ rfl (fun _ => rfl) (by simp only [exC2, str_eq]; rfl)
  rintro _ w4 ⟨⟨c2, rfl, hc2⟩, hx4⟩
  rw [ex_C2] at hc2 ⊢
  rw [show erO (Sum.inr (10, 6) : List Int ⊕ (Int × Int)) = 10 from rfl, show atO (Sum.inr (10, 6) : List Int ⊕ (Int × Int)) = 6 from rfl]
  replace hd := hd.ext hx4
  replace hr := hr.ext hx4
  repeat' (first | refine a_mov ?_ | refine a_asg ?_ | refine a_binN ?_ | refine a_notd ?_ | refine a_notb ?_ | refine a_nilc ?_ | refine a_fa ?_ | refine a_ext ?_ | refine a_lenv ?_ | refine a_lens ?_ | refine a_pick_t ?_ | refine a_pick_f ?_ | refine a_not ?_ | refine a_nilf ?_ | (refine a_bin ?_ ?_ <;> intro _ <;> try (exfalso; omega)) | refine a_ld hl ?_ | (refine a_st hl ?_; clear hl; intro _ hl) | refine a_ix (fun _ => ?_) | fail)
  refine o_nil (hK _ _ ?_)
  clear hK K
  refine wk_seq fun K hK => ?_
  refine wk_reg ?_
  refine a_all hr ?_
  refine a_fn (parseC_calls2 hd hF2 hn2 exC3) ?_ rfl (fun _ => rfl) (by simp only [exC3, str_eq]; rfl)
  rintro _ w5 ⟨⟨c3, rfl, hc3⟩, hx5⟩
  rw [ex_C3] at hc3 ⊢
  rw [show erO (Sum.inr (11, 8) : List Int ⊕ (Int × Int)) = 11 from rfl, show atO (Sum.inr (11, 8) : List Int ⊕ (Int × Int)) = 8 from rfl]
  replace hd := hd.ext hx5
  replace hr := hr.ext hx5
  repeat' (first | refine a_mov ?_ | refine a_asg ?_ | refine a_binN ?_ | refine a_notd ?_ | refine a_notb ?_ | refine a_nilc ?_ | refine a_fa ?_ | refine a_ext ?_ | refine a_lenv ?_ | refine a_lens ?_ | refine a_pick_t ?_ | refine a_pick_f ?_ | refine a_not ?_ | refine a_nilf ?_ | (refine a_bin ?_ ?_ <;> intro _ <;> try (exfalso; omega)) | refine a_ld hl ?_ | (refine a_st hl ?_; clear hl; intro _ hl) | refine a_ix (fun _ => ?_) | fail)
  refine o_nil (hK _ _ ?_)
  clear hK K
  refine wk_seq fun K hK => ?_
  refine wk_reg ?_
  refine a_all hr ?_
  refine o_buildSlice (LH.start w5 (fun _ => False)) [.int .i64 30, .int .i64 1] rfl rfl (by kernel_rfl) ?_
  intro bq w6 hbq hl
  have hx6 := hl.done
  have hq : Sl w6 (.slice (some ⟨bq, 0, none⟩) 2 2) 1 (intsL [30, 1]) := Sl.mk rfl (Nat.le_refl _) (hl.rowL (vs := [.int .i64 30, .int .i64 1]) 0 0 2 rfl)
  clear hl
  replace hd := hd.ext hx6
  replace hr := hr.ext hx6
  refine a_fn (factNext_calls hd hq hF2 (by decide) hn2) ?_
  rintro _ w7 ⟨hout, hx7⟩
  rw [ex_N1] at hout
  obtain ⟨n1, rfl, hn1⟩ := hout
  replace hd := hd.ext hx7
  replace hr := hr.ext hx7
  repeat' (first | refine a_mov ?_ | refine a_asg ?_ | refine a_binN ?_ | refine a_notd ?_ | refine a_notb ?_ | refine a_nilc ?_ | refine a_fa ?_ | refine a_ext ?_ | refine a_lenv ?_ | refine a_lens ?_ | refine a_pick_t ?_ | refine a_pick_f ?_ | refine a_not ?_ | refine a_nilf ?_ | (refine a_bin ?_ ?_ <;> intro _ <;> try (exfalso; omega)) | refine a_ld hl ?_ | (refine a_st hl ?_; clear hl; intro _ hl) | refine a_ix (fun _ => ?_) | fail)
  refine o_nil (hK _ _ ?_)
  clear hK K
  refine wk_seq fun K hK => ?_
  refine wk_reg ?_
  refine a_all hr ?_
  refine o_buildSlice (LH.start w7 (fun _ => False)) [.int .i64 150, .int .i64 1] rfl rfl (by kernel_rfl) ?_
  intro bs w8 hbs hl
  have hx8 := hl.done
  have hq2 : Sl w8 (.slice (some ⟨bs, 0, none⟩) 2 2) 1 (intsL [150, 1]) := Sl.mk rfl (Nat.le_refl _) (hl.rowL (vs := [.int .i64 150, .int .i64 1]) 0 0 2 rfl)
  clear hl
  replace hd := hd.ext hx8
  replace hr := hr.ext hx8
  refine a_fn (factNext_calls hd hq2 hF2 (by decide) hn2) ?_
  rintro _ w9 ⟨hout, hx9⟩
  rw [ex_N2] at hout
  obtain rfl := hout
  replace hd := hd.ext hx9
  replace hr := hr.ext hx9
  repeat' (first | refine a_mov ?_ | refine a_asg ?_ | refine a_binN ?_ | refine a_notd ?_ | refine a_notb ?_ | refine a_nilc ?_ | refine a_fa ?_ | refine a_ext ?_ | refine a_lenv ?_ | refine a_lens ?_ | refine a_pick_t ?_ | refine a_pick_f ?_ | refine a_not ?_ | refine a_nilf ?_ | (refine a_bin ?_ ?_ <;> intro _ <;> try (exfalso; omega)) | refine a_ld hl ?_ | (refine a_st hl ?_; clear hl; intro _ hl) | refine a_ix (fun _ => ?_) | fail)
  refine o_nil (hK _ _ ?_)
  clear hK K
  refine wk_seq fun K hK => ?_
  refine wk_reg ?_
  refine a_fn (parseD_calls2 exE w9) ?_ rfl (fun _ => rfl) (by simp only [exE, str_eq]; rfl)
  rintro _ w10 ⟨⟨ev, rfl, hev⟩, hx10⟩
  rw [ex_E] at hev ⊢
  rw [show erO (Sum.inr (10, 16) : List Fact ⊕ (Int × Int)) = 10 from rfl, show atO (Sum.inr (10, 16) : List Fact ⊕ (Int × Int)) = 16 from rfl]
  obtain ⟨ea, ec, rfl, -⟩ := hev.shape (m := 0) rfl (by omega)
  refine a_mov ?_
  refine a_ext ?_
  refine a_ext ?_
  refine a_ext ?_
  refine o_alloc (LH.start w10 (fun _ => False)) [.slice none 0 0] rfl rfl ?_
  intro b17 wa_ hb_ hl
  refine o_putN (us := [.slice ea 0 ec]) hl rfl rfl rfl rfl rfl (.here rfl rfl) ?_
  clear hl
  intro w11 hl
  have hx11 := hl.done
  clear hl
  refine a_asg ?_
  refine a_asg ?_
  refine o_nil (hK _ _ ?_)
  clear hK K
  have hx7b := (((hx8.trans hx9).trans hx10).trans hx11)
  replace hd := (hd.ext hx10).ext hx11
  replace hr := (hr.ext hx10).ext hx11
  replace hn1 := hn1.ext hx7b
  have hx3b := ((hx4.trans hx5).trans (hx6.trans hx7)).trans hx7b
  replace hc1 := hc1.ext hx3b
  have ht3 := (ht2.ext hx3).ext hx3b
  replace hx1 := (hx1.trans hx3).trans hx3b
  clear hx3 hx4 hx5 hx6 hx7 hx8 hx9 hx10 hx11 hx7b hx3b hc2 hc3 hev hq hq2 ht2 ht
  refine wk_seq fun K hK => ?_
  refine wk_reg ?_
  repeat' (first | refine a_mov ?_ | refine a_asg ?_ | refine a_binN ?_ | refine a_notd ?_ | refine a_notb ?_ | refine a_nilc ?_ | refine a_fa ?_ | refine a_ext ?_ | refine a_lenv ?_ | refine a_lens ?_ | refine a_pick_t ?_ | refine a_pick_f ?_ | refine a_not ?_ | refine a_nilf ?_ | (refine a_bin ?_ ?_ <;> intro _ <;> try (exfalso; omega)) | refine a_ld hl ?_ | (refine a_st hl ?_; clear hl; intro _ hl) | refine a_ix (fun _ => ?_) | fail)
  refine o_buildSlice (LH.start w11 (fun _ => False)) [.int .i64 30, .int .i64 1] rfl rfl (by kernel_rfl) ?_
  intro bq w12 hbq hl
  have hx12 := hl.done
  have hq : Sl w12 (.slice (some ⟨bq, 0, none⟩) 2 2) 1 (intsL [30, 1]) := Sl.mk rfl (Nat.le_refl _) (hl.rowL (vs := [.int .i64 30, .int .i64 1]) 0 0 2 rfl)
  clear hl
  refine a_fn (equal_calls (a := [30, 1]) (hc1.ext hx12) hq (by decide) (by decide)) ?_
  rintro _ w13 ⟨rfl, hx13⟩
  rw [decide_eq_true rfl]
  replace hd := (hd.ext hx12).ext hx13
  replace hr := (hr.ext hx12).ext hx13
  replace hn1 := (hn1.ext hx12).ext hx13
  replace hc1 := (hc1.ext hx12).ext hx13
  replace ht3 := (ht3.ext hx12).ext hx13
  replace hx1 := (hx1.trans hx12).trans hx13
  clear hx12 hx13 hq
  repeat' (first | refine a_mov ?_ | refine a_asg ?_ | refine a_binN ?_ | refine a_notd ?_ | refine a_notb ?_ | refine a_nilc ?_ | refine a_fa ?_ | refine a_ext ?_ | refine a_lenv ?_ | refine a_lens ?_ | refine a_pick_t ?_ | refine a_pick_f ?_ | refine a_not ?_ | refine a_nilf ?_ | (refine a_bin ?_ ?_ <;> intro _ <;> try (exfalso; omega)) | refine a_ld hl ?_ | (refine a_st hl ?_; clear hl; intro _ hl) | refine a_ix (fun _ => ?_) | fail)
  refine o_nil (hK _ _ ?_)
  clear hK K
  refine wk_seq fun K hK => ?_
  refine wk_reg ?_
  repeat' (first | refine a_mov ?_ | refine a_asg ?_ | refine a_binN ?_ | refine a_notd ?_ | refine a_notb ?_ | refine a_nilc ?_ | refine a_fa ?_ | refine a_ext ?_ | refine a_lenv ?_ | refine a_lens ?_ | refine a_pick_t ?_ | refine a_pick_f ?_ | refine a_not ?_ | refine a_nilf ?_ | (refine a_bin ?_ ?_ <;> intro _ <;> try (exfalso; omega)) | refine a_ld hl ?_ | (refine a_st hl ?_; clear hl; intro _ hl) | refine a_ix (fun _ => ?_) | fail)
  refine o_buildSlice (LH.start w13 (fun _ => False)) [.int .i64 31, .int .i64 0] rfl rfl (by kernel_rfl) ?_
  intro bq w14 hbq hl
  have hx14 := hl.done
  have hq : Sl w14 (.slice (some ⟨bq, 0, none⟩) 2 2) 1 (intsL [31, 0]) := Sl.mk rfl (Nat.le_refl _) (hl.rowL (vs := [.int .i64 31, .int .i64 0]) 0 0 2 rfl)
  clear hl
  refine a_fn (equal_calls (a := [31, 0]) (hn1.ext hx14) hq (by decide) (by decide)) ?_
  rintro _ w15 ⟨rfl, hx15⟩
  rw [decide_eq_true rfl]
  replace hd := (hd.ext hx14).ext hx15
  replace hr := (hr.ext hx14).ext hx15
  replace hc1 := (hc1.ext hx14).ext hx15
  replace ht3 := (ht3.ext hx14).ext hx15
  replace hx1 := (hx1.trans hx14).trans hx15
  clear hx14 hx15 hq hn1
  repeat' (first | refine a_mov ?_ | refine a_asg ?_ | refine a_binN ?_ | refine a_notd ?_ | refine a_notb ?_ | refine a_nilc ?_ | refine a_fa ?_ | refine a_ext ?_ | refine a_lenv ?_ | refine a_lens ?_ | refine a_pick_t ?_ | refine a_pick_f ?_ | refine a_not ?_ | refine a_nilf ?_ | (refine a_bin ?_ ?_ <;> intro _ <;> try (exfalso; omega)) | refine a_ld hl ?_ | (refine a_st hl ?_; clear hl; intro _ hl) | refine a_ix (fun _ => ?_) | fail)
  refine a_all hr ?_
  refine a_fn (least_calls hd hF2 hn2) ?_
  rintro lv w16 ⟨hlv, hx16⟩
  rw [ex_L] at hlv
  refine o_buildSlice (LH.start w16 (fun _ => False)) [.int .i64 0, .int .i64 0] rfl rfl (by kernel_rfl) ?_
  intro bq w17 hbq hl
  have hx17 := hl.done
  have hq : Sl w17 (.slice (some ⟨bq, 0, none⟩) 2 2) 1 (intsL [0, 0]) := Sl.mk rfl (Nat.le_refl _) (hl.rowL (vs := [.int .i64 0, .int .i64 0]) 0 0 2 rfl)
  clear hl
  refine a_fn (equal_calls (a := [0, 0]) (hlv.ext hx17) hq (by decide) (by decide)) ?_
  rintro _ w18 ⟨rfl, hx18⟩
  rw [decide_eq_true rfl]
  replace hd := ((hd.ext hx16).ext hx17).ext hx18
  replace hr := ((hr.ext hx16).ext hx17).ext hx18
  replace hc1 := ((hc1.ext hx16).ext hx17).ext hx18
  replace ht3 := ((ht3.ext hx16).ext hx17).ext hx18
  replace hx1 := ((hx1.trans hx16).trans hx17).trans hx18
  clear hx16 hx17 hx18 hq hlv
  repeat' (first | refine a_mov ?_ | refine a_asg ?_ | refine a_binN ?_ | refine a_notd ?_ | refine a_notb ?_ | refine a_nilc ?_ | refine a_fa ?_ | refine a_ext ?_ | refine a_lenv ?_ | refine a_lens ?_ | refine a_pick_t ?_ | refine a_pick_f ?_ | refine a_not ?_ | refine a_nilf ?_ | (refine a_bin ?_ ?_ <;> intro _ <;> try (exfalso; omega)) | refine a_ld hl ?_ | (refine a_st hl ?_; clear hl; intro _ hl) | refine a_ix (fun _ => ?_) | fail)
  refine a_all hr ?_
  refine a_fn (factText_calls hd hF2 hn2 ht3) ?_
  rintro _ w19 ⟨rfl, hx19⟩
  rw [ex_T]
  refine o_eqs (a := exT) (b := exT) rfl rfl (by simp only [exT, str_eq]; rfl) ?_
  rw [decide_eq_true rfl]
  replace hd := hd.ext hx19
  replace hr := hr.ext hx19
  replace hc1 := hc1.ext hx19
  replace ht3 := ht3.ext hx19
  replace hx1 := hx1.trans hx19
  clear hx19
  repeat' (first | refine a_mov ?_ | refine a_asg ?_ | refine a_binN ?_ | refine a_notd ?_ | refine a_notb ?_ | refine a_nilc ?_ | refine a_fa ?_ | refine a_ext ?_ | refine a_lenv ?_ | refine a_lens ?_ | refine a_pick_t ?_ | refine a_pick_f ?_ | refine a_not ?_ | refine a_nilf ?_ | (refine a_bin ?_ ?_ <;> intro _ <;> try (exfalso; omega)) | refine a_ld hl ?_ | (refine a_st hl ?_; clear hl; intro _ hl) | refine a_ix (fun _ => ?_) | fail)
  refine a_all hr ?_
  refine a_mov ?_
  refine a_fn (caseText_calls (c := [30, 1]) hd hc1 hF2 (by decide) hn2 ht3) ?_
  rintro _ w20 ⟨rfl, hx20⟩
  rw [ex_U]
  refine o_eqs (a := exU) (b := exU) rfl rfl (by simp only [exU, str_eq]; rfl) ?_
  rw [decide_eq_true rfl]
  repeat' (first | refine a_mov ?_ | refine a_asg ?_ | refine a_binN ?_ | refine a_notd ?_ | refine a_notb ?_ | refine a_nilc ?_ | refine a_fa ?_ | refine a_ext ?_ | refine a_lenv ?_ | refine a_lens ?_ | refine a_pick_t ?_ | refine a_pick_f ?_ | refine a_not ?_ | refine a_nilf ?_ | (refine a_bin ?_ ?_ <;> intro _ <;> try (exfalso; omega)) | refine a_ld hl ?_ | (refine a_st hl ?_; clear hl; intro _ hl) | refine a_ix (fun _ => ?_) | fail)
  refine o_nil (hK _ _ ?_)
  refine wk_ret (retQ_tmp1 Tryd.results9 (by decide) rfl (by conv => lhs; whnf) ?_)
  exact ⟨rfl, hx1.trans hx20⟩
end Go.Proofs
