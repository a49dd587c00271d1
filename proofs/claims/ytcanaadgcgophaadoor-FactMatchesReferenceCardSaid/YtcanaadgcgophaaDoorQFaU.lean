/-
  Facts: the next case.
-/
import Derived.Test.YtcanaadgcgophaaDoorQFC
import Derived.Test.YtcanaadgcgophaaDoorQFB
import Derived.Test.YtcanaadgcgophaaDoorQFaMem
import Derived.Test.YtcanaadgcgophaaDoorQFaQ
set_option linter.unusedVariables false
set_option linter.unusedSimpArgs false
set_option linter.unnecessarySimpa false
set_option maxRecDepth 10000
namespace Go.Fac
open Go.Fo
def onWay (F : List Fact) (c : List Int) (n : Nat) : List Int := c.take n ++ (F.drop n).map (·.lo)
theorem onWay_len {F : List Fact} {c : List Int} (h : c.length = F.length) {n : Nat} (hn : n ≤ F.length) : (onWay F c n).length = F.length := by
  simp [onWay]
  omega
theorem onWay_all {F : List Fact} {c : List Int} (h : c.length = F.length) : onWay F c F.length = c := by
  unfold onWay
  rw [List.take_of_length_le (by omega), List.drop_length]
  simp
theorem onWay_at {F : List Fact} {c : List Int} (h : c.length = F.length) {k : Nat} (hk : k < F.length) : (onWay F c (k + 1))[k]? = some (c[k]'(by omega)) := by
  unfold onWay
  rw [List.getElem?_append_left (by simp; omega), List.getElem?_take, if_pos (by omega), List.getElem?_eq_getElem (by omega)]
theorem onWay_set {F : List Fact} {c : List Int} (h : c.length = F.length) {k : Nat} (hk : k < F.length) (z : Int) : (onWay F c (k + 1)).set k z = c.take k ++ z :: (F.drop (k + 1)).map (·.lo) := by
  unfold onWay
  rw [List.take_succ_eq_append_getElem (by omega), List.append_assoc, List.set_append_right _ _ (by simp; omega)]
  have : k - (c.take k).length = 0 := by simp; omega
  rw [this]
  rfl
theorem onWay_lo {F : List Fact} {c : List Int} (h : c.length = F.length) {k : Nat} (hk : k < F.length) : (onWay F c (k + 1)).set k F[k].lo = onWay F c k := by
  rw [onWay_set h hk]
  unfold onWay
  rw [List.drop_eq_getElem_cons hk, List.map_cons]
end Go.Fac
namespace Go.Proofs
open Go Go.Pd Go.Fac Go.Fo
attribute [local irreducible] OpsL W RetQ OpsQ OpsC
theorem intsL_one (c : List Int) : (intsL c).all Value.oneCell' = true := by
  rw [intsL_map]
  simp [Value.oneCell']
theorem ints_put (c : List Int) (junk : List Value) (k : Nat) (z : Int) (h : k < c.length) : (intsL c ++ junk).set (0 + k * 1) (.int .i64 z) = intsL (c.set k z) ++ junk := by
  rw [List.set_append_left _ _ (by rw [intsL_len]; omega), intsL_set c k z _ rfl]
def NextOut (w' : World) (q : Option (List Int)) (v : Value) : Prop := match q with
  | some d => ∃ nv, v = .tuple #[nv, .bool true] ∧ Sl w' nv 1 (intsL d)
  | none => v = .tuple #[.slice none 0 0, .bool false]
theorem acc_cells {v : Value} {E : TypeId} {c : List Int} {acc : List (Nat × Obj)} (h : Acc v 1 E c.length (intsL c) acc) : (v = .slice none 0 0 ∧ c = [] ∧ acc = []) ∨ ∃ b cap junk, v = .slice (some ⟨b, 0, none⟩) c.length cap ∧ c.length ≤ cap ∧ acc = [(b, .cells (intsL c ++ junk).toArray E (0, 0))] := by
  rcases h.2 with ⟨rfl, h1, rfl⟩ | ⟨b, cap, cur, rfl, rfl, h1, h2, h3, h4⟩
  · exact .inl ⟨rfl, List.eq_nil_of_length_eq_zero h1, rfl⟩
  · refine .inr ⟨b, cap, cur.toList.drop (c.length * 1), rfl, h1, ?_⟩
    rw [← h4, List.take_append_drop]
theorem clone_calls {c : List Int} {cv : Value} {w : World} (hv : Sl w cv 1 (intsL c)) (hC : c.length ≤ 1000000) :
    Calls Tryd.prog 48 #[cv] w (fun e w' => ∃ v, e = .returned v ∧ ∃ acc, LH w (fun _ => False) w' acc ∧ Acc v 1 3 c.length (intsL c) acc) := by
  obtain ⟨pc, cc, rfl, -⟩ := hv.shape (intsL_len c) (by omega)
  refine calls_of Tryd.func48 rfl Tryd.ntmps48 rfl ?_
  refine wk_seq fun K hK => ?_
  refine wk_reg ?_
  refine a_asg ?_
  refine o_nil (hK _ _ ?_)
  clear hK K
  refine wk_seq fun K hK => ?_
  refine wk_seq fun K2 hK2 => ?_
  refine wk_reg ?_
  refine a_mov ?_
  refine o_seq rfl rfl rfl rfl ?_
  refine o_nil (hK2 _ _ ?_)
  clear hK2 K2
  cases pc with
  | none =>
    have hc0 : c = [] := by
      rcases hv with ⟨-, h⟩ | ⟨a, m, cc2, h1, -⟩
      · cases c with
        | nil => rfl
        | cons z c => cases h
      · cases h1
    subst hc0
    refine wk_cond_t rfl ?_
    refine wk_seq fun K2 hK2 => ?_
    refine wk_reg ?_
    refine a_asg ?_
    refine o_nil (hK2 _ _ ?_)
    refine wk_ret (retQ_tmp1 Tryd.results48 (by decide) rfl (by conv => lhs; whnf) ?_)
    exact ⟨[], LH.start w _, Acc.nil _ _⟩
  | some a =>
    refine wk_cond_f rfl ?_
    refine wk_skip (hK _ _ ?_)
    clear hK K
    refine wk_seq fun K hK => ?_
    refine wk_reg ?_
    refine o_buildSlice0 (LH.start w (fun _ => False)) rfl rfl rfl ?_
    intro b0 w1 hb0 hl
    have hl : LH w (fun _ => False) w1 ([] ++ [(b0, .cells #[] 3 (0, 0))]) := hl
    refine a_mov ?_
    refine o_appendS (bl' := []) (k := 1) (bytes := 8) (q := c.length) (us := intsL c) hl (Acc.empty 1 3 b0) (hv.ext hl.done) (intsL_len c) (by decide) (intsL_one _) (by omega) (by omega) rfl rfl rfl rfl rfl rfl ?_
    clear hl
    intro v1 w2 acc1 hl hacc
    refine a_asg ?_
    refine o_nil (hK _ _ ?_)
    refine wk_ret (retQ_tmp1 Tryd.results48 (by decide) rfl (by conv => lhs; whnf) ?_)
    refine ⟨acc1, hl, ?_⟩
    rw [List.nil_append, Nat.zero_add] at hacc
    exact hacc
set_option maxHeartbeats 4000000 in
theorem factNext_calls {F : List Fact} {c : List Int} {dv cv : Value} {w : World} (hd : Sl w dv 4 (factsL F)) (hv : Sl w cv 1 (intsL c)) (hF : F.length ≤ 9223372036854775806) (hC : c.length ≤ 9223372036854775806) (hn : ∀ f ∈ F, f.name.length ≤ 9223372036854775806) :
    Calls Tryd.prog 15 #[.agg #[dv], cv] w (fun e w' => ∃ v, e = .returned v ∧ NextOut w' (nextC F c) v ∧ Ext w w') := by
  obtain ⟨pa, ca, rfl, -⟩ := hd.shape (factsL_len F) (by omega)
  obtain ⟨pc, cc, rfl, -⟩ := hv.shape (intsL_len c) (by omega)
  refine calls_of Tryd.func15 rfl Tryd.ntmps15 rfl ?_
  refine wk_seq fun K hK => ?_
  refine wk_reg ?_
  refine o_box (LH.start w (fun _ => False)) [.slice pa F.length ca] rfl rfl rfl ?_
  intro bx w0 hbx hlx
  have hx0 : Ext w w0 := hlx.done
  have hrx : Row w0 bx 0 [.slice pa F.length ca] := hlx.rowL (vs := [.slice pa F.length ca]) 0 0 1 rfl
  have hd0 := hd.ext hx0
  have hv0 := hv.ext hx0
  clear hlx
  refine a_asg ?_
  refine a_asg ?_
  refine o_nil (hK _ _ ?_)
  clear hK K
  refine wk_seq fun K hK => ?_
  refine wk_seq fun K2 hK2 => ?_
  refine wk_reg ?_
  refine a_all hrx ?_
  refine a_mov ?_
  refine a_fn (fits_calls hd0 hv0 hF hC hn) ?_
  rintro _ w1 ⟨rfl, hx1⟩
  refine a_notb ?_
  refine o_nil (hK2 _ _ ?_)
  clear hK2 K2
  cases hfb : fitsB F c with
  | false =>
    refine wk_cond_t rfl ?_
    refine wk_seq fun K2 hK2 => ?_
    refine wk_reg ?_
    refine a_asg ?_
    refine a_asg ?_
    refine o_nil (hK2 _ _ ?_)
    refine wk_ret (retQ_tmp2 Tryd.results15 (by decide) (by decide) rfl (by conv => lhs; whnf) (by conv => lhs; whnf) ?_)
    refine ⟨?_, hx0.trans hx1⟩
    unfold nextC
    rw [hfb, if_neg (by decide)]
    rfl
  | true =>
    have hfb2 := hfb
    unfold fitsB at hfb2
    rw [Bool.and_eq_true] at hfb2
    obtain ⟨hvd, hfc⟩ := hfb2
    have hg := (valid_iff F).1 hvd
    have h60 := hg.2.2
    obtain ⟨hcl, hrng⟩ := (Fo.fitsC_iff F c).1 hfc
    have hnc : nextC F c = nextL F c := by unfold nextC; rw [if_pos hfb]
    clear hfb hfc
    have hlh : ∀ f ∈ F, 0 ≤ f.lo ∧ f.hi ≤ 1000000 := fun f hf => by
      obtain ⟨-, h1⟩ := factOk_parts (hg.1 f hf)
      omega
    refine wk_cond_f rfl ?_
    refine wk_skip (hK _ _ ?_)
    clear hK K
    refine wk_seq fun K hK => ?_
    refine wk_reg ?_
    refine a_mov ?_
    refine a_fn (clone_calls (hv0.ext hx1) (by omega)) ?_
    rintro v6 w2 ⟨acc, hl, ha⟩
    refine a_asg ?_
    refine o_nil (hK _ _ ?_)
    clear hK K
    refine wk_seq fun K hK => ?_
    have hacc := acc_cells ha
    obtain ⟨oa, oc, rfl⟩ := ha.shape
    clear ha
    refine wk_seq fun K2 hK2 => ?_
    refine wk_reg ?_
    refine a_mov ?_
    refine a_lenv ?_
    refine a_binN ?_
    refine a_asg ?_
    refine o_nil (hK2 _ _ ?_)
    clear hK2 K2
    refine wk_block ?_
    rcases hacc with ⟨h1, rfl, rfl⟩ | ⟨b, cap, junk, h1, hcap, rfl⟩
    · have hF0 : F = [] := List.eq_nil_of_length_eq_zero hcl.symm
      subst hF0
      refine wk_loopH [] rfl (fun _ : Unit => [(7, .int .i64 (-1))]) (fun _ w' => w' = w2) (fun _ => 0) () ⟨rfl, trivial⟩ rfl ?_
      rintro _ t w3 rfl
      refine wk_seq fun K1 hK1 => ?_
      refine wk_seq fun K2 hK2 => ?_
      refine wk_reg ?_
      repeat' (first | refine a_mov ?_ | refine a_asg ?_ | refine a_binN ?_ | refine a_notd ?_ | refine a_notb ?_ | refine a_nilc ?_ | refine a_fa ?_ | refine a_ext ?_ | refine a_lenv ?_ | refine a_lens ?_ | refine a_pick_t ?_ | refine a_pick_f ?_ | refine a_not ?_ | refine a_nilf ?_ | (refine a_bin ?_ ?_ <;> intro _ <;> try (exfalso; omega)) | refine a_ld hl ?_ | (refine a_st hl ?_; clear hl; intro _ hl) | refine a_ix (fun _ => ?_) | fail)
      refine o_nil (hK2 _ _ ?_)
      clear hK2 K2
      refine wk_cond_f rfl ?_
      refine wk_exit ?_
      refine blockK_same ?_
      refine hK _ _ ?_
      clear hK1 K1
      clear hK K
      refine wk_seq fun K hK => ?_
      refine wk_reg ?_
      refine a_asg ?_
      refine a_asg ?_
      refine o_nil (hK _ _ ?_)
      refine wk_ret (retQ_tmp2 Tryd.results15 (by decide) (by decide) rfl (by conv => lhs; whnf) (by conv => lhs; whnf) ?_)
      exact ⟨by rw [hnc]; rfl, (hx0.trans hx1).trans hl.done⟩
    · cases h1
      refine wk_loopH [] rfl (fun n : Nat => [(2, .pointer (some ⟨bx, 0, none⟩)), (6, .slice (some ⟨b, 0, none⟩) c.length oc), (7, .int .i64 ((n : Int) - 1))])
        (fun n w' => n ≤ F.length ∧ nextL (F.drop n) (c.drop n) = none ∧ LH w1 (fun _ => False) w' [(b, .cells (intsL (onWay F c n) ++ junk).toArray 3 (0, 0))]) (fun n => n) F.length ⟨rfl, rfl, by rw [hcl]; rfl, trivial⟩ ⟨Nat.le_refl _, by rw [List.drop_length, ← hcl, List.drop_length]; rfl, by rw [onWay_all hcl]; exact hl⟩ ?_
      clear hl
      rintro n t w3 ⟨hn1, hno, hl⟩
      refine wk_seq fun K1 hK1 => ?_
      refine wk_seq fun K2 hK2 => ?_
      refine wk_reg ?_
      cases n with
      | zero =>
        repeat' (first | refine a_mov ?_ | refine a_asg ?_ | refine a_binN ?_ | refine a_notd ?_ | refine a_notb ?_ | refine a_nilc ?_ | refine a_fa ?_ | refine a_ext ?_ | refine a_lenv ?_ | refine a_lens ?_ | refine a_pick_t ?_ | refine a_pick_f ?_ | refine a_not ?_ | refine a_nilf ?_ | (refine a_bin ?_ ?_ <;> intro _ <;> try (exfalso; omega)) | refine a_ld hl ?_ | (refine a_st hl ?_; clear hl; intro _ hl) | refine a_ix (fun _ => ?_) | fail)
        refine o_nil (hK2 _ _ ?_)
        clear hK2 K2
        refine wk_cond_f rfl ?_
        refine wk_exit ?_
        refine blockK_same ?_
        refine hK _ _ ?_
        clear hK1 K1
        clear hK K
        refine wk_seq fun K hK => ?_
        refine wk_reg ?_
        refine a_asg ?_
        refine a_asg ?_
        refine o_nil (hK _ _ ?_)
        refine wk_ret (retQ_tmp2 Tryd.results15 (by decide) (by decide) rfl (by conv => lhs; whnf) (by conv => lhs; whnf) ?_)
        refine ⟨?_, (hx0.trans hx1).trans hl.done⟩
        rw [List.drop_zero, List.drop_zero] at hno
        rw [hnc, hno]
        rfl
      | succ k =>
        have hk1 : k < F.length := hn1
        have hkc : k < c.length := by omega
        have hlen := onWay_len hcl hn1
        have hat := onWay_at hcl hk1
        have hna := next_at hk1 hkc hno
        have hrk := hrng k hk1 hkc
        have hfk := hlh F[k] (List.getElem_mem hk1)
        have hset := ints_put (onWay F c (k + 1)) junk k
        rw [hlen] at hset
        obtain ⟨bf, of, hpf, hrf⟩ := Sl.fact ((hd0.ext hx1).ext hl.done) rfl hk1
        have hrx3 := (hrx.ext hx1).ext hl.done
        have hrow : Row w3 b 0 (intsL (onWay F c (k + 1))) := fun i v h => (hl.rowL (vs := intsL (onWay F c (k + 1)) ++ junk) 0 0 (intsL (onWay F c (k + 1))).length rfl) i v (by simpa using h)
        have hro := hrow.elem intL_len hat
        clear hrow
        repeat' (first | refine a_mov ?_ | refine a_asg ?_ | refine a_binN ?_ | refine a_notd ?_ | refine a_notb ?_ | refine a_nilc ?_ | refine a_fa ?_ | refine a_ext ?_ | refine a_lenv ?_ | refine a_lens ?_ | refine a_pick_t ?_ | refine a_pick_f ?_ | refine a_not ?_ | refine a_nilf ?_ | (refine a_bin ?_ ?_ <;> intro _ <;> try (exfalso; omega)) | refine a_ld hl ?_ | (refine a_st hl ?_; clear hl; intro _ hl) | refine a_ix (fun _ => ?_) | fail)
        refine o_nil (hK2 _ _ ?_)
        clear hK2 K2
        refine wk_cond_t rfl ?_
        refine wk_skip (hK1 _ _ ?_)
        clear hK1 K1
        clear hK
        refine wk_seq fun K hK => ?_
        refine wk_block ?_
        refine wk_seq fun K1 hK1 => ?_
        refine wk_seq fun K2 hK2 => ?_
        by_cases hlt : c[k] < F[k].hi
        · refine wk_quiet (List.range 11) ?_
          repeat' (first | refine q_mov ?_ | refine q_asg ?_ | refine q_fa ?_ | refine q_ext ?_ | refine q_binN ?_ | refine q_notd ?_ | refine q_notb ?_ | refine q_pick_t ?_ | refine q_pick_f ?_ | refine q_nilc ?_ | refine q_skip ?_ | refine q_lens ?_ | refine q_lenv ?_ | refine q_nil ?_ | refine q_ix (fun _ => ?_) | (refine q_bin ?_ ?_ <;> intro _ <;> try (exfalso; omega)) | refine q_row (fun w_ hw_ => hrx3.ext hw_) ?_ | refine q_idx (c := 1) k rfl ?_ | refine q_idx (c := 4) k hpf ?_ | refine q_row (vs := intL c[k]) (fun w_ hw_ => hro.ext hw_) ?_ | refine q_row (fun w_ hw_ => hrf.ext hw_) ?_ | fail)
          intro w4 hx4
          refine hK2 _ _ ?_
          clear hK2 K2
          replace hl := hl.ext hx4
          replace hro := hro.ext hx4
          refine wk_cond_t rfl ?_
          refine wk_seq fun K2 hK2 => ?_
          refine wk_reg ?_
          refine a_mov ?_
          refine a_mov ?_
          refine a_idx (c := 1) k rfl ?_
          refine a_row (vs := intL c[k]) hro ?_
          refine a_binN ?_
          refine a_idx (c := 1) k rfl ?_
          refine o_put1 (b := b) (o := 0 + k * 1) (v := .int .i64 (c[k] + 1)) hl rfl rfl rfl ⟨rfl, rfl⟩ rfl (.here (Nat.ble_eq_true_of_le (by rw [List.length_append, intsL_len, hlen]; omega)) (hset _ hk1)) ?_
          clear hl
          intro w5 hl
          refine o_nil (hK2 _ _ ?_)
          clear hK2 K2
          refine wk_seq fun K2 hK2 => ?_
          refine wk_reg ?_
          repeat' (first | refine a_mov ?_ | refine a_asg ?_ | refine a_binN ?_ | refine a_notd ?_ | refine a_notb ?_ | refine a_nilc ?_ | refine a_fa ?_ | refine a_ext ?_ | refine a_lenv ?_ | refine a_lens ?_ | refine a_pick_t ?_ | refine a_pick_f ?_ | refine a_not ?_ | refine a_nilf ?_ | (refine a_bin ?_ ?_ <;> intro _ <;> try (exfalso; omega)) | refine a_ld hl ?_ | (refine a_st hl ?_; clear hl; intro _ hl) | refine a_ix (fun _ => ?_) | fail)
          refine o_nil (hK2 _ _ ?_)
          refine wk_ret (retQ_tmp2 Tryd.results15 (by decide) (by decide) rfl (by conv => lhs; whnf) (by conv => lhs; whnf) ?_)
          refine ⟨?_, (hx0.trans hx1).trans hl.done⟩
          rw [if_pos hlt] at hna
          rw [hnc, next_take F c k _ hcl (by omega) hna]
          refine ⟨_, rfl, ?_⟩
          rw [onWay_set hcl hk1] at hl
          refine Sl.mk ?_ hcap (Row.of_block (hl.get 0 rfl) fun i v h => ?_)
          · rw [intsL_len]
            simp
            omega
          · rw [Nat.zero_add]
            simp only [List.getElem?_toArray]
            rw [List.getElem?_append_left (List.getElem?_eq_some_iff.1 h).1]
            exact h
        · refine wk_quiet (List.range 11) ?_
          repeat' (first | refine q_mov ?_ | refine q_asg ?_ | refine q_fa ?_ | refine q_ext ?_ | refine q_binN ?_ | refine q_notd ?_ | refine q_notb ?_ | refine q_pick_t ?_ | refine q_pick_f ?_ | refine q_nilc ?_ | refine q_skip ?_ | refine q_lens ?_ | refine q_lenv ?_ | refine q_nil ?_ | refine q_ix (fun _ => ?_) | (refine q_bin ?_ ?_ <;> intro _ <;> try (exfalso; omega)) | refine q_row (fun w_ hw_ => hrx3.ext hw_) ?_ | refine q_idx (c := 1) k rfl ?_ | refine q_idx (c := 4) k hpf ?_ | refine q_row (vs := intL c[k]) (fun w_ hw_ => hro.ext hw_) ?_ | refine q_row (fun w_ hw_ => hrf.ext hw_) ?_ | fail)
          intro w4 hx4
          refine hK2 _ _ ?_
          clear hK2 K2
          replace hl := hl.ext hx4
          replace hrx3 := hrx3.ext hx4
          replace hrf := hrf.ext hx4
          refine wk_cond_f rfl ?_
          refine wk_skip (hK1 _ _ ?_)
          clear hK1 K1
          refine wk_reg ?_
          refine a_mov ?_
          refine a_mov ?_
          refine a_fa ?_
          refine a_row hrx3 ?_
          refine a_mov ?_
          refine a_idx (c := 4) k hpf ?_
          refine a_fa ?_
          refine a_row hrf ?_
          refine a_idx (c := 1) k rfl ?_
          refine o_put1 (b := b) (o := 0 + k * 1) (v := .int .i64 F[k].lo) hl rfl rfl rfl ⟨rfl, rfl⟩ rfl (.here (Nat.ble_eq_true_of_le (by rw [List.length_append, intsL_len, hlen]; omega)) (hset _ hk1)) ?_
          clear hl
          intro w5 hl
          rw [onWay_lo hcl hk1] at hl
          refine o_nil (hK _ _ ?_)
          clear hK K
          refine wk_reg ?_
          repeat' (first | refine a_mov ?_ | refine a_asg ?_ | refine a_binN ?_ | refine a_notd ?_ | refine a_notb ?_ | refine a_nilc ?_ | refine a_fa ?_ | refine a_ext ?_ | refine a_lenv ?_ | refine a_lens ?_ | refine a_pick_t ?_ | refine a_pick_f ?_ | refine a_not ?_ | refine a_nilf ?_ | (refine a_bin ?_ ?_ <;> intro _ <;> try (exfalso; omega)) | refine a_ld hl ?_ | (refine a_st hl ?_; clear hl; intro _ hl) | refine a_ix (fun _ => ?_) | fail)
          rw [if_neg hlt] at hna
          exact o_nil ⟨k, ⟨rfl, rfl, by rw [Int.natCast_add, Int.natCast_one, Int.add_sub_cancel]; rfl, trivial⟩, rfl, ⟨by omega, hna, hl⟩, by omega⟩
end Go.Proofs
