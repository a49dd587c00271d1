/-
  The reference: ParseCase.
-/
import Derived.Test.YtcanaadgcgophaaDoorQFE
import Derived.Test.YtcanaadgcgophaaDoorQFaRt
import Derived.Test.YtcanaadgcgophaaDoorQFaRw
import Derived.Test.YtcanaadgcgophaaDoorQJr
import Derived.Test.YtcanaadgcgophaaDoorQL2
set_option linter.unusedVariables false
set_option linter.unusedSimpArgs false
set_option linter.unnecessarySimpa false
set_option maxRecDepth 10000
namespace Go.Proofs
open Go Go.Pd Go.Fac Go.Fo
open Go.Lexs (Tok lex)
attribute [local irreducible] OpsL W RetQ OpsQ OpsC
def boolsL (l : List Bool) : List Value := l.map Value.bool
theorem boolsL_set (l : List Bool) (k : Nat) (vs : List Value) (h : vs = boolsL l) : vs.set (0 + k * 1) (.bool true) = boolsL (l.set k true) := by
  subst h
  unfold boolsL
  rw [List.map_set, Nat.zero_add, Nat.mul_one]
set_option maxHeartbeats 16000000 in
theorem parseC6_calls {F : List Fact} {dv : Value} {w : World} (hd : Sl w dv 4 (factsL F)) (hF : F.length ≤ 9223372036854775806) (hn : ∀ f ∈ F, f.name.length ≤ 9223372036854775806) {text : Tx} (hlong : text.length ≤ 3000) :
    Calls Tryd.prog 14 #[.agg #[dv], str text] w (fun e w' => ∃ v, e = .returned v ∧ (∃ cv, v = .tuple #[cv, .int .i64 (erO (parseC F text)), .int .i64 (atO (parseC F text))] ∧ Sl w' cv 1 (intsL (caO (parseC F text)))) ∧ Ext w w') := by
  obtain ⟨pa, ca, rfl, -⟩ := hd.shape (factsL_len F) (by omega)
  refine calls_of Tryd.func14 rfl Tryd.ntmps14 rfl ?_
  refine wk_seq fun K hK => ?_
  refine wk_reg ?_
  refine o_box (LH.start w (fun _ => False)) [.slice pa F.length ca] rfl rfl rfl ?_
  intro bx w0 hbx hlx
  have hx0 : Ext w w0 := hlx.done
  have hrx0 : Row w0 bx 0 [.slice pa F.length ca] := hlx.rowL (vs := [.slice pa F.length ca]) 0 0 1 rfl
  have hd0 := hd.ext hx0
  clear hlx
  refine a_asg ?_
  refine a_asg ?_
  refine a_asg ?_
  refine o_nil (hK _ _ ?_)
  clear hK K
  refine wk_seq fun K hK => ?_
  refine wk_seq fun K2 hK2 => ?_
  refine wk_reg ?_
  refine a_all hrx0 ?_
  refine a_fn (valid6_calls hd0 hF hn) ?_
  rintro _ w1 ⟨rfl, hx1⟩
  cases hvd : validD F with
  | false =>
    have hp : parseC F text = .inr (1, 0) := by unfold parseC; rw [hvd]; rfl
    repeat' (first | refine a_mov ?_ | refine a_asg ?_ | refine a_binN ?_ | refine a_notd ?_ | refine a_notb ?_ | refine a_nilc ?_ | refine a_fa ?_ | refine a_ext ?_ | refine a_lenv ?_ | refine a_lens ?_ | refine a_pick_t ?_ | refine a_pick_f ?_ | refine a_not ?_ | refine a_nilf ?_ | (refine a_bin ?_ ?_ <;> intro _ <;> try (exfalso; omega)) | refine a_ld hl ?_ | (refine a_st hl ?_; clear hl; intro _ hl) | refine a_ix (fun _ => ?_) | fail)
    refine o_nil (hK2 _ _ ?_)
    clear hK2 K2
    refine wk_cond_t rfl ?_
    refine wk_seq fun K2 hK2 => ?_
    refine wk_reg ?_
    repeat' (first | refine a_mov ?_ | refine a_asg ?_ | refine a_binN ?_ | refine a_notd ?_ | refine a_notb ?_ | refine a_nilc ?_ | refine a_fa ?_ | refine a_ext ?_ | refine a_lenv ?_ | refine a_lens ?_ | refine a_pick_t ?_ | refine a_pick_f ?_ | refine a_not ?_ | refine a_nilf ?_ | (refine a_bin ?_ ?_ <;> intro _ <;> try (exfalso; omega)) | refine a_ld hl ?_ | (refine a_st hl ?_; clear hl; intro _ hl) | refine a_ix (fun _ => ?_) | fail)
    refine o_nil (hK2 _ _ ?_)
    refine wk_ret (retQ_res [.slice none 0 0, .int .i64 1, .int .i64 0] rfl rfl ⟨by decide, rfl, by decide, rfl, by decide, rfl, trivial⟩ ?_)
    rw [hp]
    exact ⟨⟨_, rfl, Sl.nil _ _⟩, hx0.trans hx1⟩
  | true =>
  have hg := (valid_iff F).1 hvd
  have h60 := hg.2.2
  repeat' (first | refine a_mov ?_ | refine a_asg ?_ | refine a_binN ?_ | refine a_notd ?_ | refine a_notb ?_ | refine a_nilc ?_ | refine a_fa ?_ | refine a_ext ?_ | refine a_lenv ?_ | refine a_lens ?_ | refine a_pick_t ?_ | refine a_pick_f ?_ | refine a_not ?_ | refine a_nilf ?_ | (refine a_bin ?_ ?_ <;> intro _ <;> try (exfalso; omega)) | refine a_ld hl ?_ | (refine a_st hl ?_; clear hl; intro _ hl) | refine a_ix (fun _ => ?_) | fail)
  refine o_nil (hK2 _ _ ?_)
  clear hK2 K2
  refine wk_cond_f rfl ?_
  refine wk_skip (hK _ _ ?_)
  clear hK K
  refine wk_seq fun K hK => ?_
  refine wk_reg ?_
  refine a_mov ?_
  refine a_fn (refLex_calls text (by omega) w1) ?_
  rintro v w2 ⟨hx2, hout⟩
  have hx02 := (hx0.trans hx1).trans hx2
  have hrx := (hrx0.ext hx1).ext hx2
  have hd2 := hd.ext hx02
  clear hd hd0 hrx0 hx0 hx1 hx2
  cases hlex : lex text with
  | bad e off =>
    rw [hlex] at hout
    obtain rfl := hout
    have hp : parseC F text = .inr ((e : Int), off) := by unfold parseC; rw [hvd, hlex]; rfl
    have hne := lex_ne hlex
    rw [hp]
    repeat' (first | refine a_mov ?_ | refine a_asg ?_ | refine a_binN ?_ | refine a_notd ?_ | refine a_notb ?_ | refine a_nilc ?_ | refine a_fa ?_ | refine a_ext ?_ | refine a_lenv ?_ | refine a_lens ?_ | refine a_pick_t ?_ | refine a_pick_f ?_ | refine a_not ?_ | refine a_nilf ?_ | (refine a_bin ?_ ?_ <;> intro _ <;> try (exfalso; omega)) | refine a_ld hl ?_ | (refine a_st hl ?_; clear hl; intro _ hl) | refine a_ix (fun _ => ?_) | fail)
    refine o_nil (hK _ _ ?_)
    clear hK K
    refine wk_seq fun K hK => ?_
    refine wk_seq fun K2 hK2 => ?_
    refine wk_reg ?_
    repeat' (first | refine a_mov ?_ | refine a_asg ?_ | refine a_binN ?_ | refine a_notd ?_ | refine a_notb ?_ | refine a_nilc ?_ | refine a_fa ?_ | refine a_ext ?_ | refine a_lenv ?_ | refine a_lens ?_ | refine a_pick_t ?_ | refine a_pick_f ?_ | refine a_not ?_ | refine a_nilf ?_ | (refine a_bin ?_ ?_ <;> intro _ <;> try (exfalso; omega)) | refine a_ld hl ?_ | (refine a_st hl ?_; clear hl; intro _ hl) | refine a_ix (fun _ => ?_) | fail)
    refine o_nil (hK2 _ _ ?_)
    clear hK2 K2
    refine wk_cond_t rfl ?_
    refine wk_seq fun K2 hK2 => ?_
    refine wk_reg ?_
    repeat' (first | refine a_mov ?_ | refine a_asg ?_ | refine a_binN ?_ | refine a_notd ?_ | refine a_notb ?_ | refine a_nilc ?_ | refine a_fa ?_ | refine a_ext ?_ | refine a_lenv ?_ | refine a_lens ?_ | refine a_pick_t ?_ | refine a_pick_f ?_ | refine a_not ?_ | refine a_nilf ?_ | (refine a_bin ?_ ?_ <;> intro _ <;> try (exfalso; omega)) | refine a_ld hl ?_ | (refine a_st hl ?_; clear hl; intro _ hl) | refine a_ix (fun _ => ?_) | fail)
    refine o_nil (hK2 _ _ ?_)
    refine wk_ret (retQ_res [.slice none 0 0, .int .i64 e, .int .i64 off] rfl rfl ⟨by decide, rfl, by decide, rfl, by decide, rfl, trivial⟩ ?_)
    rw [hp]
    exact ⟨⟨_, rfl, Sl.nil _ _⟩, hx02⟩
  | ok ts =>
  rw [hlex] at hout
  obtain ⟨tv, rfl, hsv⟩ := hout
  have hp : itemsP text.length F ts.length (decide ((0 : Nat) = 0)) (List.replicate F.length 0) (List.replicate F.length false) (ts.drop 0) = parseC F text := by unfold parseC; rw [hvd, hlex]; rfl
  obtain ⟨htok, hlen⟩ := lex_tok hlex
  obtain ⟨ta, tc, rfl, -⟩ := hsv.shape (toksL_len ts) (by omega)
  repeat' (first | refine a_mov ?_ | refine a_asg ?_ | refine a_binN ?_ | refine a_notd ?_ | refine a_notb ?_ | refine a_nilc ?_ | refine a_fa ?_ | refine a_ext ?_ | refine a_lenv ?_ | refine a_lens ?_ | refine a_pick_t ?_ | refine a_pick_f ?_ | refine a_not ?_ | refine a_nilf ?_ | (refine a_bin ?_ ?_ <;> intro _ <;> try (exfalso; omega)) | refine a_ld hl ?_ | (refine a_st hl ?_; clear hl; intro _ hl) | refine a_ix (fun _ => ?_) | fail)
  refine o_nil (hK _ _ ?_)
  clear hK K
  refine wk_seq fun K hK => ?_
  refine wk_seq fun K2 hK2 => ?_
  refine wk_reg ?_
  repeat' (first | refine a_mov ?_ | refine a_asg ?_ | refine a_binN ?_ | refine a_notd ?_ | refine a_notb ?_ | refine a_nilc ?_ | refine a_fa ?_ | refine a_ext ?_ | refine a_lenv ?_ | refine a_lens ?_ | refine a_pick_t ?_ | refine a_pick_f ?_ | refine a_not ?_ | refine a_nilf ?_ | (refine a_bin ?_ ?_ <;> intro _ <;> try (exfalso; omega)) | refine a_ld hl ?_ | (refine a_st hl ?_; clear hl; intro _ hl) | refine a_ix (fun _ => ?_) | fail)
  refine o_nil (hK2 _ _ ?_)
  clear hK2 K2
  refine wk_cond_f rfl ?_
  refine wk_skip (hK _ _ ?_)
  clear hK K
  refine wk_seq fun K hK => ?_
  refine wk_reg ?_
  refine a_mov ?_
  refine a_mov ?_
  refine a_lens ?_
  refine o_build (rsL (.slice ta ts.length tc) text.length ⟨0, 0, 0⟩) rfl rfl ?_
  refine o_box (LH.start w2 (fun _ => False)) (rsL (.slice ta ts.length tc) text.length ⟨0, 0, 0⟩) rfl rfl rfl ?_
  intro rb w3 hrb hl
  have hoff : toksL ts ≠ [] → Off (OneB rb) (.slice ta ts.length tc) := fun hne => off_new hsv (by decide) hne hrb
  have hTK : ∀ (w' : World) (l : List (Nat × Obj)), LH w2 (fun _ => False) w' l → TK w' rb (.slice ta ts.length tc) ts := fun w' l h => ⟨hsv.ext h.done, hoff, hlen⟩
  refine a_asg ?_
  refine o_nil (hK _ _ ?_)
  clear hK K
  refine wk_seq fun K hK => ?_
  refine wk_reg ?_
  repeat' (first | refine a_mov ?_ | refine a_asg ?_ | refine a_binN ?_ | refine a_notd ?_ | refine a_notb ?_ | refine a_nilc ?_ | refine a_fa ?_ | refine a_ext ?_ | refine a_lenv ?_ | refine a_lens ?_ | refine a_pick_t ?_ | refine a_pick_f ?_ | refine a_not ?_ | refine a_nilf ?_ | (refine a_bin ?_ ?_ <;> intro _ <;> try (exfalso; omega)) | refine a_ld hl ?_ | (refine a_st hl ?_; clear hl; intro _ hl) | refine a_ix (fun _ => ?_) | refine a_row (hrx.ext hl.done) ?_ | fail)
  refine o_makeSlice (m := F.length) (bytes := 8) (z := .int .i64 0) hl rfl rfl rfl rfl rfl rfl rfl (by omega) (by omega) ?_
  clear hl
  intro bc w4 hbc hl
  refine a_asg ?_
  refine o_nil (hK _ _ ?_)
  clear hK K
  refine wk_seq fun K hK => ?_
  refine wk_reg ?_
  repeat' (first | refine a_mov ?_ | refine a_asg ?_ | refine a_binN ?_ | refine a_notd ?_ | refine a_notb ?_ | refine a_nilc ?_ | refine a_fa ?_ | refine a_ext ?_ | refine a_lenv ?_ | refine a_lens ?_ | refine a_pick_t ?_ | refine a_pick_f ?_ | refine a_not ?_ | refine a_nilf ?_ | (refine a_bin ?_ ?_ <;> intro _ <;> try (exfalso; omega)) | refine a_ld hl ?_ | (refine a_st hl ?_; clear hl; intro _ hl) | refine a_ix (fun _ => ?_) | refine a_row (hrx.ext hl.done) ?_ | fail)
  refine o_makeSlice (m := F.length) (bytes := 1) (z := .bool false) hl rfl rfl rfl rfl rfl rfl rfl (by omega) (by omega) ?_
  clear hl
  intro bs w5 hbs hl
  refine a_asg ?_
  refine o_nil (hK _ _ ?_)
  clear hK K
  have hl : LH w2 (fun _ => False) w5 (rsB rb (.slice ta ts.length tc) text.length ⟨0, 0, 0⟩ :: (bs, .cells (boolsL (List.replicate F.length false)).toArray 4 (0, 0)) :: [(bc, .cells (intsL (List.replicate F.length 0)).toArray 3 (0, 0))]) := by
    rw [intsL_map, List.map_replicate, boolsL, List.map_replicate]
    exact hl.perm ((List.Perm.cons _ (List.Perm.swap _ _ _)).trans (List.Perm.swap _ _ _))
  refine wk_seq fun K hK => ?_
  refine wk_block ?_
  refine wk_loopH [] rfl (fun q : List Int × List Bool × RS => [(1, str text), (2, .pointer (some ⟨bx, 0, none⟩)), (7, .slice ta ts.length tc), (10, .pointer (some ⟨rb, 0, none⟩)), (11, .slice (some ⟨bc, 0, none⟩) F.length F.length), (12, .slice (some ⟨bs, 0, none⟩) F.length F.length)])
    (fun q w' => OnC text.length ts F (parseC F text) q.1 q.2.1 q.2.2 ∧ LH w2 (fun _ => False) w' (rsB rb (.slice ta ts.length tc) text.length q.2.2 :: (bs, .cells (boolsL q.2.1).toArray 4 (0, 0)) :: [(bc, .cells (intsL q.1).toArray 3 (0, 0))]))
    (fun q => if q.2.2.er = 0 then ts.length - q.2.2.i + 1 else 0) (List.replicate F.length 0, List.replicate F.length false, ⟨0, 0, 0⟩) ⟨rfl, rfl, rfl, rfl, rfl, rfl, trivial⟩ ⟨⟨Nat.zero_le _, by simp, by simp, .inl ⟨rfl, rfl, ts.length, by simp, hp⟩⟩, hl⟩ ?_
  clear hl
  rintro ⟨c, seen, s⟩ t w6 ⟨hon, hl⟩
  simp only at hon hl
  have hrp : Row w6 rb 0 (rsL (.slice ta ts.length tc) text.length s) := hl.rowL (vs := rsL (.slice ta ts.length tc) text.length s) 0 0 5 rfl
  obtain ⟨hi, hcl, hsl, honc⟩ := id hon
  refine wk_seq fun K1 hK1 => ?_
  refine wk_seq fun K2 hK2 => ?_
  refine wk_reg ?_
  by_cases hgo : s.er = 0 ∧ s.i < ts.length
  · obtain ⟨h0, hlt⟩ := hgo
    obtain ⟨hon2, hinc⟩ := hon.step h0 hlt
    repeat' (first | refine a_mov ?_ | refine a_asg ?_ | refine a_binN ?_ | refine a_notd ?_ | refine a_notb ?_ | refine a_nilc ?_ | refine a_fa ?_ | refine a_ext ?_ | refine a_lenv ?_ | refine a_lens ?_ | refine a_pick_t ?_ | refine a_pick_f ?_ | refine a_not ?_ | refine a_nilf ?_ | (refine a_bin ?_ ?_ <;> intro _ <;> try (exfalso; omega)) | refine a_ld hl ?_ | (refine a_st hl ?_; clear hl; intro _ hl) | refine a_ix (fun _ => ?_) | refine a_row hrp ?_ | fail)
    refine o_nil (hK2 _ _ ?_)
    clear hK2 K2
    refine wk_cond_t rfl ?_
    refine wk_skip (hK1 _ _ ?_)
    clear hK1 K1
    refine wk_block ?_
    clear hK
    refine wk_seq fun K hK => ?_
    -- the comma
    obtain ⟨s1, hs1⟩ : ∃ s1, s1 = commaS text.length ts s := ⟨_, rfl⟩
    have hi1 : s1.i ≤ ts.length := by rw [hs1]; exact commaS_i hi
    have hfin : itemS' text.length ts F seen s = (((idxI F (takeS text.length ts 1 [] s1).1.text).toNat, ((takeS text.length ts 2 [] (takeS text.length ts 3 kEq (((takeS text.length ts 1 [] s1).2.cf (decide ((takeS text.length ts 1 [] s1).2.er = 0) && (idx F (takeS text.length ts 1 [] s1).1.text).isNone) 7 (takeS text.length ts 1 [] s1).1.pos).cf (decide (((takeS text.length ts 1 [] s1).2.cf (decide ((takeS text.length ts 1 [] s1).2.er = 0) && (idx F (takeS text.length ts 1 [] s1).1.text).isNone) 7 (takeS text.length ts 1 [] s1).1.pos).er = 0) && seen.getD (idxI F (takeS text.length ts 1 [] s1).1.text).toNat false) 9 (takeS text.length ts 1 [] s1).1.pos)).2).1.num : Int)), (itemS' text.length ts F seen s).2) := by
      rw [hs1]
      rfl
    clear hfin
    have hfin : itemS' text.length ts F seen s = (fun nm : Tok × RS => (fun s3 : RS => (fun n : Tok × RS => (((idxI F nm.1.text).toNat, (n.1.num : Int)), n.2.cf (decide (n.2.er = 0) && outB F (idxI F nm.1.text).toNat n.1.num) 10 n.1.pos)) (takeS text.length ts 2 [] (takeS text.length ts 3 kEq s3).2)) ((nm.2.cf (decide (nm.2.er = 0) && (idx F nm.1.text).isNone) 7 nm.1.pos).cf (decide ((nm.2.cf (decide (nm.2.er = 0) && (idx F nm.1.text).isNone) 7 nm.1.pos).er = 0) && seen.getD (idxI F nm.1.text).toNat false) 9 nm.1.pos)) (takeS text.length ts 1 [] s1) := by
      rw [hs1]
      rfl
    refine wk_cut [] (fun _ : Unit => [(1, str text), (2, .pointer (some ⟨bx, 0, none⟩)), (7, .slice ta ts.length tc), (10, .pointer (some ⟨rb, 0, none⟩)), (11, .slice (some ⟨bc, 0, none⟩) F.length F.length), (12, .slice (some ⟨bs, 0, none⟩) F.length F.length)])
      (fun _ w' => LH w2 (fun _ => False) w' (rsB rb (.slice ta ts.length tc) text.length s1 :: (bs, .cells (boolsL seen).toArray 4 (0, 0)) :: [(bc, .cells (intsL c).toArray 3 (0, 0))])) ?_ ?_
    · refine wk_seq fun K2 hK2 => ?_
      refine wk_reg ?_
      by_cases hz : s.i = 0
      · repeat' (first | refine a_mov ?_ | refine a_asg ?_ | refine a_binN ?_ | refine a_notd ?_ | refine a_notb ?_ | refine a_nilc ?_ | refine a_fa ?_ | refine a_ext ?_ | refine a_lenv ?_ | refine a_lens ?_ | refine a_pick_t ?_ | refine a_pick_f ?_ | refine a_not ?_ | refine a_nilf ?_ | (refine a_bin ?_ ?_ <;> intro _ <;> try (exfalso; omega)) | refine a_ld hl ?_ | (refine a_st hl ?_; clear hl; intro _ hl) | refine a_ix (fun _ => ?_) | refine a_row hrp ?_ | fail)
        refine o_nil (hK2 _ _ ?_)
        clear hK2 K2
        refine wk_cond_f rfl ?_
        refine wk_skip ⟨(), ⟨rfl, rfl, rfl, rfl, rfl, rfl, trivial⟩, rfl, ?_⟩
        rw [hs1]
        unfold commaS
        rw [if_pos hz]
        exact hl
      · repeat' (first | refine a_mov ?_ | refine a_asg ?_ | refine a_binN ?_ | refine a_notd ?_ | refine a_notb ?_ | refine a_nilc ?_ | refine a_fa ?_ | refine a_ext ?_ | refine a_lenv ?_ | refine a_lens ?_ | refine a_pick_t ?_ | refine a_pick_f ?_ | refine a_not ?_ | refine a_nilf ?_ | (refine a_bin ?_ ?_ <;> intro _ <;> try (exfalso; omega)) | refine a_ld hl ?_ | (refine a_st hl ?_; clear hl; intro _ hl) | refine a_ix (fun _ => ?_) | refine a_row hrp ?_ | fail)
        refine o_nil (hK2 _ _ ?_)
        clear hK2 K2
        refine wk_cond_t rfl ?_
        refine wk_reg ?_
        refine a_mov ?_
        refine a_fn (take6_calls (k := 3) (wd := kComma) (hTK _ _ hl) hl.one hi) ?_ rfl (fun _ => rfl) (by simp only [kComma, str_eq]; rfl)
        rintro _ w7 ⟨rfl, hlA⟩
        replace hl := hl.swap hlA
        refine o_nil ⟨(), ⟨rfl, rfl, rfl, rfl, rfl, rfl, trivial⟩, rfl, ?_⟩
        rw [hs1]
        unfold commaS
        rw [if_neg hz]
        exact hl
    clear hl hrp hs1
    rintro _ t1 w7 hl
    refine hK _ _ ?_
    clear hK K
    -- the name
    refine wk_seq fun K hK => ?_
    refine wk_reg ?_
    refine a_mov ?_
    refine a_fn (take6_calls (k := 1) (wd := []) (hTK _ _ hl) hl.one hi1) ?_ rfl (fun _ => rfl) (by simp only [str_nil]; rfl)
    rintro _ w8 ⟨rfl, hlA⟩
    replace hl := hl.swap hlA
    clear hlA
    obtain ⟨nm, hnm⟩ : ∃ nm, nm = takeS text.length ts 1 [] s1 := ⟨_, rfl⟩
    have hi2 : nm.2.i ≤ ts.length := by rw [hnm]; exact takeS_le hi1
    rw [← hnm] at hl hfin ⊢
    clear hnm hi1
    refine o_alloc hl [.int .i64 0, .string "".toByteArray, .int .i64 0, .int .i64 0] (by kernel_rfl) rfl ?_
    clear hl
    intro b13 w9 hb_ hl
    refine o_putN (us := tokL nm.1) hl rfl rfl rfl (by simp only [tokL, List.all_cons, List.all_nil, oneCell_str]; rfl) rfl (.here rfl rfl) ?_
    clear hl
    intro w10 hl
    replace hl := hl.perm (List.Perm.swap _ _ _)
    refine o_nil (hK _ _ ?_)
    clear hK K
    refine wk_seq fun K hK => ?_
    refine wk_reg ?_
    have hsl10 := hd2.ext hl.done
    refine a_all (hrx.ext hl.done) ?_
    refine a_fa ?_
    refine a_row (hl.rowL (vs := tokL nm.1) 1 0 4 rfl) ?_
    refine a_fn (refIndex_calls hsl10 hF nm.1.text) ?_
    rintro _ w11 ⟨rfl, hx11⟩
    replace hl := hl.ext hx11
    clear hx11 hsl10
    refine a_asg ?_
    refine o_nil (hK _ _ ?_)
    clear hK K
    have hidx : (∃ k, idx F nm.1.text = some k ∧ k < F.length ∧ idxI F nm.1.text = (k : Int)) ∨ (idx F nm.1.text = none ∧ idxI F nm.1.text = -1) := by
      unfold idxI
      cases h : idx F nm.1.text with
      | none => exact .inr ⟨rfl, rfl⟩
      | some k => exact .inl ⟨k, rfl, idx_lt h, rfl⟩
    -- is there such a fact?
    refine wk_seq fun K hK => ?_
    obtain ⟨s2, hs2⟩ : ∃ s2, s2 = nm.2.cf (decide (nm.2.er = 0) && (idx F nm.1.text).isNone) 7 nm.1.pos := ⟨_, rfl⟩
    have hi3 : s2.i ≤ ts.length := by rw [hs2, cf_i]; exact hi2
    have hok2 : s2.er = 0 → ∃ k, idx F nm.1.text = some k := fun h => by
      cases hx : idx F nm.1.text with
      | some k => exact ⟨k, rfl⟩
      | none =>
        rw [hx] at hs2
        rw [hs2] at h
        unfold RS.cf RS.fault at h
        by_cases hz : nm.2.er = 0
        · simp [hz] at h
        · simp [hz] at h
    simp only at hfin
    rw [← hs2] at hfin
    refine wk_cut [] (fun _ : Unit => [(1, str text), (2, .pointer (some ⟨bx, 0, none⟩)), (7, .slice ta ts.length tc), (10, .pointer (some ⟨rb, 0, none⟩)), (11, .slice (some ⟨bc, 0, none⟩) F.length F.length), (12, .slice (some ⟨bs, 0, none⟩) F.length F.length), (13, .pointer (some ⟨b13, 0, none⟩)), (14, .int .i64 (idxI F nm.1.text))])
      (fun _ w' => LH w2 (fun _ => False) w' (rsB rb (.slice ta ts.length tc) text.length s2 :: (b13, .cells (tokL nm.1).toArray 65 (0, 0)) :: (bs, .cells (boolsL seen).toArray 4 (0, 0)) :: [(bc, .cells (intsL c).toArray 3 (0, 0))])) ?_ ?_
    · refine wk_seq fun K2 hK2 => ?_
      refine wk_reg ?_
      have hrp : Row w11 rb 0 (rsL (.slice ta ts.length tc) text.length nm.2) := hl.rowL (vs := rsL (.slice ta ts.length tc) text.length nm.2) 0 0 5 rfl
      by_cases hz : nm.2.er = 0
      · rw [decide_eq_true hz, Bool.true_and] at hs2
        rcases hidx with ⟨k, hx1, hx2, hx3⟩ | ⟨hx1, hx3⟩
        · rw [hx1] at hs2
          have hneg : ¬ idxI F nm.1.text < 0 := by omega
          repeat' (first | refine a_mov ?_ | refine a_asg ?_ | refine a_binN ?_ | refine a_notd ?_ | refine a_notb ?_ | refine a_nilc ?_ | refine a_fa ?_ | refine a_ext ?_ | refine a_lenv ?_ | refine a_lens ?_ | refine a_pick_t ?_ | refine a_pick_f ?_ | refine a_not ?_ | refine a_nilf ?_ | (refine a_bin ?_ ?_ <;> intro _ <;> try (exfalso; omega)) | refine a_ld hl ?_ | (refine a_st hl ?_; clear hl; intro _ hl) | refine a_ix (fun _ => ?_) | refine a_row hrp ?_ | fail)
          refine o_nil (hK2 _ _ ?_)
          clear hK2 K2
          refine wk_cond_f rfl ?_
          refine wk_skip ⟨(), ⟨rfl, rfl, rfl, rfl, rfl, rfl, rfl, rfl, trivial⟩, rfl, ?_⟩
          rw [hs2]
          exact hl
        · rw [hx1] at hs2
          have hneg : idxI F nm.1.text < 0 := by omega
          repeat' (first | refine a_mov ?_ | refine a_asg ?_ | refine a_binN ?_ | refine a_notd ?_ | refine a_notb ?_ | refine a_nilc ?_ | refine a_fa ?_ | refine a_ext ?_ | refine a_lenv ?_ | refine a_lens ?_ | refine a_pick_t ?_ | refine a_pick_f ?_ | refine a_not ?_ | refine a_nilf ?_ | (refine a_bin ?_ ?_ <;> intro _ <;> try (exfalso; omega)) | refine a_ld hl ?_ | (refine a_st hl ?_; clear hl; intro _ hl) | refine a_ix (fun _ => ?_) | refine a_row hrp ?_ | fail)
          refine o_nil (hK2 _ _ ?_)
          clear hK2 K2 hrp
          refine wk_cond_t rfl ?_
          refine wk_reg ?_
          refine a_mov ?_
          refine a_fa ?_
          refine a_row (hl.rowL (vs := tokL nm.1) 1 0 4 rfl) ?_
          refine a_fn (fault6_calls (e := 7) (a := (nm.1).pos) hl.one) ?_
          rintro v_ w_ hlA
          replace hl := hl.swap hlA
          clear hlA
          refine o_nil ⟨(), ⟨rfl, rfl, rfl, rfl, rfl, rfl, rfl, rfl, trivial⟩, rfl, ?_⟩
          rw [hs2]
          exact hl
      · rw [decide_eq_false hz, Bool.false_and] at hs2
        repeat' (first | refine a_mov ?_ | refine a_asg ?_ | refine a_binN ?_ | refine a_notd ?_ | refine a_notb ?_ | refine a_nilc ?_ | refine a_fa ?_ | refine a_ext ?_ | refine a_lenv ?_ | refine a_lens ?_ | refine a_pick_t ?_ | refine a_pick_f ?_ | refine a_not ?_ | refine a_nilf ?_ | (refine a_bin ?_ ?_ <;> intro _ <;> try (exfalso; omega)) | refine a_ld hl ?_ | (refine a_st hl ?_; clear hl; intro _ hl) | refine a_ix (fun _ => ?_) | refine a_row hrp ?_ | fail)
        refine o_nil (hK2 _ _ ?_)
        clear hK2 K2
        refine wk_cond_f rfl ?_
        refine wk_skip ⟨(), ⟨rfl, rfl, rfl, rfl, rfl, rfl, rfl, rfl, trivial⟩, rfl, ?_⟩
        rw [hs2]
        exact hl
    clear hl hs2
    rintro _ t2 w12 hl
    refine hK _ _ ?_
    clear hK K
    -- seen before?
    refine wk_seq fun K hK => ?_
    obtain ⟨s3, hs3⟩ : ∃ s3, s3 = s2.cf (decide (s2.er = 0) && seen.getD (idxI F nm.1.text).toNat false) 9 nm.1.pos := ⟨_, rfl⟩
    have hi4 : s3.i ≤ ts.length := by rw [hs3, cf_i]; exact hi3
    have hok3 : s3.er = 0 → s2.er = 0 := fun h => by
      by_cases hz : s2.er = 0
      · exact hz
      · rw [hs3, cf_dead hz] at h; exact h
    rw [← hs3] at hfin
    refine wk_cut [] (fun _ : Unit => [(1, str text), (2, .pointer (some ⟨bx, 0, none⟩)), (7, .slice ta ts.length tc), (10, .pointer (some ⟨rb, 0, none⟩)), (11, .slice (some ⟨bc, 0, none⟩) F.length F.length), (12, .slice (some ⟨bs, 0, none⟩) F.length F.length), (14, .int .i64 (idxI F nm.1.text))])
      (fun _ w' => LH w2 (fun _ => False) w' (rsB rb (.slice ta ts.length tc) text.length s3 :: (b13, .cells (tokL nm.1).toArray 65 (0, 0)) :: (bs, .cells (boolsL seen).toArray 4 (0, 0)) :: [(bc, .cells (intsL c).toArray 3 (0, 0))])) ?_ ?_
    · refine wk_seq fun K2 hK2 => ?_
      refine wk_reg ?_
      have hrp : Row w12 rb 0 (rsL (.slice ta ts.length tc) text.length s2) := hl.rowL (vs := rsL (.slice ta ts.length tc) text.length s2) 0 0 5 rfl
      by_cases hz : s2.er = 0
      · rw [decide_eq_true hz, Bool.true_and] at hs3
        obtain ⟨k, hk⟩ := hok2 hz
        have hk1 := idx_lt hk
        have hik : idxI F nm.1.text = (k : Int) := by unfold idxI; rw [hk]
        rw [hik, Int.toNat_natCast] at hs3
        have hks : k < seen.length := by omega
        have hrow : Row w12 bs (0 + k * 1) [.bool (seen.getD k false)] := fun j v h => by
          have hj : j = 0 := by
            cases j with
            | zero => rfl
            | succ j => simp at h
          subst hj
          refine (hl.rowL (vs := boolsL seen) 2 0 (boolsL seen).length rfl) (k * 1) v ?_
          rw [List.drop_zero, List.take_length]
          unfold boolsL
          rw [List.getElem?_map, Nat.mul_one, List.getElem?_eq_getElem hks]
          simp only [List.getElem?_cons_zero, Option.some.injEq] at h
          rw [← h]
          simp [List.getD, hks]
        rw [hik]
        cases hsn : seen.getD k false
        · rw [hsn] at hs3 hrow
          repeat' (first | refine a_mov ?_ | refine a_asg ?_ | refine a_binN ?_ | refine a_notd ?_ | refine a_notb ?_ | refine a_nilc ?_ | refine a_fa ?_ | refine a_ext ?_ | refine a_lenv ?_ | refine a_lens ?_ | refine a_pick_t ?_ | refine a_pick_f ?_ | refine a_not ?_ | refine a_nilf ?_ | (refine a_bin ?_ ?_ <;> intro _ <;> try (exfalso; omega)) | refine a_ld hl ?_ | (refine a_st hl ?_; clear hl; intro _ hl) | refine a_ix (fun _ => ?_) | refine a_row hrp ?_ | refine a_idx (c := 1) k rfl ?_ | refine a_row hrow ?_ | fail)
          refine o_nil (hK2 _ _ ?_)
          clear hK2 K2
          refine wk_cond_f rfl ?_
          refine wk_skip ⟨(), ⟨rfl, rfl, rfl, rfl, rfl, rfl, (by first | rfl | (rw [hik]; rfl)), trivial⟩, rfl, ?_⟩
          rw [hs3]
          exact hl
        · rw [hsn] at hs3 hrow
          repeat' (first | refine a_mov ?_ | refine a_asg ?_ | refine a_binN ?_ | refine a_notd ?_ | refine a_notb ?_ | refine a_nilc ?_ | refine a_fa ?_ | refine a_ext ?_ | refine a_lenv ?_ | refine a_lens ?_ | refine a_pick_t ?_ | refine a_pick_f ?_ | refine a_not ?_ | refine a_nilf ?_ | (refine a_bin ?_ ?_ <;> intro _ <;> try (exfalso; omega)) | refine a_ld hl ?_ | (refine a_st hl ?_; clear hl; intro _ hl) | refine a_ix (fun _ => ?_) | refine a_row hrp ?_ | refine a_idx (c := 1) k rfl ?_ | refine a_row hrow ?_ | fail)
          refine o_nil (hK2 _ _ ?_)
          clear hK2 K2 hrp hrow
          refine wk_cond_t rfl ?_
          refine wk_reg ?_
          refine a_mov ?_
          refine a_fa ?_
          refine a_row (hl.rowL (vs := tokL nm.1) 1 0 4 rfl) ?_
          refine a_fn (fault6_calls (e := 9) (a := (nm.1).pos) hl.one) ?_
          rintro v_ w_ hlA
          replace hl := hl.swap hlA
          clear hlA
          refine o_nil ⟨(), ⟨rfl, rfl, rfl, rfl, rfl, rfl, (by first | rfl | (rw [hik]; rfl)), trivial⟩, rfl, ?_⟩
          rw [hs3]
          exact hl
      · rw [decide_eq_false hz, Bool.false_and] at hs3
        repeat' (first | refine a_mov ?_ | refine a_asg ?_ | refine a_binN ?_ | refine a_notd ?_ | refine a_notb ?_ | refine a_nilc ?_ | refine a_fa ?_ | refine a_ext ?_ | refine a_lenv ?_ | refine a_lens ?_ | refine a_pick_t ?_ | refine a_pick_f ?_ | refine a_not ?_ | refine a_nilf ?_ | (refine a_bin ?_ ?_ <;> intro _ <;> try (exfalso; omega)) | refine a_ld hl ?_ | (refine a_st hl ?_; clear hl; intro _ hl) | refine a_ix (fun _ => ?_) | refine a_row hrp ?_ | fail)
        refine o_nil (hK2 _ _ ?_)
        clear hK2 K2
        refine wk_cond_f rfl ?_
        refine wk_skip ⟨(), ⟨rfl, rfl, rfl, rfl, rfl, rfl, (by first | rfl | (rw [hik]; rfl)), trivial⟩, rfl, ?_⟩
        rw [hs3]
        exact hl
    clear hl hs3
    rintro _ t3 w13 hl
    refine hK _ _ ?_
    clear hK K
    refine wk_seq fun K hK => ?_
    refine wk_reg ?_
    refine a_mov ?_
    refine a_fn (take6_calls (k := 3) (wd := kEq) (hTK _ _ hl) hl.one hi4) ?_ rfl (fun _ => rfl) (by simp only [kEq, str_eq]; rfl)
    rintro _ w14 ⟨rfl, hlA⟩
    replace hl := hl.swap hlA
    clear hlA
    refine o_nil (hK _ _ ?_)
    clear hK K
    obtain ⟨s4, hs4⟩ : ∃ s4, s4 = (takeS text.length ts 3 kEq s3).2 := ⟨_, rfl⟩
    have hi5 : s4.i ≤ ts.length := by rw [hs4]; exact takeS_le hi4
    have hok4 : s4.er = 0 → s3.er = 0 := fun h => by
      by_cases hz : s3.er = 0
      · exact hz
      · rw [hs4, takeS_dead hz] at h; exact h
    rw [← hs4] at hl hfin
    clear hs4
    -- the number
    refine wk_seq fun K hK => ?_
    refine wk_reg ?_
    refine a_mov ?_
    refine a_fn (take6_calls (k := 2) (wd := []) (hTK _ _ hl) hl.one hi5) ?_ rfl (fun _ => rfl) (by simp only [str_nil]; rfl)
    rintro _ w15 ⟨rfl, hlA⟩
    replace hl := hl.swap hlA
    clear hlA
    obtain ⟨n, hnn⟩ : ∃ n, n = takeS text.length ts 2 [] s4 := ⟨_, rfl⟩
    have hi6 : n.2.i ≤ ts.length := by rw [hnn]; exact takeS_le hi5
    have hok5 : n.2.er = 0 → s4.er = 0 := fun h => by
      by_cases hz : s4.er = 0
      · exact hz
      · rw [hnn, takeS_dead hz] at h; exact h
    rw [← hnn] at hl hfin ⊢
    clear hnn
    refine o_alloc hl [.int .i64 0, .string "".toByteArray, .int .i64 0, .int .i64 0] (by kernel_rfl) rfl ?_
    clear hl
    intro b15 w16 hb_ hl
    refine o_putN (us := tokL n.1) hl rfl rfl rfl (by simp only [tokL, List.all_cons, List.all_nil, oneCell_str]; rfl) rfl (.here rfl rfl) ?_
    clear hl
    intro w17 hl
    replace hl := hl.perm (List.Perm.swap _ _ _)
    refine o_nil (hK _ _ ?_)
    clear hK K
    refine wk_seq fun K hK => ?_
    obtain ⟨s5, hs5⟩ : ∃ s5, s5 = n.2.cf (decide (n.2.er = 0) && outB F (idxI F nm.1.text).toNat n.1.num) 10 n.1.pos := ⟨_, rfl⟩
    have hok6 : s5.er = 0 → n.2.er = 0 := fun h => by
      by_cases hz : n.2.er = 0
      · exact hz
      · rw [hs5, cf_dead hz] at h; exact h
    rw [← hs5] at hfin
    refine wk_cut [] (fun _ : Unit => [(1, str text), (2, .pointer (some ⟨bx, 0, none⟩)), (7, .slice ta ts.length tc), (10, .pointer (some ⟨rb, 0, none⟩)), (11, .slice (some ⟨bc, 0, none⟩) F.length F.length), (12, .slice (some ⟨bs, 0, none⟩) F.length F.length), (14, .int .i64 (idxI F nm.1.text)), (15, .pointer (some ⟨b15, 0, none⟩))])
      (fun _ w' => LH w2 (fun _ => False) w' (rsB rb (.slice ta ts.length tc) text.length s5 :: (b15, .cells (tokL n.1).toArray 65 (0, 0)) :: (b13, .cells (tokL nm.1).toArray 65 (0, 0)) :: (bs, .cells (boolsL seen).toArray 4 (0, 0)) :: [(bc, .cells (intsL c).toArray 3 (0, 0))])) ?_ ?_
    · refine wk_seq fun K2 hK2 => ?_
      have hrp : Row w17 rb 0 (rsL (.slice ta ts.length tc) text.length n.2) := hl.rowL (vs := rsL (.slice ta ts.length tc) text.length n.2) 0 0 5 rfl
      have hrn : Row w17 b15 0 (tokL n.1) := hl.rowL (vs := tokL n.1) 1 0 4 rfl
      have hrx17 := hrx.ext hl.done
      by_cases hz : n.2.er = 0
      · rw [decide_eq_true hz, Bool.true_and] at hs5
        obtain ⟨k, hk⟩ := hok2 (hok3 (hok4 (hok5 hz)))
        have hk1 := idx_lt hk
        have hik : idxI F nm.1.text = (k : Int) := by unfold idxI; rw [hk]
        obtain ⟨bf, of, hpf, hrf⟩ := Sl.fact (hd2.ext hl.done) rfl hk1
        have hob : outB F k n.1.num = decide ((n.1.num : Int) < F[k].lo ∨ F[k].hi < (n.1.num : Int)) := by unfold outB; rw [factAt_lt hk1]
        rw [hik, Int.toNat_natCast, hob] at hs5
        rw [hik]
        by_cases hlo : (n.1.num : Int) < F[k].lo
        · rw [decide_eq_true (.inl hlo)] at hs5
          refine wk_quiet (List.range 27) ?_
          repeat' (first | refine q_mov ?_ | refine q_asg ?_ | refine q_fa ?_ | refine q_ext ?_ | refine q_binN ?_ | refine q_notd ?_ | refine q_notb ?_ | refine q_pick_t ?_ | refine q_pick_f ?_ | refine q_nilc ?_ | refine q_skip ?_ | refine q_lens ?_ | refine q_lenv ?_ | refine q_nil ?_ | refine q_ix (fun _ => ?_) | (refine q_bin ?_ ?_ <;> intro _ <;> try (exfalso; omega)) | refine q_row (fun w_ hw_ => hrp.ext hw_) ?_ | refine q_row (fun w_ hw_ => hrn.ext hw_) ?_ | refine q_row (fun w_ hw_ => hrx17.ext hw_) ?_ | refine q_row (fun w_ hw_ => hrf.ext hw_) ?_ | refine q_idx (c := 4) k hpf ?_ | fail)
          intro w18 hx18
          refine hK2 _ _ ?_
          clear hK2 K2 hrp hrn hrf
          replace hl := hl.ext hx18
          refine wk_cond_t rfl ?_
          refine wk_reg ?_
          refine a_mov ?_
          refine a_fa ?_
          refine a_row (hl.rowL (vs := tokL n.1) 1 0 4 rfl) ?_
          refine a_fn (fault6_calls (e := 10) (a := (n.1).pos) hl.one) ?_
          rintro v_ w_ hlA
          replace hl := hl.swap hlA
          clear hlA
          refine o_nil ⟨(), ⟨rfl, rfl, rfl, rfl, rfl, rfl, (by first | rfl | (rw [hik]; rfl)), rfl, trivial⟩, rfl, ?_⟩
          rw [hs5]
          exact hl
        · by_cases hhi : F[k].hi < (n.1.num : Int)
          · rw [decide_eq_true (.inr hhi)] at hs5
            refine wk_quiet (List.range 27) ?_
            repeat' (first | refine q_mov ?_ | refine q_asg ?_ | refine q_fa ?_ | refine q_ext ?_ | refine q_binN ?_ | refine q_notd ?_ | refine q_notb ?_ | refine q_pick_t ?_ | refine q_pick_f ?_ | refine q_nilc ?_ | refine q_skip ?_ | refine q_lens ?_ | refine q_lenv ?_ | refine q_nil ?_ | refine q_ix (fun _ => ?_) | (refine q_bin ?_ ?_ <;> intro _ <;> try (exfalso; omega)) | refine q_row (fun w_ hw_ => hrp.ext hw_) ?_ | refine q_row (fun w_ hw_ => hrn.ext hw_) ?_ | refine q_row (fun w_ hw_ => hrx17.ext hw_) ?_ | refine q_row (fun w_ hw_ => hrf.ext hw_) ?_ | refine q_idx (c := 4) k hpf ?_ | fail)
            intro w18 hx18
            refine hK2 _ _ ?_
            clear hK2 K2 hrp hrn hrf
            replace hl := hl.ext hx18
            refine wk_cond_t rfl ?_
            refine wk_reg ?_
            refine a_mov ?_
            refine a_fa ?_
            refine a_row (hl.rowL (vs := tokL n.1) 1 0 4 rfl) ?_
            refine a_fn (fault6_calls (e := 10) (a := (n.1).pos) hl.one) ?_
            rintro v_ w_ hlA
            replace hl := hl.swap hlA
            clear hlA
            refine o_nil ⟨(), ⟨rfl, rfl, rfl, rfl, rfl, rfl, (by first | rfl | (rw [hik]; rfl)), rfl, trivial⟩, rfl, ?_⟩
            rw [hs5]
            exact hl
          · rw [decide_eq_false (fun h => h.elim hlo hhi)] at hs5
            refine wk_quiet (List.range 27) ?_
            repeat' (first | refine q_mov ?_ | refine q_asg ?_ | refine q_fa ?_ | refine q_ext ?_ | refine q_binN ?_ | refine q_notd ?_ | refine q_notb ?_ | refine q_pick_t ?_ | refine q_pick_f ?_ | refine q_nilc ?_ | refine q_skip ?_ | refine q_lens ?_ | refine q_lenv ?_ | refine q_nil ?_ | refine q_ix (fun _ => ?_) | (refine q_bin ?_ ?_ <;> intro _ <;> try (exfalso; omega)) | refine q_row (fun w_ hw_ => hrp.ext hw_) ?_ | refine q_row (fun w_ hw_ => hrn.ext hw_) ?_ | refine q_row (fun w_ hw_ => hrx17.ext hw_) ?_ | refine q_row (fun w_ hw_ => hrf.ext hw_) ?_ | refine q_idx (c := 4) k hpf ?_ | fail)
            intro w18 hx18
            refine hK2 _ _ ?_
            clear hK2 K2
            refine wk_cond_f rfl ?_
            refine wk_skip ⟨(), ⟨rfl, rfl, rfl, rfl, rfl, rfl, (by first | rfl | (rw [hik]; rfl)), rfl, trivial⟩, rfl, ?_⟩
            rw [hs5]
            exact hl.ext hx18
      · rw [decide_eq_false hz, Bool.false_and] at hs5
        refine wk_quiet (List.range 27) ?_
        repeat' (first | refine q_mov ?_ | refine q_asg ?_ | refine q_fa ?_ | refine q_ext ?_ | refine q_binN ?_ | refine q_notd ?_ | refine q_notb ?_ | refine q_pick_t ?_ | refine q_pick_f ?_ | refine q_nilc ?_ | refine q_skip ?_ | refine q_lens ?_ | refine q_lenv ?_ | refine q_nil ?_ | refine q_ix (fun _ => ?_) | (refine q_bin ?_ ?_ <;> intro _ <;> try (exfalso; omega)) | refine q_row (fun w_ hw_ => hrp.ext hw_) ?_ | fail)
        intro w18 hx18
        refine hK2 _ _ ?_
        clear hK2 K2
        refine wk_cond_f rfl ?_
        refine wk_skip ⟨(), ⟨rfl, rfl, rfl, rfl, rfl, rfl, (by first | rfl | (rw [hik]; rfl)), rfl, trivial⟩, rfl, ?_⟩
        rw [hs5]
        exact hl.ext hx18
    clear hl hs5
    rintro _ t4 w18 hl
    refine hK _ _ ?_
    clear hK K
    have hs5e : (itemS' text.length ts F seen s).2 = s5 := by rw [hfin]
    have hmu : (if (itemS' text.length ts F seen s).2.er = 0 then ts.length - (itemS' text.length ts F seen s).2.i + 1 else 0) < (if s.er = 0 then ts.length - s.i + 1 else 0) := by
      rw [if_pos h0]
      split
      · rename_i h1
        have := hinc h1
        omega
      · omega
    refine wk_seq fun K2 hK2 => ?_
    refine wk_reg ?_
    have hrp : Row w18 rb 0 (rsL (.slice ta ts.length tc) text.length s5) := hl.rowL (vs := rsL (.slice ta ts.length tc) text.length s5) 0 0 5 rfl
    by_cases hz : s5.er = 0
    · obtain ⟨k, hk⟩ := hok2 (hok3 (hok4 (hok5 (hok6 hz))))
      have hk1 := idx_lt hk
      have hik : idxI F nm.1.text = (k : Int) := by unfold idxI; rw [hk]
      have hce : cOf c (itemS' text.length ts F seen s) = c.set k (n.1.num : Int) := by
        unfold cOf
        rw [hs5e, if_pos hz, hfin, hik]
        rfl
      have hse : snOf seen (itemS' text.length ts F seen s) = seen.set k true := by
        unfold snOf
        rw [hs5e, if_pos hz, hfin, hik]
        rfl
      rw [hik]
      repeat' (first | refine a_mov ?_ | refine a_asg ?_ | refine a_binN ?_ | refine a_notd ?_ | refine a_notb ?_ | refine a_nilc ?_ | refine a_fa ?_ | refine a_ext ?_ | refine a_lenv ?_ | refine a_lens ?_ | refine a_pick_t ?_ | refine a_pick_f ?_ | refine a_not ?_ | refine a_nilf ?_ | (refine a_bin ?_ ?_ <;> intro _ <;> try (exfalso; omega)) | refine a_ld hl ?_ | (refine a_st hl ?_; clear hl; intro _ hl) | refine a_ix (fun _ => ?_) | refine a_row hrp ?_ | fail)
      refine o_nil (hK2 _ _ ?_)
      clear hK2 K2 hrp
      refine wk_cond_t rfl ?_
      refine wk_seq fun K2 hK2 => ?_
      refine wk_reg ?_
      refine a_mov ?_
      refine a_mov ?_
      refine a_fa ?_
      refine a_row (hl.rowL (vs := tokL n.1) 1 0 4 rfl) ?_
      refine a_idx (c := 1) k rfl ?_
      refine o_put1 (b := bc) (o := 0 + k * 1) (v := .int .i64 (n.1.num : Int)) hl rfl rfl rfl ⟨rfl, rfl⟩ rfl (.there (.there (.there (.there (.here (Nat.ble_eq_true_of_le (by rw [intsL_len, hcl]; omega)) (intsL_set c k n.1.num _ rfl)))))) ?_
      clear hl
      intro w19 hl
      refine o_nil (hK2 _ _ ?_)
      clear hK2 K2
      refine wk_reg ?_
      refine a_mov ?_
      refine a_mov ?_
      refine a_idx (c := 1) k rfl ?_
      refine o_put1 (b := bs) (o := 0 + k * 1) (v := .bool true) hl rfl rfl rfl ⟨rfl, rfl⟩ rfl (.there (.there (.there (.here (Nat.ble_eq_true_of_le (by unfold boolsL; rw [List.length_map, hsl]; omega)) (boolsL_set seen k _ rfl))))) ?_
      clear hl
      intro w20 hl
      refine o_nil ⟨(cOf c (itemS' text.length ts F seen s), snOf seen (itemS' text.length ts F seen s), (itemS' text.length ts F seen s).2), ⟨rfl, rfl, rfl, rfl, rfl, rfl, trivial⟩, rfl, ⟨hon2, ?_⟩, hmu⟩
      simp only
      rw [hce, hse, hs5e]
      exact hl.sub (List.cons_sublist_cons.2 (List.Sublist.cons _ (List.Sublist.cons _ (List.Sublist.refl _))))
    · have hce : cOf c (itemS' text.length ts F seen s) = c := by
        unfold cOf
        rw [hs5e, if_neg hz]
      have hse : snOf seen (itemS' text.length ts F seen s) = seen := by
        unfold snOf
        rw [hs5e, if_neg hz]
      repeat' (first | refine a_mov ?_ | refine a_asg ?_ | refine a_binN ?_ | refine a_notd ?_ | refine a_notb ?_ | refine a_nilc ?_ | refine a_fa ?_ | refine a_ext ?_ | refine a_lenv ?_ | refine a_lens ?_ | refine a_pick_t ?_ | refine a_pick_f ?_ | refine a_not ?_ | refine a_nilf ?_ | (refine a_bin ?_ ?_ <;> intro _ <;> try (exfalso; omega)) | refine a_ld hl ?_ | (refine a_st hl ?_; clear hl; intro _ hl) | refine a_ix (fun _ => ?_) | refine a_row hrp ?_ | fail)
      refine o_nil (hK2 _ _ ?_)
      clear hK2 K2 hrp
      refine wk_cond_f rfl ?_
      refine wk_skip ⟨(cOf c (itemS' text.length ts F seen s), snOf seen (itemS' text.length ts F seen s), (itemS' text.length ts F seen s).2), ⟨rfl, rfl, rfl, rfl, rfl, rfl, trivial⟩, rfl, ⟨hon2, ?_⟩, hmu⟩
      simp only
      rw [hce, hse, hs5e]
      exact hl.sub (List.cons_sublist_cons.2 (List.Sublist.cons _ (List.Sublist.cons _ (List.Sublist.refl _))))
  -- behind the items
  have hex : (s.er = 0 ∧ (if seen.all id = true then Sum.inl c else Sum.inr ((11 : Int), (text.length : Int))) = parseC F text) ∨ (s.er ≠ 0 ∧ parseC F text = .inr (s.er, s.at_)) := by
    rcases honc with ⟨h0, -, f, hf, hq⟩ | h
    · have hge : ¬ s.i < ts.length := fun h => hgo ⟨h0, h⟩
      rw [List.drop_eq_nil_of_le (by omega)] at hq
      refine .inl ⟨h0, ?_⟩
      rw [← hq]
      cases f <;> simp [itemsP]
    · exact .inr h
  have hcut : ∀ (q : Prop), q → q := fun q h => h
  by_cases h0 : s.er = 0
  all_goals
    repeat' (first | refine a_mov ?_ | refine a_asg ?_ | refine a_binN ?_ | refine a_notd ?_ | refine a_notb ?_ | refine a_nilc ?_ | refine a_fa ?_ | refine a_ext ?_ | refine a_lenv ?_ | refine a_lens ?_ | refine a_pick_t ?_ | refine a_pick_f ?_ | refine a_not ?_ | refine a_nilf ?_ | (refine a_bin ?_ ?_ <;> intro _ <;> try (exfalso; omega)) | refine a_ld hl ?_ | (refine a_st hl ?_; clear hl; intro _ hl) | refine a_ix (fun _ => ?_) | refine a_row hrp ?_ | fail)
    refine o_nil (hK2 _ _ ?_)
    clear hK2 K2
    refine wk_cond_f rfl ?_
    refine wk_exit ?_
    refine blockK_same ?_
    refine hK _ _ ?_
    clear hK1 K1
    clear hK K hrp
    refine wk_seq fun K hK => ?_
    refine wk_cut [] (fun _ : Unit => [(10, .pointer (some ⟨rb, 0, none⟩)), (11, .slice (some ⟨bc, 0, none⟩) F.length F.length)])
      (fun _ w' => LH w2 (fun _ => False) w' (rsB rb (.slice ta ts.length tc) text.length (s.cf (!seen.all id) 11 text.length) :: (bs, .cells (boolsL seen).toArray 4 (0, 0)) :: [(bc, .cells (intsL c).toArray 3 (0, 0))])) ?_ ?_
    · refine wk_seq fun K2 hK2 => ?_
      refine wk_reg ?_
      refine a_asg ?_
      refine o_nil (hK2 _ _ ?_)
      clear hK2 K2
      refine wk_block ?_
      refine wk_loopH [] rfl (fun k : Nat => [(1, str text), (10, .pointer (some ⟨rb, 0, none⟩)), (11, .slice (some ⟨bc, 0, none⟩) F.length F.length), (12, .slice (some ⟨bs, 0, none⟩) F.length F.length), (16, .int .i64 (k : Int))])
        (fun k w' => k ≤ F.length ∧ LH w2 (fun _ => False) w' (rsB rb (.slice ta ts.length tc) text.length (s.cf (!(seen.take k).all id) 11 text.length) :: (bs, .cells (boolsL seen).toArray 4 (0, 0)) :: [(bc, .cells (intsL c).toArray 3 (0, 0))]))
        (fun k => F.length - k) 0 ⟨rfl, rfl, rfl, rfl, rfl, trivial⟩ ⟨Nat.zero_le _, hl⟩ ?_
      clear hl
      rintro k t5 w7 ⟨hk, hl⟩
      refine wk_seq fun K1 hK1 => ?_
      refine wk_seq fun K2 hK2 => ?_
      refine wk_reg ?_
      by_cases hk1 : k < F.length
      · have hks : k < seen.length := by omega
        have htk : (seen.take (k + 1)).all id = ((seen.take k).all id && seen[k]) := by
          rw [List.take_succ_eq_append_getElem hks, List.all_append]
          simp
        have hrow : Row w7 bs (0 + k * 1) [.bool seen[k]] := fun j v h => by
          have hj : j = 0 := by
            cases j with
            | zero => rfl
            | succ j => simp at h
          subst hj
          refine (hl.rowL (vs := boolsL seen) 1 0 (boolsL seen).length rfl) (k * 1) v ?_
          rw [List.drop_zero, List.take_length]
          unfold boolsL
          rw [List.getElem?_map, Nat.mul_one, List.getElem?_eq_getElem hks]
          simpa using h
        repeat' (first | refine a_mov ?_ | refine a_asg ?_ | refine a_binN ?_ | refine a_notd ?_ | refine a_notb ?_ | refine a_nilc ?_ | refine a_fa ?_ | refine a_ext ?_ | refine a_lenv ?_ | refine a_lens ?_ | refine a_pick_t ?_ | refine a_pick_f ?_ | refine a_not ?_ | refine a_nilf ?_ | (refine a_bin ?_ ?_ <;> intro _ <;> try (exfalso; omega)) | refine a_ld hl ?_ | (refine a_st hl ?_; clear hl; intro _ hl) | refine a_ix (fun _ => ?_) | fail)
        refine o_nil (hK2 _ _ ?_)
        clear hK2 K2
        refine wk_cond_t rfl ?_
        refine wk_skip (hK1 _ _ ?_)
        clear hK1 K1
        refine wk_seq fun K1 hK1 => ?_
        refine wk_block ?_
        refine wk_seq fun K2 hK2 => ?_
        refine wk_reg ?_
        cases hsk : seen[k]
        · rw [hsk] at hrow htk
          rw [Bool.and_false] at htk
          repeat' (first | refine a_mov ?_ | refine a_asg ?_ | refine a_binN ?_ | refine a_notd ?_ | refine a_notb ?_ | refine a_nilc ?_ | refine a_fa ?_ | refine a_ext ?_ | refine a_lenv ?_ | refine a_lens ?_ | refine a_pick_t ?_ | refine a_pick_f ?_ | refine a_not ?_ | refine a_nilf ?_ | (refine a_bin ?_ ?_ <;> intro _ <;> try (exfalso; omega)) | refine a_ld hl ?_ | (refine a_st hl ?_; clear hl; intro _ hl) | refine a_ix (fun _ => ?_) | refine a_idx (c := 1) k rfl ?_ | refine a_row hrow ?_ | fail)
          refine o_nil (hK2 _ _ ?_)
          clear hK2 K2 hrow
          refine wk_cond_t rfl ?_
          refine wk_reg ?_
          refine a_mov ?_
          refine a_mov ?_
          refine a_lens ?_
          refine a_fn (fault6_calls (e := 11) (a := text.length) hl.one) ?_
          rintro v_ w_ hlA
          replace hl := hl.swap hlA
          clear hlA
          rw [cf_fault _ _ _ _ (by decide)] at hl
          refine o_nil (hK1 _ _ ?_)
          clear hK1 K1
          refine wk_reg ?_
          repeat' (first | refine a_mov ?_ | refine a_asg ?_ | refine a_binN ?_ | refine a_notd ?_ | refine a_notb ?_ | refine a_nilc ?_ | refine a_fa ?_ | refine a_ext ?_ | refine a_lenv ?_ | refine a_lens ?_ | refine a_pick_t ?_ | refine a_pick_f ?_ | refine a_not ?_ | refine a_nilf ?_ | (refine a_bin ?_ ?_ <;> intro _ <;> try (exfalso; omega)) | refine a_ld hl ?_ | (refine a_st hl ?_; clear hl; intro _ hl) | refine a_ix (fun _ => ?_) | fail)
          refine o_nil ⟨k + 1, ⟨rfl, rfl, rfl, rfl, rfl, trivial⟩, rfl, ⟨hk1, ?_⟩, by omega⟩
          rw [htk]
          exact hl
        · rw [hsk] at hrow htk
          rw [Bool.and_true] at htk
          repeat' (first | refine a_mov ?_ | refine a_asg ?_ | refine a_binN ?_ | refine a_notd ?_ | refine a_notb ?_ | refine a_nilc ?_ | refine a_fa ?_ | refine a_ext ?_ | refine a_lenv ?_ | refine a_lens ?_ | refine a_pick_t ?_ | refine a_pick_f ?_ | refine a_not ?_ | refine a_nilf ?_ | (refine a_bin ?_ ?_ <;> intro _ <;> try (exfalso; omega)) | refine a_ld hl ?_ | (refine a_st hl ?_; clear hl; intro _ hl) | refine a_ix (fun _ => ?_) | refine a_idx (c := 1) k rfl ?_ | refine a_row hrow ?_ | fail)
          refine o_nil (hK2 _ _ ?_)
          clear hK2 K2 hrow
          refine wk_cond_f rfl ?_
          refine wk_skip (hK1 _ _ ?_)
          clear hK1 K1
          refine wk_reg ?_
          repeat' (first | refine a_mov ?_ | refine a_asg ?_ | refine a_binN ?_ | refine a_notd ?_ | refine a_notb ?_ | refine a_nilc ?_ | refine a_fa ?_ | refine a_ext ?_ | refine a_lenv ?_ | refine a_lens ?_ | refine a_pick_t ?_ | refine a_pick_f ?_ | refine a_not ?_ | refine a_nilf ?_ | (refine a_bin ?_ ?_ <;> intro _ <;> try (exfalso; omega)) | refine a_ld hl ?_ | (refine a_st hl ?_; clear hl; intro _ hl) | refine a_ix (fun _ => ?_) | fail)
          refine o_nil ⟨k + 1, ⟨rfl, rfl, rfl, rfl, rfl, trivial⟩, rfl, ⟨hk1, ?_⟩, by omega⟩
          rw [htk]
          exact hl
      · have hkF : k = F.length := by omega
        rw [List.take_of_length_le (by omega)] at hl
        repeat' (first | refine a_mov ?_ | refine a_asg ?_ | refine a_binN ?_ | refine a_notd ?_ | refine a_notb ?_ | refine a_nilc ?_ | refine a_fa ?_ | refine a_ext ?_ | refine a_lenv ?_ | refine a_lens ?_ | refine a_pick_t ?_ | refine a_pick_f ?_ | refine a_not ?_ | refine a_nilf ?_ | (refine a_bin ?_ ?_ <;> intro _ <;> try (exfalso; omega)) | refine a_ld hl ?_ | (refine a_st hl ?_; clear hl; intro _ hl) | refine a_ix (fun _ => ?_) | fail)
        refine o_nil (hK2 _ _ ?_)
        clear hK2 K2
        refine wk_cond_f rfl ?_
        refine wk_exit ?_
        refine blockK_same ?_
        exact ⟨(), ⟨rfl, rfl, trivial⟩, rfl, hl⟩
    clear hl
    rintro _ t6 w7 hl
    refine hK _ _ ?_
    clear hK K
    obtain ⟨s9, hs9⟩ : ∃ s9, s9 = s.cf (!seen.all id) 11 text.length := ⟨_, rfl⟩
    have hend : (s9.er = 0 ∧ parseC F text = .inl c) ∨ (s9.er ≠ 0 ∧ parseC F text = .inr (s9.er, s9.at_)) := by
      rcases hex with ⟨h1, h2⟩ | ⟨h1, h2⟩
      · cases hall : seen.all id
        · rw [hall] at hs9 h2
          rw [if_neg (by decide)] at h2
          have : s9 = ⟨s.i, 11, text.length⟩ := by rw [hs9]; simp [RS.cf, RS.fault, h1]
          rw [this]
          exact .inr ⟨by simp, h2.symm⟩
        · rw [hall] at hs9 h2
          rw [if_pos rfl] at h2
          have : s9 = s := by rw [hs9]; rfl
          rw [this]
          exact .inl ⟨h1, h2.symm⟩
      · have : s9 = s := by rw [hs9, cf_dead h1]
        rw [this]
        exact .inr ⟨h1, h2⟩
    rw [← hs9] at hl
    clear hs9
    have hrp : Row w7 rb 0 (rsL (.slice ta ts.length tc) text.length s9) := hl.rowL (vs := rsL (.slice ta ts.length tc) text.length s9) 0 0 5 rfl
    refine wk_seq fun K hK => ?_
    refine wk_seq fun K2 hK2 => ?_
    refine wk_reg ?_
    rcases hend with ⟨h9, hq⟩ | ⟨h9, hq⟩
    · repeat' (first | refine a_mov ?_ | refine a_asg ?_ | refine a_binN ?_ | refine a_notd ?_ | refine a_notb ?_ | refine a_nilc ?_ | refine a_fa ?_ | refine a_ext ?_ | refine a_lenv ?_ | refine a_lens ?_ | refine a_pick_t ?_ | refine a_pick_f ?_ | refine a_not ?_ | refine a_nilf ?_ | (refine a_bin ?_ ?_ <;> intro _ <;> try (exfalso; omega)) | refine a_ld hl ?_ | (refine a_st hl ?_; clear hl; intro _ hl) | refine a_ix (fun _ => ?_) | refine a_row hrp ?_ | fail)
      refine o_nil (hK2 _ _ ?_)
      clear hK2 K2
      refine wk_cond_f rfl ?_
      refine wk_skip (hK _ _ ?_)
      clear hK K
      refine wk_seq fun K hK => ?_
      refine wk_reg ?_
      repeat' (first | refine a_mov ?_ | refine a_asg ?_ | refine a_binN ?_ | refine a_notd ?_ | refine a_notb ?_ | refine a_nilc ?_ | refine a_fa ?_ | refine a_ext ?_ | refine a_lenv ?_ | refine a_lens ?_ | refine a_pick_t ?_ | refine a_pick_f ?_ | refine a_not ?_ | refine a_nilf ?_ | (refine a_bin ?_ ?_ <;> intro _ <;> try (exfalso; omega)) | refine a_ld hl ?_ | (refine a_st hl ?_; clear hl; intro _ hl) | refine a_ix (fun _ => ?_) | fail)
      refine o_nil (hK _ _ ?_)
      refine wk_ret (retQ_res [.slice (some ⟨bc, 0, none⟩) F.length F.length, .int .i64 0, .int .i64 0] rfl rfl ⟨by decide, rfl, by decide, rfl, by decide, rfl, trivial⟩ ?_)
      rw [hq]
      exact ⟨⟨_, rfl, Sl.mk (by rw [show caO (Sum.inl c : List Int ⊕ (Int × Int)) = c from rfl, intsL_len, hcl]) (Nat.le_refl _) (Row.of_block (hl.get 2 rfl) (fun i v h => by
        have h : (intsL c)[i]? = some v := h
        simpa using h))⟩, hx02.trans hl.done⟩
    · repeat' (first | refine a_mov ?_ | refine a_asg ?_ | refine a_binN ?_ | refine a_notd ?_ | refine a_notb ?_ | refine a_nilc ?_ | refine a_fa ?_ | refine a_ext ?_ | refine a_lenv ?_ | refine a_lens ?_ | refine a_pick_t ?_ | refine a_pick_f ?_ | refine a_not ?_ | refine a_nilf ?_ | (refine a_bin ?_ ?_ <;> intro _ <;> try (exfalso; omega)) | refine a_ld hl ?_ | (refine a_st hl ?_; clear hl; intro _ hl) | refine a_ix (fun _ => ?_) | refine a_row hrp ?_ | fail)
      refine o_nil (hK2 _ _ ?_)
      clear hK2 K2
      refine wk_cond_t rfl ?_
      refine wk_seq fun K2 hK2 => ?_
      refine wk_quiet (List.range 11) ?_
      repeat' (first | refine q_mov ?_ | refine q_asg ?_ | refine q_fa ?_ | refine q_ext ?_ | refine q_binN ?_ | refine q_notd ?_ | refine q_notb ?_ | refine q_pick_t ?_ | refine q_pick_f ?_ | refine q_nilc ?_ | refine q_skip ?_ | refine q_lens ?_ | refine q_lenv ?_ | refine q_nil ?_ | refine q_ix (fun _ => ?_) | (refine q_bin ?_ ?_ <;> intro _ <;> try (exfalso; omega)) | refine q_row (fun w_ hw_ => hrp.ext hw_) ?_ | fail)
      intro w8 hx8
      refine hK2 _ _ ?_
      refine wk_ret (retQ_res [.slice none 0 0, .int .i64 s9.er, .int .i64 s9.at_] rfl rfl ⟨by decide, rfl, by decide, rfl, by decide, rfl, trivial⟩ ?_)
      rw [hq]
      exact ⟨⟨_, rfl, Sl.nil _ _⟩, hx02.trans (hl.ext hx8).done⟩
end Go.Proofs
