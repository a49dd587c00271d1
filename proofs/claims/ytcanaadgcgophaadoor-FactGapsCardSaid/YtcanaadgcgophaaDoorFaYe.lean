/-
  The statement about gaps, walked.
-/
import Derived.Test.YtcanaadgcgophaaDoorFaX
import Derived.Test.YtcanaadgcgophaaDoorLC
set_option linter.unusedVariables false
set_option linter.unusedSimpArgs false
set_option linter.unnecessarySimpa false
set_option maxRecDepth 10000
namespace Go.Fac
open Go.Fo
open Go.Lexs (Tok lex Lx)
theorem like_dom {a b : List Fact ⊕ (Int × Int)} (h : PLike a b) : faO a = faO b ∧ erO a = erO b := by
  rcases a with a | ⟨e, p⟩ <;> rcases b with b | ⟨f, q⟩
  · rw [show _ = _ from h]; exact ⟨rfl, rfl⟩
  · exact h.elim
  · exact h.elim
  · exact ⟨rfl, h⟩
theorem like_case {a b : List Int ⊕ (Int × Int)} (h : PLike a b) : caO a = caO b ∧ erO a = erO b := by
  rcases a with a | ⟨e, p⟩ <;> rcases b with b | ⟨f, q⟩
  · rw [show _ = _ from h]; exact ⟨rfl, rfl⟩
  · exact h.elim
  · exact h.elim
  · exact ⟨rfl, h⟩
theorem feed_small {text : Tx} (hl : text.length ≤ 2000) {l : List Tok} (h : lex text = .ok l) : (feed l).length ≤ 4000 := by
  obtain ⟨l0, hx, e⟩ : ∃ l0, Lx 0 text l0 none ∧ lex text = .ok l0 := by
    rcases Lexs.lex_cases text (by omega) with h1 | ⟨l1, e, p, -, h2⟩
    · exact h1
    · rw [h] at h2; cases h2
  rw [h] at e
  cases e
  have := feed_length hx
  omega
theorem faO_len (t : Tx) : (faO (parseD t)).length ≤ 60 := by
  cases hp : parseD t with
  | inl F => exact ((valid_iff F).1 (parseD_valid hp)).2.2
  | inr p => simp [faO]
theorem caO_len (F : List Fact) (t : Tx) (hF : F.length ≤ 9223372036854775806) : (caO (parseC F t)).length ≤ 9223372036854775806 := by
  cases hp : parseC F t with
  | inl c =>
    have := ((Fo.fitsC_iff F c).1 (fitsB_parts (parseC_fits hp)).2).1
    simp only [caO]
    omega
  | inr p => simp [caO]
end Go.Fac
namespace Go.Proofs
open Go Go.Pd Go.Fac Go.Fo
open Go.Lexs (Tok lex)
attribute [local irreducible] OpsL W RetQ OpsQ OpsC
def lexE (r : Lexs.Res) : Int := match r with
  | .bad e _ => e
  | .ok _ => 0
set_option maxHeartbeats 8000000 in
theorem Gaps_calls {F : List Fact} {dv : Value} {text other : Tx} {w : World} (ht : Tabs w) (hd : DomIn w F dv) :
    Calls Tryd.prog 8 #[.agg #[dv], str text, str other] w (fun e w' => ∃ v, e = .returned v ∧ v = .bool true ∧ Ext w w') := by
  obtain ⟨da, dc, rfl⟩ := hd.shape
  refine calls_of Tryd.func8 rfl Tryd.ntmps8 rfl ?_
  refine wk_seq fun K hK => ?_
  refine wk_reg ?_
  refine o_box (LH.start w (fun _ => False)) [.slice da F.length dc] rfl rfl rfl ?_
  intro b3 w2 hb3 hl
  have hrd : Row w2 b3 0 [.slice da F.length dc] := hl.rowL (vs := [.slice da F.length dc]) 0 0 1 rfl
  have hx2 := hl.done
  clear hl
  refine a_asg ?_
  refine o_nil (hK _ _ ?_)
  clear hK K
  refine wk_seq fun K hK => ?_
  refine wk_reg ?_
  refine a_fn (head_calls (ht.ext hx2)) ?_
  rintro _ w3 ⟨rfl, hx3⟩
  refine a_asg ?_
  refine o_nil (hK _ _ ?_)
  clear hK K
  have hx := hx2.trans hx3
  replace hd := hd.ext hx
  replace hrd := hrd.ext hx3
  clear hx2 hx3 ht
  have hF := hd.n
  have hFn := hd.m
  refine wk_seq fun K hK => ?_
  refine wk_seq fun K2 hK2 => ?_
  refine wk_reg ?_
  refine a_all hrd ?_
  refine a_fn (few_calls (c := []) hd.1 (Sl.nil _ _) hF (by simp) hFn) ?_
  rintro _ w4 ⟨rfl, hx4⟩
  cases hfa : (fewD F 70 && decide ([].length ≤ 70))
  · repeat' (first | refine a_mov ?_ | refine a_asg ?_ | refine a_binN ?_ | refine a_notd ?_ | refine a_notb ?_ | refine a_nilc ?_ | refine a_fa ?_ | refine a_ext ?_ | refine a_lenv ?_ | refine a_lens ?_ | refine a_pick_t ?_ | refine a_pick_f ?_ | refine a_not ?_ | refine a_nilf ?_ | (refine a_bin ?_ ?_ <;> intro _ <;> try (exfalso; omega)) | refine a_ld hl ?_ | (refine a_st hl ?_; clear hl; intro _ hl) | refine a_ix (fun _ => ?_) | fail)
    refine o_nil (hK2 _ _ ?_)
    clear hK2 K2
    refine wk_cond_t rfl ?_
    refine wk_seq fun K2 hK2 => ?_
    refine wk_reg ?_
    repeat' (first | refine a_mov ?_ | refine a_asg ?_ | refine a_binN ?_ | refine a_notd ?_ | refine a_notb ?_ | refine a_nilc ?_ | refine a_fa ?_ | refine a_ext ?_ | refine a_lenv ?_ | refine a_lens ?_ | refine a_pick_t ?_ | refine a_pick_f ?_ | refine a_not ?_ | refine a_nilf ?_ | (refine a_bin ?_ ?_ <;> intro _ <;> try (exfalso; omega)) | refine a_ld hl ?_ | (refine a_st hl ?_; clear hl; intro _ hl) | refine a_ix (fun _ => ?_) | fail)
    refine o_nil (hK2 _ _ ?_)
    refine wk_ret (retQ_tmp1 Tryd.results8 (by decide) rfl (by conv => lhs; whnf) ?_)
    exact ⟨rfl, hx.trans hx4⟩
  by_cases hlong : text.length ≤ 2000 ∧ other.length ≤ 2000
  rotate_left
  · repeat' (first | refine a_mov ?_ | refine a_asg ?_ | refine a_binN ?_ | refine a_notd ?_ | refine a_notb ?_ | refine a_nilc ?_ | refine a_fa ?_ | refine a_ext ?_ | refine a_lenv ?_ | refine a_lens ?_ | refine a_pick_t ?_ | refine a_pick_f ?_ | refine a_not ?_ | refine a_nilf ?_ | (refine a_bin ?_ ?_ <;> intro _ <;> try (exfalso; omega)) | refine a_ld hl ?_ | (refine a_st hl ?_; clear hl; intro _ hl) | refine a_ix (fun _ => ?_) | fail)
    all_goals
      refine o_nil (hK2 _ _ ?_)
      clear hK2 K2
      refine wk_cond_t rfl ?_
      refine wk_seq fun K2 hK2 => ?_
      refine wk_reg ?_
      repeat' (first | refine a_mov ?_ | refine a_asg ?_ | refine a_binN ?_ | refine a_notd ?_ | refine a_notb ?_ | refine a_nilc ?_ | refine a_fa ?_ | refine a_ext ?_ | refine a_lenv ?_ | refine a_lens ?_ | refine a_pick_t ?_ | refine a_pick_f ?_ | refine a_not ?_ | refine a_nilf ?_ | (refine a_bin ?_ ?_ <;> intro _ <;> try (exfalso; omega)) | refine a_ld hl ?_ | (refine a_st hl ?_; clear hl; intro _ hl) | refine a_ix (fun _ => ?_) | fail)
      refine o_nil (hK2 _ _ ?_)
      refine wk_ret (retQ_tmp1 Tryd.results8 (by decide) rfl (by conv => lhs; whnf) ?_)
      exact ⟨rfl, hx.trans hx4⟩
  obtain ⟨htl, hol⟩ := hlong
  repeat' (first | refine a_mov ?_ | refine a_asg ?_ | refine a_binN ?_ | refine a_notd ?_ | refine a_notb ?_ | refine a_nilc ?_ | refine a_fa ?_ | refine a_ext ?_ | refine a_lenv ?_ | refine a_lens ?_ | refine a_pick_t ?_ | refine a_pick_f ?_ | refine a_not ?_ | refine a_nilf ?_ | (refine a_bin ?_ ?_ <;> intro _ <;> try (exfalso; omega)) | refine a_ld hl ?_ | (refine a_st hl ?_; clear hl; intro _ hl) | refine a_ix (fun _ => ?_) | fail)
  refine o_nil (hK2 _ _ ?_)
  clear hK2 K2 hfa
  refine wk_cond_f rfl ?_
  refine wk_skip (hK _ _ ?_)
  clear hK K
  replace hd := hd.ext hx4
  replace hrd := hrd.ext hx4
  replace hx := hx.trans hx4
  clear hx4
  refine wk_seq fun K hK => ?_
  refine wk_cut [] (fun q : Value => [(1, str text), (2, str other), (3, .pointer (some ⟨b3, 0, none⟩)), (7, .bool true), (8, q), (9, .int .i64 (lexE (lex text)))]) (fun q w' => Ext w4 w' ∧ ∀ ts, lex text = .ok ts → Sl w' q 4 (toksL ts)) ?_ ?_
  · refine wk_reg ?_
    refine a_mov ?_
    refine a_fn (lex_calls text w4) ?_
    rintro v w5 ⟨hx5, hout⟩
    cases hlx : lex text with
    | bad e off =>
      rw [hlx] at hout
      obtain rfl := hout
      repeat' (first | refine a_mov ?_ | refine a_asg ?_ | refine a_binN ?_ | refine a_notd ?_ | refine a_notb ?_ | refine a_nilc ?_ | refine a_fa ?_ | refine a_ext ?_ | refine a_lenv ?_ | refine a_lens ?_ | refine a_pick_t ?_ | refine a_pick_f ?_ | refine a_not ?_ | refine a_nilf ?_ | (refine a_bin ?_ ?_ <;> intro _ <;> try (exfalso; omega)) | refine a_ld hl ?_ | (refine a_st hl ?_; clear hl; intro _ hl) | refine a_ix (fun _ => ?_) | fail)
      exact o_nil ⟨_, ⟨rfl, rfl, rfl, rfl, rfl, rfl, trivial⟩, rfl, hx5, fun ts h => nomatch h⟩
    | ok ts =>
      rw [hlx] at hout
      obtain ⟨sv, rfl, hsv⟩ := hout
      repeat' (first | refine a_mov ?_ | refine a_asg ?_ | refine a_binN ?_ | refine a_notd ?_ | refine a_notb ?_ | refine a_nilc ?_ | refine a_fa ?_ | refine a_ext ?_ | refine a_lenv ?_ | refine a_lens ?_ | refine a_pick_t ?_ | refine a_pick_f ?_ | refine a_not ?_ | refine a_nilf ?_ | (refine a_bin ?_ ?_ <;> intro _ <;> try (exfalso; omega)) | refine a_ld hl ?_ | (refine a_st hl ?_; clear hl; intro _ hl) | refine a_ix (fun _ => ?_) | fail)
      exact o_nil ⟨_, ⟨rfl, rfl, rfl, rfl, rfl, rfl, trivial⟩, rfl, hx5, fun ts2 h => by cases h; exact hsv⟩
  rintro lv t w5 ⟨hx5, hlv⟩
  refine hK _ _ ?_
  clear hK K
  replace hd := hd.ext hx5
  replace hrd := hrd.ext hx5
  replace hx := hx.trans hx5
  clear hx5
  refine wk_seq fun K hK => ?_
  refine wk_cut [] (fun q : Value => [(1, str text), (2, str other), (3, .pointer (some ⟨b3, 0, none⟩)), (7, .bool true), (8, lv), (9, .int .i64 (lexE (lex text))), (11, q), (12, .int .i64 (lexE (lex other)))]) (fun q w' => Ext w5 w' ∧ ∀ ts, lex other = .ok ts → Sl w' q 4 (toksL ts)) ?_ ?_
  · refine wk_reg ?_
    refine a_mov ?_
    refine a_fn (lex_calls other w5) ?_
    rintro v w6 ⟨hx6, hout⟩
    cases hlx : lex other with
    | bad e off =>
      rw [hlx] at hout
      obtain rfl := hout
      repeat' (first | refine a_mov ?_ | refine a_asg ?_ | refine a_binN ?_ | refine a_notd ?_ | refine a_notb ?_ | refine a_nilc ?_ | refine a_fa ?_ | refine a_ext ?_ | refine a_lenv ?_ | refine a_lens ?_ | refine a_pick_t ?_ | refine a_pick_f ?_ | refine a_not ?_ | refine a_nilf ?_ | (refine a_bin ?_ ?_ <;> intro _ <;> try (exfalso; omega)) | refine a_ld hl ?_ | (refine a_st hl ?_; clear hl; intro _ hl) | refine a_ix (fun _ => ?_) | fail)
      exact o_nil ⟨_, ⟨rfl, rfl, rfl, rfl, rfl, rfl, rfl, rfl, trivial⟩, rfl, hx6, fun ts h => nomatch h⟩
    | ok ts =>
      rw [hlx] at hout
      obtain ⟨sv, rfl, hsv⟩ := hout
      repeat' (first | refine a_mov ?_ | refine a_asg ?_ | refine a_binN ?_ | refine a_notd ?_ | refine a_notb ?_ | refine a_nilc ?_ | refine a_fa ?_ | refine a_ext ?_ | refine a_lenv ?_ | refine a_lens ?_ | refine a_pick_t ?_ | refine a_pick_f ?_ | refine a_not ?_ | refine a_nilf ?_ | (refine a_bin ?_ ?_ <;> intro _ <;> try (exfalso; omega)) | refine a_ld hl ?_ | (refine a_st hl ?_; clear hl; intro _ hl) | refine a_ix (fun _ => ?_) | fail)
      exact o_nil ⟨_, ⟨rfl, rfl, rfl, rfl, rfl, rfl, rfl, rfl, trivial⟩, rfl, hx6, fun ts2 h => by cases h; exact hsv⟩
  rintro mv t2 w6 ⟨hx6, hmv⟩
  refine hK _ _ ?_
  clear hK K
  replace hd := hd.ext hx6
  replace hrd := hrd.ext hx6
  replace hx := hx.trans hx6
  replace hlv := fun ts h => (hlv ts h).ext hx6
  clear hx6
  refine wk_seq fun K hK => ?_
  refine wk_cut [] (fun _ : Unit => [(2, str other), (3, .pointer (some ⟨b3, 0, none⟩)), (7, .bool true), (11, mv), (12, .int .i64 (lexE (lex other)))]) (fun _ w' => Ext w6 w') ?_ ?_
  · refine wk_seq fun K2 hK2 => ?_
    refine wk_reg ?_
    cases hlx : lex text with
    | bad e off =>
      have hne : ((e : Nat) : Int) ≠ 0 := by have := lex_ne hlx; omega
      rw [show lexE (Lexs.Res.bad e off) = (e : Int) from rfl]
      repeat' (first | refine a_mov ?_ | refine a_asg ?_ | refine a_binN ?_ | refine a_notd ?_ | refine a_notb ?_ | refine a_nilc ?_ | refine a_fa ?_ | refine a_ext ?_ | refine a_lenv ?_ | refine a_lens ?_ | refine a_pick_t ?_ | refine a_pick_f ?_ | refine a_not ?_ | refine a_nilf ?_ | (refine a_bin ?_ ?_ <;> intro _ <;> try (exfalso; omega)) | refine a_ld hl ?_ | (refine a_st hl ?_; clear hl; intro _ hl) | refine a_ix (fun _ => ?_) | fail)
      refine o_nil (hK2 _ _ ?_)
      clear hK2 K2
      refine wk_cond_f rfl ?_
      exact wk_skip ⟨(), ⟨rfl, rfl, rfl, rfl, rfl, trivial⟩, rfl, .refl _ _⟩
    | ok ts =>
      have hsv := hlv ts hlx
      obtain ⟨la, lm, lc, rfl⟩ := sl_is hsv
      obtain ⟨htok, hlen⟩ := lex_tok hlx
      have hfs := feed_small htl hlx
      obtain ⟨hsame, herr⟩ := like_dom (parseD_feed htl hlx)
      have h60 := faO_len text
      have h60b := faO_len (feed ts)
      rw [show lexE (Lexs.Res.ok ts) = 0 from rfl]
      repeat' (first | refine a_mov ?_ | refine a_asg ?_ | refine a_binN ?_ | refine a_notd ?_ | refine a_notb ?_ | refine a_nilc ?_ | refine a_fa ?_ | refine a_ext ?_ | refine a_lenv ?_ | refine a_lens ?_ | refine a_pick_t ?_ | refine a_pick_f ?_ | refine a_not ?_ | refine a_nilf ?_ | (refine a_bin ?_ ?_ <;> intro _ <;> try (exfalso; omega)) | refine a_ld hl ?_ | (refine a_st hl ?_; clear hl; intro _ hl) | refine a_ix (fun _ => ?_) | fail)
      refine o_nil (hK2 _ _ ?_)
      clear hK2 K2
      refine wk_cond_t rfl ?_
      refine wk_seq fun K2 hK2 => ?_
      refine wk_reg ?_
      refine a_mov ?_
      refine a_fn (parseD_calls2 text w6) ?_
      rintro _ w7 ⟨⟨xv, rfl, hxv⟩, hx7⟩
      obtain ⟨xa, xm, xc, rfl⟩ := sl_is hxv
      refine a_mov ?_
      refine a_ext ?_
      refine a_ext ?_
      refine a_ext ?_
      refine o_alloc (LH.start w7 (fun _ => False)) [.slice none 0 0] rfl rfl ?_
      intro b14 wa_ hb_ hl
      refine o_putN (us := [.slice xa xm xc]) hl rfl rfl rfl rfl rfl (.here rfl rfl) ?_
      clear hl
      intro w8 hl
      have hx8 := hl.done
      have hr14 : Row w8 b14 0 [.slice xa xm xc] := hl.rowL (vs := [.slice xa xm xc]) 0 0 1 rfl
      clear hl
      refine a_asg ?_
      refine a_asg ?_
      refine o_nil (hK2 _ _ ?_)
      clear hK2 K2
      refine wk_seq fun K2 hK2 => ?_
      refine wk_reg ?_
      refine a_mov ?_
      refine a_fn (apart_calls ((hsv.ext hx7).ext hx8) (by omega) (by omega)) ?_
      rintro _ w9 ⟨rfl, hx9⟩
      refine a_fn (parseD_calls2 (feed ts) w9) ?_
      rintro _ w10 ⟨⟨yv, rfl, hyv⟩, hx10⟩
      obtain ⟨ya, ym, yc, rfl⟩ := sl_is hyv
      refine a_mov ?_
      refine a_ext ?_
      refine a_ext ?_
      refine a_ext ?_
      refine o_alloc (LH.start w10 (fun _ => False)) [.slice none 0 0] rfl rfl ?_
      intro b17 wa_ hb_ hl
      refine o_putN (us := [.slice ya ym yc]) hl rfl rfl rfl rfl rfl (.here rfl rfl) ?_
      clear hl
      intro w11 hl
      have hx11 := hl.done
      have hr17 : Row w11 b17 0 [.slice ya ym yc] := hl.rowL (vs := [.slice ya ym yc]) 0 0 1 rfl
      clear hl
      refine a_asg ?_
      refine a_asg ?_
      refine o_nil (hK2 _ _ ?_)
      clear hK2 K2
      have hx811 := (hx9.trans hx10).trans hx11
      replace hr14 := hr14.ext hx811
      replace hxv := (hxv.ext hx8).ext hx811
      replace hyv := hyv.ext hx11
      have hx611 := (hx7.trans hx8).trans hx811
      refine wk_seq fun K2 hK2 => ?_
      refine wk_reg ?_
      rw [← herr]
      repeat' (first | refine a_mov ?_ | refine a_asg ?_ | refine a_binN ?_ | refine a_notd ?_ | refine a_notb ?_ | refine a_nilc ?_ | refine a_fa ?_ | refine a_ext ?_ | refine a_lenv ?_ | refine a_lens ?_ | refine a_pick_t ?_ | refine a_pick_f ?_ | refine a_not ?_ | refine a_nilf ?_ | (refine a_bin ?_ ?_ <;> intro _ <;> try (exfalso; omega)) | refine a_ld hl ?_ | (refine a_st hl ?_; clear hl; intro _ hl) | refine a_ix (fun _ => ?_) | refine a_all hr14 ?_ | refine a_all hr17 ?_ | fail)
      refine a_fn (same_calls hxv hyv (by omega) (by omega)) ?_
      rintro _ w12 ⟨rfl, hx12⟩
      rw [decide_eq_true hsame]
      repeat' (first | refine a_mov ?_ | refine a_asg ?_ | refine a_binN ?_ | refine a_notd ?_ | refine a_notb ?_ | refine a_nilc ?_ | refine a_fa ?_ | refine a_ext ?_ | refine a_lenv ?_ | refine a_lens ?_ | refine a_pick_t ?_ | refine a_pick_f ?_ | refine a_not ?_ | refine a_nilf ?_ | (refine a_bin ?_ ?_ <;> intro _ <;> try (exfalso; omega)) | refine a_ld hl ?_ | (refine a_st hl ?_; clear hl; intro _ hl) | refine a_ix (fun _ => ?_) | fail)
      refine o_nil (hK2 _ _ ?_)
      clear hK2 K2
      refine wk_cond_f rfl ?_
      exact wk_skip ⟨(), ⟨rfl, rfl, rfl, rfl, rfl, trivial⟩, rfl, hx611.trans hx12⟩
  rintro _ t3 w7 hx7
  refine hK _ _ ?_
  clear hK K hlv
  replace hd := hd.ext hx7
  replace hrd := hrd.ext hx7
  replace hx := hx.trans hx7
  replace hmv := fun ts h => (hmv ts h).ext hx7
  clear hx7
  refine wk_seq fun K hK => ?_
  refine wk_seq fun K2 hK2 => ?_
  refine wk_reg ?_
  cases hlx : lex other with
  | bad e off =>
    have hne : ((e : Nat) : Int) ≠ 0 := by have := lex_ne hlx; omega
    rw [show lexE (Lexs.Res.bad e off) = (e : Int) from rfl]
    repeat' (first | refine a_mov ?_ | refine a_asg ?_ | refine a_binN ?_ | refine a_notd ?_ | refine a_notb ?_ | refine a_nilc ?_ | refine a_fa ?_ | refine a_ext ?_ | refine a_lenv ?_ | refine a_lens ?_ | refine a_pick_t ?_ | refine a_pick_f ?_ | refine a_not ?_ | refine a_nilf ?_ | (refine a_bin ?_ ?_ <;> intro _ <;> try (exfalso; omega)) | refine a_ld hl ?_ | (refine a_st hl ?_; clear hl; intro _ hl) | refine a_ix (fun _ => ?_) | fail)
    refine o_nil (hK2 _ _ ?_)
    clear hK2 K2
    refine wk_cond_t rfl ?_
    refine wk_seq fun K2 hK2 => ?_
    refine wk_reg ?_
    repeat' (first | refine a_mov ?_ | refine a_asg ?_ | refine a_binN ?_ | refine a_notd ?_ | refine a_notb ?_ | refine a_nilc ?_ | refine a_fa ?_ | refine a_ext ?_ | refine a_lenv ?_ | refine a_lens ?_ | refine a_pick_t ?_ | refine a_pick_f ?_ | refine a_not ?_ | refine a_nilf ?_ | (refine a_bin ?_ ?_ <;> intro _ <;> try (exfalso; omega)) | refine a_ld hl ?_ | (refine a_st hl ?_; clear hl; intro _ hl) | refine a_ix (fun _ => ?_) | fail)
    refine o_nil (hK2 _ _ ?_)
    refine wk_ret (retQ_tmp1 Tryd.results8 (by decide) rfl (by conv => lhs; whnf) ?_)
    exact ⟨rfl, hx⟩
  | ok ts =>
    have hsv := hmv ts hlx
    obtain ⟨la, lm, lc, rfl⟩ := sl_is hsv
    obtain ⟨htok, hlen⟩ := lex_tok hlx
    have hfs := feed_small hol hlx
    obtain ⟨hsame, herr⟩ := like_case (parseC_feed (F := F) hol hlx)
    have hca := caO_len F other hF
    have hcb := caO_len F (feed ts) hF
    rw [show lexE (Lexs.Res.ok ts) = 0 from rfl]
    repeat' (first | refine a_mov ?_ | refine a_asg ?_ | refine a_binN ?_ | refine a_notd ?_ | refine a_notb ?_ | refine a_nilc ?_ | refine a_fa ?_ | refine a_ext ?_ | refine a_lenv ?_ | refine a_lens ?_ | refine a_pick_t ?_ | refine a_pick_f ?_ | refine a_not ?_ | refine a_nilf ?_ | (refine a_bin ?_ ?_ <;> intro _ <;> try (exfalso; omega)) | refine a_ld hl ?_ | (refine a_st hl ?_; clear hl; intro _ hl) | refine a_ix (fun _ => ?_) | fail)
    refine o_nil (hK2 _ _ ?_)
    clear hK2 K2
    refine wk_cond_f rfl ?_
    refine wk_skip (hK _ _ ?_)
    clear hK K
    refine wk_seq fun K hK => ?_
    refine wk_reg ?_
    refine a_all hrd ?_
    refine a_mov ?_
    refine a_fn (parseC_calls2 hd.1 hF hFn other) ?_
    rintro _ w8 ⟨⟨xv, rfl, hxv⟩, hx8⟩
    obtain ⟨xa, xm, xc, rfl⟩ := sl_is hxv
    repeat' (first | refine a_mov ?_ | refine a_asg ?_ | refine a_binN ?_ | refine a_notd ?_ | refine a_notb ?_ | refine a_nilc ?_ | refine a_fa ?_ | refine a_ext ?_ | refine a_lenv ?_ | refine a_lens ?_ | refine a_pick_t ?_ | refine a_pick_f ?_ | refine a_not ?_ | refine a_nilf ?_ | (refine a_bin ?_ ?_ <;> intro _ <;> try (exfalso; omega)) | refine a_ld hl ?_ | (refine a_st hl ?_; clear hl; intro _ hl) | refine a_ix (fun _ => ?_) | fail)
    refine o_nil (hK _ _ ?_)
    clear hK K
    replace hd := hd.ext hx8
    replace hrd := hrd.ext hx8
    replace hx := hx.trans hx8
    replace hsv := hsv.ext hx8
    clear hx8
    have hap : ∀ w_, Ext w8 w_ → Calls Tryd.prog 33 #[.slice la lm lc] w_ (fun e w' => ∃ x, e = .returned x ∧ x = str (feed ts) ∧ Ext w_ w') := fun w_ hx_ => apart_calls (hsv.ext hx_) (by omega) (by omega)
    refine wk_seq fun K hK => ?_
    refine wk_drawP [0, 1, 2] [] [3] [4, 5, 6, 7, 8, 9, 10] [] (fun w' => Ext w8 w') (fun _ => True) rfl (by kernel_rfl) (by intro _ _ _ _ h; first | exact h | (simp only [BlockK, NoGoto, RetQ] at h)) (fun _ h => Upd.of_heap h) (fun _ _ => trivial) ?_
    repeat' (first | refine q_mov ?_ | refine q_asg ?_ | refine q_fa ?_ | refine q_ext ?_ | refine q_binN ?_ | refine q_notd ?_ | refine q_notb ?_ | refine q_pick_t ?_ | refine q_pick_f ?_ | refine q_nilc ?_ | refine q_skip ?_ | refine q_lens ?_ | refine q_lenv ?_ | refine q_nil ?_ | refine q_ix (fun _ => ?_) | (refine q_bin ?_ ?_ <;> intro _ <;> try (exfalso; omega)) | refine q_all (fun w_ hw_ => hrd.ext hw_) ?_ | refine q_fn hap ?_ | fail)
    intro w9 hx9
    refine opsD_tail rfl rfl ?_
    refine a_fn (parseC_calls2 (hd.1.ext hx9) hF hFn (feed ts)) ?_
    rintro _ w10 ⟨⟨yv, rfl, hyv⟩, hx10⟩
    obtain ⟨ya, ym, yc, rfl⟩ := sl_is hyv
    refine o_nil ⟨.inl trivial, ?_⟩
    refine opsD_nil ?_
    unfold PostQ
    repeat' (first | refine q_mov ?_ | refine q_asg ?_ | refine q_fa ?_ | refine q_ext ?_ | refine q_binN ?_ | refine q_notd ?_ | refine q_notb ?_ | refine q_pick_t ?_ | refine q_pick_f ?_ | refine q_nilc ?_ | refine q_skip ?_ | refine q_lens ?_ | refine q_lenv ?_ | refine q_nil ?_ | refine q_ix (fun _ => ?_) | (refine q_bin ?_ ?_ <;> intro _ <;> try (exfalso; omega)) | fail)
    refine hK _ _ ?_
    clear hK K
    have hxx := hx9.trans hx10
    refine wk_seq fun K hK => ?_
    refine wk_reg ?_
    rw [← herr]
    repeat' (first | refine a_mov ?_ | refine a_asg ?_ | refine a_binN ?_ | refine a_notd ?_ | refine a_notb ?_ | refine a_nilc ?_ | refine a_fa ?_ | refine a_ext ?_ | refine a_lenv ?_ | refine a_lens ?_ | refine a_pick_t ?_ | refine a_pick_f ?_ | refine a_not ?_ | refine a_nilf ?_ | (refine a_bin ?_ ?_ <;> intro _ <;> try (exfalso; omega)) | refine a_ld hl ?_ | (refine a_st hl ?_; clear hl; intro _ hl) | refine a_ix (fun _ => ?_) | fail)
    refine a_fn (equal_calls (hxv.ext hxx) hyv hca hcb) ?_
    rintro _ w11 ⟨rfl, hx11⟩
    rw [decide_eq_true hsame]
    repeat' (first | refine a_mov ?_ | refine a_asg ?_ | refine a_binN ?_ | refine a_notd ?_ | refine a_notb ?_ | refine a_nilc ?_ | refine a_fa ?_ | refine a_ext ?_ | refine a_lenv ?_ | refine a_lens ?_ | refine a_pick_t ?_ | refine a_pick_f ?_ | refine a_not ?_ | refine a_nilf ?_ | (refine a_bin ?_ ?_ <;> intro _ <;> try (exfalso; omega)) | refine a_ld hl ?_ | (refine a_st hl ?_; clear hl; intro _ hl) | refine a_ix (fun _ => ?_) | fail)
    refine o_nil (hK _ _ ?_)
    refine wk_ret (retQ_tmp1 Tryd.results8 (by decide) rfl (by conv => lhs; whnf) ?_)
    exact ⟨rfl, (hx.trans hxx).trans hx11⟩
end Go.Proofs
