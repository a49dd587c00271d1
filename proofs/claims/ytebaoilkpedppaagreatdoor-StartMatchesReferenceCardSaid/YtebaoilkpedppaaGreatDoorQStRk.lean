/-
  The statement about the reference, walked.
-/
import Derived.Test.YtebaoilkpedppaaGreatDoorQStRf
import Derived.Test.YtebaoilkpedppaaGreatDoorQStRg
import Derived.Test.YtebaoilkpedppaaGreatDoorQStRh
import Derived.Test.YtebaoilkpedppaaGreatDoorQStRi
import Derived.Test.YtebaoilkpedppaaGreatDoorQStRj
set_option linter.unusedVariables false
set_option linter.unusedSimpArgs false
set_option linter.unnecessarySimpa false
set_option maxRecDepth 10000
namespace Go.Sta
theorem names_len (s : Sn) : (names s).length ≤ 1000 := by
  unfold names
  cases hv : validB s
  · simp
  · rw [if_pos rfl]
    have h1 := nms_len s []
    unfold validB at hv
    rw [decide_eq_true_eq] at hv
    have h2 := hv.1
    simp at h1
    omega
def txO (s : Sn) : Tx := if validB s then textS s else []
def teO (s : Sn) : Int := if validB s then 0 else 1
end Go.Sta
namespace Go.Proofs
open Go Go.Pd Go.Sta
open Go.Lexs (Tok lex)
attribute [local irreducible] OpsL W RetQ OpsQ OpsC
theorem tx_val (s : Sn) : (if validB s then (.tuple #[str (textS s), .int .i64 0] : Value) else .tuple #[str [], .int .i64 1]) = .tuple #[str (txO s), .int .i64 (teO s)] := by
  unfold txO teO
  cases validB s <;> rfl
theorem Text3_calls {s : Sn} {w : World} {kv : Value} (hk : KA w s.kids kv) (hfit : fitS s) (ht : Tabs w) : Calls Tryz.prog 10 #[.agg (snL s kv).toArray] w (fun e w' => ∃ v, e = .returned v ∧ v = .tuple #[str (txO s), .int .i64 (teO s)] ∧ Ext w w') := by
  have := Text_calls hk hfit ht
  rw [tx_val] at this
  exact this
theorem TextR3_calls {s : Sn} {w : World} {kv : Value} (hd : dep s ≤ 1000000) (hfit : fitS s) (hk : KA w s.kids kv) : Calls Tryz.prog 17 #[.agg (snL s kv).toArray] w (fun e w' => ∃ v, e = .returned v ∧ v = .tuple #[str (txO s), .int .i64 (teO s)] ∧ Ext w w') := by
  have := TextR_calls hd hfit hk
  rw [tx_val] at this
  exact this
theorem parse3_calls (text : Tx) (w : World) : Calls Tryz.prog 12 #[str text] w (fun e w' => ∃ v, e = .returned v ∧ ∃ kv, v = .tuple #[.agg (snL (snO (parse text)) kv).toArray, .int .i64 (erO (parse text)), .int .i64 (atO (parse text))] ∧ KA w' (snO (parse text)).kids kv ∧ Ext w w') := by
  refine Calls.mono (parse_calls text w) ?_
  rintro e w' ⟨v, he, hx, hv⟩
  cases hp : parse text with
  | inl s =>
    rw [hp] at hv
    obtain ⟨kv, rfl, hk⟩ := hv
    exact ⟨_, he, kv, rfl, hk.mono fun b hb => hb.2, hx⟩
  | inr p =>
    obtain ⟨e2, a2⟩ := p
    rw [hp] at hv
    exact ⟨_, he, .slice none 0 0, hv, KA.nil _, hx⟩
theorem names3_calls {s : Sn} {w : World} {kv : Value} (hk : KA w s.kids kv) (hfit : fitS s) : Calls Tryz.prog 15 #[.agg (snL s kv).toArray] w (fun e w' => ∃ x, e = .returned x ∧ Sl w' x 1 (strL (names s)) ∧ Ext w w') := by
  refine Calls.mono (names_calls hk hfit) ?_
  rintro e w' ⟨v, he, acc, hl, ha⟩
  exact ⟨v, he, LH.acc_sl (l := []) hl ha, hl.done⟩
theorem namesR3_calls {s : Sn} {w : World} {kv : Value} (hd : dep s ≤ 1000000) (hk : KA w s.kids kv) (hfit : fitS s) : Calls Tryz.prog 23 #[.agg (snL s kv).toArray] w (fun e w' => ∃ x, e = .returned x ∧ Sl w' x 1 (strL (names s)) ∧ Ext w w') := by
  refine Calls.mono (NamesR_calls hd hfit hk) ?_
  rintro e w' ⟨v, he, acc, hl, ha⟩
  exact ⟨v, he, LH.acc_sl (l := []) hl ha, hl.done⟩
set_option maxHeartbeats 8000000 in
theorem Matches_calls {a b : Sn} {E : Env} {text : Tx} {av bv hv lv : Value} {w : World} (ht : Tabs w) (ha : SnIn w a av) (hb : SnIn w b bv) (hH : HapIn w E.h hv) (hL : StuIn w E.l lv) :
    Calls Tryz.prog 7 #[.agg (snL a av).toArray, .agg (snL b bv).toArray, .int .i64 E.day, hv, .int .i64 E.known, lv, str text] w (fun e w' => ∃ v, e = .returned v ∧ v = .bool true ∧ Ext w w') := by
  obtain ⟨hka, hfa⟩ := ha
  obtain ⟨hkb, hfb⟩ := hb
  obtain ⟨aa, ac, rfl, -⟩ := hka.shape
  obtain ⟨ba, bc, rfl, -⟩ := hkb.shape
  obtain ⟨xa, xc, rfl, -⟩ := hH.1.shape (flat_length hapL_len E.h) (by omega)
  obtain ⟨ya, yc, rfl, -⟩ := hL.1.shape (flat_length stuL_len E.l) (by omega)
  refine calls_of Tryz.func7 rfl Tryz.ntmps7 rfl ?_
  refine wk_seq fun K hK => ?_
  refine wk_reg ?_
  refine o_box (LH.start w (fun _ => False)) (snL a (.slice aa a.kids.length ac)) rfl rfl rfl ?_
  intro b7 w1 hb7 hl
  refine o_box hl (snL b (.slice ba b.kids.length bc)) rfl rfl rfl ?_
  clear hl
  intro b8 w2 hb8 hl
  have hra : Row w2 b7 0 (snL a (.slice aa a.kids.length ac)) := hl.rowL (vs := snL a (.slice aa a.kids.length ac)) 1 0 4 rfl
  have hrb : Row w2 b8 0 (snL b (.slice ba b.kids.length bc)) := hl.rowL (vs := snL b (.slice ba b.kids.length bc)) 0 0 4 rfl
  have hx2 := hl.done
  clear hl
  refine a_asg ?_
  refine o_nil (hK _ _ ?_)
  clear hK K
  refine wk_seq fun K hK => ?_
  refine wk_reg ?_
  refine a_fn (head_calls (ht.ext hx2)) ?_
  rintro _ w3 ⟨rfl, hx3⟩
  refine a_asg ?_
  refine o_nil (hK _ _ ?_)
  clear hK K
  have hx3' := hx2.trans hx3
  replace hra := hra.ext hx3
  replace hrb := hrb.ext hx3
  clear hx2 hx3
  --@@
  refine wk_seq fun K hK => ?_
  refine wk_cut [] (fun _ : Unit => [(2, .int .i64 E.day), (3, .slice xa E.h.length xc), (4, .int .i64 E.known), (5, .slice ya E.l.length yc), (6, str text), (7, .pointer (some ⟨b7, 0, none⟩)), (8, .pointer (some ⟨b8, 0, none⟩)), (15, .bool true)]) (fun _ w' => (Small 30 a ∧ text.length ≤ 3000 ∧ E.h.length ≤ 30 ∧ E.l.length ≤ 30) ∧ Ext w3 w') ?_ ?_
  · refine wk_seq fun K2 hK2 => ?_
    refine wk_reg ?_
    refine a_all hra ?_
    refine a_mov ?_
    refine a_mov ?_
    refine a_fn (few2_calls (hka.ext hx3')) ?_
    rintro _ w4 ⟨bf, rfl, hf, hx4⟩
    cases bf
    · repeat' (first | refine a_mov ?_ | refine a_asg ?_ | refine a_binN ?_ | refine a_notd ?_ | refine a_notb ?_ | refine a_nilc ?_ | refine a_fa ?_ | refine a_ext ?_ | refine a_lenv ?_ | refine a_lens ?_ | refine a_pick_t ?_ | refine a_pick_f ?_ | refine a_not ?_ | refine a_nilf ?_ | (refine a_bin ?_ ?_ <;> intro _ <;> try (exfalso; omega)) | refine a_ld hl ?_ | (refine a_st hl ?_; clear hl; intro _ hl) | refine a_ix (fun _ => ?_) | fail)
      refine o_nil (hK2 _ _ ?_)
      clear hK2 K2
      refine wk_cond_t rfl ?_
      refine wk_seq fun K2 hK2 => ?_
      refine wk_reg ?_
      repeat' (first | refine a_mov ?_ | refine a_asg ?_ | refine a_binN ?_ | refine a_notd ?_ | refine a_notb ?_ | refine a_nilc ?_ | refine a_fa ?_ | refine a_ext ?_ | refine a_lenv ?_ | refine a_lens ?_ | refine a_pick_t ?_ | refine a_pick_f ?_ | refine a_not ?_ | refine a_nilf ?_ | (refine a_bin ?_ ?_ <;> intro _ <;> try (exfalso; omega)) | refine a_ld hl ?_ | (refine a_st hl ?_; clear hl; intro _ hl) | refine a_ix (fun _ => ?_) | fail)
      refine o_nil (hK2 _ _ ?_)
      refine wk_ret (retQ_tmp1 Tryz.results7 (by decide) rfl (by conv => lhs; whnf) ?_)
      exact ⟨rfl, hx3'.trans hx4⟩
    · repeat' (first | refine a_mov ?_ | refine a_asg ?_ | refine a_binN ?_ | refine a_notd ?_ | refine a_notb ?_ | refine a_nilc ?_ | refine a_fa ?_ | refine a_ext ?_ | refine a_lenv ?_ | refine a_lens ?_ | refine a_pick_t ?_ | refine a_pick_f ?_ | refine a_not ?_ | refine a_nilf ?_ | (refine a_bin ?_ ?_ <;> intro _ <;> try (exfalso; omega)) | refine a_ld hl ?_ | (refine a_st hl ?_; clear hl; intro _ hl) | refine a_ix (fun _ => ?_) | fail)
      refine a_all (hrb.ext hx4) ?_
      refine a_fn (few2_calls ((hkb.ext hx3').ext hx4)) ?_
      rintro _ w5 ⟨bg, rfl, hg, hx5⟩
      cases bg
      · repeat' (first | refine a_mov ?_ | refine a_asg ?_ | refine a_binN ?_ | refine a_notd ?_ | refine a_notb ?_ | refine a_nilc ?_ | refine a_fa ?_ | refine a_ext ?_ | refine a_lenv ?_ | refine a_lens ?_ | refine a_pick_t ?_ | refine a_pick_f ?_ | refine a_not ?_ | refine a_nilf ?_ | (refine a_bin ?_ ?_ <;> intro _ <;> try (exfalso; omega)) | refine a_ld hl ?_ | (refine a_st hl ?_; clear hl; intro _ hl) | refine a_ix (fun _ => ?_) | fail)
        refine o_nil (hK2 _ _ ?_)
        clear hK2 K2
        refine wk_cond_t rfl ?_
        refine wk_seq fun K2 hK2 => ?_
        refine wk_reg ?_
        repeat' (first | refine a_mov ?_ | refine a_asg ?_ | refine a_binN ?_ | refine a_notd ?_ | refine a_notb ?_ | refine a_nilc ?_ | refine a_fa ?_ | refine a_ext ?_ | refine a_lenv ?_ | refine a_lens ?_ | refine a_pick_t ?_ | refine a_pick_f ?_ | refine a_not ?_ | refine a_nilf ?_ | (refine a_bin ?_ ?_ <;> intro _ <;> try (exfalso; omega)) | refine a_ld hl ?_ | (refine a_st hl ?_; clear hl; intro _ hl) | refine a_ix (fun _ => ?_) | fail)
        refine o_nil (hK2 _ _ ?_)
        refine wk_ret (retQ_tmp1 Tryz.results7 (by decide) rfl (by conv => lhs; whnf) ?_)
        exact ⟨rfl, (hx3'.trans hx4).trans hx5⟩
      · repeat' (first | refine a_mov ?_ | refine a_asg ?_ | refine a_binN ?_ | refine a_notd ?_ | refine a_notb ?_ | refine a_nilc ?_ | refine a_fa ?_ | refine a_ext ?_ | refine a_lenv ?_ | refine a_lens ?_ | refine a_pick_t ?_ | refine a_pick_f ?_ | refine a_not ?_ | refine a_nilf ?_ | (refine a_bin ?_ ?_ <;> intro _ <;> try (exfalso; omega)) | refine a_ld hl ?_ | (refine a_st hl ?_; clear hl; intro _ hl) | refine a_ix (fun _ => ?_) | fail)
        · refine o_nil (hK2 _ _ ?_)
          clear hK2 K2
          refine wk_cond_t rfl ?_
          refine wk_seq fun K2 hK2 => ?_
          refine wk_reg ?_
          repeat' (first | refine a_mov ?_ | refine a_asg ?_ | refine a_binN ?_ | refine a_notd ?_ | refine a_notb ?_ | refine a_nilc ?_ | refine a_fa ?_ | refine a_ext ?_ | refine a_lenv ?_ | refine a_lens ?_ | refine a_pick_t ?_ | refine a_pick_f ?_ | refine a_not ?_ | refine a_nilf ?_ | (refine a_bin ?_ ?_ <;> intro _ <;> try (exfalso; omega)) | refine a_ld hl ?_ | (refine a_st hl ?_; clear hl; intro _ hl) | refine a_ix (fun _ => ?_) | fail)
          refine o_nil (hK2 _ _ ?_)
          refine wk_ret (retQ_tmp1 Tryz.results7 (by decide) rfl (by conv => lhs; whnf) ?_)
          exact ⟨rfl, (hx3'.trans hx4).trans hx5⟩
        · refine o_nil (hK2 _ _ ?_)
          clear hK2 K2
          refine wk_cond_f rfl ?_
          exact wk_skip ⟨(), ⟨rfl, rfl, rfl, rfl, rfl, rfl, rfl, rfl, trivial⟩, rfl, ⟨(hf rfl).1, by omega, (hf rfl).2.1, (hf rfl).2.2⟩, hx4.trans hx5⟩
  rintro _ t w4 ⟨⟨hsm, hlong, hn30, hm30⟩, hx34⟩
  refine hK _ _ ?_
  clear hK K
  have hx4 := hx3'.trans hx34
  replace hra := hra.ext hx34
  replace hrb := hrb.ext hx34
  clear hx3' hx34
  have hda : dep a ≤ 1000000 := by
    have := small_dep hsm
    omega
  refine wk_seq fun K hK => ?_
  refine wk_reg ?_
  refine a_all hra ?_
  refine a_fn (Text3_calls (hka.ext hx4) hfa (ht.ext hx4)) ?_
  rintro _ w5 ⟨rfl, hx5⟩
  repeat' (first | refine a_mov ?_ | refine a_asg ?_ | refine a_binN ?_ | refine a_notd ?_ | refine a_notb ?_ | refine a_nilc ?_ | refine a_fa ?_ | refine a_ext ?_ | refine a_lenv ?_ | refine a_lens ?_ | refine a_pick_t ?_ | refine a_pick_f ?_ | refine a_not ?_ | refine a_nilf ?_ | (refine a_bin ?_ ?_ <;> intro _ <;> try (exfalso; omega)) | refine a_ld hl ?_ | (refine a_st hl ?_; clear hl; intro _ hl) | refine a_ix (fun _ => ?_) | fail)
  refine o_nil (hK _ _ ?_)
  clear hK K
  refine wk_seq fun K hK => ?_
  refine wk_reg ?_
  refine a_all (hra.ext hx5) ?_
  refine a_fn (TextR3_calls hda hfa ((hka.ext hx4).ext hx5)) ?_
  rintro _ w6 ⟨rfl, hx6⟩
  repeat' (first | refine a_mov ?_ | refine a_asg ?_ | refine a_binN ?_ | refine a_notd ?_ | refine a_notb ?_ | refine a_nilc ?_ | refine a_fa ?_ | refine a_ext ?_ | refine a_lenv ?_ | refine a_lens ?_ | refine a_pick_t ?_ | refine a_pick_f ?_ | refine a_not ?_ | refine a_nilf ?_ | (refine a_bin ?_ ?_ <;> intro _ <;> try (exfalso; omega)) | refine a_ld hl ?_ | (refine a_st hl ?_; clear hl; intro _ hl) | refine a_ix (fun _ => ?_) | fail)
  refine o_nil (hK _ _ ?_)
  clear hK K
  refine wk_seq fun K hK => ?_
  refine wk_reg ?_
  refine a_mov ?_
  refine a_fn (parse3_calls text w6) ?_
  rintro _ w7 ⟨kx, rfl, hkx, hx7⟩
  repeat' (first | refine a_mov ?_ | refine a_asg ?_ | refine a_binN ?_ | refine a_notd ?_ | refine a_notb ?_ | refine a_nilc ?_ | refine a_fa ?_ | refine a_ext ?_ | refine a_lenv ?_ | refine a_lens ?_ | refine a_pick_t ?_ | refine a_pick_f ?_ | refine a_not ?_ | refine a_nilf ?_ | (refine a_bin ?_ ?_ <;> intro _ <;> try (exfalso; omega)) | refine a_ld hl ?_ | (refine a_st hl ?_; clear hl; intro _ hl) | refine a_ix (fun _ => ?_) | fail)
  refine o_alloc (LH.start w7 (fun _ => False)) [.int .i64 0, .string "".toByteArray, .int .i64 0, .slice none 0 0] (by kernel_rfl) rfl ?_
  intro b20 w8 hb20 hl
  refine o_putN (us := snL (snO (parse text)) kx) hl rfl rfl rfl (snL_one hkx) rfl (.here rfl rfl) ?_
  clear hl
  intro w9 hl
  have hrx : Row w9 b20 0 (snL (snO (parse text)) kx) := hl.rowL (vs := snL (snO (parse text)) kx) 0 0 4 rfl
  have hx9 := hl.done
  clear hl
  repeat' (first | refine a_mov ?_ | refine a_asg ?_ | refine a_binN ?_ | refine a_notd ?_ | refine a_notb ?_ | refine a_nilc ?_ | refine a_fa ?_ | refine a_ext ?_ | refine a_lenv ?_ | refine a_lens ?_ | refine a_pick_t ?_ | refine a_pick_f ?_ | refine a_not ?_ | refine a_nilf ?_ | (refine a_bin ?_ ?_ <;> intro _ <;> try (exfalso; omega)) | refine a_ld hl ?_ | (refine a_st hl ?_; clear hl; intro _ hl) | refine a_ix (fun _ => ?_) | fail)
  refine o_nil (hK _ _ ?_)
  clear hK K
  refine wk_seq fun K hK => ?_
  refine wk_reg ?_
  refine a_mov ?_
  refine a_fn (parseR_calls hlong w9) ?_
  rintro _ w10 ⟨ky, rfl, hky, hx10⟩
  repeat' (first | refine a_mov ?_ | refine a_asg ?_ | refine a_binN ?_ | refine a_notd ?_ | refine a_notb ?_ | refine a_nilc ?_ | refine a_fa ?_ | refine a_ext ?_ | refine a_lenv ?_ | refine a_lens ?_ | refine a_pick_t ?_ | refine a_pick_f ?_ | refine a_not ?_ | refine a_nilf ?_ | (refine a_bin ?_ ?_ <;> intro _ <;> try (exfalso; omega)) | refine a_ld hl ?_ | (refine a_st hl ?_; clear hl; intro _ hl) | refine a_ix (fun _ => ?_) | fail)
  refine o_alloc (LH.start w10 (fun _ => False)) [.int .i64 0, .string "".toByteArray, .int .i64 0, .slice none 0 0] (by kernel_rfl) rfl ?_
  intro b23 w11 hb23 hl
  refine o_putN (us := snL (snO (parse text)) ky) hl rfl rfl rfl (snL_one hky) rfl (.here rfl rfl) ?_
  clear hl
  intro w12 hl
  have hry : Row w12 b23 0 (snL (snO (parse text)) ky) := hl.rowL (vs := snL (snO (parse text)) ky) 0 0 4 rfl
  have hx12 := hl.done
  clear hl
  repeat' (first | refine a_mov ?_ | refine a_asg ?_ | refine a_binN ?_ | refine a_notd ?_ | refine a_notb ?_ | refine a_nilc ?_ | refine a_fa ?_ | refine a_ext ?_ | refine a_lenv ?_ | refine a_lens ?_ | refine a_pick_t ?_ | refine a_pick_f ?_ | refine a_not ?_ | refine a_nilf ?_ | (refine a_bin ?_ ?_ <;> intro _ <;> try (exfalso; omega)) | refine a_ld hl ?_ | (refine a_st hl ?_; clear hl; intro _ hl) | refine a_ix (fun _ => ?_) | fail)
  refine o_nil (hK _ _ ?_)
  clear hK K
  have hxy := ((((hx5.trans hx6).trans hx7).trans hx9).trans hx10).trans hx12
  replace hrx := (hrx.ext hx10).ext hx12
  replace hkx := (((hkx.ext hx9).ext hx10).ext hx12)
  replace hky := hky.ext hx12
  replace hra := hra.ext hxy
  replace hrb := hrb.ext hxy
  have hxz := hx4.trans hxy
  clear hx4 hx5 hx6 hx7 hx9 hx10 hx12 hxy
  have ka2 := hka.ext hxz
  have kb2 := hkb.ext hxz
  have hH2 := hH.1.ext hxz
  have hL2 := hL.1.ext hxz
  obtain ⟨q0, hq0⟩ : ∃ q : Bool, (q = true ↔ a = b) := by
    by_cases h : a = b
    · exact ⟨true, by simp [h]⟩
    · exact ⟨false, by simp [h]⟩
  have c11 : ∀ w_, Ext w12 w_ → Calls Tryz.prog 11 #[.agg (snL a (.slice aa a.kids.length ac)).toArray] w_ (fun e w' => ∃ v, e = .returned v ∧ v = .bool (validB a) ∧ Ext w_ w') := fun w_ h => valid_calls (ka2.ext h) hfa
  have c19 : ∀ w_, Ext w12 w_ → Calls Tryz.prog 19 #[.agg (snL a (.slice aa a.kids.length ac)).toArray] w_ (fun e w' => ∃ v, e = .returned v ∧ v = .bool (validB a) ∧ Ext w_ w') := fun w_ h => validR_calls hda hfa (ka2.ext h)
  have c20 : ∀ w_, Ext w12 w_ → Calls Tryz.prog 20 #[.agg (snL a (.slice aa a.kids.length ac)).toArray, .agg (snL b (.slice ba b.kids.length bc)).toArray] w_ (fun e w' => ∃ v, e = .returned v ∧ v = .bool q0 ∧ Ext w_ w') := fun w_ h => by
    refine Calls.mono (samePS_calls a hfa b w_ _ _ (ka2.ext h) (kb2.ext h) hfb) ?_
    rintro e w' ⟨v, he, q', rfl, hq', hx'⟩
    have : q' = q0 := by rw [Bool.eq_iff_iff, hq', hq0]
    exact ⟨_, he, by rw [this], hx'⟩
  have c13 : ∀ w_, Ext w12 w_ → Calls Tryz.prog 13 #[.agg (snL a (.slice aa a.kids.length ac)).toArray, .agg (snL b (.slice ba b.kids.length bc)).toArray] w_ (fun e w' => ∃ v, e = .returned v ∧ v = .bool q0 ∧ Ext w_ w') := fun w_ h => by
    refine Calls.mono (sameS_calls a b w_ _ _ (ka2.ext h) (kb2.ext h) hfa) ?_
    rintro e w' ⟨v, he, q', rfl, hq', hx'⟩
    have : q' = q0 := by rw [Bool.eq_iff_iff, hq', hq0]
    exact ⟨_, he, by rw [this], hx'⟩
  have c14 : ∀ w_, Ext w12 w_ → Calls Tryz.prog 14 #[.agg (snL a (.slice aa a.kids.length ac)).toArray, .int .i64 E.day, .slice xa E.h.length xc, .int .i64 E.known, .slice ya E.l.length yc] w_ (fun e w' => ∃ v, e = .returned v ∧ v = .bool (holds E a) ∧ Ext w_ w') := fun w_ h => holds_calls (E := E) (ka2.ext h) hfa (hH2.ext h) (hL2.ext h) (by omega) (by omega)
  have c21 : ∀ w_, Ext w12 w_ → Calls Tryz.prog 21 #[.agg (snL a (.slice aa a.kids.length ac)).toArray, .int .i64 E.day, .slice xa E.h.length xc, .int .i64 E.known, .slice ya E.l.length yc] w_ (fun e w' => ∃ v, e = .returned v ∧ v = .bool (holds E a) ∧ Ext w_ w') := fun w_ h => holdsR_calls (E := E) hda hfa (ka2.ext h) (hH2.ext h) (hL2.ext h) hH.2 hL.2.1
  have c15 : ∀ w_, Ext w12 w_ → Calls Tryz.prog 15 #[.agg (snL a (.slice aa a.kids.length ac)).toArray] w_ (fun e w' => ∃ x, e = .returned x ∧ Sl w' x 1 (strL (names a)) ∧ Ext w_ w') := fun w_ h => names3_calls (ka2.ext h) hfa
  have c23 : ∀ w_, Ext w12 w_ → Calls Tryz.prog 23 #[.agg (snL a (.slice aa a.kids.length ac)).toArray] w_ (fun e w' => ∃ x, e = .returned x ∧ Sl w' x 1 (strL (names a)) ∧ Ext w_ w') := fun w_ h => namesR3_calls hda (ka2.ext h) hfa
  have hnl := names_len a
  refine wk_seq fun K hK => ?_
  refine wk_grow [([0, 1, 2, 3, 4, 5, 6, 7, 8, 9, 10, 11, 12, 13, 14, 15, 16, 17, 18, 19, 20, 21, 22, 23, 24, 25, 26, 27, 28, 29, 30, 32], [31, 33]), ([34, 35, 36], [])] ?_
  refine g_two (fun v w' => Sl w' v 1 (strL (names a))) (fun v w' => Sl w' v 1 (strL (names a))) (fun v w w' h e => h.ext e) (fun v w w' h e => h.ext e) ?_
  repeat' (first | refine x_mov ?_ | refine x_asg ?_ | refine x_fa ?_ | refine x_ext ?_ | refine x_binN ?_ | refine x_notd ?_ | refine x_notb ?_ | refine x_pick_t ?_ | refine x_pick_f ?_ | refine x_nilc ?_ | refine x_skip ?_ | refine x_lens ?_ | refine x_lenv ?_ | refine x_ix (fun _ => ?_) | (refine x_bin ?_ ?_ <;> intro _ <;> try (exfalso; omega)) | refine x_all (fun w_ hw_ => hra.ext hw_) ?_ | refine x_all (fun w_ hw_ => hrb.ext hw_) ?_ | refine x_fn c11 ?_ | (refine x_fn c19 ?_; refine x_eqB ?_; rw [beq_self_eq_true]) | refine x_fn c20 ?_ | (refine x_fn c13 ?_; refine x_eqB ?_; rw [beq_self_eq_true]) | refine x_fn c14 ?_ | (refine x_fn c21 ?_; refine x_eqB ?_; rw [beq_self_eq_true]) | fail)
  refine x_nil ⟨fun v1 v2 => p_fn (fun w' hw' _ => c15 w' hw'), fun v1 v2 => p_fn (fun w' hw' _ => c23 w' hw'), fun v1 v2 w13 hw13 ht1 ht2 => ?_⟩
  refine g_end ?_
  refine x_fn (v := .bool true) (fun w' hw' => ?_) ?_
  · have := sameT_calls (ht1.ext hw') (ht2.ext hw') (by omega) (by omega)
    rw [decide_eq_true (rfl : names a = names a)] at this
    exact this
  repeat' (first | refine x_mov ?_ | refine x_asg ?_ | refine x_fa ?_ | refine x_ext ?_ | refine x_binN ?_ | refine x_notd ?_ | refine x_notb ?_ | refine x_pick_t ?_ | refine x_pick_f ?_ | refine x_nilc ?_ | refine x_skip ?_ | refine x_lens ?_ | refine x_lenv ?_ | refine x_ix (fun _ => ?_) | (refine x_bin ?_ ?_ <;> intro _ <;> try (exfalso; omega)) | fail)
  refine x_nil fun w14 hw14 => hK _ _ ?_
  clear hK K
  replace hw14 := hw13.trans hw14
  clear hw13 ht1 ht2
  replace hrx := hrx.ext hw14
  replace hry := hry.ext hw14
  replace hkx := hkx.ext hw14
  replace hky := hky.ext hw14
  refine wk_seq fun K hK => ?_
  refine wk_reg ?_
  repeat' (first | refine a_mov ?_ | refine a_asg ?_ | refine a_binN ?_ | refine a_notd ?_ | refine a_notb ?_ | refine a_nilc ?_ | refine a_fa ?_ | refine a_ext ?_ | refine a_lenv ?_ | refine a_lens ?_ | refine a_pick_t ?_ | refine a_pick_f ?_ | refine a_not ?_ | refine a_nilf ?_ | (refine a_bin ?_ ?_ <;> intro _ <;> try (exfalso; omega)) | refine a_ld hl ?_ | (refine a_st hl ?_; clear hl; intro _ hl) | refine a_ix (fun _ => ?_) | refine o_eqsT (a := txO a) (b := txO a) rfl rfl rfl (fun _ => ?_) (fun h_ => absurd rfl h_) | refine a_all hrx ?_ | refine a_all hry ?_ | fail)
  refine a_fn (sameS_calls (snO (parse text)) (snO (parse text)) w14 kx ky hkx hky (snO_fit text)) ?_
  rintro _ w15 ⟨q, rfl, hq, hx15⟩
  obtain rfl : q = true := hq.2 rfl
  repeat' (first | refine a_mov ?_ | refine a_asg ?_ | refine a_binN ?_ | refine a_notd ?_ | refine a_notb ?_ | refine a_nilc ?_ | refine a_fa ?_ | refine a_ext ?_ | refine a_lenv ?_ | refine a_lens ?_ | refine a_pick_t ?_ | refine a_pick_f ?_ | refine a_not ?_ | refine a_nilf ?_ | (refine a_bin ?_ ?_ <;> intro _ <;> try (exfalso; omega)) | refine a_ld hl ?_ | (refine a_st hl ?_; clear hl; intro _ hl) | refine a_ix (fun _ => ?_) | fail)
  refine o_nil (hK _ _ ?_)
  refine wk_ret (retQ_tmp1 Tryz.results7 (by decide) rfl (by conv => lhs; whnf) ?_)
  exact ⟨rfl, (hxz.trans hw14).trans hx15⟩
end Go.Proofs
