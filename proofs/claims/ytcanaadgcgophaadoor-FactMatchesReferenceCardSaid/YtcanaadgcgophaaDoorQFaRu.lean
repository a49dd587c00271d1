/-
  The reference's reader: a fact.
-/
import Derived.Test.YtcanaadgcgophaaDoorQFaRt
import Derived.Test.YtcanaadgcgophaaDoorQFC
set_option linter.unusedVariables false
set_option linter.unusedSimpArgs false
set_option linter.unnecessarySimpa false
set_option maxRecDepth 10000
namespace Go.Pd
open Go
theorem LH.swapL {w0 w w' : World} {M : Nat → Prop} {A A' rest : List (Nat × Obj)} (h : LH w0 M w (A ++ rest)) (h2 : LH w (fun b => b ∈ A.map (·.1)) w' A') : LH w0 M w' (A' ++ rest) := by
  have hnd := h.nd
  rw [List.map_append, List.nodup_append] at hnd
  obtain ⟨hA, hR, hAR⟩ := hnd
  have hoff : ∀ b, b ∈ rest.map (·.1) → ¬ b ∈ A.map (·.1) := fun b hb ha => hAR b ha b hb rfl
  refine ⟨h.upd.trans h2.upd fun k hk hM => ?_, fun p hp => ?_, fun p hp => ?_, ?_⟩
  · have hm : k ∈ (A ++ rest).map (·.1) := by rw [List.map_append]; exact List.mem_append_left _ hM
    rcases h.id hm with h1 | h1
    · omega
    · exact h1
  · rcases List.mem_append.1 hp with hp | hp
    · exact h2.own p hp
    · have hlt := h.lt (List.mem_append_right _ hp)
      rw [h2.upd.same p.1 hlt (hoff p.1 (List.mem_map_of_mem hp))]
      exact h.own p (List.mem_append_right _ hp)
  · rcases List.mem_append.1 hp with hp | hp
    · rcases h2.fresh p hp with h1 | h1
      · exact .inl (Nat.le_trans h.upd.size h1)
      · obtain ⟨q, hq, he⟩ := List.mem_map.1 h1
        have := h.fresh q (List.mem_append_left _ hq)
        rw [← he]
        exact this
    · exact h.fresh p (List.mem_append_right _ hp)
  · rw [List.map_append, List.nodup_append]
    refine ⟨h2.nd, hR, fun a ha b hb => ?_⟩
    rintro rfl
    rcases h2.id ha with h1 | h1
    · have hm : a ∈ (A ++ rest).map (·.1) := by rw [List.map_append]; exact List.mem_append_right _ hb
      have := h.idlt hm
      omega
    · exact hoff a hb h1
theorem LH.toL {w0 w : World} {M : Nat → Prop} {A rest : List (Nat × Obj)} (h : LH w0 M w (A ++ rest)) : LH w (fun b => b ∈ A.map (·.1)) w A := (h.sub (List.sublist_append_left _ _)).rb
end Go.Pd
namespace Go.Proofs
open Go Go.Pd Go.Fac Go.Fo
open Go.Lexs (Tok)
attribute [local irreducible] OpsL W RetQ OpsQ OpsC
set_option maxHeartbeats 16000000 in
theorem fact6_calls {F : List Fact} {dv tv : Value} {w : World} {M : Nat → Prop} {rb : Nat} {ts : List Tok} {en : Int} {s : RS} {acc : List (Nat × Obj)} (hF : F.length ≤ 1000000) (hacc : Acc dv 4 47 F.length (factsL F) acc) (hl0 : LH w M w (rsB rb tv en s :: acc))
    (hT : Sl w tv 4 (toksL ts) ∧ (toksL ts ≠ [] → Off M tv) ∧ ts.length ≤ 5000) (hi : s.i ≤ ts.length) (hM : M rb) :
    Calls Tryd.prog 43 #[.pointer (some ⟨rb, 0, none⟩), .agg #[dv]] w (fun x w' => ∃ v, x = .returned v ∧ ∃ dv' acc', v = .agg #[dv'] ∧ Acc dv' 4 47 (F.length + 1) (factsL (F ++ [(factS' en ts F s).1])) acc' ∧ LH w M w' (rsB rb tv en (factS' en ts F s).2 :: acc')) := by
  obtain ⟨da, dc, rfl⟩ := hacc.shape
  obtain ⟨ta, tc, rfl, hcap⟩ := hT.1.shape (toksL_len ts) (by omega)
  have hTK : ∀ (w' : World) (l : List (Nat × Obj)), LH w M w' l → TK w' rb (.slice ta ts.length tc) ts := fun w' l h => ⟨sl_updE hT.1 h.upd hT.2.1, fun hne => by
    have := hT.2.1 hne
    cases ta with
    | none => trivial
    | some a => exact fun hm => this (by rw [List.mem_singleton.1 hm]; exact hM), hT.2.2⟩
  refine calls_of Tryd.func43 rfl Tryd.ntmps43 rfl ?_
  refine wk_seq fun K hK => ?_
  refine wk_reg ?_
  refine o_box hl0 [.slice da F.length dc] rfl rfl rfl ?_
  clear hl0
  intro b3 w1 hb3 hl
  replace hl := hl.perm (List.Perm.swap _ _ _)
  refine o_alloc hl [.slice none 0 0] (by kernel_rfl) rfl ?_
  clear hl
  intro b4 w2 hb4 hl
  replace hl := hl.perm (List.Perm.swap _ _ _)
  refine o_nil (hK _ _ ?_)
  clear hK K
  -- the name
  refine wk_seq fun K hK => ?_
  refine wk_reg ?_
  refine a_mov ?_
  refine a_fn (take6_calls (k := 1) (wd := []) (hTK _ _ hl) hl.one hi) ?_ rfl (fun _ => rfl) (by simp only [str_nil]; rfl)
  rintro _ w3 ⟨rfl, hlA⟩
  replace hl := hl.swap hlA
  clear hlA
  obtain ⟨nm, hnm⟩ : ∃ nm, nm = takeS en ts 1 [] s := ⟨_, rfl⟩
  have hfin0 : factS' en ts F s = ((restS en ts nm.1 ((nm.2.cf (decide (nm.2.er = 0) && (idx F nm.1.text).isSome) 9 nm.1.pos).cf (decide ((nm.2.cf (decide (nm.2.er = 0) && (idx F nm.1.text).isSome) 9 nm.1.pos).er = 0) && decide (F.length = 60)) 2 nm.1.pos)).1, (takeS en ts 3 kSemi (restS en ts nm.1 ((nm.2.cf (decide (nm.2.er = 0) && (idx F nm.1.text).isSome) 9 nm.1.pos).cf (decide ((nm.2.cf (decide (nm.2.er = 0) && (idx F nm.1.text).isSome) 9 nm.1.pos).er = 0) && decide (F.length = 60)) 2 nm.1.pos)).2).2) := by
    rw [hnm]
    rfl
  have hi1 : nm.2.i ≤ ts.length := by rw [hnm]; exact takeS_le hi
  rw [← hnm] at hl ⊢
  clear hnm
  refine o_alloc hl [.int .i64 0, .string "".toByteArray, .int .i64 0, .int .i64 0] (by kernel_rfl) rfl ?_
  clear hl
  intro b5 w4 hb hl
  refine o_putN (us := tokL nm.1) hl rfl rfl rfl (by simp only [tokL, List.all_cons, List.all_nil, oneCell_str]; rfl) rfl (.here rfl rfl) ?_
  clear hl
  intro w5 hl
  replace hl := hl.perm (List.Perm.swap _ _ _)
  refine o_nil (hK _ _ ?_)
  clear hK K
  -- twice?
  refine wk_seq fun K hK => ?_
  obtain ⟨s2, hs2⟩ : ∃ s2, s2 = nm.2.cf (decide (nm.2.er = 0) && (idx F nm.1.text).isSome) 9 nm.1.pos := ⟨_, rfl⟩
  have hi2 : s2.i ≤ ts.length := by rw [hs2, cf_i]; exact hi1
  rw [← hs2] at hfin0
  refine wk_cut [] (fun _ : Unit => [(0, .pointer (some ⟨rb, 0, none⟩)), (3, .pointer (some ⟨b3, 0, none⟩)), (4, .pointer (some ⟨b4, 0, none⟩)), (5, .pointer (some ⟨b5, 0, none⟩))])
    (fun _ w' => LH w M w' (rsB rb (.slice ta ts.length tc) en s2 :: (b5, .cells (tokL nm.1).toArray 65 (0, 0)) :: (b4, .cells [.slice none 0 0].toArray 24 (0, 0)) :: (b3, .cells [.slice da F.length dc].toArray 24 (0, 0)) :: acc)) ?_ ?_
  · refine wk_seq fun K2 hK2 => ?_
    refine wk_reg ?_
    have hp : Row w5 rb 0 (rsL (.slice ta ts.length tc) en nm.2) := hl.rowL (vs := rsL (.slice ta ts.length tc) en nm.2) 0 0 5 rfl
    by_cases hz : nm.2.er = 0
    · rw [decide_eq_true hz, Bool.true_and] at hs2
      have hsl : Sl w5 (.slice da F.length dc) 4 (factsL F) := LH.acc_sl (l := [_, _, _, _]) hl hacc
      repeat' (first | refine a_mov ?_ | refine a_asg ?_ | refine a_binN ?_ | refine a_notd ?_ | refine a_notb ?_ | refine a_nilc ?_ | refine a_fa ?_ | refine a_ext ?_ | refine a_lenv ?_ | refine a_lens ?_ | refine a_pick_t ?_ | refine a_pick_f ?_ | refine a_not ?_ | refine a_nilf ?_ | (refine a_bin ?_ ?_ <;> intro _ <;> try (exfalso; omega)) | refine a_ld hl ?_ | (refine a_st hl ?_; clear hl; intro _ hl) | refine a_ix (fun _ => ?_) | refine a_row hp ?_ | refine a_all (hl.rowL (vs := [.slice da F.length dc]) 3 0 1 rfl) ?_ | refine a_row (hl.rowL (vs := tokL nm.1) 1 0 4 rfl) ?_ | fail)
      refine a_fn (refIndex_calls hsl (by omega) nm.1.text) ?_
      rintro _ w6 ⟨rfl, hx6⟩
      replace hl := hl.ext hx6
      cases hix : (idx F nm.1.text).isSome
      · rw [hix] at hs2
        have hneg : ¬ 0 ≤ idxI F nm.1.text := by
          have : idx F nm.1.text = none := by simpa using hix
          unfold idxI
          rw [this]
          decide
        repeat' (first | refine a_mov ?_ | refine a_asg ?_ | refine a_binN ?_ | refine a_notd ?_ | refine a_notb ?_ | refine a_nilc ?_ | refine a_fa ?_ | refine a_ext ?_ | refine a_lenv ?_ | refine a_lens ?_ | refine a_pick_t ?_ | refine a_pick_f ?_ | refine a_not ?_ | refine a_nilf ?_ | (refine a_bin ?_ ?_ <;> intro _ <;> try (exfalso; omega)) | refine a_ld hl ?_ | (refine a_st hl ?_; clear hl; intro _ hl) | refine a_ix (fun _ => ?_) | fail)
        refine o_nil (hK2 _ _ ?_)
        clear hK2 K2
        refine wk_cond_f rfl ?_
        refine wk_skip ⟨(), ⟨rfl, rfl, rfl, rfl, trivial⟩, rfl, ?_⟩
        rw [hs2]
        exact hl
      · rw [hix] at hs2
        have hpos : 0 ≤ idxI F nm.1.text := by
          obtain ⟨k, hk⟩ := Option.isSome_iff_exists.1 hix
          unfold idxI
          rw [hk]
          simp only
          omega
        repeat' (first | refine a_mov ?_ | refine a_asg ?_ | refine a_binN ?_ | refine a_notd ?_ | refine a_notb ?_ | refine a_nilc ?_ | refine a_fa ?_ | refine a_ext ?_ | refine a_lenv ?_ | refine a_lens ?_ | refine a_pick_t ?_ | refine a_pick_f ?_ | refine a_not ?_ | refine a_nilf ?_ | (refine a_bin ?_ ?_ <;> intro _ <;> try (exfalso; omega)) | refine a_ld hl ?_ | (refine a_st hl ?_; clear hl; intro _ hl) | refine a_ix (fun _ => ?_) | fail)
        refine o_nil (hK2 _ _ ?_)
        clear hK2 K2 hp
        refine wk_cond_t rfl ?_
        refine wk_reg ?_
        refine a_mov ?_
        refine a_fa ?_
        refine a_row (hl.rowL (vs := tokL nm.1) 1 0 4 rfl) ?_
        refine a_fn (fault6_calls (e := 9) (a := (nm.1).pos) hl.one) ?_
        rintro v_ w_ hlA
        replace hl := hl.swap hlA
        clear hlA
        refine o_nil ⟨(), ⟨rfl, rfl, rfl, rfl, trivial⟩, rfl, ?_⟩
        rw [hs2]
        exact hl
    · rw [decide_eq_false hz, Bool.false_and] at hs2
      repeat' (first | refine a_mov ?_ | refine a_asg ?_ | refine a_binN ?_ | refine a_notd ?_ | refine a_notb ?_ | refine a_nilc ?_ | refine a_fa ?_ | refine a_ext ?_ | refine a_lenv ?_ | refine a_lens ?_ | refine a_pick_t ?_ | refine a_pick_f ?_ | refine a_not ?_ | refine a_nilf ?_ | (refine a_bin ?_ ?_ <;> intro _ <;> try (exfalso; omega)) | refine a_ld hl ?_ | (refine a_st hl ?_; clear hl; intro _ hl) | refine a_ix (fun _ => ?_) | refine a_row hp ?_ | fail)
      refine o_nil (hK2 _ _ ?_)
      clear hK2 K2
      refine wk_cond_f rfl ?_
      refine wk_skip ⟨(), ⟨rfl, rfl, rfl, rfl, trivial⟩, rfl, ?_⟩
      rw [hs2]
      exact hl
  clear hl hs2
  rintro _ t w6 hl
  refine hK _ _ ?_
  clear hK K
  -- too many?
  refine wk_seq fun K hK => ?_
  obtain ⟨s3, hs3⟩ : ∃ s3, s3 = s2.cf (decide (s2.er = 0) && decide (F.length = 60)) 2 nm.1.pos := ⟨_, rfl⟩
  have hi3 : s3.i ≤ ts.length := by rw [hs3, cf_i]; exact hi2
  rw [← hs3] at hfin0
  refine wk_cut [] (fun _ : Unit => [(0, .pointer (some ⟨rb, 0, none⟩)), (3, .pointer (some ⟨b3, 0, none⟩)), (4, .pointer (some ⟨b4, 0, none⟩)), (5, .pointer (some ⟨b5, 0, none⟩))])
    (fun _ w' => LH w M w' (rsB rb (.slice ta ts.length tc) en s3 :: (b5, .cells (tokL nm.1).toArray 65 (0, 0)) :: (b4, .cells [.slice none 0 0].toArray 24 (0, 0)) :: (b3, .cells [.slice da F.length dc].toArray 24 (0, 0)) :: acc)) ?_ ?_
  · refine wk_seq fun K2 hK2 => ?_
    refine wk_reg ?_
    have hp : Row w6 rb 0 (rsL (.slice ta ts.length tc) en s2) := hl.rowL (vs := rsL (.slice ta ts.length tc) en s2) 0 0 5 rfl
    have hr3 : Row w6 b3 0 [.slice da F.length dc] := hl.rowL (vs := [.slice da F.length dc]) 3 0 1 rfl
    by_cases hz : s2.er = 0
    · rw [decide_eq_true hz, Bool.true_and] at hs3
      by_cases h60 : F.length = 60
      · rw [decide_eq_true h60] at hs3
        repeat' (first | refine a_mov ?_ | refine a_asg ?_ | refine a_binN ?_ | refine a_notd ?_ | refine a_notb ?_ | refine a_nilc ?_ | refine a_fa ?_ | refine a_ext ?_ | refine a_lenv ?_ | refine a_lens ?_ | refine a_pick_t ?_ | refine a_pick_f ?_ | refine a_not ?_ | refine a_nilf ?_ | (refine a_bin ?_ ?_ <;> intro _ <;> try (exfalso; omega)) | refine a_ld hl ?_ | (refine a_st hl ?_; clear hl; intro _ hl) | refine a_ix (fun _ => ?_) | refine a_row hp ?_ | refine a_row hr3 ?_ | fail)
        refine o_nil (hK2 _ _ ?_)
        clear hK2 K2 hp
        refine wk_cond_t rfl ?_
        refine wk_reg ?_
        refine a_mov ?_
        refine a_fa ?_
        refine a_row (hl.rowL (vs := tokL nm.1) 1 0 4 rfl) ?_
        refine a_fn (fault6_calls (e := 2) (a := (nm.1).pos) hl.one) ?_
        rintro v_ w_ hlA
        replace hl := hl.swap hlA
        clear hlA
        refine o_nil ⟨(), ⟨rfl, rfl, rfl, rfl, trivial⟩, rfl, ?_⟩
        rw [hs3]
        exact hl
      · rw [decide_eq_false h60] at hs3
        repeat' (first | refine a_mov ?_ | refine a_asg ?_ | refine a_binN ?_ | refine a_notd ?_ | refine a_notb ?_ | refine a_nilc ?_ | refine a_fa ?_ | refine a_ext ?_ | refine a_lenv ?_ | refine a_lens ?_ | refine a_pick_t ?_ | refine a_pick_f ?_ | refine a_not ?_ | refine a_nilf ?_ | (refine a_bin ?_ ?_ <;> intro _ <;> try (exfalso; omega)) | refine a_ld hl ?_ | (refine a_st hl ?_; clear hl; intro _ hl) | refine a_ix (fun _ => ?_) | refine a_row hp ?_ | refine a_row hr3 ?_ | fail)
        refine o_nil (hK2 _ _ ?_)
        clear hK2 K2
        refine wk_cond_f rfl ?_
        refine wk_skip ⟨(), ⟨rfl, rfl, rfl, rfl, trivial⟩, rfl, ?_⟩
        rw [hs3]
        exact hl
    · rw [decide_eq_false hz, Bool.false_and] at hs3
      repeat' (first | refine a_mov ?_ | refine a_asg ?_ | refine a_binN ?_ | refine a_notd ?_ | refine a_notb ?_ | refine a_nilc ?_ | refine a_fa ?_ | refine a_ext ?_ | refine a_lenv ?_ | refine a_lens ?_ | refine a_pick_t ?_ | refine a_pick_f ?_ | refine a_not ?_ | refine a_nilf ?_ | (refine a_bin ?_ ?_ <;> intro _ <;> try (exfalso; omega)) | refine a_ld hl ?_ | (refine a_st hl ?_; clear hl; intro _ hl) | refine a_ix (fun _ => ?_) | refine a_row hp ?_ | fail)
      refine o_nil (hK2 _ _ ?_)
      clear hK2 K2
      refine wk_cond_f rfl ?_
      refine wk_skip ⟨(), ⟨rfl, rfl, rfl, rfl, trivial⟩, rfl, ?_⟩
      rw [hs3]
      exact hl
  clear hl hs3
  rintro _ t2 w7 hl
  refine hK _ _ ?_
  clear hK K
  -- the fact
  refine wk_seq fun K hK => ?_
  refine wk_reg ?_
  refine a_fa ?_
  refine a_row (hl.rowL (vs := tokL nm.1) 1 0 4 rfl) ?_
  refine o_build (factL ⟨nm.1.text, 1, 0, 1⟩) rfl (by simp only [factL, str_eq]; kernel_rfl) ?_
  refine o_alloc hl [.string "".toByteArray, .int .i64 0, .int .i64 0, .int .i64 0] (by kernel_rfl) rfl ?_
  clear hl
  intro b6 w8 hb6 hl
  refine o_putN (us := factL ⟨nm.1.text, 1, 0, 1⟩) hl rfl rfl rfl (factL_one _) rfl (.here rfl rfl) ?_
  clear hl
  intro w9 hl
  replace hl := hl.perm (List.Perm.swap _ _ _)
  refine o_nil (hK _ _ ?_)
  clear hK K
  refine wk_seq fun K hK => ?_
  obtain ⟨x, hx⟩ : ∃ x, x = restS en ts nm.1 s3 := ⟨_, rfl⟩
  rw [← hx] at hfin0
  refine wk_cut [] (fun _ : Unit => [(0, .pointer (some ⟨rb, 0, none⟩)), (3, .pointer (some ⟨b3, 0, none⟩)), (4, .pointer (some ⟨b4, 0, none⟩)), (6, .pointer (some ⟨b6, 0, none⟩))])
    (fun _ w' => x.2.i ≤ ts.length ∧ LH w M w' (rsB rb (.slice ta ts.length tc) en x.2 :: (b6, .cells (factL x.1).toArray 47 (0, 0)) :: (b5, .cells (tokL nm.1).toArray 65 (0, 0)) :: (b4, .cells [.slice none 0 0].toArray 24 (0, 0)) :: (b3, .cells [.slice da F.length dc].toArray 24 (0, 0)) :: acc)) ?_ ?_
  · refine wk_seq fun K2 hK2 => ?_
    refine wk_reg ?_
    refine a_mov ?_
    refine a_fn (sees6_calls (k := 1) (wd := kFlag) (hTK _ _ hl) (hl.rowL (vs := rsL (.slice ta ts.length tc) en s3) 0 0 5 rfl) hi3) ?_ rfl (fun _ => rfl) (by simp only [kFlag, str_eq]; rfl)
    rintro _ w10 ⟨rfl, hx10⟩
    replace hl := hl.ext hx10
    clear hx10
    refine o_nil (hK2 _ _ ?_)
    clear hK2 K2
    cases hfl : seesS ts s3 1 kFlag
    rotate_left
    · have hlt := seesS_lt hfl
      have hx2 : x = (⟨nm.1.text, 1, 0, 1⟩, s3.step) := by rw [hx]; unfold restS; rw [hfl, if_pos rfl]
      refine wk_cond_t rfl ?_
      refine wk_reg ?_
      repeat' (first | refine a_mov ?_ | refine a_asg ?_ | refine a_binN ?_ | refine a_notd ?_ | refine a_notb ?_ | refine a_nilc ?_ | refine a_fa ?_ | refine a_ext ?_ | refine a_lenv ?_ | refine a_lens ?_ | refine a_pick_t ?_ | refine a_pick_f ?_ | refine a_not ?_ | refine a_nilf ?_ | (refine a_bin ?_ ?_ <;> intro _ <;> try (exfalso; omega)) | refine a_ld hl ?_ | (refine a_st hl ?_; clear hl; intro _ hl) | refine a_ix (fun _ => ?_) | fail)
      rename_i w11
      refine o_nil ⟨(), ⟨rfl, rfl, rfl, rfl, trivial⟩, rfl, ?_⟩
      rw [hx2]
      exact ⟨hlt, hl⟩
    have hx2 : x = (⟨nm.1.text, (kindS en ts s3).1, (spanS en ts (kindS en ts s3).2).1.1, (spanS en ts (kindS en ts s3).2).1.2⟩, (spanS en ts (kindS en ts s3).2).2) := by rw [hx]; unfold restS; rw [hfl, if_neg (by decide)]
    clear hx hfl
    refine wk_cond_f rfl ?_
    refine wk_seq fun K2 hK2 => ?_
    refine wk_reg ?_
    repeat' (first | refine a_mov ?_ | refine a_asg ?_ | refine a_binN ?_ | refine a_notd ?_ | refine a_notb ?_ | refine a_nilc ?_ | refine a_fa ?_ | refine a_ext ?_ | refine a_lenv ?_ | refine a_lens ?_ | refine a_pick_t ?_ | refine a_pick_f ?_ | refine a_not ?_ | refine a_nilf ?_ | (refine a_bin ?_ ?_ <;> intro _ <;> try (exfalso; omega)) | refine a_ld hl ?_ | (refine a_st hl ?_; clear hl; intro _ hl) | refine a_ix (fun _ => ?_) | fail)
    refine o_nil (hK2 _ _ ?_)
    clear hK2 K2
    rename_i w11
    refine wk_seq fun K2 hK2 => ?_
    obtain ⟨kd, hkd⟩ : ∃ kd, kd = kindS en ts s3 := ⟨_, rfl⟩
    rw [← hkd] at hx2
    refine wk_cut [] (fun _ : Unit => [(0, .pointer (some ⟨rb, 0, none⟩)), (3, .pointer (some ⟨b3, 0, none⟩)), (4, .pointer (some ⟨b4, 0, none⟩)), (6, .pointer (some ⟨b6, 0, none⟩))])
      (fun _ w' => kd.2.i ≤ ts.length ∧ LH w M w' (rsB rb (.slice ta ts.length tc) en kd.2 :: (b6, .cells (factL ⟨nm.1.text, kd.1, 0, 1⟩).toArray 47 (0, 0)) :: (b5, .cells (tokL nm.1).toArray 65 (0, 0)) :: (b4, .cells [.slice none 0 0].toArray 24 (0, 0)) :: (b3, .cells [.slice da F.length dc].toArray 24 (0, 0)) :: acc)) ?_ ?_
    · refine wk_seq fun K3 hK3 => ?_
      refine wk_reg ?_
      refine a_mov ?_
      refine a_fn (sees6_calls (k := 1) (wd := kDay) (hTK _ _ hl) (hl.rowL (vs := rsL (.slice ta ts.length tc) en s3) 0 0 5 rfl) hi3) ?_ rfl (fun _ => rfl) (by simp only [kDay, str_eq]; rfl)
      rintro _ w12 ⟨rfl, hx12⟩
      replace hl := hl.ext hx12
      clear hx12
      refine o_nil (hK3 _ _ ?_)
      clear hK3 K3
      cases hdy : seesS ts s3 1 kDay
      rotate_left
      · have hlt := seesS_lt hdy
        have hk2 : kd = (3, s3.step) := by rw [hkd]; unfold kindS; rw [hdy, if_pos rfl]
        refine wk_cond_t rfl ?_
        refine wk_seq fun K3 hK3 => ?_
        refine wk_reg ?_
        repeat' (first | refine a_mov ?_ | refine a_asg ?_ | refine a_binN ?_ | refine a_notd ?_ | refine a_notb ?_ | refine a_nilc ?_ | refine a_fa ?_ | refine a_ext ?_ | refine a_lenv ?_ | refine a_lens ?_ | refine a_pick_t ?_ | refine a_pick_f ?_ | refine a_not ?_ | refine a_nilf ?_ | (refine a_bin ?_ ?_ <;> intro _ <;> try (exfalso; omega)) | refine a_ld hl ?_ | (refine a_st hl ?_; clear hl; intro _ hl) | refine a_ix (fun _ => ?_) | fail)
        refine o_nil (hK3 _ _ ?_)
        clear hK3 K3
        refine wk_reg ?_
        repeat' (first | refine a_mov ?_ | refine a_asg ?_ | refine a_binN ?_ | refine a_notd ?_ | refine a_notb ?_ | refine a_nilc ?_ | refine a_fa ?_ | refine a_ext ?_ | refine a_lenv ?_ | refine a_lens ?_ | refine a_pick_t ?_ | refine a_pick_f ?_ | refine a_not ?_ | refine a_nilf ?_ | (refine a_bin ?_ ?_ <;> intro _ <;> try (exfalso; omega)) | refine a_ld hl ?_ | (refine a_st hl ?_; clear hl; intro _ hl) | refine a_ix (fun _ => ?_) | fail)
        refine o_nil ⟨(), ⟨rfl, rfl, rfl, rfl, trivial⟩, rfl, ?_⟩
        rw [hk2]
        exact ⟨hlt, hl⟩
      · have hk2 : kd = (2, (takeS en ts 1 kNumber s3).2) := by rw [hkd]; unfold kindS; rw [hdy, if_neg (by decide)]
        refine wk_cond_f rfl ?_
        refine wk_reg ?_
        refine a_mov ?_
        refine a_fn (take6_calls (k := 1) (wd := kNumber) (hTK _ _ hl) hl.one hi3) ?_ rfl (fun _ => rfl) (by simp only [kNumber, str_eq]; rfl)
        rintro _ w13 ⟨rfl, hlA⟩
        replace hl := hl.swap hlA
        clear hlA
        refine o_nil ⟨(), ⟨rfl, rfl, rfl, rfl, trivial⟩, rfl, ?_⟩
        rw [hk2]
        exact ⟨takeS_le hi3, hl⟩
    clear hl hkd
    rintro _ t4 w12 ⟨hi4, hl⟩
    refine hK2 _ _ ?_
    clear hK2 K2
    -- lo
    refine wk_seq fun K2 hK2 => ?_
    refine wk_reg ?_
    refine a_mov ?_
    refine a_fn (take6_calls (k := 2) (wd := []) (hTK _ _ hl) hl.one hi4) ?_ rfl (fun _ => rfl) (by simp only [str_nil]; rfl)
    rintro _ w13 ⟨rfl, hlA⟩
    replace hl := hl.swap hlA
    clear hlA
    obtain ⟨lo, hlo⟩ : ∃ lo, lo = takeS en ts 2 [] kd.2 := ⟨_, rfl⟩
    have hsp : spanS en ts kd.2 = (((lo.1.num : Int), ((takeS en ts 2 [] (takeS en ts 1 kTo (lo.2.cf (decide (1000000 < lo.1.num)) 10 lo.1.pos)).2).1.num : Int)), (takeS en ts 2 [] (takeS en ts 1 kTo (lo.2.cf (decide (1000000 < lo.1.num)) 10 lo.1.pos)).2).2.cf (decide (1000000 < (takeS en ts 2 [] (takeS en ts 1 kTo (lo.2.cf (decide (1000000 < lo.1.num)) 10 lo.1.pos)).2).1.num ∨ (takeS en ts 2 [] (takeS en ts 1 kTo (lo.2.cf (decide (1000000 < lo.1.num)) 10 lo.1.pos)).2).1.num < lo.1.num)) 10 (takeS en ts 2 [] (takeS en ts 1 kTo (lo.2.cf (decide (1000000 < lo.1.num)) 10 lo.1.pos)).2).1.pos) := by
      rw [hlo]
      rfl
    have hi5 : lo.2.i ≤ ts.length := by rw [hlo]; exact takeS_le hi4
    rw [← hlo] at hl ⊢
    clear hlo
    refine o_alloc hl [.int .i64 0, .string "".toByteArray, .int .i64 0, .int .i64 0] (by kernel_rfl) rfl ?_
    clear hl
    intro b7 w14 hb hl
    refine o_putN (us := tokL lo.1) hl rfl rfl rfl (by simp only [tokL, List.all_cons, List.all_nil, oneCell_str]; rfl) rfl (.here rfl rfl) ?_
    clear hl
    intro w15 hl
    replace hl := hl.perm (List.Perm.swap _ _ _)
    refine o_nil (hK2 _ _ ?_)
    clear hK2 K2
    refine wk_seq fun K2 hK2 => ?_
    obtain ⟨s6, hs6⟩ : ∃ s6, s6 = lo.2.cf (decide (1000000 < lo.1.num)) 10 lo.1.pos := ⟨_, rfl⟩
    have hi6 : s6.i ≤ ts.length := by rw [hs6, cf_i]; exact hi5
    rw [← hs6] at hsp
    refine wk_cut [] (fun _ : Unit => [(0, .pointer (some ⟨rb, 0, none⟩)), (3, .pointer (some ⟨b3, 0, none⟩)), (4, .pointer (some ⟨b4, 0, none⟩)), (6, .pointer (some ⟨b6, 0, none⟩)), (7, .pointer (some ⟨b7, 0, none⟩))])
      (fun _ w' => LH w M w' (rsB rb (.slice ta ts.length tc) en s6 :: (b7, .cells (tokL lo.1).toArray 65 (0, 0)) :: (b6, .cells (factL ⟨nm.1.text, kd.1, 0, 1⟩).toArray 47 (0, 0)) :: (b5, .cells (tokL nm.1).toArray 65 (0, 0)) :: (b4, .cells [.slice none 0 0].toArray 24 (0, 0)) :: (b3, .cells [.slice da F.length dc].toArray 24 (0, 0)) :: acc)) ?_ ?_
    · refine wk_seq fun K3 hK3 => ?_
      refine wk_reg ?_
      have hr7 : Row w15 b7 0 (tokL lo.1) := hl.rowL (vs := tokL lo.1) 1 0 4 rfl
      by_cases hbig : 1000000 < lo.1.num
      · rw [decide_eq_true hbig] at hs6
        repeat' (first | refine a_mov ?_ | refine a_asg ?_ | refine a_binN ?_ | refine a_notd ?_ | refine a_notb ?_ | refine a_nilc ?_ | refine a_fa ?_ | refine a_ext ?_ | refine a_lenv ?_ | refine a_lens ?_ | refine a_pick_t ?_ | refine a_pick_f ?_ | refine a_not ?_ | refine a_nilf ?_ | (refine a_bin ?_ ?_ <;> intro _ <;> try (exfalso; omega)) | refine a_ld hl ?_ | (refine a_st hl ?_; clear hl; intro _ hl) | refine a_ix (fun _ => ?_) | refine a_row hr7 ?_ | fail)
        refine o_nil (hK3 _ _ ?_)
        clear hK3 K3 hr7
        refine wk_cond_t rfl ?_
        refine wk_reg ?_
        refine a_mov ?_
        refine a_fa ?_
        refine a_row (hl.rowL (vs := tokL lo.1) 1 0 4 rfl) ?_
        refine a_fn (fault6_calls (e := 10) (a := (lo.1).pos) hl.one) ?_
        rintro v_ w_ hlA
        replace hl := hl.swap hlA
        clear hlA
        refine o_nil ⟨(), ⟨rfl, rfl, rfl, rfl, rfl, trivial⟩, rfl, ?_⟩
        rw [hs6]
        exact hl
      · rw [decide_eq_false hbig] at hs6
        repeat' (first | refine a_mov ?_ | refine a_asg ?_ | refine a_binN ?_ | refine a_notd ?_ | refine a_notb ?_ | refine a_nilc ?_ | refine a_fa ?_ | refine a_ext ?_ | refine a_lenv ?_ | refine a_lens ?_ | refine a_pick_t ?_ | refine a_pick_f ?_ | refine a_not ?_ | refine a_nilf ?_ | (refine a_bin ?_ ?_ <;> intro _ <;> try (exfalso; omega)) | refine a_ld hl ?_ | (refine a_st hl ?_; clear hl; intro _ hl) | refine a_ix (fun _ => ?_) | refine a_row hr7 ?_ | fail)
        refine o_nil (hK3 _ _ ?_)
        clear hK3 K3
        refine wk_cond_f rfl ?_
        refine wk_skip ⟨(), ⟨rfl, rfl, rfl, rfl, rfl, trivial⟩, rfl, ?_⟩
        rw [hs6]
        exact hl
    clear hl hs6 hi5
    rintro _ t5 w16 hl
    refine hK2 _ _ ?_
    clear hK2 K2
    refine wk_seq fun K2 hK2 => ?_
    refine wk_reg ?_
    refine a_mov ?_
    refine a_fn (take6_calls (k := 1) (wd := kTo) (hTK _ _ hl) hl.one hi6) ?_ rfl (fun _ => rfl) (by simp only [kTo, str_eq]; rfl)
    rintro _ w17 ⟨rfl, hlA⟩
    replace hl := hl.swap hlA
    clear hlA
    refine o_nil (hK2 _ _ ?_)
    clear hK2 K2
    obtain ⟨s7, hs7⟩ : ∃ s7, s7 = (takeS en ts 1 kTo s6).2 := ⟨_, rfl⟩
    have hi7 : s7.i ≤ ts.length := by rw [hs7]; exact takeS_le hi6
    rw [← hs7] at hl hsp
    clear hs7
    -- hi
    refine wk_seq fun K2 hK2 => ?_
    refine wk_reg ?_
    refine a_mov ?_
    refine a_fn (take6_calls (k := 2) (wd := []) (hTK _ _ hl) hl.one hi7) ?_ rfl (fun _ => rfl) (by simp only [str_nil]; rfl)
    rintro _ w18 ⟨rfl, hlA⟩
    replace hl := hl.swap hlA
    clear hlA
    obtain ⟨hj, hhj⟩ : ∃ hj, hj = takeS en ts 2 [] s7 := ⟨_, rfl⟩
    have hi8 : hj.2.i ≤ ts.length := by rw [hhj]; exact takeS_le hi7
    rw [← hhj] at hl hsp ⊢
    clear hhj
    refine o_alloc hl [.int .i64 0, .string "".toByteArray, .int .i64 0, .int .i64 0] (by kernel_rfl) rfl ?_
    clear hl
    intro b8 w19 hb hl
    refine o_putN (us := tokL hj.1) hl rfl rfl rfl (by simp only [tokL, List.all_cons, List.all_nil, oneCell_str]; rfl) rfl (.here rfl rfl) ?_
    clear hl
    intro w20 hl
    replace hl := hl.perm (List.Perm.swap _ _ _)
    refine o_nil (hK2 _ _ ?_)
    clear hK2 K2
    refine wk_seq fun K2 hK2 => ?_
    obtain ⟨s9, hs9⟩ : ∃ s9, s9 = hj.2.cf (decide (1000000 < hj.1.num ∨ hj.1.num < lo.1.num)) 10 hj.1.pos := ⟨_, rfl⟩
    have hi9 : s9.i ≤ ts.length := by rw [hs9, cf_i]; exact hi8
    rw [← hs9] at hsp
    refine wk_cut [] (fun _ : Unit => [(0, .pointer (some ⟨rb, 0, none⟩)), (3, .pointer (some ⟨b3, 0, none⟩)), (4, .pointer (some ⟨b4, 0, none⟩)), (6, .pointer (some ⟨b6, 0, none⟩)), (7, .pointer (some ⟨b7, 0, none⟩)), (8, .pointer (some ⟨b8, 0, none⟩))])
      (fun _ w' => LH w M w' (rsB rb (.slice ta ts.length tc) en s9 :: (b8, .cells (tokL hj.1).toArray 65 (0, 0)) :: (b7, .cells (tokL lo.1).toArray 65 (0, 0)) :: (b6, .cells (factL ⟨nm.1.text, kd.1, 0, 1⟩).toArray 47 (0, 0)) :: (b5, .cells (tokL nm.1).toArray 65 (0, 0)) :: (b4, .cells [.slice none 0 0].toArray 24 (0, 0)) :: (b3, .cells [.slice da F.length dc].toArray 24 (0, 0)) :: acc)) ?_ ?_
    · refine wk_seq fun K3 hK3 => ?_
      refine wk_reg ?_
      have hr7 : Row w20 b7 0 (tokL lo.1) := hl.rowL (vs := tokL lo.1) 2 0 4 rfl
      have hr8 : Row w20 b8 0 (tokL hj.1) := hl.rowL (vs := tokL hj.1) 1 0 4 rfl
      by_cases hbad : 1000000 < hj.1.num ∨ hj.1.num < lo.1.num
      · rw [decide_eq_true hbad] at hs9
        by_cases hb1 : 1000000 < hj.1.num
        · repeat' (first | refine a_mov ?_ | refine a_asg ?_ | refine a_binN ?_ | refine a_notd ?_ | refine a_notb ?_ | refine a_nilc ?_ | refine a_fa ?_ | refine a_ext ?_ | refine a_lenv ?_ | refine a_lens ?_ | refine a_pick_t ?_ | refine a_pick_f ?_ | refine a_not ?_ | refine a_nilf ?_ | (refine a_bin ?_ ?_ <;> intro _ <;> try (exfalso; omega)) | refine a_ld hl ?_ | (refine a_st hl ?_; clear hl; intro _ hl) | refine a_ix (fun _ => ?_) | refine a_row hr7 ?_ | refine a_row hr8 ?_ | fail)
          refine o_nil (hK3 _ _ ?_)
          clear hK3 K3 hr7 hr8
          refine wk_cond_t rfl ?_
          refine wk_reg ?_
          refine a_mov ?_
          refine a_fa ?_
          refine a_row (hl.rowL (vs := tokL hj.1) 1 0 4 rfl) ?_
          refine a_fn (fault6_calls (e := 10) (a := (hj.1).pos) hl.one) ?_
          rintro v_ w_ hlA
          replace hl := hl.swap hlA
          clear hlA
          refine o_nil ⟨(), ⟨rfl, rfl, rfl, rfl, rfl, rfl, trivial⟩, rfl, ?_⟩
          rw [hs9]
          exact hl
        · have hb2 := hbad.resolve_left hb1
          repeat' (first | refine a_mov ?_ | refine a_asg ?_ | refine a_binN ?_ | refine a_notd ?_ | refine a_notb ?_ | refine a_nilc ?_ | refine a_fa ?_ | refine a_ext ?_ | refine a_lenv ?_ | refine a_lens ?_ | refine a_pick_t ?_ | refine a_pick_f ?_ | refine a_not ?_ | refine a_nilf ?_ | (refine a_bin ?_ ?_ <;> intro _ <;> try (exfalso; omega)) | refine a_ld hl ?_ | (refine a_st hl ?_; clear hl; intro _ hl) | refine a_ix (fun _ => ?_) | refine a_row hr7 ?_ | refine a_row hr8 ?_ | fail)
          refine o_nil (hK3 _ _ ?_)
          clear hK3 K3 hr7 hr8
          refine wk_cond_t rfl ?_
          refine wk_reg ?_
          refine a_mov ?_
          refine a_fa ?_
          refine a_row (hl.rowL (vs := tokL hj.1) 1 0 4 rfl) ?_
          refine a_fn (fault6_calls (e := 10) (a := (hj.1).pos) hl.one) ?_
          rintro v_ w_ hlA
          replace hl := hl.swap hlA
          clear hlA
          refine o_nil ⟨(), ⟨rfl, rfl, rfl, rfl, rfl, rfl, trivial⟩, rfl, ?_⟩
          rw [hs9]
          exact hl
      · rw [decide_eq_false hbad] at hs9
        repeat' (first | refine a_mov ?_ | refine a_asg ?_ | refine a_binN ?_ | refine a_notd ?_ | refine a_notb ?_ | refine a_nilc ?_ | refine a_fa ?_ | refine a_ext ?_ | refine a_lenv ?_ | refine a_lens ?_ | refine a_pick_t ?_ | refine a_pick_f ?_ | refine a_not ?_ | refine a_nilf ?_ | (refine a_bin ?_ ?_ <;> intro _ <;> try (exfalso; omega)) | refine a_ld hl ?_ | (refine a_st hl ?_; clear hl; intro _ hl) | refine a_ix (fun _ => ?_) | refine a_row hr7 ?_ | refine a_row hr8 ?_ | fail)
        refine o_nil (hK3 _ _ ?_)
        clear hK3 K3
        refine wk_cond_f rfl ?_
        refine wk_skip ⟨(), ⟨rfl, rfl, rfl, rfl, rfl, rfl, trivial⟩, rfl, ?_⟩
        rw [hs9]
        exact hl
    clear hl hs9 hi8
    rintro _ t6 w21 hl
    refine hK2 _ _ ?_
    clear hK2 K2
    refine wk_seq fun K2 hK2 => ?_
    refine wk_reg ?_
    refine a_fa ?_
    refine a_row (hl.rowL (vs := tokL lo.1) 2 0 4 rfl) ?_
    refine a_fa ?_
    refine o_put1 (b := b6) (o := 2) (v := .int .i64 (lo.1.num : Int)) hl rfl rfl rfl ⟨rfl, rfl⟩ rfl (.there (.there (.there (.here rfl rfl)))) ?_
    clear hl
    intro w22 hl
    refine o_nil (hK2 _ _ ?_)
    clear hK2 K2
    refine wk_reg ?_
    refine a_fa ?_
    refine a_row (hl.rowL (vs := tokL hj.1) 1 0 4 rfl) ?_
    refine a_fa ?_
    refine o_put1 (b := b6) (o := 3) (v := .int .i64 (hj.1.num : Int)) hl rfl rfl rfl ⟨rfl, rfl⟩ rfl (.there (.there (.there (.here rfl rfl)))) ?_
    clear hl
    intro w23 hl
    refine o_nil ⟨(), ⟨rfl, rfl, rfl, rfl, trivial⟩, rfl, ?_⟩
    rw [hx2, hsp]
    exact ⟨hi9, hl.sub (List.cons_sublist_cons.2 (List.Sublist.cons _ (List.Sublist.cons _ (List.Sublist.refl _))))⟩
  clear hl hi3 hx
  rintro _ t3 w10 ⟨hi4, hl⟩
  refine hK _ _ ?_
  clear hK K
  refine wk_seq fun K hK => ?_
  refine wk_reg ?_
  refine a_mov ?_
  refine a_fn (take6_calls (k := 3) (wd := kSemi) (hTK _ _ hl) hl.one hi4) ?_ rfl (fun _ => rfl) (by simp only [kSemi, str_eq]; rfl)
  rintro _ w11 ⟨rfl, hlA⟩
  replace hl := hl.swap hlA
  clear hlA
  refine o_nil (hK _ _ ?_)
  clear hK K
  refine wk_seq fun K hK => ?_
  refine wk_reg ?_
  have hr3 : Row w11 b3 0 [.slice da F.length dc] := hl.rowL (vs := [.slice da F.length dc]) 4 0 1 rfl
  refine a_fa ?_
  refine a_row hr3 ?_
  refine a_all (hl.rowL (vs := factL x.1) 1 0 4 rfl) ?_
  refine o_buildSlice hl (factL x.1) rfl rfl (by simp only [factL, str_eq]; kernel_rfl) ?_
  clear hl hr3
  intro bq w12 hbq hl
  refine o_append (us := factL x.1) (bl' := [(bq, _), rsB rb (.slice ta ts.length tc) en (takeS en ts 3 kSemi x.2).2, (b6, _), (b5, _), (b4, _), (b3, _)]) (bytes := 40) (q := 1) hl hacc (hl.rowL (vs := factL x.1) 0 0 4 rfl) rfl (factL_one _) (by decide) (by omega) (by omega) rfl rfl (by kernel_rfl) rfl rfl ?_
  clear hl
  intro dv' w13 acc' hl hacc'
  obtain ⟨da', dc', rfl⟩ := hacc'.shape
  refine a_fa ?_
  refine o_put1 (b := b3) (o := 0) (v := .slice da' (F.length + 1) dc') hl rfl rfl rfl ⟨rfl, rfl⟩ rfl (.there (.there (.there (.there (.there (.here rfl rfl)))))) ?_
  clear hl
  intro w14 hl
  refine o_nil (hK _ _ ?_)
  clear hK K
  refine wk_seq fun K hK => ?_
  refine wk_reg ?_
  refine a_all (hl.rowL (vs := [.slice da' (F.length + 1) dc']) 5 0 1 rfl) ?_
  refine o_putN (us := [.slice da' (F.length + 1) dc']) hl rfl rfl rfl rfl rfl (.there (.there (.there (.there (.here rfl rfl))))) ?_
  clear hl
  intro w15 hl
  refine o_nil (hK _ _ ?_)
  clear hK K
  refine wk_ret (retQ_res [.agg #[.slice da' (F.length + 1) dc']] rfl rfl ⟨by decide, ⟨⟨b4, 0, none⟩, rfl, run_loadVarN rfl rfl (hl.rowL (vs := [.slice da' (F.length + 1) dc']) 4 0 1 rfl)⟩, trivial⟩ ?_)
  rw [hfin0]
  refine ⟨.slice da' (F.length + 1) dc', acc', rfl, ?_, ?_⟩
  · simpa only [factsL, List.flatMap_append, List.flatMap_cons, List.flatMap_nil, List.append_nil] using hacc'
  · exact hl.sub (List.Sublist.cons _ (List.cons_sublist_cons.2 (List.Sublist.cons _ (List.Sublist.cons _ (List.Sublist.cons _ (List.Sublist.cons _ (List.Sublist.refl _)))))))
end Go.Proofs
