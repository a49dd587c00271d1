/-
  The reference: Parse.
-/
import Derived.Test.YtcanaadgcgophaaDoorQFaRu
import Derived.Test.YtcanaadgcgophaaDoorQFaX
import Derived.Test.YtcanaadgcgophaaDoorQJr
set_option linter.unusedVariables false
set_option linter.unusedSimpArgs false
set_option linter.unnecessarySimpa false
set_option maxRecDepth 10000
namespace Go.Fac
open Go.Lexs (Tok lex)
open Go.Fo
def OnD (en : Int) (ts : List Tok) (q : List Fact ⊕ (Int × Int)) (F : List Fact) (s : RS) : Prop :=
  s.i ≤ ts.length ∧ ((s.er = 0 ∧ s.at_ = 0 ∧ F.length ≤ 60 ∧ ∃ f, (ts.drop s.i).length ≤ f ∧ factsP en f F (ts.drop s.i) = q) ∨ (s.er ≠ 0 ∧ q = .inr (s.er, s.at_)))
theorem factS_i {en : Int} {ts : List Tok} {F : List Fact} {s : RS} (h : s.i ≤ ts.length) : (factS' en ts F s).2.i ≤ ts.length := by
  simp only [factS']
  refine takeS_le ?_
  unfold restS
  split
  · rename_i hs
    exact seesS_lt hs
  · simp only [spanS]
    rw [cf_i]
    refine takeS_le (takeS_le ?_)
    rw [cf_i]
    refine takeS_le ?_
    unfold kindS
    split
    · rename_i hs
      exact seesS_lt hs
    · refine takeS_le ?_
      rw [cf_i, cf_i]
      exact takeS_le h
theorem OnD.step {en : Int} {ts : List Tok} {q : List Fact ⊕ (Int × Int)} {F : List Fact} {s : RS} (h : OnD en ts q F s) (h0 : s.er = 0) (hlt : s.i < ts.length) : OnD en ts q (F ++ [(factS' en ts F s).1]) (factS' en ts F s).2 ∧ ((factS' en ts F s).2.er = 0 → s.i < (factS' en ts F s).2.i) := by
  obtain ⟨hi, h | h⟩ := h
  rotate_left
  · exact absurd h0 h.1
  obtain ⟨-, h1, h60, f, hf, hq⟩ := h
  have ag := fact_agree (en := en) (F := F) h0 h1 hi
  have hii := factS_i (en := en) (F := F) hi
  obtain ⟨g, rfl⟩ : ∃ g, f = g + 1 := ⟨f - 1, by rw [List.length_drop] at hf; omega⟩
  have hne : ts.drop s.i ≠ [] := fun h => by
    have := congrArg List.length h
    rw [List.length_drop] at this
    simp at this
    omega
  simp only [factsP] at hq
  rw [if_neg hne] at hq
  cases hp : factP en F (ts.drop s.i) with
  | bad e a =>
    rw [hp] at ag hq
    obtain ⟨e1, e2, e3⟩ := ag
    refine ⟨⟨hii, .inr ⟨by rw [e1]; exact e3, ?_⟩⟩, fun h => absurd h (by rw [e1]; exact e3)⟩
    rw [e1, e2]
    exact hq.symm
  | ok x r =>
    rw [hp] at ag hq
    obtain ⟨e1, e2, e3, e4, e5⟩ := ag
    have hl := factP_lt hp
    have hfo := (factP_ok hp)
    obtain ⟨-, -, -, -, -, hl60, -⟩ := hfo
    rw [← e4] at hl
    rw [List.length_drop, List.length_drop] at hl
    have hlt2 : s.i < (factS' en ts F s).2.i := by omega
    refine ⟨⟨hii, .inl ⟨e2, e3, ?_, g, ?_, ?_⟩⟩, fun _ => hlt2⟩
    · rw [List.length_append, List.length_singleton]
      omega
    · rw [List.length_drop] at hf ⊢
      omega
    · rw [e4, e1]
      exact hq
end Go.Fac
namespace Go.Proofs
open Go Go.Pd Go.Fac Go.Fo
open Go.Lexs (Tok lex)
attribute [local irreducible] OpsL W RetQ OpsQ OpsC
set_option maxHeartbeats 8000000 in
theorem parse6_calls {text : Tx} (hlong : text.length ≤ 3000) (w : World) : Calls Tryd.prog 12 #[str text] w (fun e w' => ∃ v, e = .returned v ∧ (∃ dv, v = .tuple #[.agg #[dv], .int .i64 (erO (parseD text)), .int .i64 (atO (parseD text))] ∧ Sl w' dv 4 (factsL (faO (parseD text)))) ∧ Ext w w') := by
  refine calls_of Tryd.func12 rfl Tryd.ntmps12 rfl ?_
  refine wk_seq fun K hK => ?_
  refine wk_reg ?_
  refine o_alloc (LH.start w (fun _ => False)) [.slice none 0 0] (by kernel_rfl) rfl ?_
  intro b2 w1 hb2 hl
  refine a_asg ?_
  refine a_asg ?_
  refine o_nil (hK _ _ ?_)
  clear hK K
  refine wk_seq fun K hK => ?_
  refine wk_reg ?_
  refine a_mov ?_
  refine a_fn (refLex_calls text (by omega) w1) ?_
  rintro v w2 ⟨hx2, hout⟩
  replace hl := hl.ext hx2
  cases hlex : lex text with
  | bad e off =>
    rw [hlex] at hout
    obtain rfl := hout
    have hp : parseD text = .inr ((e : Int), off) := by unfold parseD; rw [hlex]
    have hne := lex_ne hlex
    rw [hp]
    repeat' (first | refine a_mov ?_ | refine a_asg ?_ | refine a_binN ?_ | refine a_notd ?_ | refine a_notb ?_ | refine a_nilc ?_ | refine a_fa ?_ | refine a_ext ?_ | refine a_lenv ?_ | refine a_lens ?_ | refine a_pick_t ?_ | refine a_pick_f ?_ | refine a_not ?_ | refine a_nilf ?_ | (refine a_bin ?_ ?_ <;> intro _ <;> try (exfalso; omega)) | refine a_ld hl ?_ | (refine a_st hl ?_; clear hl; intro _ hl) | refine a_ix (fun _ => ?_) | fail)
    refine o_nil (hK _ _ ?_)
    clear hK K
    refine wk_seq fun K hK => ?_
    refine wk_seq fun K2 hK2 => ?_
    refine wk_reg ?_
    repeat' (first | refine a_mov ?_ | refine a_asg ?_ | refine a_binN ?_ | refine a_notd ?_ | refine a_notb ?_ | refine a_nilc ?_ | refine a_fa ?_ | refine a_ext ?_ | refine a_lenv ?_ | refine a_lens ?_ | refine a_pick_t ?_ | refine a_pick_f ?_ | refine a_not ?_ | refine a_nilf ?_ | (refine a_bin ?_ ?_ <;> intro _ <;> try (exfalso; omega)) | refine a_ld hl ?_ | (refine a_st hl ?_; clear hl; intro _ hl) | refine a_ix (fun _ => ?_) | fail)
    refine o_nil (hK2 _ _ ?_)
    clear hK2 K2
    refine wk_cond_t rfl ?_
    refine wk_seq fun K2 hK2 => ?_
    refine wk_reg ?_
    refine o_build [.slice none 0 0] rfl rfl ?_
    refine a_mov ?_
    refine a_mov ?_
    refine o_putN (us := [.slice none 0 0]) hl rfl rfl rfl rfl rfl (.here rfl rfl) ?_
    clear hl
    intro w3 hl
    refine a_asg ?_
    refine a_asg ?_
    refine o_nil (hK2 _ _ ?_)
    refine wk_ret (retQ_res [.agg #[.slice none 0 0], .int .i64 e, .int .i64 off] rfl rfl ⟨by decide, ⟨⟨b2, 0, none⟩, rfl, run_loadVarN rfl rfl (hl.rowL (vs := [.slice none 0 0]) 0 0 1 rfl)⟩, by decide, rfl, by decide, rfl, trivial⟩ ?_)
    rw [hp]
    exact ⟨⟨_, rfl, Sl.nil _ _⟩, hl.done⟩
  | ok ts =>
    rw [hlex] at hout
    obtain ⟨tv, rfl, hsv⟩ := hout
    have hp : factsP text.length ts.length [] (ts.drop 0) = parseD text := by unfold parseD; rw [hlex]; rfl
    obtain ⟨htok, hlen⟩ := lex_tok hlex
    obtain ⟨ta, tc, rfl, -⟩ := hsv.shape (toksL_len ts) (by omega)
    have hl0 := hl
    have hoff2 : toksL ts ≠ [] → Off (OneB b2) (.slice ta ts.length tc) := fun hne => by
      cases ts with
      | nil => exact absurd rfl hne
      | cons t ts =>
        rcases hsv with ⟨-, h⟩ | ⟨ad, m, c, h1, h2, h3, h4, h5⟩
        · exact absurd h hne
        · cases h1
          intro hm
          have h6 : (toksL (t :: ts))[3]? = some (.int .i64 (t.pos : Int)) := rfl
          rw [List.mem_singleton.1 hm] at h5
          have := row_block (hl.get 0 rfl) h5 h6
          simp at this
    have hl : LH w2 (OneB b2) w2 [(b2, .cells [.slice none 0 0].toArray 24 (0, 0))] := hl0.rb
    have hblt : toksL ts ≠ [] → ∃ b o, ta = some ⟨b, o, none⟩ ∧ b < w2.heap.size ∧ b ≠ b2 := fun hne => by
      have ho := hoff2 hne
      cases ts with
      | nil => exact absurd rfl hne
      | cons t ts =>
        rcases hsv with ⟨-, h⟩ | ⟨ad, m, c, h1, h2, h3, h4, h5⟩
        · exact absurd h hne
        · cases h1
          refine ⟨ad.block, ad.off, ?_, lt_of_row (v := .int .i64 (t.kind : Int)) (vs := (toksL (t :: ts)).tail) h5, fun h => ho (List.mem_singleton.2 h)⟩
          have : ad.spot = none := h4 (by simp at h3; omega)
          rw [← this]
    have hoffM : ∀ (l : List (Nat × Obj)) (w' : World), LH w2 (OneB b2) w' l → toksL ts ≠ [] → Off (fun b => b ∈ l.map (·.1)) (.slice ta ts.length tc) := fun l w' h hne => by
      obtain ⟨b, o, hta, hb1, hb2⟩ := hblt hne
      rw [hta]
      intro hm
      rcases h.id hm with h1 | h1
      · simp only at h1; omega
      · exact hb2 (List.mem_singleton.1 h1)
    have hst : ∀ (w' : World) (l : List (Nat × Obj)), LH w2 (OneB b2) w' l → Sl w' (.slice ta ts.length tc) 4 (toksL ts) := fun w' l h => sl_updE hsv h.upd hoff2
    repeat' (first | refine a_mov ?_ | refine a_asg ?_ | refine a_binN ?_ | refine a_notd ?_ | refine a_notb ?_ | refine a_nilc ?_ | refine a_fa ?_ | refine a_ext ?_ | refine a_lenv ?_ | refine a_lens ?_ | refine a_pick_t ?_ | refine a_pick_f ?_ | refine a_not ?_ | refine a_nilf ?_ | (refine a_bin ?_ ?_ <;> intro _ <;> try (exfalso; omega)) | refine a_ld hl ?_ | (refine a_st hl ?_; clear hl; intro _ hl) | refine a_ix (fun _ => ?_) | fail)
    refine o_nil (hK _ _ ?_)
    clear hK K
    refine wk_seq fun K hK => ?_
    refine wk_seq fun K2 hK2 => ?_
    refine wk_reg ?_
    repeat' (first | refine a_mov ?_ | refine a_asg ?_ | refine a_binN ?_ | refine a_notd ?_ | refine a_notb ?_ | refine a_nilc ?_ | refine a_fa ?_ | refine a_ext ?_ | refine a_lenv ?_ | refine a_lens ?_ | refine a_pick_t ?_ | refine a_pick_f ?_ | refine a_not ?_ | refine a_nilf ?_ | (refine a_bin ?_ ?_ <;> intro _ <;> try (exfalso; omega)) | refine a_ld hl ?_ | (refine a_st hl ?_; clear hl; intro _ hl) | refine a_ix (fun _ => ?_) | fail)
    refine o_nil (hK2 _ _ ?_)
    clear hK2 K2
    refine wk_cond_f rfl ?_
    refine wk_skip (hK _ _ ?_)
    clear hK K
    refine wk_seq fun K hK => ?_
    refine wk_reg ?_
    refine a_mov ?_
    refine a_mov ?_
    refine a_lens ?_
    refine o_build (rsL (.slice ta ts.length tc) text.length ⟨0, 0, 0⟩) rfl rfl ?_
    refine o_box hl (rsL (.slice ta ts.length tc) text.length ⟨0, 0, 0⟩) rfl rfl rfl ?_
    clear hl
    intro rb w3 hrb hl
    refine a_asg ?_
    refine o_nil (hK _ _ ?_)
    clear hK K
    refine wk_seq fun K hK => ?_
    refine wk_reg ?_
    refine o_build [.slice none 0 0] rfl rfl ?_
    refine o_alloc hl [.slice none 0 0] (by kernel_rfl) rfl ?_
    clear hl
    intro b9 w4 hb9 hl
    refine o_putN (us := [.slice none 0 0]) hl rfl rfl rfl rfl rfl (.here rfl rfl) ?_
    clear hl
    intro w5 hl
    replace hl := hl.perm (List.Perm.swap _ _ _)
    refine o_nil (hK _ _ ?_)
    clear hK K
    refine wk_seq fun K hK => ?_
    refine wk_block ?_
    refine wk_loopH [] rfl (fun q : List Fact × RS × Value × List (Nat × Obj) => [(2, .pointer (some ⟨b2, 0, none⟩)), (5, .slice ta ts.length tc), (8, .pointer (some ⟨rb, 0, none⟩)), (9, .pointer (some ⟨b9, 0, none⟩))])
      (fun q w' => OnD text.length ts (parseD text) q.1 q.2.1 ∧ LH w2 (OneB b2) w' (rsB rb (.slice ta ts.length tc) text.length q.2.1 :: (b9, .cells [q.2.2.1].toArray 24 (0, 0)) :: (b2, .cells [.slice none 0 0].toArray 24 (0, 0)) :: q.2.2.2) ∧ Acc q.2.2.1 4 47 q.1.length (factsL q.1) q.2.2.2)
      (fun q => if q.2.1.er = 0 then ts.length - q.2.1.i + 1 else 0) ([], ⟨0, 0, 0⟩, .slice none 0 0, []) ⟨rfl, rfl, rfl, rfl, trivial⟩ ⟨⟨Nat.zero_le _, .inl ⟨rfl, rfl, by simp, ts.length, by simp, hp⟩⟩, hl, Acc.nil _ _⟩ ?_
    clear hl
    rintro ⟨F, s, dv, acc⟩ t w6 ⟨hon, hl, ha⟩
    simp only at hon hl ha
    have hrp : Row w6 rb 0 (rsL (.slice ta ts.length tc) text.length s) := hl.rowL (vs := rsL (.slice ta ts.length tc) text.length s) 0 0 5 rfl
    have hi := hon.1
    refine wk_seq fun K1 hK1 => ?_
    refine wk_seq fun K2 hK2 => ?_
    refine wk_reg ?_
    by_cases hgo : s.er = 0 ∧ s.i < ts.length
    · obtain ⟨h0, hlt⟩ := hgo
      obtain ⟨hon2, hinc⟩ := hon.step h0 hlt
      have h60 : F.length ≤ 60 := by
        rcases hon.2 with h | h
        · exact h.2.2.1
        · exact absurd h0 h.1
      obtain ⟨da, dc, rfl⟩ := ha.shape
      repeat' (first | refine a_mov ?_ | refine a_asg ?_ | refine a_binN ?_ | refine a_notd ?_ | refine a_notb ?_ | refine a_nilc ?_ | refine a_fa ?_ | refine a_ext ?_ | refine a_lenv ?_ | refine a_lens ?_ | refine a_pick_t ?_ | refine a_pick_f ?_ | refine a_not ?_ | refine a_nilf ?_ | (refine a_bin ?_ ?_ <;> intro _ <;> try (exfalso; omega)) | refine a_ld hl ?_ | (refine a_st hl ?_; clear hl; intro _ hl) | refine a_ix (fun _ => ?_) | refine a_row hrp ?_ | fail)
      refine o_nil (hK2 _ _ ?_)
      clear hK2 K2 hrp
      refine wk_cond_t rfl ?_
      refine wk_skip (hK1 _ _ ?_)
      clear hK1 K1
      refine wk_block ?_
      clear hK
      refine wk_reg ?_
      refine a_mov ?_
      refine a_all (hl.rowL (vs := [.slice da F.length dc]) 1 0 1 rfl) ?_
      have hl2 : LH w2 (OneB b2) w6 ((rsB rb (.slice ta ts.length tc) text.length s :: acc) ++ [(b9, .cells [.slice da F.length dc].toArray 24 (0, 0)), (b2, .cells [.slice none 0 0].toArray 24 (0, 0))]) := hl.perm (List.Perm.cons _ (List.perm_append_comm (l₁ := [_, _]) (l₂ := acc)))
      refine a_fn (fact6_calls (M := fun b => b ∈ (rsB rb (.slice ta ts.length tc) text.length s :: acc).map (·.1)) (by omega) ha hl2.toL ⟨hst _ _ hl2, hoffM _ _ hl2.left, hlen⟩ hi List.mem_cons_self) ?_
      rintro _ w7 ⟨dv', acc', rfl, ha', hlA⟩
      have hl3 := LH.swapL hl2 hlA
      obtain ⟨da', dc', rfl⟩ := ha'.shape
      have hl4 : LH w2 (OneB b2) w7 (rsB rb (.slice ta ts.length tc) text.length (factS' text.length ts F s).2 :: (b9, .cells [.slice da F.length dc].toArray 24 (0, 0)) :: (b2, .cells [.slice none 0 0].toArray 24 (0, 0)) :: acc') := hl3.perm (List.Perm.cons _ (List.perm_append_comm (l₁ := acc') (l₂ := [_, _])))
      clear hl hl2 hl3 hlA
      refine o_putN (us := [.slice da' (F.length + 1) dc']) hl4 rfl rfl rfl rfl rfl (.there (.here rfl rfl)) ?_
      clear hl4
      intro w8 hl
      refine o_nil ⟨(F ++ [(factS' text.length ts F s).1], (factS' text.length ts F s).2, .slice da' (F.length + 1) dc', acc'), ⟨rfl, rfl, rfl, rfl, trivial⟩, rfl, ⟨hon2, hl, by rw [List.length_append]; exact ha'⟩, ?_⟩
      simp only
      rw [if_pos h0]
      split
      · rename_i h1
        have := hinc h1
        omega
      · omega
    · by_cases h0 : s.er = 0
      · have hge : ¬ s.i < ts.length := fun h => hgo ⟨h0, h⟩
        have hq : parseD text = .inl F := by
          rcases hon.2 with ⟨-, -, -, f, hf, hq⟩ | h
          · rw [List.drop_eq_nil_of_le (by omega)] at hq
            rw [← hq]
            cases f <;> simp [factsP]
          · exact absurd h0 h.1
        repeat' (first | refine a_mov ?_ | refine a_asg ?_ | refine a_binN ?_ | refine a_notd ?_ | refine a_notb ?_ | refine a_nilc ?_ | refine a_fa ?_ | refine a_ext ?_ | refine a_lenv ?_ | refine a_lens ?_ | refine a_pick_t ?_ | refine a_pick_f ?_ | refine a_not ?_ | refine a_nilf ?_ | (refine a_bin ?_ ?_ <;> intro _ <;> try (exfalso; omega)) | refine a_ld hl ?_ | (refine a_st hl ?_; clear hl; intro _ hl) | refine a_ix (fun _ => ?_) | refine a_row hrp ?_ | fail)
        refine o_nil (hK2 _ _ ?_)
        clear hK2 K2
        refine wk_cond_f rfl ?_
        refine wk_exit ?_
        refine blockK_same ?_
        refine hK _ _ ?_
        clear hK1 K1
        clear hK K
        refine wk_seq fun K hK => ?_
        refine wk_seq fun K2 hK2 => ?_
        refine wk_reg ?_
        repeat' (first | refine a_mov ?_ | refine a_asg ?_ | refine a_binN ?_ | refine a_notd ?_ | refine a_notb ?_ | refine a_nilc ?_ | refine a_fa ?_ | refine a_ext ?_ | refine a_lenv ?_ | refine a_lens ?_ | refine a_pick_t ?_ | refine a_pick_f ?_ | refine a_not ?_ | refine a_nilf ?_ | (refine a_bin ?_ ?_ <;> intro _ <;> try (exfalso; omega)) | refine a_ld hl ?_ | (refine a_st hl ?_; clear hl; intro _ hl) | refine a_ix (fun _ => ?_) | refine a_row hrp ?_ | fail)
        refine o_nil (hK2 _ _ ?_)
        clear hK2 K2
        refine wk_cond_f rfl ?_
        refine wk_skip (hK _ _ ?_)
        clear hK K
        refine wk_seq fun K hK => ?_
        refine wk_reg ?_
        obtain ⟨da, dc, rfl⟩ := ha.shape
        refine a_all (hl.rowL (vs := [.slice da F.length dc]) 1 0 1 rfl) ?_
        refine o_putN (us := [.slice da F.length dc]) hl rfl rfl rfl rfl rfl (.there (.there (.here rfl rfl))) ?_
        clear hl
        intro w7 hl
        refine a_asg ?_
        refine a_asg ?_
        refine o_nil (hK _ _ ?_)
        clear hK K
        have hsl : Sl w7 (.slice da F.length dc) 4 (factsL F) := LH.acc_sl (l := [_, _, _]) hl ha
        refine wk_ret (retQ_res [.agg #[.slice da F.length dc], .int .i64 0, .int .i64 0] rfl rfl ⟨by decide, ⟨⟨b2, 0, none⟩, rfl, run_loadVarN rfl rfl (hl.rowL (vs := [.slice da F.length dc]) 2 0 1 rfl)⟩, by decide, rfl, by decide, rfl, trivial⟩ ?_)
        rw [hq]
        exact ⟨⟨_, rfl, hsl⟩, (hl0.bk hl).done⟩
      · have hq : parseD text = .inr (s.er, s.at_) := by
          rcases hon.2 with h | h
          · exact absurd h.1 h0
          · exact h.2
        repeat' (first | refine a_mov ?_ | refine a_asg ?_ | refine a_binN ?_ | refine a_notd ?_ | refine a_notb ?_ | refine a_nilc ?_ | refine a_fa ?_ | refine a_ext ?_ | refine a_lenv ?_ | refine a_lens ?_ | refine a_pick_t ?_ | refine a_pick_f ?_ | refine a_not ?_ | refine a_nilf ?_ | (refine a_bin ?_ ?_ <;> intro _ <;> try (exfalso; omega)) | refine a_ld hl ?_ | (refine a_st hl ?_; clear hl; intro _ hl) | refine a_ix (fun _ => ?_) | refine a_row hrp ?_ | fail)
        refine o_nil (hK2 _ _ ?_)
        clear hK2 K2
        refine wk_cond_f rfl ?_
        refine wk_exit ?_
        refine blockK_same ?_
        refine hK _ _ ?_
        clear hK1 K1
        clear hK K
        refine wk_seq fun K hK => ?_
        refine wk_seq fun K2 hK2 => ?_
        refine wk_reg ?_
        repeat' (first | refine a_mov ?_ | refine a_asg ?_ | refine a_binN ?_ | refine a_notd ?_ | refine a_notb ?_ | refine a_nilc ?_ | refine a_fa ?_ | refine a_ext ?_ | refine a_lenv ?_ | refine a_lens ?_ | refine a_pick_t ?_ | refine a_pick_f ?_ | refine a_not ?_ | refine a_nilf ?_ | (refine a_bin ?_ ?_ <;> intro _ <;> try (exfalso; omega)) | refine a_ld hl ?_ | (refine a_st hl ?_; clear hl; intro _ hl) | refine a_ix (fun _ => ?_) | refine a_row hrp ?_ | fail)
        refine o_nil (hK2 _ _ ?_)
        clear hK2 K2
        refine wk_cond_t rfl ?_
        refine wk_seq fun K2 hK2 => ?_
        refine wk_draw [0, 1, 2, 3, 4, 5, 6, 7, 8, 10, 11] [4, 8] [9] (fun w' => To w6 w' w6.heap) (fun w' => Row w' rb 0 (rsL (.slice ta ts.length tc) text.length s)) rfl (by kernel_rfl) (by intro _ _ _ _ h; first | exact h | (simp only [BlockK, NoGoto, RetQ] at h)) (fun _ h => h) (fun w' h => hrp.ext (Upd.of_heap h)) ?_
        refine q_build [.slice none 0 0] rfl rfl (by kernel_rfl) ?_
        repeat' (first | refine q_mov ?_ | refine q_asg ?_ | refine q_fa ?_ | refine q_ext ?_ | refine q_binN ?_ | refine q_notd ?_ | refine q_notb ?_ | refine q_pick_t ?_ | refine q_pick_f ?_ | refine q_nilc ?_ | refine q_skip ?_ | refine q_lens ?_ | refine q_lenv ?_ | refine q_nil ?_ | refine q_ix (fun _ => ?_) | (refine q_bin ?_ ?_ <;> intro _ <;> try (exfalso; omega)) | refine q_late rfl rfl rfl rfl (fun w' hw' => r_load rfl rfl (hw' 3 _ rfl)) ?_ | refine q_late rfl rfl rfl rfl (fun w' hw' => r_load rfl rfl (hw' 4 _ rfl)) ?_ | fail)
        intro w7 hw7
        replace hl := hl.heap hw7
        refine ops_tail rfl rfl ?_
        refine o_putN (us := [.slice none 0 0]) hl rfl rfl rfl rfl rfl (.there (.there (.here rfl rfl))) ?_
        clear hl
        intro w8 hl
        refine o_nil ⟨hl.rowL (vs := rsL (.slice ta ts.length tc) text.length s) 0 0 5 rfl, ?_⟩
        refine ops_nil (hK2 _ _ ?_)
        refine wk_ret (retQ_res [.agg #[.slice none 0 0], .int .i64 s.er, .int .i64 s.at_] rfl rfl ⟨by decide, ⟨⟨b2, 0, none⟩, rfl, run_loadVarN rfl rfl (hl.rowL (vs := [.slice none 0 0]) 2 0 1 rfl)⟩, by decide, rfl, by decide, rfl, trivial⟩ ?_)
        rw [hq]
        exact ⟨⟨_, rfl, Sl.nil _ _⟩, (hl0.bk hl).done⟩
end Go.Proofs
