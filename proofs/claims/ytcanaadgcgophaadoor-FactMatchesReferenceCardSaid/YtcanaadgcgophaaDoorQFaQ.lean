/-
  Facts: ParseCase.
-/
import Derived.Test.YtcanaadgcgophaaDoorQFD
import Derived.Test.YtcanaadgcgophaaDoorQFaPe
import Derived.Test.YtcanaadgcgophaaDoorQFC
import Derived.Test.YtcanaadgcgophaaDoorQFB
import Derived.Test.YtcanaadgcgophaaDoorQL2
set_option linter.unusedVariables false
set_option linter.unusedSimpArgs false
set_option linter.unnecessarySimpa false
set_option maxRecDepth 10000
namespace Go.Proofs
open Go Go.Pd Go.Fac Go.Fo
open Go.Lexs (Tok lex)
attribute [local irreducible] OpsL W RetQ OpsQ OpsC
def CaseOut (w' : World) (q : List Int ⊕ (Int × Int)) (v : Value) : Prop := match q with
  | .inl c => ∃ cv, v = .tuple #[cv, .int .i64 0, .int .i64 0] ∧ Sl w' cv 1 (intsL c)
  | .inr p => v = .tuple #[.slice none 0 0, .int .i64 p.1, .int .i64 p.2]
theorem intsL_map (c : List Int) : intsL c = c.map (Value.int .i64) := by
  induction c with
  | nil => rfl
  | cons a c ih => rw [List.map_cons, ← ih]; rfl
theorem intsL_set (c : List Int) (k : Nat) (z : Int) (vs : List Value) (h : vs = intsL c) : vs.set (0 + k * 1) (.int .i64 z) = intsL (c.set k z) := by
  subst h
  rw [intsL_map, intsL_map, List.map_set, Nat.zero_add, Nat.mul_one]
def itemR (en : Int) (F : List Fact) (seen : List Bool) (name : Tok) (r : List Tok) : Rd (Nat × Int) := match idx F name.text with
  | none => .bad 7 name.pos
  | some i => if seen.getD i false then .bad 9 name.pos else (takeK en 3 kEq r).bind fun _ r => (takeK en 2 [] r).bind fun n r => if (n.num : Int) < (factAt F i).lo ∨ (factAt F i).hi < (n.num : Int) then .bad 10 n.pos else .ok (i, (n.num : Int)) r
theorem itemP_eq (en : Int) (F : List Fact) (seen : List Bool) (first : Bool) (ts : List Tok) : itemP en F seen first ts = (if first then Rd.ok () ts else (takeK en 3 kComma ts).bind fun _ r => .ok () r).bind fun _ r => (takeK en 1 [] r).bind (itemR en F seen) := rfl
set_option maxHeartbeats 16000000 in
theorem parseC_calls {F : List Fact} {dv : Value} {w : World} (hd : Sl w dv 4 (factsL F)) (hF : F.length ≤ 9223372036854775806) (hn : ∀ f ∈ F, f.name.length ≤ 9223372036854775806) (text : Tx) : Calls Tryd.prog 13 #[.agg #[dv], str text] w (fun e w' => ∃ v, e = .returned v ∧ Ext w w' ∧ CaseOut w' (parseC F text) v) := by
  obtain ⟨pa, ca, rfl, -⟩ := hd.shape (factsL_len F) (by omega)
  refine Calls.mono (R := EndP (fun v w' => Ext w w' ∧ CaseOut w' (parseC F text) v) (fun _ _ => False)) ?_ (fun e w' h => h.elim (fun ⟨v, h1, h2⟩ => ⟨v, h1, h2⟩) (fun ⟨c, h1, h2⟩ => h2.elim))
  refine calls_ofP Tryd.func13 rfl Tryd.ntmps13 rfl ?_
  refine wk_seq fun K hK => ?_
  refine wk_reg ?_
  refine o_box (LH.start w (fun _ => False)) [.slice pa F.length ca] rfl rfl rfl ?_
  intro bx w0 hbx hlx
  have hx0 : Ext w w0 := hlx.done
  have hrx : Row w0 bx 0 [.slice pa F.length ca] := hlx.rowL (vs := [.slice pa F.length ca]) 0 0 1 rfl
  have hd0 := hd.ext hx0
  clear hlx hd
  refine o_alloc (LH.start w0 (fun _ => False)) [.slice none 0 0] rfl rfl ?_
  intro b4 w1 hb4 hl
  refine o_alloc hl [.int .i64 0] rfl rfl ?_
  clear hl
  intro b5 w2 hb5 hl
  refine o_alloc hl [.int .i64 0] rfl rfl ?_
  clear hl
  intro b6 w3 hb6 hl
  refine o_nil (hK _ _ ?_)
  clear hK K
  have hl : LH w0 (fun _ => False) w3 (resB 26 b4 b5 b6 (.slice none 0 0) 0 0) := hl
  refine wk_seq fun K hK => ?_
  refine wk_seq fun K2 hK2 => ?_
  refine wk_reg ?_
  refine a_all (hrx.ext hl.done) ?_
  refine a_fn (valid_calls (hd0.ext hl.done) hF hn) ?_
  rintro _ w4 ⟨rfl, hx4⟩
  replace hl := hl.ext hx4
  clear hx4
  cases hvd : validD F with
  | false =>
    have hp : parseC F text = .inr (1, 0) := by unfold parseC; rw [hvd]; rfl
    repeat' (first | refine a_mov ?_ | refine a_asg ?_ | refine a_binN ?_ | refine a_notd ?_ | refine a_notb ?_ | refine a_nilc ?_ | refine a_fa ?_ | refine a_ext ?_ | refine a_lenv ?_ | refine a_lens ?_ | refine a_pick_t ?_ | refine a_pick_f ?_ | refine a_not ?_ | refine a_nilf ?_ | (refine a_bin ?_ ?_ <;> intro _ <;> try (exfalso; omega)) | refine a_ld hl ?_ | (refine a_st hl ?_; clear hl; intro _ hl) | refine a_ix (fun _ => ?_) | fail)
    refine o_nil (hK2 _ _ ?_)
    clear hK2 K2
    refine wk_cond_t rfl ?_
    refine wk_seq fun K2 hK2 => ?_
    refine wk_reg ?_
    refine o_put1 (b := b4) (o := 0) (v := .slice none 0 0) hl rfl rfl rfl ⟨rfl, rfl⟩ rfl (.there (.there (.here rfl rfl))) ?_
    clear hl
    intro w5 hl
    refine o_put1 (b := b5) (o := 0) (v := .int .i64 1) hl rfl rfl rfl ⟨rfl, rfl⟩ rfl (.there (.here rfl rfl)) ?_
    clear hl
    intro w6 hl
    refine o_put1 (b := b6) (o := 0) (v := .int .i64 0) hl rfl rfl rfl ⟨rfl, rfl⟩ rfl (.here rfl rfl) ?_
    clear hl
    intro w7 hl
    have hl : LH w0 (fun _ => False) w7 (resB 26 b4 b5 b6 (.slice none 0 0) 1 0) := hl
    refine o_nil (hK2 _ _ ?_)
    clear hK2 K2
    refine wk_ret (retP_of (retQ_res [.slice none 0 0, .int .i64 1, .int .i64 0] rfl rfl ⟨by decide, ⟨⟨b4, 0, none⟩, rfl, run_loadVar1 rfl (hl.cell 2 rfl rfl)⟩, by decide, ⟨⟨b5, 0, none⟩, rfl, run_loadVar1 rfl (hl.cell 1 rfl rfl)⟩, by decide, ⟨⟨b6, 0, none⟩, rfl, run_loadVar1 rfl (hl.cell 0 rfl rfl)⟩, trivial⟩ ?_) rfl)
    refine ⟨hx0.trans hl.done, ?_⟩
    rw [hp]
    rfl
  | true =>
    repeat' (first | refine a_mov ?_ | refine a_asg ?_ | refine a_binN ?_ | refine a_notd ?_ | refine a_notb ?_ | refine a_nilc ?_ | refine a_fa ?_ | refine a_ext ?_ | refine a_lenv ?_ | refine a_lens ?_ | refine a_pick_t ?_ | refine a_pick_f ?_ | refine a_not ?_ | refine a_nilf ?_ | (refine a_bin ?_ ?_ <;> intro _ <;> try (exfalso; omega)) | refine a_ld hl ?_ | (refine a_st hl ?_; clear hl; intro _ hl) | refine a_ix (fun _ => ?_) | fail)
    refine o_nil (hK2 _ _ ?_)
    clear hK2 K2
    refine wk_cond_f rfl ?_
    refine wk_skip (hK _ _ ?_)
    clear hK K
    refine wk_seq fun K hK => ?_
    refine wk_reg ?_
    refine a_mov ?_
    refine a_fn (lex_calls text w4) ?_
    rintro v w5 ⟨hx5, hout⟩
    replace hl := hl.ext hx5
    clear hx5
    cases hlex : lex text with
    | bad e off =>
      rw [hlex] at hout
      obtain rfl := hout
      have hp : parseC F text = .inr ((e : Int), off) := by unfold parseC; rw [hvd, hlex]; rfl
      repeat' (first | refine a_mov ?_ | refine a_asg ?_ | refine a_binN ?_ | refine a_notd ?_ | refine a_notb ?_ | refine a_nilc ?_ | refine a_fa ?_ | refine a_ext ?_ | refine a_lenv ?_ | refine a_lens ?_ | refine a_pick_t ?_ | refine a_pick_f ?_ | refine a_not ?_ | refine a_nilf ?_ | (refine a_bin ?_ ?_ <;> intro _ <;> try (exfalso; omega)) | refine a_ld hl ?_ | (refine a_st hl ?_; clear hl; intro _ hl) | refine a_ix (fun _ => ?_) | fail)
      refine o_nil (hK _ _ ?_)
      clear hK K
      rename_i w6 w7
      have hl : LH w0 (fun _ => False) w7 (resB 26 b4 b5 b6 (.slice none 0 0) e off) := hl
      refine wk_seq fun K hK => ?_
      refine wk_seq fun K2 hK2 => ?_
      refine wk_reg ?_
      have hne := lex_ne hlex
      repeat' (first | refine a_mov ?_ | refine a_asg ?_ | refine a_binN ?_ | refine a_notd ?_ | refine a_notb ?_ | refine a_nilc ?_ | refine a_fa ?_ | refine a_ext ?_ | refine a_lenv ?_ | refine a_lens ?_ | refine a_pick_t ?_ | refine a_pick_f ?_ | refine a_not ?_ | refine a_nilf ?_ | (refine a_bin ?_ ?_ <;> intro _ <;> try (exfalso; omega)) | refine a_ld hl ?_ | (refine a_st hl ?_; clear hl; intro _ hl) | refine a_ix (fun _ => ?_) | fail)
      refine o_nil (hK2 _ _ ?_)
      clear hK2 K2
      refine wk_cond_t rfl ?_
      refine wk_seq fun K2 hK2 => ?_
      refine wk_np (wk_draw (List.range 2) [0, 1] [2, 3, 4] (fun w' => LH w0 (fun _ => False) w' (resB 26 b4 b5 b6 (.slice none 0 0) e off)) (fun w' => LH w0 (fun _ => False) w' (resB 26 b4 b5 b6 (.slice none 0 0) e off)) rfl (by kernel_rfl) (by intro _ _ _ _ h; exact h) (fun w' h => hl.heap h) (fun _ h => h) ?_)
      refine q_late rfl rfl rfl rfl (fun w' hw' => r_load rfl rfl (hw'.cell 1 rfl rfl)) ?_
      refine q_late rfl rfl rfl rfl (fun w' hw' => r_load rfl rfl (hw'.cell 0 rfl rfl)) ?_
      refine q_nil ?_
      clear hl
      intro w8 hl
      refine ops_tail rfl rfl ?_
      refine o_put1 (b := b4) (o := 0) (v := .slice none 0 0) hl rfl rfl rfl ⟨rfl, rfl⟩ rfl (.there (.there (.here rfl rfl))) ?_
      clear hl
      intro w9 hl
      refine o_nil ⟨hl, ?_⟩
      refine ops_tail rfl rfl ?_
      refine o_put1 (b := b5) (o := 0) (v := .int .i64 e) hl rfl rfl rfl ⟨rfl, rfl⟩ rfl (.there (.here rfl rfl)) ?_
      clear hl
      intro w10 hl
      refine o_nil ⟨hl, ?_⟩
      refine ops_tail rfl rfl ?_
      refine o_put1 (b := b6) (o := 0) (v := .int .i64 off) hl rfl rfl rfl ⟨rfl, rfl⟩ rfl (.here rfl rfl) ?_
      clear hl
      intro w11 hl
      have hl : LH w0 (fun _ => False) w11 (resB 26 b4 b5 b6 (.slice none 0 0) e off) := hl
      refine o_nil ⟨hl, ?_⟩
      refine ops_nil (hK2 _ _ ?_)
      refine wk_ret (retP_of (retQ_res [.slice none 0 0, .int .i64 e, .int .i64 off] rfl rfl ⟨by decide, ⟨⟨b4, 0, none⟩, rfl, run_loadVar1 rfl (hl.cell 2 rfl rfl)⟩, by decide, ⟨⟨b5, 0, none⟩, rfl, run_loadVar1 rfl (hl.cell 1 rfl rfl)⟩, by decide, ⟨⟨b6, 0, none⟩, rfl, run_loadVar1 rfl (hl.cell 0 rfl rfl)⟩, trivial⟩ ?_) rfl)
      refine ⟨hx0.trans hl.done, ?_⟩
      rw [hp]
      rfl
    | ok ts =>
      rw [hlex] at hout
      obtain ⟨sv, rfl, hsv⟩ := hout
      have hp : parseC F text = caseT text.length F ts := by unfold parseC; rw [hvd, hlex]; rfl
      obtain ⟨htok, hlen⟩ := lex_tok hlex
      have hl4 := hl
      replace hl := hl.rb
      repeat' (first | refine a_mov ?_ | refine a_asg ?_ | refine a_binN ?_ | refine a_notd ?_ | refine a_notb ?_ | refine a_nilc ?_ | refine a_fa ?_ | refine a_ext ?_ | refine a_lenv ?_ | refine a_lens ?_ | refine a_pick_t ?_ | refine a_pick_f ?_ | refine a_not ?_ | refine a_nilf ?_ | (refine a_bin ?_ ?_ <;> intro _ <;> try (exfalso; omega)) | refine a_ld hl ?_ | (refine a_st hl ?_; clear hl; intro _ hl) | refine a_ix (fun _ => ?_) | fail)
      refine o_nil (hK _ _ ?_)
      clear hK K
      rename_i w6 w7
      have hoff := off_res hsv hl4
      have hsv6 := sl_updE hsv hl.upd hoff
      have hl6 : LH w0 (fun _ => False) w7 (resB 26 b4 b5 b6 (.slice none 0 0) 0 0) := hl4.bk hl
      clear hl4 hl
      have hl : LH w7 (resK b4 b5 b6) w7 (resB 26 b4 b5 b6 (.slice none 0 0) 0 0) := hl6.rb
      refine wk_seq fun K hK => ?_
      refine wk_seq fun K2 hK2 => ?_
      refine wk_reg ?_
      repeat' (first | refine a_mov ?_ | refine a_asg ?_ | refine a_binN ?_ | refine a_notd ?_ | refine a_notb ?_ | refine a_nilc ?_ | refine a_fa ?_ | refine a_ext ?_ | refine a_lenv ?_ | refine a_lens ?_ | refine a_pick_t ?_ | refine a_pick_f ?_ | refine a_not ?_ | refine a_nilf ?_ | (refine a_bin ?_ ?_ <;> intro _ <;> try (exfalso; omega)) | refine a_ld hl ?_ | (refine a_st hl ?_; clear hl; intro _ hl) | refine a_ix (fun _ => ?_) | fail)
      refine o_nil (hK2 _ _ ?_)
      clear hK2 K2
      refine wk_cond_f rfl ?_
      refine wk_skip (hK _ _ ?_)
      clear hK K
      refine wk_seq fun K hK => ?_
      refine wk_reg ?_
      refine o_mf [] [.pointer (some ⟨b4, 0, none⟩), .pointer (some ⟨b5, 0, none⟩), .pointer (some ⟨b6, 0, none⟩)] rfl rfl rfl ?_
      refine a_defer ?_ rfl
      refine o_nil (hK _ _ ?_)
      clear hK K
      obtain ⟨ta, tc, rfl, hcap⟩ := hsv6.shape (toksL_len ts) (by omega)
      refine wk_seq fun K hK => ?_
      refine wk_reg ?_
      refine a_mov ?_
      refine a_mov ?_
      refine a_lens ?_
      refine o_build (psL (.slice ta ts.length tc) 0 text.length) rfl rfl ?_
      refine o_box (LH.start w7 (fun _ => False)) (psL (.slice ta ts.length tc) 0 text.length) rfl rfl rfl ?_
      intro pb w8 hpb hl7
      have hl : LH w7 (resK b4 b5 b6) w8 (psB pb (.slice ta ts.length tc) (0 : Nat) text.length :: resB 26 b4 b5 b6 (.slice none 0 0) 0 0) := hl.join hl7
      clear hl7
      have hTK : ∀ (w' : World) (l : List (Nat × Obj)), LH w7 (resK b4 b5 b6) w' l → TK w' pb (.slice ta ts.length tc) ts := fun w' l h => ⟨sl_updE hsv6 h.upd hoff, fun hne => off_new hsv6 (by decide) hne hpb, hlen⟩
      have hD : ∀ (w' : World) (l : List (Nat × Obj)), LH w7 (resK b4 b5 b6) w' l → Ext w0 w' := fun w' l h => hl6.upd.trans h.upd fun k hk hM => by
        rcases hl6.id hM with h1 | h1
        · omega
        · exact h1
      refine a_asg ?_
      refine o_nil (hK _ _ ?_)
      clear hK K
      have hg : Good F := by
        unfold validD at hvd
        simp only [Bool.and_eq_true, decide_eq_true_eq, List.all_eq_true] at hvd
        exact ⟨hvd.1.1, hvd.1.2, hvd.2⟩
      refine wk_seq fun K hK => ?_
      refine wk_reg ?_
      have hrx8 := hrx.ext (hD _ _ hl)
      repeat' (first | refine a_mov ?_ | refine a_asg ?_ | refine a_binN ?_ | refine a_notd ?_ | refine a_notb ?_ | refine a_nilc ?_ | refine a_fa ?_ | refine a_ext ?_ | refine a_lenv ?_ | refine a_lens ?_ | refine a_pick_t ?_ | refine a_pick_f ?_ | refine a_not ?_ | refine a_nilf ?_ | (refine a_bin ?_ ?_ <;> intro _ <;> try (exfalso; omega)) | refine a_ld hl ?_ | (refine a_st hl ?_; clear hl; intro _ hl) | refine a_ix (fun _ => ?_) | refine a_row hrx8 ?_ | fail)
      refine o_makeSlice (m := F.length) (bytes := 8) (z := .int .i64 0) hl rfl rfl rfl rfl rfl rfl rfl (by have := hg.2.2; omega) (by omega) ?_
      clear hl hrx8
      intro b37 w9 hb37 hl
      refine o_put1 (b := b4) (o := 0) (v := .slice (some ⟨b37, 0, none⟩) F.length F.length) hl rfl rfl rfl ⟨rfl, rfl⟩ rfl (.there (.there (.there (.there (.here rfl rfl))))) ?_
      clear hl
      intro w10 hl
      refine o_nil (hK _ _ ?_)
      clear hK K
      refine wk_seq fun K hK => ?_
      refine wk_reg ?_
      refine o_makeMap hl rfl ?_
      clear hl
      intro bm w11 hbm hl
      refine a_asg ?_
      refine o_nil (hK _ _ ?_)
      clear hK K
      refine wk_seq fun K hK => ?_
      refine wk_seq fun K2 hK2 => ?_
      refine wk_reg ?_
      have hrx8 := hrx.ext (hD _ _ hl)
      repeat' (first | refine a_mov ?_ | refine a_asg ?_ | refine a_binN ?_ | refine a_notd ?_ | refine a_notb ?_ | refine a_nilc ?_ | refine a_fa ?_ | refine a_ext ?_ | refine a_lenv ?_ | refine a_lens ?_ | refine a_pick_t ?_ | refine a_pick_f ?_ | refine a_not ?_ | refine a_nilf ?_ | (refine a_bin ?_ ?_ <;> intro _ <;> try (exfalso; omega)) | refine a_ld hl ?_ | (refine a_st hl ?_; clear hl; intro _ hl) | refine a_ix (fun _ => ?_) | refine a_row hrx8 ?_ | fail)
      refine o_nil (hK2 _ _ ?_)
      clear hK2 K2 hrx8
      refine wk_block ?_
      refine wk_loopH [recCC b4 b5 b6] rfl (fun k : Nat => [(1, str text), (2, .pointer (some ⟨bx, 0, none⟩)), (4, .pointer (some ⟨b4, 0, none⟩)), (5, .pointer (some ⟨b5, 0, none⟩)), (6, .pointer (some ⟨b6, 0, none⟩)), (7, .slice ta ts.length tc), (8, .pointer (some ⟨pb, 0, none⟩)), (9, .map (some bm)), (40, .slice pa F.length ca), (41, .int .i64 (F.length : Int)), (42, .int .i64 (k : Int))])
        (fun k w' => k ≤ F.length ∧ ∃ es c, MapR str es (allP (F.take k)) ∧ LH w7 (resK b4 b5 b6) w' ((bm, .map es c) :: (b37, .cells (List.replicate F.length (.int .i64 0)).toArray 3 (0, 0)) :: psB pb (.slice ta ts.length tc) (0 : Nat) text.length :: resB 26 b4 b5 b6 (.slice (some ⟨b37, 0, none⟩) F.length F.length) 0 0))
        (fun k => F.length - k) 0 ⟨rfl, rfl, rfl, rfl, rfl, rfl, rfl, rfl, rfl, rfl, rfl, trivial⟩ ⟨by omega, #[], 0, .nil, hl⟩ ?_
      clear hl
      rintro k t w12 ⟨hk, es, c, hm, hl⟩
      have he := hD _ _ hl
      by_cases hk1 : k < F.length
      · obtain ⟨bk, o, hp1, hr1⟩ := Sl.fact (hd0.ext he) rfl hk1
        have hit := ins_take hg.2.1 hk1
        have hone := factL_one F[k]
        refine wk_seq fun K1 hK1 => ?_
        refine wk_reg ?_
        repeat' (first | refine a_mov ?_ | refine a_asg ?_ | refine a_binN ?_ | refine a_notd ?_ | refine a_notb ?_ | refine a_nilc ?_ | refine a_fa ?_ | refine a_ext ?_ | refine a_lenv ?_ | refine a_lens ?_ | refine a_pick_t ?_ | refine a_pick_f ?_ | refine a_not ?_ | refine a_nilf ?_ | (refine a_bin ?_ ?_ <;> intro _ <;> try (exfalso; omega)) | refine a_ld hl ?_ | (refine a_st hl ?_; clear hl; intro _ hl) | refine a_ix (fun _ => ?_) | fail)
        refine o_nil (hK1 _ _ ?_)
        clear hK1 K1
        refine wk_seq fun K1 hK1 => ?_
        refine wk_cond_t rfl ?_
        refine wk_skip (hK1 _ _ ?_)
        clear hK1 K1
        refine wk_seq fun K1 hK1 => ?_
        refine wk_block ?_
        refine wk_seq fun K2 hK2 => ?_
        refine wk_reg ?_
        repeat' (first | refine a_mov ?_ | refine a_asg ?_ | refine a_binN ?_ | refine a_notd ?_ | refine a_notb ?_ | refine a_nilc ?_ | refine a_fa ?_ | refine a_ext ?_ | refine a_lenv ?_ | refine a_lens ?_ | refine a_pick_t ?_ | refine a_pick_f ?_ | refine a_not ?_ | refine a_nilf ?_ | (refine a_bin ?_ ?_ <;> intro _ <;> try (exfalso; omega)) | refine a_ld hl ?_ | (refine a_st hl ?_; clear hl; intro _ hl) | refine a_ix (fun _ => ?_) | refine a_idx (c := 4) k hp1 ?_ | refine a_all hr1 ?_ | fail)
        refine o_alloc hl [.string "".toByteArray, .int .i64 0, .int .i64 0, .int .i64 0] (by kernel_rfl) rfl ?_
        clear hl
        intro b11 w13 hb11 hl
        refine o_putN (us := factL F[k]) hl rfl rfl rfl hone rfl (.here rfl rfl) ?_
        clear hl
        intro w14 hl
        refine o_nil (hK2 _ _ ?_)
        clear hK2 K2
        refine wk_reg ?_
        have hrf : Row w14 b11 0 [str F[k].name, .int .i64 F[k].kind, .int .i64 F[k].lo, .int .i64 F[k].hi] := hl.rowL (vs := factL F[k]) 0 0 4 rfl
        repeat' (first | refine a_row hrf ?_ | refine a_mov ?_ | refine a_asg ?_ | refine a_binN ?_ | refine a_notd ?_ | refine a_notb ?_ | refine a_nilc ?_ | refine a_fa ?_ | refine a_ext ?_ | refine a_lenv ?_ | refine a_lens ?_ | refine a_pick_t ?_ | refine a_pick_f ?_ | refine a_not ?_ | refine a_nilf ?_ | (refine a_bin ?_ ?_ <;> intro _ <;> try (exfalso; omega)) | refine a_ld hl ?_ | (refine a_st hl ?_; clear hl; intro _ hl) | refine a_ix (fun _ => ?_) | fail)
        refine o_mapUpdate (v := .bool true) F[k].name hl 1 rfl hm (key_str rfl) rfl rfl rfl rfl rfl ?_
        clear hl hrf
        intro w15 es' c' hm' hl
        rw [hit] at hm'
        refine o_nil (hK1 _ _ ?_)
        clear hK1 K1
        refine wk_reg ?_
        repeat' (first | refine a_mov ?_ | refine a_asg ?_ | refine a_binN ?_ | refine a_notd ?_ | refine a_notb ?_ | refine a_nilc ?_ | refine a_fa ?_ | refine a_ext ?_ | refine a_lenv ?_ | refine a_lens ?_ | refine a_pick_t ?_ | refine a_pick_f ?_ | refine a_not ?_ | refine a_nilf ?_ | (refine a_bin ?_ ?_ <;> intro _ <;> try (exfalso; omega)) | refine a_ld hl ?_ | (refine a_st hl ?_; clear hl; intro _ hl) | refine a_ix (fun _ => ?_) | fail)
        exact o_nil ⟨k + 1, ⟨rfl, rfl, rfl, rfl, rfl, rfl, rfl, rfl, rfl, rfl, rfl, trivial⟩, rfl, ⟨hk1, _, _, hm', hl.sub (List.sublist_cons_self _ _)⟩, by omega⟩
      obtain rfl : k = F.length := by omega
      rw [List.take_length, ← pend_all] at hm
      refine wk_seq fun K1 hK1 => ?_
      refine wk_reg ?_
      repeat' (first | refine a_mov ?_ | refine a_asg ?_ | refine a_binN ?_ | refine a_notd ?_ | refine a_notb ?_ | refine a_nilc ?_ | refine a_fa ?_ | refine a_ext ?_ | refine a_lenv ?_ | refine a_lens ?_ | refine a_pick_t ?_ | refine a_pick_f ?_ | refine a_not ?_ | refine a_nilf ?_ | (refine a_bin ?_ ?_ <;> intro _ <;> try (exfalso; omega)) | refine a_ld hl ?_ | (refine a_st hl ?_; clear hl; intro _ hl) | refine a_ix (fun _ => ?_) | fail)
      refine o_nil (hK1 _ _ ?_)
      clear hK1 K1
      refine wk_seq fun K1 hK1 => ?_
      refine wk_cond_f rfl ?_
      refine wk_exit ?_
      refine blockK_same ?_
      refine hK _ _ ?_
      clear hK1 K1
      clear hK K
      have hpan : ∀ (s : St) (w' : World) (dv : Value) (e a : Int), s.d = [recCC b4 b5 b6] → s.t 4 = .pointer (some ⟨b4, 0, none⟩) → s.t 5 = .pointer (some ⟨b5, 0, none⟩) → s.t 6 = .pointer (some ⟨b6, 0, none⟩) → LH w7 (resK b4 b5 b6) w' (resB 26 b4 b5 b6 dv 0 0) → parseC F text = .inr (e, a) → RetP Tryd.prog Tryd.f13 123 (fun v w' => Ext w w' ∧ CaseOut w' (parseC F text) v) (fun _ _ => False) (.panic (faultC e a)) s w' := fun s w' dv e a hd h2 h3 h4 hlr hpd => by
        have hlw := hl6.bk hlr
        refine parseC_panic hd hlr.rb h2 h3 h4 fun w'' hu => ⟨hx0.trans (hlw.upd.trans hu fun k hk hM => ?_), ?_⟩
        · rcases hlw.id hM with h1 | h1
          · omega
          · exact h1
        · rw [hpd]
          rfl
      have hst : itemsP text.length F ts.length true (List.replicate F.length 0) (List.replicate F.length false) (ts.drop 0) = parseC F text := by rw [hp]; rfl
      clear hp
      replace hl := hl.perm (List.perm_middle (l₁ := [_, _]))
      refine wk_seq fun K hK => ?_
      refine wk_block ?_
      refine wk_loopH [recCC b4 b5 b6] rfl (fun q : Nat × List Int × List Bool => [(1, str text), (2, .pointer (some ⟨bx, 0, none⟩)), (4, .pointer (some ⟨b4, 0, none⟩)), (5, .pointer (some ⟨b5, 0, none⟩)), (6, .pointer (some ⟨b6, 0, none⟩)), (7, .slice ta ts.length tc), (8, .pointer (some ⟨pb, 0, none⟩)), (9, .map (some bm))])
        (fun q w' => (q.1 ≤ ts.length ∧ q.2.1.length = F.length ∧ q.2.2.length = F.length ∧ ∃ f, (ts.drop q.1).length ≤ f ∧ itemsP text.length F f (decide (q.1 = 0)) q.2.1 q.2.2 (ts.drop q.1) = parseC F text) ∧ ∃ es c, MapR str es (pend F q.2.2) ∧ LH w7 (resK b4 b5 b6) w' (psB pb (.slice ta ts.length tc) q.1 text.length :: (bm, .map es c) :: (b37, .cells (intsL q.2.1).toArray 3 (0, 0)) :: resB 26 b4 b5 b6 (.slice (some ⟨b37, 0, none⟩) F.length F.length) 0 0))
        (fun q => ts.length - q.1) (0, List.replicate F.length 0, List.replicate F.length false) ⟨rfl, rfl, rfl, rfl, rfl, rfl, rfl, rfl, trivial⟩ ⟨⟨Nat.zero_le _, by simp, by simp, ts.length, by simp, hst⟩, es, c, hm, ?_⟩ ?_
      · rw [show intsL (List.replicate F.length 0) = List.replicate F.length (.int .i64 0) by rw [intsL_map, List.map_replicate]]
        exact hl
      clear hl hst hm
      rintro ⟨i, c, seen⟩ t2 w16 ⟨⟨hi, hcl, hsl, f, hf, hst⟩, es2, cc, hm, hl⟩
      simp only at hi hcl hsl hf hst hm hl
      have hrp : Row w16 pb 0 (psL (.slice ta ts.length tc) i text.length) := hl.rowL (vs := psL (.slice ta ts.length tc) i text.length) 0 0 3 rfl
      refine wk_seq fun K1 hK1 => ?_
      refine wk_seq fun K2 hK2 => ?_
      refine wk_reg ?_
      by_cases hlt : i < ts.length
      rotate_left
      · obtain rfl : i = ts.length := by omega
        rw [List.drop_length] at hst
        have hend : (if seen.all id = true then Sum.inl c else Sum.inr ((11 : Int), (text.length : Int))) = parseC F text := by
          rw [← hst]
          cases f <;> simp [itemsP]
        repeat' (first | refine a_mov ?_ | refine a_asg ?_ | refine a_binN ?_ | refine a_notd ?_ | refine a_notb ?_ | refine a_nilc ?_ | refine a_fa ?_ | refine a_ext ?_ | refine a_lenv ?_ | refine a_lens ?_ | refine a_pick_t ?_ | refine a_pick_f ?_ | refine a_not ?_ | refine a_nilf ?_ | (refine a_bin ?_ ?_ <;> intro _ <;> try (exfalso; omega)) | refine a_ld hl ?_ | (refine a_st hl ?_; clear hl; intro _ hl) | refine a_ix (fun _ => ?_) | refine a_row hrp ?_ | fail)
        refine o_nil (hK2 _ _ ?_)
        clear hK2 K2
        refine wk_cond_f rfl ?_
        refine wk_exit ?_
        refine blockK_same ?_
        refine hK _ _ ?_
        clear hK1 K1
        clear hK K
        refine wk_seq fun K hK => ?_
        refine wk_reg ?_
        refine a_mov ?_
        refine o_lenm hm (hl.get 1 rfl) rfl rfl rfl ?_
        have hpn := pend_nil F seen hsl
        by_cases hall : seen.all id = true
        · have hp0 := hpn.2 hall
          rw [if_pos hall] at hend
          repeat' (first | refine a_mov ?_ | refine a_asg ?_ | refine a_binN ?_ | refine a_notd ?_ | refine a_notb ?_ | refine a_nilc ?_ | refine a_fa ?_ | refine a_ext ?_ | refine a_lenv ?_ | refine a_lens ?_ | refine a_pick_t ?_ | refine a_pick_f ?_ | refine a_not ?_ | refine a_nilf ?_ | (refine a_bin ?_ ?_ <;> intro _ <;> try (exfalso; omega)) | refine a_ld hl ?_ | (refine a_st hl ?_; clear hl; intro _ hl) | refine a_ix (fun _ => ?_) | fail)
          refine o_build [.int .i64 0, str [], .int .i64 0, .int .i64 text.length] rfl (by simp only [str_eq]; kernel_rfl) ?_
          refine a_fnP (check_calls (b := false) (e := 11) (a := text.length) (k := 0) (num := 0) (tx := [])) ?_ ?_
          rotate_left
          · rintro ch w17 ⟨h, -⟩
            cases h
          rintro v w17 ⟨-, hx17⟩
          replace hl := hl.ext hx17
          refine o_nil (hK _ _ ?_)
          clear hK K
          refine wk_seq fun K hK => ?_
          refine wk_reg ?_
          refine a_row (hl.rowL (vs := [.slice (some ⟨b37, 0, none⟩) F.length F.length]) 5 0 1 rfl) ?_
          refine o_put1 (b := b4) (o := 0) (v := .slice (some ⟨b37, 0, none⟩) F.length F.length) hl rfl rfl rfl ⟨rfl, rfl⟩ rfl (.there (.there (.there (.there (.there (.here rfl rfl)))))) ?_
          clear hl
          intro w18 hl
          refine o_put1 (b := b5) (o := 0) (v := .int .i64 0) hl rfl rfl rfl ⟨rfl, rfl⟩ rfl (.there (.there (.there (.there (.here rfl rfl))))) ?_
          clear hl
          intro w19 hl
          refine o_put1 (b := b6) (o := 0) (v := .int .i64 0) hl rfl rfl rfl ⟨rfl, rfl⟩ rfl (.there (.there (.there (.here rfl rfl)))) ?_
          clear hl
          intro w20 hl
          refine o_nil (hK _ _ ?_)
          have hsl2 : Sl w20 (.slice (some ⟨b37, 0, none⟩) F.length F.length) 1 (intsL c) := Sl.mk (by rw [intsL_len, hcl]) (Nat.le_refl _) (Row.of_block (hl.get 2 rfl) (fun i v h => by simpa using h))
          have hlr : LH w7 (resK b4 b5 b6) w20 (resB 26 b4 b5 b6 (.slice (some ⟨b37, 0, none⟩) F.length F.length) 0 0) := hl.sub (by repeat (first | exact List.cons_sublist_cons.2 (List.cons_sublist_cons.2 (List.cons_sublist_cons.2 (List.nil_sublist _))) | refine List.Sublist.cons _ ?_))
          have hlw := hl6.bk hlr
          refine wk_ret (parseC_ret rfl [.slice (some ⟨b37, 0, none⟩) F.length F.length, .int .i64 0, .int .i64 0] fun w' hx => ?_)
          replace hlr := hlr.ext hx
          refine ⟨⟨by decide, ⟨⟨b4, 0, none⟩, rfl, run_loadVar1 rfl (hlr.cell 2 rfl rfl)⟩, by decide, ⟨⟨b5, 0, none⟩, rfl, run_loadVar1 rfl (hlr.cell 1 rfl rfl)⟩, by decide, ⟨⟨b6, 0, none⟩, rfl, run_loadVar1 rfl (hlr.cell 0 rfl rfl)⟩, trivial⟩, hx0.trans (hlw.ext hx).done, ?_⟩
          rw [← hend]
          exact ⟨_, rfl, hsl2.ext hx⟩
        · have hp0 : (pend F seen).length ≠ 0 := fun h => hall (hpn.1 h)
          rw [if_neg hall] at hend
          repeat' (first | refine a_mov ?_ | refine a_asg ?_ | refine a_binN ?_ | refine a_notd ?_ | refine a_notb ?_ | refine a_nilc ?_ | refine a_fa ?_ | refine a_ext ?_ | refine a_lenv ?_ | refine a_lens ?_ | refine a_pick_t ?_ | refine a_pick_f ?_ | refine a_not ?_ | refine a_nilf ?_ | (refine a_bin ?_ ?_ <;> intro _ <;> try (exfalso; omega)) | refine a_ld hl ?_ | (refine a_st hl ?_; clear hl; intro _ hl) | refine a_ix (fun _ => ?_) | fail)
          refine o_build [.int .i64 0, str [], .int .i64 0, .int .i64 text.length] rfl (by simp only [str_eq]; kernel_rfl) ?_
          refine a_fnP (check_calls (b := true) (e := 11) (a := text.length) (k := 0) (num := 0) (tx := [])) ?_ ?_
          · rintro v w17 ⟨h, -⟩
            cases h
          rintro ch w17 ⟨-, rfl, hx17⟩
          exact hpan _ w17 _ 11 text.length rfl rfl rfl rfl ((hl.ext hx17).sub (by repeat (first | exact List.cons_sublist_cons.2 (List.cons_sublist_cons.2 (List.cons_sublist_cons.2 (List.nil_sublist _))) | refine List.Sublist.cons _ ?_))) hend.symm
      obtain ⟨g, rfl⟩ : ∃ g, f = g + 1 := ⟨f - 1, by rw [List.length_drop] at hf; omega⟩
      have hne : ts.drop i ≠ [] := fun h => by
        have := congrArg List.length h
        rw [List.length_drop] at this
        simp at this
        omega
      simp only [itemsP] at hst
      rw [if_neg hne] at hst
      have hbad : ∀ e a, itemP text.length F seen (decide (i = 0)) (ts.drop i) = .bad e a → parseC F text = .inr (e, a) := fun e a h => by
        rw [h] at hst
        exact hst.symm
      repeat' (first | refine a_mov ?_ | refine a_asg ?_ | refine a_binN ?_ | refine a_notd ?_ | refine a_notb ?_ | refine a_nilc ?_ | refine a_fa ?_ | refine a_ext ?_ | refine a_lenv ?_ | refine a_lens ?_ | refine a_pick_t ?_ | refine a_pick_f ?_ | refine a_not ?_ | refine a_nilf ?_ | (refine a_bin ?_ ?_ <;> intro _ <;> try (exfalso; omega)) | refine a_ld hl ?_ | (refine a_st hl ?_; clear hl; intro _ hl) | refine a_ix (fun _ => ?_) | refine a_row hrp ?_ | fail)
      refine o_nil (hK2 _ _ ?_)
      clear hK2 K2
      refine wk_cond_t rfl ?_
      refine wk_skip (hK1 _ _ ?_)
      clear hK1 K1
      refine wk_block ?_
      clear hK
      refine wk_seq fun K hK => ?_
      refine wk_cut [recCC b4 b5 b6] (fun _ : Nat => [(1, str text), (2, .pointer (some ⟨bx, 0, none⟩)), (4, .pointer (some ⟨b4, 0, none⟩)), (5, .pointer (some ⟨b5, 0, none⟩)), (6, .pointer (some ⟨b6, 0, none⟩)), (7, .slice ta ts.length tc), (8, .pointer (some ⟨pb, 0, none⟩)), (9, .map (some bm))])
        (fun x w' => (i ≤ x ∧ x ≤ ts.length ∧ (if decide (i = 0) = true then Rd.ok () (ts.drop i) else (takeK text.length 3 kComma (ts.drop i)).bind fun _ r => Rd.ok () r) = .ok () (ts.drop x)) ∧ LH w7 (resK b4 b5 b6) w' (psB pb (.slice ta ts.length tc) x text.length :: (bm, .map es2 cc) :: (b37, .cells (intsL c).toArray 3 (0, 0)) :: resB 26 b4 b5 b6 (.slice (some ⟨b37, 0, none⟩) F.length F.length) 0 0)) ?_ ?_
      · refine wk_seq fun K2 hK2 => ?_
        refine wk_reg ?_
        by_cases hi0 : i = 0
        · repeat' (first | refine a_mov ?_ | refine a_asg ?_ | refine a_binN ?_ | refine a_notd ?_ | refine a_notb ?_ | refine a_nilc ?_ | refine a_fa ?_ | refine a_ext ?_ | refine a_lenv ?_ | refine a_lens ?_ | refine a_pick_t ?_ | refine a_pick_f ?_ | refine a_not ?_ | refine a_nilf ?_ | (refine a_bin ?_ ?_ <;> intro _ <;> try (exfalso; omega)) | refine a_ld hl ?_ | (refine a_st hl ?_; clear hl; intro _ hl) | refine a_ix (fun _ => ?_) | refine a_row hrp ?_ | fail)
          refine o_nil (hK2 _ _ ?_)
          clear hK2 K2
          refine wk_cond_f rfl ?_
          refine wk_skip ?_
          exact ⟨i, ⟨rfl, rfl, rfl, rfl, rfl, rfl, rfl, rfl, trivial⟩, rfl, ⟨Nat.le_refl _, hi, by rw [decide_eq_true hi0]; rfl⟩, hl⟩
        · repeat' (first | refine a_mov ?_ | refine a_asg ?_ | refine a_binN ?_ | refine a_notd ?_ | refine a_notb ?_ | refine a_nilc ?_ | refine a_fa ?_ | refine a_ext ?_ | refine a_lenv ?_ | refine a_lens ?_ | refine a_pick_t ?_ | refine a_pick_f ?_ | refine a_not ?_ | refine a_nilf ?_ | (refine a_bin ?_ ?_ <;> intro _ <;> try (exfalso; omega)) | refine a_ld hl ?_ | (refine a_st hl ?_; clear hl; intro _ hl) | refine a_ix (fun _ => ?_) | refine a_row hrp ?_ | fail)
          refine o_nil (hK2 _ _ ?_)
          clear hK2 K2
          refine wk_cond_t rfl ?_
          refine wk_reg ?_
          refine a_mov ?_
          refine a_fnP (take_calls (k := 3) (wd := kComma) (hTK _ _ hl) hl.one hi) ?_ ?_ rfl (fun _ => rfl) (by simp only [kComma, str_eq]; rfl)
          rotate_left
          · rintro ch w17 ⟨e, a, hr, rfl, hu⟩
            exact hpan _ w17 _ e a rfl rfl rfl rfl ((LH.lose (pb := pb) hl hu).sub (by repeat (first | exact List.cons_sublist_cons.2 (List.cons_sublist_cons.2 (List.cons_sublist_cons.2 (List.nil_sublist _))) | refine List.Sublist.cons _ ?_))) (hbad _ _ (by rw [itemP_eq, decide_eq_false hi0, if_neg (by decide), hr]; rfl))
          rintro _ w17 ⟨hlt1, hr1, rfl, hlA⟩
          replace hl := hl.swap hlA
          exact o_nil ⟨i + 1, ⟨rfl, rfl, rfl, rfl, rfl, rfl, rfl, rfl, trivial⟩, rfl, ⟨by omega, hlt1, by rw [decide_eq_false hi0, if_neg (by decide), hr1]; rfl⟩, hl⟩
      clear hrp hl
      rintro x t3 w17 ⟨⟨hix, hxt, hrx1⟩, hl⟩
      refine hK _ _ ?_
      clear hK K
      have hit : itemP text.length F seen (decide (i = 0)) (ts.drop i) = (takeK text.length 1 [] (ts.drop x)).bind (itemR text.length F seen) := by
        rw [itemP_eq, hrx1]
        rfl
      rw [hit] at hst hbad
      clear hit hrx1
      refine wk_seq fun K hK => ?_
      refine wk_reg ?_
      refine a_mov ?_
      refine a_fnP (take_calls (k := 1) (wd := []) (hTK _ _ hl) hl.one hxt) ?_ ?_ rfl (fun _ => rfl) (by simp only [str_nil]; rfl)
      rotate_left
      · rintro ch w18 ⟨e, a, hr, rfl, hu⟩
        exact hpan _ w18 _ e a rfl rfl rfl rfl ((LH.lose (pb := pb) hl hu).sub (by repeat (first | exact List.cons_sublist_cons.2 (List.cons_sublist_cons.2 (List.cons_sublist_cons.2 (List.nil_sublist _))) | refine List.Sublist.cons _ ?_))) (hbad _ _ (by rw [hr]; rfl))
      rintro _ w18 ⟨hlt1, hr1, rfl, hlA⟩
      replace hl := hl.swap hlA
      clear hlA
      generalize ts[x] = t1 at hr1
      have hf1 : (takeK text.length 1 [] (ts.drop x)).bind (itemR text.length F seen) = itemR text.length F seen t1 (ts.drop (x + 1)) := by rw [hr1]; rfl
      rw [hf1] at hst hbad
      clear hf1
      refine o_alloc hl [.int .i64 0, .string "".toByteArray, .int .i64 0, .int .i64 0] (by kernel_rfl) rfl ?_
      clear hl
      intro b12 w19 hb hl
      refine o_putN (us := tokL t1) hl rfl rfl rfl (by simp only [tokL, List.all_cons, List.all_nil, oneCell_str]; rfl) rfl (.here rfl rfl) ?_
      clear hl
      intro w20 hl
      replace hl := hl.perm (List.Perm.swap _ _ _)
      refine o_nil (hK _ _ ?_)
      clear hK K
      have hra : Row w20 b12 0 (tokL t1) := hl.rowL (vs := tokL t1) 1 0 4 rfl
      have hex := hD _ _ hl
      refine wk_seq fun K hK => ?_
      refine wk_reg ?_
      refine a_all (hrx.ext hex) ?_
      refine a_fa ?_
      refine a_row hra ?_
      refine a_fn (factIndex_calls (hd0.ext hex) (by omega) t1.text) ?_
      rintro _ w21 ⟨rfl, hx21⟩
      replace hl := hl.ext hx21
      replace hra := hra.ext hx21
      clear hx21 hex
      refine a_asg ?_
      refine o_nil (hK _ _ ?_)
      clear hK K
      refine wk_seq fun K hK => ?_
      refine wk_reg ?_
      cases hix2 : idx F t1.text with
      | none =>
        have hneg : idxI F t1.text < 0 := by
          unfold idxI
          rw [hix2]
          decide
        repeat' (first | refine a_mov ?_ | refine a_asg ?_ | refine a_binN ?_ | refine a_notd ?_ | refine a_notb ?_ | refine a_nilc ?_ | refine a_fa ?_ | refine a_ext ?_ | refine a_lenv ?_ | refine a_lens ?_ | refine a_pick_t ?_ | refine a_pick_f ?_ | refine a_not ?_ | refine a_nilf ?_ | (refine a_bin ?_ ?_ <;> intro _ <;> try (exfalso; omega)) | refine a_ld hl ?_ | (refine a_st hl ?_; clear hl; intro _ hl) | refine a_ix (fun _ => ?_) | fail)
        refine a_all hra ?_
        refine a_fnP (check_calls (b := true) (e := 7) (a := t1.pos) (k := t1.kind) (num := t1.num) (tx := t1.text)) ?_ ?_
        · rintro v w22 ⟨h, -⟩
          cases h
        · rintro ch w22 ⟨-, rfl, hx22⟩
          exact hpan _ w22 _ 7 t1.pos rfl rfl rfl rfl ((hl.ext hx22).sub (by repeat (first | exact List.cons_sublist_cons.2 (List.cons_sublist_cons.2 (List.cons_sublist_cons.2 (List.nil_sublist _))) | refine List.Sublist.cons _ ?_))) (hbad _ _ (by unfold itemR; rw [hix2]))
      | some k =>
        have hk1 := idx_lt hix2
        have hik : idxI F t1.text = (k : Int) := by unfold idxI; rw [hix2]
        rw [hik]
        repeat' (first | refine a_mov ?_ | refine a_asg ?_ | refine a_binN ?_ | refine a_notd ?_ | refine a_notb ?_ | refine a_nilc ?_ | refine a_fa ?_ | refine a_ext ?_ | refine a_lenv ?_ | refine a_lens ?_ | refine a_pick_t ?_ | refine a_pick_f ?_ | refine a_not ?_ | refine a_nilf ?_ | (refine a_bin ?_ ?_ <;> intro _ <;> try (exfalso; omega)) | refine a_ld hl ?_ | (refine a_st hl ?_; clear hl; intro _ hl) | refine a_ix (fun _ => ?_) | fail)
        refine a_all hra ?_
        refine a_fnP (check_calls (b := false) (e := 7) (a := t1.pos) (k := t1.kind) (num := t1.num) (tx := t1.text)) ?_ ?_
        rotate_left
        · rintro ch w22 ⟨h, -⟩
          cases h
        rintro v w22 ⟨-, hx22⟩
        replace hl := hl.ext hx22
        replace hra := hra.ext hx22
        clear hx22
        refine o_nil (hK _ _ ?_)
        clear hK K
        have hiR : itemR text.length F seen t1 (ts.drop (x + 1)) = if seen.getD k false = true then .bad 9 t1.pos else (takeK text.length 3 kEq (ts.drop (x + 1))).bind fun _ r => (takeK text.length 2 [] r).bind fun n r => if (n.num : Int) < (factAt F k).lo ∨ (factAt F k).hi < (n.num : Int) then .bad 10 n.pos else .ok (k, (n.num : Int)) r := by
          unfold itemR
          rw [hix2]
        rw [hiR] at hst hbad
        clear hiR
        have hget := get_seen F seen t1.text k hg.2.1 hsl hix2
        refine wk_seq fun K hK => ?_
        refine wk_reg ?_
        refine a_mov ?_
        refine a_fa ?_
        refine a_row hra ?_
        refine o_lookup (z := .bool false) t1.text hm (hl.get 2 rfl) (key_str rfl) rfl rfl rfl rfl rfl ?_
        have hlk : (if false = true then Value.tuple #[(Pd.get (pend F seen) t1.text).getD (.bool false), .bool (Pd.get (pend F seen) t1.text).isSome] else (Pd.get (pend F seen) t1.text).getD (.bool false)) = .bool (!seen.getD k false) := by
          rw [if_neg (by decide), hget]
          cases seen.getD k false <;> rfl
        rw [hlk]
        clear hlk
        refine a_notb ?_
        rw [Bool.not_not]
        cases hsk : seen.getD k false with
        | true =>
          rw [hsk, if_pos rfl] at hbad
          refine a_all hra ?_
          refine a_fnP (check_calls (b := true) (e := 9) (a := t1.pos) (k := t1.kind) (num := t1.num) (tx := t1.text)) ?_ ?_
          · rintro v w23 ⟨h, -⟩
            cases h
          · rintro ch w23 ⟨-, rfl, hx23⟩
            exact hpan _ w23 _ 9 t1.pos rfl rfl rfl rfl ((hl.ext hx23).sub (by repeat (first | exact List.cons_sublist_cons.2 (List.cons_sublist_cons.2 (List.cons_sublist_cons.2 (List.nil_sublist _))) | refine List.Sublist.cons _ ?_))) (hbad _ _ rfl)
        | false =>
          rw [hsk, if_neg (by decide)] at hst hbad
          refine a_all hra ?_
          refine a_fnP (check_calls (b := false) (e := 9) (a := t1.pos) (k := t1.kind) (num := t1.num) (tx := t1.text)) ?_ ?_
          rotate_left
          · rintro ch w23 ⟨h, -⟩
            cases h
          rintro v w23 ⟨-, hx23⟩
          replace hl := hl.ext hx23
          clear hx23 hra
          refine o_nil (hK _ _ ?_)
          clear hK K
          refine wk_seq fun K hK => ?_
          refine wk_reg ?_
          refine a_mov ?_
          refine a_fnP (take_calls (k := 3) (wd := kEq) (hTK _ _ hl) hl.one hlt1) ?_ ?_ rfl (fun _ => rfl) (by simp only [kEq, str_eq]; rfl)
          rotate_left
          · rintro ch w24 ⟨e, a, hr, rfl, hu⟩
            exact hpan _ w24 _ e a rfl rfl rfl rfl ((LH.lose (pb := pb) hl hu).sub (by repeat (first | exact List.cons_sublist_cons.2 (List.cons_sublist_cons.2 (List.cons_sublist_cons.2 (List.nil_sublist _))) | refine List.Sublist.cons _ ?_))) (hbad _ _ (by rw [hr]; rfl))
          rintro _ w24 ⟨hlt2, hr2, rfl, hlA⟩
          replace hl := hl.swap hlA
          clear hlA
          rw [hr2] at hst hbad
          simp only [Rd.bind] at hst hbad
          refine o_nil (hK _ _ ?_)
          clear hK K
          refine wk_seq fun K hK => ?_
          refine wk_reg ?_
          refine a_mov ?_
          refine a_fnP (take_calls (k := 2) (wd := []) (hTK _ _ hl) hl.one hlt2) ?_ ?_ rfl (fun _ => rfl) (by simp only [str_nil]; rfl)
          rotate_left
          · rintro ch w25 ⟨e, a, hr, rfl, hu⟩
            exact hpan _ w25 _ e a rfl rfl rfl rfl ((LH.lose (pb := pb) hl hu).sub (by repeat (first | exact List.cons_sublist_cons.2 (List.cons_sublist_cons.2 (List.cons_sublist_cons.2 (List.nil_sublist _))) | refine List.Sublist.cons _ ?_))) (hbad _ _ (by rw [hr]))
          rintro _ w25 ⟨hlt3, hr3, rfl, hlA⟩
          replace hl := hl.swap hlA
          clear hlA
          rw [hr3] at hst hbad
          simp only at hst hbad
          generalize ts[x + 1 + 1] = t4 at hr3 hst hbad
          refine o_alloc hl [.int .i64 0, .string "".toByteArray, .int .i64 0, .int .i64 0] (by kernel_rfl) rfl ?_
          clear hl
          intro b14 w26 hb hl
          refine o_putN (us := tokL t4) hl rfl rfl rfl (by simp only [tokL, List.all_cons, List.all_nil, oneCell_str]; rfl) rfl (.here rfl rfl) ?_
          clear hl
          intro w27 hl
          replace hl := hl.perm (List.Perm.swap _ _ _)
          refine o_nil (hK _ _ ?_)
          clear hK K
          have hrb : Row w27 b14 0 (tokL t4) := hl.rowL (vs := tokL t4) 1 0 4 rfl
          have hra : Row w27 b12 0 (tokL t1) := hl.rowL (vs := tokL t1) 2 0 4 rfl
          have hex := hD _ _ hl
          have hrx8 := hrx.ext hex
          obtain ⟨bf, of, hpf, hrf⟩ := Sl.fact (hd0.ext hex) rfl hk1
          have hfat : factAt F k = F[k] := by simp [factAt, hk1]
          rw [hfat] at hst hbad
          clear hfat hex
          refine wk_seq fun K hK => ?_
          refine wk_lastQ (List.range 21) (List.dropLast_concat_getLast (by simp)).symm (by kernel_rfl) (by kernel_rfl) ?_
          by_cases hrg : (t4.num : Int) < F[k].lo ∨ F[k].hi < (t4.num : Int)
          · rw [if_pos hrg] at hbad
            have hfin : ∀ (s : St) (w28 : World) (ch : List PanicEntry), s.d = [recCC b4 b5 b6] → s.t 4 = .pointer (some ⟨b4, 0, none⟩) → s.t 5 = .pointer (some ⟨b5, 0, none⟩) → s.t 6 = .pointer (some ⟨b6, 0, none⟩) → Ext w27 w28 → ch = faultC 10 t4.pos → RetP Tryd.prog Tryd.f13 123 (fun v w' => Ext w w' ∧ CaseOut w' (parseC F text) v) (fun _ _ => False) (.panic ch) s w28 := fun s w28 ch h1 h2 h3 h4 hx28 hch => by
              subst hch
              exact hpan _ w28 _ 10 t4.pos h1 h2 h3 h4 ((hl.ext hx28).sub (by repeat (first | exact List.cons_sublist_cons.2 (List.cons_sublist_cons.2 (List.cons_sublist_cons.2 (List.nil_sublist _))) | refine List.Sublist.cons _ ?_))) (hbad _ _ rfl)
            by_cases hlo : (t4.num : Int) < F[k].lo
            · repeat' (first | refine q_mov ?_ | refine q_asg ?_ | refine q_fa ?_ | refine q_ext ?_ | refine q_binN ?_ | refine q_notd ?_ | refine q_notb ?_ | refine q_pick_t ?_ | refine q_pick_f ?_ | refine q_nilc ?_ | refine q_skip ?_ | refine q_lens ?_ | refine q_lenv ?_ | refine q_nil ?_ | refine q_ix (fun _ => ?_) | (refine q_bin ?_ ?_ <;> intro _ <;> try (exfalso; omega)) | refine q_row (fun w_ hw_ => hrb.ext hw_) ?_ | refine q_row (fun w_ hw_ => hrx8.ext hw_) ?_ | refine q_row (fun w_ hw_ => hrf.ext hw_) ?_ | refine q_idx (c := 4) k hpf ?_ | refine q_all (fun w_ hw_ => hrb.ext hw_) ?_ | fail)
              intro w28 hx28
              refine a_fnP (check_calls (b := true) (e := 10) (a := t4.pos) (k := t4.kind) (num := t4.num) (tx := t4.text)) ?_ ?_
              · rintro v w29 ⟨h, -⟩
                cases h
              · rintro ch w29 ⟨-, hch, hx29⟩
                exact hfin _ w29 ch rfl rfl rfl rfl (hx28.trans hx29) hch
            · have hhi := hrg.resolve_left hlo
              repeat' (first | refine q_mov ?_ | refine q_asg ?_ | refine q_fa ?_ | refine q_ext ?_ | refine q_binN ?_ | refine q_notd ?_ | refine q_notb ?_ | refine q_pick_t ?_ | refine q_pick_f ?_ | refine q_nilc ?_ | refine q_skip ?_ | refine q_lens ?_ | refine q_lenv ?_ | refine q_nil ?_ | refine q_ix (fun _ => ?_) | (refine q_bin ?_ ?_ <;> intro _ <;> try (exfalso; omega)) | refine q_row (fun w_ hw_ => hrb.ext hw_) ?_ | refine q_row (fun w_ hw_ => hrx8.ext hw_) ?_ | refine q_row (fun w_ hw_ => hrf.ext hw_) ?_ | refine q_idx (c := 4) k hpf ?_ | refine q_all (fun w_ hw_ => hrb.ext hw_) ?_ | fail)
              intro w28 hx28
              refine a_fnP (check_calls (b := true) (e := 10) (a := t4.pos) (k := t4.kind) (num := t4.num) (tx := t4.text)) ?_ ?_
              · rintro v w29 ⟨h, -⟩
                cases h
              · rintro ch w29 ⟨-, hch, hx29⟩
                exact hfin _ w29 ch rfl rfl rfl rfl (hx28.trans hx29) hch
          rw [if_neg hrg] at hst
          simp only at hst
          have hlo : ¬ (t4.num : Int) < F[k].lo := fun h => hrg (.inl h)
          have hhi : ¬ F[k].hi < (t4.num : Int) := fun h => hrg (.inr h)
          repeat' (first | refine q_mov ?_ | refine q_asg ?_ | refine q_fa ?_ | refine q_ext ?_ | refine q_binN ?_ | refine q_notd ?_ | refine q_notb ?_ | refine q_pick_t ?_ | refine q_pick_f ?_ | refine q_nilc ?_ | refine q_skip ?_ | refine q_lens ?_ | refine q_lenv ?_ | refine q_nil ?_ | refine q_ix (fun _ => ?_) | (refine q_bin ?_ ?_ <;> intro _ <;> try (exfalso; omega)) | refine q_row (fun w_ hw_ => hrb.ext hw_) ?_ | refine q_row (fun w_ hw_ => hrx8.ext hw_) ?_ | refine q_row (fun w_ hw_ => hrf.ext hw_) ?_ | refine q_idx (c := 4) k hpf ?_ | refine q_all (fun w_ hw_ => hrb.ext hw_) ?_ | fail)
          intro w28 hx28
          refine a_fnP (check_calls (b := false) (e := 10) (a := t4.pos) (k := t4.kind) (num := t4.num) (tx := t4.text)) ?_ ?_
          rotate_left
          · rintro ch w29 ⟨h, -⟩
            cases h
          rintro v w29 ⟨-, hx29⟩
          replace hl := (hl.ext hx28).ext hx29
          replace hra := (hra.ext hx28).ext hx29
          replace hrb := (hrb.ext hx28).ext hx29
          clear hx28 hx29 hrx8 hrf
          refine o_nil (hK _ _ ?_)
          clear hK K
          refine wk_seq fun K hK => ?_
          refine wk_reg ?_
          refine a_row (hl.rowL (vs := [.slice (some ⟨b37, 0, none⟩) F.length F.length]) 7 0 1 rfl) ?_
          refine a_mov ?_
          refine a_fa ?_
          refine a_row hrb ?_
          refine a_idx (c := 1) k rfl ?_
          refine o_put1 (b := b37) (o := 0 + k * 1) (v := .int .i64 (t4.num : Int)) hl rfl rfl rfl ⟨rfl, rfl⟩ rfl (.there (.there (.there (.there (.here (Nat.ble_eq_true_of_le (by rw [intsL_len, hcl]; omega)) (intsL_set c k t4.num _ rfl)))))) ?_
          clear hl
          intro w30 hl
          refine o_nil (hK _ _ ?_)
          clear hK K
          have hra : Row w30 b12 0 (tokL t1) := hl.rowL (vs := tokL t1) 2 0 4 rfl
          refine wk_reg ?_
          refine a_mov ?_
          refine a_fa ?_
          refine a_row hra ?_
          refine o_delete t1.text hl 3 rfl hm (key_str rfl) rfl rfl rfl rfl rfl ?_
          clear hl
          intro w31 es3 hm3 hl
          rw [del_pend F seen t1.text k hsl hix2 hsk] at hm3
          have hgl : (ts.drop (x + 1 + 1 + 1)).length ≤ g := by
            rw [List.length_drop] at hf ⊢
            omega
          refine o_nil ⟨(x + 1 + 1 + 1, c.set k t4.num, seen.set k true), ⟨rfl, rfl, rfl, rfl, rfl, rfl, rfl, rfl, trivial⟩, rfl, ⟨⟨hlt3, by simp only [List.length_set]; exact hcl, by simp only [List.length_set]; exact hsl, g, hgl, ?_⟩, es3, cc, hm3, ?_⟩, by show ts.length - (x + 1 + 1 + 1) < ts.length - i; omega⟩
          · rw [show decide (x + 1 + 1 + 1 = 0) = false from rfl]
            exact hst
          · exact hl.sub (List.cons_sublist_cons.2 (List.Sublist.cons _ (List.Sublist.cons _ (List.Sublist.refl _))))
end Go.Proofs
