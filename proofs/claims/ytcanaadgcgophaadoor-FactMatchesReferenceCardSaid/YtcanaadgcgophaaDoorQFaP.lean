/-
  Facts: Parse.
-/
import Derived.Test.YtcanaadgcgophaaDoorQFD
import Derived.Test.YtcanaadgcgophaaDoorQFB
set_option linter.unusedVariables false
set_option linter.unusedSimpArgs false
set_option linter.unnecessarySimpa false
set_option maxRecDepth 10000
namespace Go.Proofs
open Go Go.Pd Go.Fac Go.Fo
open Go.Lexs (Tok lex)
attribute [local irreducible] OpsL W RetQ OpsQ OpsC
def kindsL : List (Tx × Value) := [(kFlag, .int .i64 1), (kNumber, .int .i64 2), (kDay, .int .i64 3)]
theorem get_kinds (w : Tx) : (Pd.get kindsL w).getD (.int .i64 0) = .int .i64 (kindOf w) := by
  unfold kindsL kindOf
  simp only [Pd.get]
  (repeat' split) <;> simp_all
def rangesL (pb : Nat) : List (Int × Value) := [(1, .func (.func 38) #[.pointer (some ⟨pb, 0, none⟩)] #[]), (2, .func (.func 39) #[.pointer (some ⟨pb, 0, none⟩)] #[]), (3, .func (.func 39) #[.pointer (some ⟨pb, 0, none⟩)] #[])]
def DomOut (w' : World) (q : List Fact ⊕ (Int × Int)) (v : Value) : Prop := match q with
  | .inl F => ∃ fv, v = .tuple #[.agg #[fv], .int .i64 0, .int .i64 0] ∧ Sl w' fv 4 (factsL F)
  | .inr p => v = .tuple #[.agg #[.slice none 0 0], .int .i64 p.1, .int .i64 p.2]
theorem kindOf_cases {w : Tx} (h : kindOf w ≠ 0) : kindOf w = 1 ∨ kindOf w = 2 ∨ kindOf w = 3 := by
  unfold kindOf at h ⊢
  (repeat' split) <;> simp_all
def RangeV (w : World) (pb : Nat) (tv : Value) (ts : List Tok) (en : Int) (i : Nat) (k : Int) (v : Value) (w' : World) : Prop :=
  ∃ p j, (if k = 1 then Rd.ok ((0 : Int), (1 : Int)) (ts.drop i) else spanP en (ts.drop i)) = .ok p (ts.drop j) ∧ i ≤ j ∧ j ≤ ts.length ∧ v = .tuple #[.int .i64 p.1, .int .i64 p.2] ∧ LH w (OneB pb) w' [psB pb tv j en]
theorem range_calls {w : World} {pb : Nat} {tv z : Value} {ts : List Tok} {i : Nat} {en k : Int} (hT : TK w pb tv ts) (hl : LH w (OneB pb) w [psB pb tv i en]) (hi : i ≤ ts.length) (hk : k = 1 ∨ k = 2 ∨ k = 3) :
    CallE Tryd.prog ((Pd.get (rangesL pb) k).getD z) #[] w (RangeV w pb tv ts en i k) (RdZ w pb (if k = 1 then Rd.ok ((0 : Int), (1 : Int)) (ts.drop i) else spanP en (ts.drop i))) := by
  rcases hk with rfl | rfl | rfl
  · exact ⟨_, _, _, rfl, fun w => rfl, flag_calls hl hi⟩
  · exact ⟨_, _, _, rfl, fun w => rfl, span_calls hT hl hi⟩
  · exact ⟨_, _, _, rfl, fun w => rfl, span_calls hT hl hi⟩
set_option maxHeartbeats 16000000 in
theorem parseD_calls (text : Tx) (w : World) : Calls Tryd.prog 11 #[str text] w (fun e w' => ∃ v, e = .returned v ∧ Ext w w' ∧ DomOut w' (parseD text) v) := by
  refine Calls.mono (R := EndP (fun v w' => Ext w w' ∧ DomOut w' (parseD text) v) (fun _ _ => False)) ?_ (fun e w' h => h.elim (fun ⟨v, h1, h2⟩ => ⟨v, h1, h2⟩) (fun ⟨c, h1, h2⟩ => h2.elim))
  refine calls_ofP Tryd.func11 rfl Tryd.ntmps11 rfl ?_
  refine wk_seq fun K hK => ?_
  refine wk_reg ?_
  refine o_alloc (LH.start w (fun _ => False)) [.slice none 0 0] (by kernel_rfl) rfl ?_
  intro b2 w1 hb2 hl
  refine o_alloc hl [.int .i64 0] rfl rfl ?_
  clear hl
  intro b3 w2 hb3 hl
  refine o_alloc hl [.int .i64 0] rfl rfl ?_
  clear hl
  intro b4 w3 hb4 hl
  refine o_nil (hK _ _ ?_)
  clear hK K
  have hl : LH w (fun _ => False) w3 (resB 24 b2 b3 b4 (.slice none 0 0) 0 0) := hl
  refine wk_seq fun K hK => ?_
  refine wk_reg ?_
  refine a_mov ?_
  refine a_fn (lex_calls text w3) ?_
  rintro v w4 ⟨hx4, hout⟩
  replace hl := hl.ext hx4
  cases hlex : lex text with
  | bad e off =>
    rw [hlex] at hout
    obtain rfl := hout
    have hp : parseD text = .inr ((e : Int), off) := by unfold parseD; rw [hlex]
    repeat' (first | refine a_mov ?_ | refine a_asg ?_ | refine a_binN ?_ | refine a_notd ?_ | refine a_notb ?_ | refine a_nilc ?_ | refine a_fa ?_ | refine a_ext ?_ | refine a_lenv ?_ | refine a_lens ?_ | refine a_pick_t ?_ | refine a_pick_f ?_ | refine a_not ?_ | refine a_nilf ?_ | (refine a_bin ?_ ?_ <;> intro _ <;> try (exfalso; omega)) | refine a_ld hl ?_ | (refine a_st hl ?_; clear hl; intro _ hl) | refine a_ix (fun _ => ?_) | fail)
    refine o_nil (hK _ _ ?_)
    clear hK K
    rename_i w5 w6
    have hl : LH w (fun _ => False) w6 (resB 24 b2 b3 b4 (.slice none 0 0) e off) := hl
    refine wk_seq fun K hK => ?_
    refine wk_seq fun K2 hK2 => ?_
    refine wk_reg ?_
    have hne := lex_ne hlex
    repeat' (first | refine a_mov ?_ | refine a_asg ?_ | refine a_binN ?_ | refine a_notd ?_ | refine a_notb ?_ | refine a_nilc ?_ | refine a_fa ?_ | refine a_ext ?_ | refine a_lenv ?_ | refine a_lens ?_ | refine a_pick_t ?_ | refine a_pick_f ?_ | refine a_not ?_ | refine a_nilf ?_ | (refine a_bin ?_ ?_ <;> intro _ <;> try (exfalso; omega)) | refine a_ld hl ?_ | (refine a_st hl ?_; clear hl; intro _ hl) | refine a_ix (fun _ => ?_) | fail)
    refine o_nil (hK2 _ _ ?_)
    clear hK2 K2
    refine wk_cond_t rfl ?_
    refine wk_seq fun K2 hK2 => ?_
    refine wk_np (wk_draw (List.range 3) [0, 1, 2] [3, 4, 5] (fun w' => LH w (fun _ => False) w' (resB 24 b2 b3 b4 (.slice none 0 0) e off)) (fun w' => LH w (fun _ => False) w' (resB 24 b2 b3 b4 (.slice none 0 0) e off)) rfl (by kernel_rfl) (by intro _ _ _ _ h; exact h) (fun w' h => hl.heap h) (fun _ h => h) ?_)
    refine q_late rfl rfl rfl rfl (fun w' hw' => r_loadN rfl rfl rfl (hw'.rowL (vs := [.slice none 0 0]) 2 0 1 rfl)) ?_
    refine q_late rfl rfl rfl rfl (fun w' hw' => r_load rfl rfl (hw'.cell 1 rfl rfl)) ?_
    refine q_late rfl rfl rfl rfl (fun w' hw' => r_load rfl rfl (hw'.cell 0 rfl rfl)) ?_
    refine q_nil ?_
    clear hl
    intro w7 hl
    refine ops_tail rfl rfl ?_
    refine o_putN (us := [.slice none 0 0]) hl rfl rfl rfl rfl rfl (.there (.there (.all rfl rfl))) ?_
    clear hl
    intro w8 hl
    refine o_nil ⟨hl, ?_⟩
    refine ops_tail rfl rfl ?_
    refine o_put1 (b := b3) (o := 0) (v := .int .i64 e) hl rfl rfl rfl ⟨rfl, rfl⟩ rfl (.there (.here rfl rfl)) ?_
    clear hl
    intro w9 hl
    refine o_nil ⟨hl, ?_⟩
    refine ops_tail rfl rfl ?_
    refine o_put1 (b := b4) (o := 0) (v := .int .i64 off) hl rfl rfl rfl ⟨rfl, rfl⟩ rfl (.here rfl rfl) ?_
    clear hl
    intro w10 hl
    have hl : LH w (fun _ => False) w10 (resB 24 b2 b3 b4 (.slice none 0 0) e off) := hl
    refine o_nil ⟨hl, ?_⟩
    refine ops_nil (hK2 _ _ ?_)
    refine wk_ret (retP_of (retQ_res [.agg #[.slice none 0 0], .int .i64 e, .int .i64 off] rfl rfl ⟨by decide, ⟨⟨b2, 0, none⟩, rfl, run_loadVarN rfl rfl (hl.rowL (vs := [.slice none 0 0]) 2 0 1 rfl)⟩, by decide, ⟨⟨b3, 0, none⟩, rfl, run_loadVar1 rfl (hl.cell 1 rfl rfl)⟩, by decide, ⟨⟨b4, 0, none⟩, rfl, run_loadVar1 rfl (hl.cell 0 rfl rfl)⟩, trivial⟩ ?_) rfl)
    refine ⟨hl.done, ?_⟩
    rw [hp]
    rfl
  | ok ts =>
    rw [hlex] at hout
    obtain ⟨sv, rfl, hsv⟩ := hout
    have hp : parseD text = parseT text.length ts := by unfold parseD; rw [hlex]
    obtain ⟨htok, hlen⟩ := lex_tok hlex
    have hl4 := hl
    replace hl := hl.rb
    repeat' (first | refine a_mov ?_ | refine a_asg ?_ | refine a_binN ?_ | refine a_notd ?_ | refine a_notb ?_ | refine a_nilc ?_ | refine a_fa ?_ | refine a_ext ?_ | refine a_lenv ?_ | refine a_lens ?_ | refine a_pick_t ?_ | refine a_pick_f ?_ | refine a_not ?_ | refine a_nilf ?_ | (refine a_bin ?_ ?_ <;> intro _ <;> try (exfalso; omega)) | refine a_ld hl ?_ | (refine a_st hl ?_; clear hl; intro _ hl) | refine a_ix (fun _ => ?_) | fail)
    refine o_nil (hK _ _ ?_)
    clear hK K
    rename_i w5 w6
    have hoff := off_res hsv hl4
    have hsv6 := sl_updE hsv hl.upd hoff
    have hl6 : LH w (fun _ => False) w6 (resB 24 b2 b3 b4 (.slice none 0 0) 0 0) := hl4.bk hl
    clear hl4 hl
    have hl : LH w6 (resK b2 b3 b4) w6 (resB 24 b2 b3 b4 (.slice none 0 0) 0 0) := hl6.rb
    refine wk_seq fun K hK => ?_
    refine wk_seq fun K2 hK2 => ?_
    refine wk_reg ?_
    repeat' (first | refine a_mov ?_ | refine a_asg ?_ | refine a_binN ?_ | refine a_notd ?_ | refine a_notb ?_ | refine a_nilc ?_ | refine a_fa ?_ | refine a_ext ?_ | refine a_lenv ?_ | refine a_lens ?_ | refine a_pick_t ?_ | refine a_pick_f ?_ | refine a_not ?_ | refine a_nilf ?_ | (refine a_bin ?_ ?_ <;> intro _ <;> try (exfalso; omega)) | refine a_ld hl ?_ | (refine a_st hl ?_; clear hl; intro _ hl) | refine a_ix (fun _ => ?_) | fail)
    refine o_nil (hK2 _ _ ?_)
    clear hK2 K2
    refine wk_cond_f rfl ?_
    refine wk_skip (hK _ _ ?_)
    clear hK K
    refine wk_seq fun K hK => ?_
    refine wk_reg ?_
    refine o_mf [] [.pointer (some ⟨b2, 0, none⟩), .pointer (some ⟨b3, 0, none⟩), .pointer (some ⟨b4, 0, none⟩)] rfl rfl rfl ?_
    refine a_defer ?_ rfl
    refine o_nil (hK _ _ ?_)
    clear hK K
    obtain ⟨ta, tc, rfl, hcap⟩ := hsv6.shape (toksL_len ts) (by omega)
    refine wk_seq fun K hK => ?_
    refine wk_reg ?_
    refine a_mov ?_
    refine a_mov ?_
    refine a_lens ?_
    refine o_build (psL (.slice ta ts.length tc) 0 text.length) rfl rfl ?_
    refine o_box (LH.start w6 (fun _ => False)) (psL (.slice ta ts.length tc) 0 text.length) rfl rfl rfl ?_
    intro pb w7 hpb hl7
    have hl : LH w6 (resK b2 b3 b4) w7 (psB pb (.slice ta ts.length tc) (0 : Nat) text.length :: resB 24 b2 b3 b4 (.slice none 0 0) 0 0) := hl.join hl7
    clear hl7
    have hTK : ∀ (w' : World) (l : List (Nat × Obj)), LH w6 (resK b2 b3 b4) w' l → TK w' pb (.slice ta ts.length tc) ts := fun w' l h => ⟨sl_updE hsv6 h.upd hoff, fun hne => off_new hsv6 (by decide) hne hpb, hlen⟩
    refine a_asg ?_
    refine o_nil (hK _ _ ?_)
    clear hK K
    refine wk_seq fun K hK => ?_
    refine wk_reg ?_
    refine o_makeMap hl rfl ?_
    clear hl
    intro bk w8 hbk hl
    refine o_insertB (a := kFlag) (v := .int .i64 1) hl 0 rfl (MapB.nil 0) (by decide) (key_str rfl) rfl rfl rfl (by simp only [str_eq]; rfl) rfl ?_
    clear hl
    intro w9 es1 m1 hl
    refine o_insertB (a := kNumber) (v := .int .i64 2) hl 0 rfl m1 (by decide) (key_str rfl) rfl rfl rfl (by simp only [str_eq]; rfl) rfl ?_
    clear hl
    intro w10 es2 m2 hl
    refine o_insertB (a := kDay) (v := .int .i64 3) hl 0 rfl m2 (by decide) (key_str rfl) rfl rfl rfl (by simp only [str_eq]; rfl) rfl ?_
    clear hl
    intro w11 es3 m3 hl
    have m3 : MapB str es3 3 kindsL := m3
    replace hl := hl.perm (List.Perm.swap _ _ _)
    refine a_mov ?_
    refine a_asg ?_
    refine o_nil (hK _ _ ?_)
    clear hK K
    refine wk_seq fun K hK => ?_
    refine wk_reg ?_
    refine o_makeMap hl rfl ?_
    clear hl
    intro br w12 hbr hl
    refine a_mov ?_
    refine o_mf [.pointer (some ⟨pb, 0, none⟩)] [] rfl rfl rfl ?_
    refine o_insertB (a := (1 : Int)) (v := .func (.func 38) #[.pointer (some ⟨pb, 0, none⟩)] #[]) hl 0 rfl (MapB.nil 0) (by decide) (key_i64 rfl) rfl rfl rfl rfl rfl ?_
    clear hl
    intro w13 er1 n1 hl
    refine a_mov ?_
    refine o_mf [.pointer (some ⟨pb, 0, none⟩)] [] rfl rfl rfl ?_
    refine o_insertB (a := (2 : Int)) (v := .func (.func 39) #[.pointer (some ⟨pb, 0, none⟩)] #[]) hl 0 rfl n1 (by simp) (key_i64 rfl) rfl rfl rfl rfl rfl ?_
    clear hl
    intro w14 er2 n2 hl
    refine a_mov ?_
    refine o_mf [.pointer (some ⟨pb, 0, none⟩)] [] rfl rfl rfl ?_
    refine o_insertB (a := (3 : Int)) (v := .func (.func 39) #[.pointer (some ⟨pb, 0, none⟩)] #[]) hl 0 rfl n2 (by simp) (key_i64 rfl) rfl rfl rfl rfl rfl ?_
    clear hl
    intro w15 er3 n3 hl
    have n3 : MapB (Value.int .i64) er3 3 (rangesL pb) := n3
    replace hl := hl.perm (List.Perm.swap _ _ _)
    refine a_mov ?_
    refine a_asg ?_
    refine o_nil (hK _ _ ?_)
    clear hK K m1 m2 n1 n2
    have hpan : ∀ (s : St) (w' : World) (dv : Value) (e a : Int), s.d = [recDD b2 b3 b4] → s.t 2 = .pointer (some ⟨b2, 0, none⟩) → s.t 3 = .pointer (some ⟨b3, 0, none⟩) → s.t 4 = .pointer (some ⟨b4, 0, none⟩) → LH w6 (resK b2 b3 b4) w' (resB 24 b2 b3 b4 dv 0 0) → parseD text = .inr (e, a) → RetP Tryd.prog Tryd.f11 94 (fun v w' => Ext w w' ∧ DomOut w' (parseD text) v) (fun _ _ => False) (.panic (faultC e a)) s w' := fun s w' dv e a hd h2 h3 h4 hlr hpd => by
      have hlw := hl6.bk hlr
      refine parseD_panic hd hlr.rb h2 h3 h4 fun w'' hu => ⟨hlw.upd.trans hu fun k hk hM => ?_, ?_⟩
      · rcases hlw.id hM with h1 | h1
        · omega
        · exact h1
      · rw [hpd]
        rfl
    have hst : factsP text.length ts.length [] (ts.drop 0) = parseD text := by rw [hp]; rfl
    clear hp
    refine wk_seq fun K hK => ?_
    refine wk_block ?_
    refine wk_loopH [recDD b2 b3 b4] rfl (fun q : List Fact × Nat × Value × List (Nat × Obj) => [(2, .pointer (some ⟨b2, 0, none⟩)), (3, .pointer (some ⟨b3, 0, none⟩)), (4, .pointer (some ⟨b4, 0, none⟩)), (5, .slice ta ts.length tc), (6, .pointer (some ⟨pb, 0, none⟩)), (7, .map (some bk)), (8, .map (some br))])
      (fun q w' => (q.2.1 ≤ ts.length ∧ q.1.length ≤ 60 ∧ ∃ f, (ts.drop q.2.1).length ≤ f ∧ factsP text.length f q.1 (ts.drop q.2.1) = parseD text) ∧ LH w6 (resK b2 b3 b4) w' (psB pb (.slice ta ts.length tc) q.2.1 text.length :: (br, .map er3 3) :: (bk, .map es3 3) :: (b4, Obj.cells [.int .i64 0].toArray 3 (0, 0)) :: (b3, Obj.cells [.int .i64 0].toArray 29 (0, 0)) :: (b2, Obj.cells [q.2.2.1].toArray 24 (0, 0)) :: q.2.2.2) ∧ Acc q.2.2.1 4 47 q.1.length (factsL q.1) q.2.2.2)
      (fun q => ts.length - q.2.1) ([], 0, .slice none 0 0, []) ⟨rfl, rfl, rfl, rfl, rfl, rfl, rfl, trivial⟩ ⟨⟨Nat.zero_le _, by simp, ts.length, by simp, hst⟩, hl, Acc.nil _ _⟩ ?_
    clear hl hst
    rintro ⟨F, i, dv, acc⟩ t w16 ⟨⟨hi, h60, f, hf, hst⟩, hl, ha⟩
    simp only at hi h60 hf hst hl ha
    obtain ⟨da, dc, rfl⟩ := ha.shape
    have hrp : Row w16 pb 0 (psL (.slice ta ts.length tc) i text.length) := hl.rowL (vs := psL (.slice ta ts.length tc) i text.length) 0 0 3 rfl
    refine wk_seq fun K1 hK1 => ?_
    refine wk_seq fun K2 hK2 => ?_
    refine wk_reg ?_
    by_cases hlt : i < ts.length
    rotate_left
    · obtain rfl : i = ts.length := by omega
      rw [List.drop_length] at hst
      have hpd : parseD text = .inl F := by
        rw [← hst]
        cases f <;> simp [factsP]
      repeat' (first | refine a_mov ?_ | refine a_asg ?_ | refine a_binN ?_ | refine a_notd ?_ | refine a_notb ?_ | refine a_nilc ?_ | refine a_fa ?_ | refine a_ext ?_ | refine a_lenv ?_ | refine a_lens ?_ | refine a_pick_t ?_ | refine a_pick_f ?_ | refine a_not ?_ | refine a_nilf ?_ | (refine a_bin ?_ ?_ <;> intro _ <;> try (exfalso; omega)) | refine a_ld hl ?_ | (refine a_st hl ?_; clear hl; intro _ hl) | refine a_ix (fun _ => ?_) | refine a_row hrp ?_ | fail)
      refine o_nil (hK2 _ _ ?_)
      clear hK2 K2
      refine wk_cond_f rfl ?_
      refine wk_exit ?_
      refine blockK_same ?_
      refine hK _ _ ?_
      clear hK1 K1
      clear hK K
      refine wk_seq fun K hK => ?_
      refine wk_reg ?_
      refine a_all (hl.rowL (vs := [.slice da F.length dc]) 5 0 1 rfl) ?_
      refine o_putN (us := [.slice da F.length dc]) hl rfl rfl rfl rfl rfl (.there (.there (.there (.there (.there (.here rfl rfl)))))) ?_
      clear hl
      intro w17 hl
      refine o_put1 (b := b3) (o := 0) (v := .int .i64 0) hl rfl rfl rfl ⟨rfl, rfl⟩ rfl (.there (.there (.there (.there (.here rfl rfl))))) ?_
      clear hl
      intro w18 hl
      refine o_put1 (b := b4) (o := 0) (v := .int .i64 0) hl rfl rfl rfl ⟨rfl, rfl⟩ rfl (.there (.there (.there (.here rfl rfl)))) ?_
      clear hl
      intro w19 hl
      refine o_nil (hK _ _ ?_)
      have hsl : Sl w19 (.slice da F.length dc) 4 (factsL F) := LH.acc_sl (l := [_, _, _, _, _, _]) hl ha
      have hlr : LH w6 (resK b2 b3 b4) w19 (resB 24 b2 b3 b4 (.slice da F.length dc) 0 0) := hl.sub (by repeat (first | exact List.cons_sublist_cons.2 (List.cons_sublist_cons.2 (List.cons_sublist_cons.2 (List.nil_sublist _))) | refine List.Sublist.cons _ ?_))
      have hlw := hl6.bk hlr
      refine wk_ret (parseD_ret rfl [.agg #[.slice da F.length dc], .int .i64 0, .int .i64 0] fun w' hx => ?_)
      replace hlr := hlr.ext hx
      refine ⟨⟨by decide, ⟨⟨b2, 0, none⟩, rfl, run_loadVarN rfl rfl (hlr.rowL (vs := [.slice da F.length dc]) 2 0 1 rfl)⟩, by decide, ⟨⟨b3, 0, none⟩, rfl, run_loadVar1 rfl (hlr.cell 1 rfl rfl)⟩, by decide, ⟨⟨b4, 0, none⟩, rfl, run_loadVar1 rfl (hlr.cell 0 rfl rfl)⟩, trivial⟩, (hlw.ext hx).done, ?_⟩
      rw [hpd]
      exact ⟨_, rfl, hsl.ext hx⟩
    obtain ⟨g, rfl⟩ : ∃ g, f = g + 1 := ⟨f - 1, by rw [List.length_drop] at hf; omega⟩
    have hne : ts.drop i ≠ [] := fun h => by
      have := congrArg List.length h
      rw [List.length_drop] at this
      simp at this
      omega
    simp only [factsP] at hst
    rw [if_neg hne] at hst
    have hbad : ∀ e a, factP text.length F (ts.drop i) = .bad e a → parseD text = .inr (e, a) := fun e a h => by
      rw [h] at hst
      exact hst.symm
    repeat' (first | refine a_mov ?_ | refine a_asg ?_ | refine a_binN ?_ | refine a_notd ?_ | refine a_notb ?_ | refine a_nilc ?_ | refine a_fa ?_ | refine a_ext ?_ | refine a_lenv ?_ | refine a_lens ?_ | refine a_pick_t ?_ | refine a_pick_f ?_ | refine a_not ?_ | refine a_nilf ?_ | (refine a_bin ?_ ?_ <;> intro _ <;> try (exfalso; omega)) | refine a_ld hl ?_ | (refine a_st hl ?_; clear hl; intro _ hl) | refine a_ix (fun _ => ?_) | refine a_row hrp ?_ | fail)
    refine o_nil (hK2 _ _ ?_)
    clear hK2 K2
    refine wk_cond_t rfl ?_
    refine wk_skip (hK1 _ _ ?_)
    clear hK1 K1 hrp
    refine wk_block ?_
    clear hK
    refine wk_seq fun K hK => ?_
    refine wk_reg ?_
    refine a_mov ?_
    refine a_fnP (take_calls (k := 1) (wd := []) (hTK _ _ hl) hl.one hi) ?_ ?_ rfl (fun _ => rfl) (by simp only [str_nil]; rfl)
    rotate_left
    · rintro ch w17 ⟨e, a, hr, rfl, hu⟩
      exact hpan _ w17 (.slice da F.length dc) e a rfl rfl rfl rfl ((LH.lose (pb := pb) hl hu).sub (by repeat (first | exact List.cons_sublist_cons.2 (List.cons_sublist_cons.2 (List.cons_sublist_cons.2 (List.nil_sublist _))) | refine List.Sublist.cons _ ?_))) (hbad _ _ (by unfold factP; rw [hr]; rfl))
    rintro _ w17 ⟨hlt1, hr1, rfl, hlA⟩
    replace hl := hl.swap hlA
    clear hlA
    generalize ts[i] = t1 at hr1
    have hf1 : factP text.length F (ts.drop i) = if (idx F t1.text).isSome = true then .bad 9 t1.pos else if F.length = 60 then .bad 2 t1.pos else (takeK text.length 1 [] (ts.drop (i + 1))).bind fun word r => if kindOf word.text = 0 then .bad 5 word.pos else (if kindOf word.text = 1 then Rd.ok ((0 : Int), (1 : Int)) r else spanP text.length r).bind fun p r => (takeK text.length 3 kSemi r).bind fun _ r => .ok (⟨t1.text, kindOf word.text, p.1, p.2⟩ : Fact) r := by
      unfold factP
      rw [hr1]
      rfl
    refine o_alloc hl [.int .i64 0, .string "".toByteArray, .int .i64 0, .int .i64 0] (by kernel_rfl) rfl ?_
    clear hl
    intro b9 w18 hb hl
    refine o_putN (us := tokL t1) hl rfl rfl rfl (by simp only [tokL, List.all_cons, List.all_nil, oneCell_str]; rfl) rfl (.here rfl rfl) ?_
    clear hl
    intro w19 hl
    replace hl := hl.perm (List.Perm.swap _ _ _)
    refine o_nil (hK _ _ ?_)
    clear hK K
    have hra : Row w19 b9 0 (tokL t1) := hl.rowL (vs := tokL t1) 1 0 4 rfl
    have hrd : Row w19 b2 0 [.slice da F.length dc] := hl.rowL (vs := [.slice da F.length dc]) 6 0 1 rfl
    have hsl : Sl w19 (.slice da F.length dc) 4 (factsL F) := LH.acc_sl (l := [_, _, _, _, _, _, _]) hl ha
    have hidxc : ∀ w_, Ext w19 w_ → Calls Tryd.prog 21 #[.agg #[.slice da F.length dc], str t1.text] w_ (fun e w' => ∃ x, e = .returned x ∧ x = .int .i64 (idxI F t1.text) ∧ Ext w_ w') := fun w_ hx => factIndex_calls (hsl.ext hx) (by omega) t1.text
    refine wk_seq fun K hK => ?_
    refine wk_lastQ (List.range 6) (List.dropLast_concat_getLast (by simp)).symm (by kernel_rfl) (by kernel_rfl) ?_
    cases hix : (idx F t1.text).isSome
    rotate_left
    · have hge : 0 ≤ idxI F t1.text := by
        obtain ⟨k, hk⟩ := Option.isSome_iff_exists.1 hix
        unfold idxI
        rw [hk]
        simp only
        omega
      rw [hix, if_pos rfl] at hf1
      repeat' (first | refine q_mov ?_ | refine q_asg ?_ | refine q_fa ?_ | refine q_ext ?_ | refine q_binN ?_ | refine q_notd ?_ | refine q_notb ?_ | refine q_pick_t ?_ | refine q_pick_f ?_ | refine q_nilc ?_ | refine q_skip ?_ | refine q_lens ?_ | refine q_lenv ?_ | refine q_nil ?_ | refine q_ix (fun _ => ?_) | (refine q_bin ?_ ?_ <;> intro _ <;> try (exfalso; omega)) | refine q_all (fun w_ hw_ => hrd.ext hw_) ?_ | refine q_all (fun w_ hw_ => hra.ext hw_) ?_ | refine q_row (fun w_ hw_ => hra.ext hw_) ?_ | refine q_fn hidxc ?_ | fail)
      intro w20 hx20
      refine a_fnP (check_calls (b := true) (e := 9) (a := t1.pos) (k := t1.kind) (num := t1.num) (tx := t1.text)) ?_ ?_
      · rintro v w21 ⟨h, -⟩
        cases h
      · rintro ch w21 ⟨-, rfl, hx21⟩
        exact hpan _ w21 (.slice da F.length dc) 9 t1.pos rfl rfl rfl rfl (((hl.ext hx20).ext hx21).sub (by repeat (first | exact List.cons_sublist_cons.2 (List.cons_sublist_cons.2 (List.cons_sublist_cons.2 (List.nil_sublist _))) | refine List.Sublist.cons _ ?_))) (hbad _ _ hf1)
    have hlt0 : ¬ (0 ≤ idxI F t1.text) := by
      have : idx F t1.text = none := by simpa using hix
      unfold idxI
      rw [this]
      decide
    rw [hix, if_neg (by decide)] at hf1
    repeat' (first | refine q_mov ?_ | refine q_asg ?_ | refine q_fa ?_ | refine q_ext ?_ | refine q_binN ?_ | refine q_notd ?_ | refine q_notb ?_ | refine q_pick_t ?_ | refine q_pick_f ?_ | refine q_nilc ?_ | refine q_skip ?_ | refine q_lens ?_ | refine q_lenv ?_ | refine q_nil ?_ | refine q_ix (fun _ => ?_) | (refine q_bin ?_ ?_ <;> intro _ <;> try (exfalso; omega)) | refine q_all (fun w_ hw_ => hrd.ext hw_) ?_ | refine q_all (fun w_ hw_ => hra.ext hw_) ?_ | refine q_row (fun w_ hw_ => hra.ext hw_) ?_ | refine q_fn hidxc ?_ | fail)
    intro w20 hx20
    refine a_fnP (check_calls (b := false) (e := 9) (a := t1.pos) (k := t1.kind) (num := t1.num) (tx := t1.text)) ?_ ?_
    rotate_left
    · rintro ch w21 ⟨h, -⟩
      cases h
    rintro v w21 ⟨-, hx21⟩
    replace hl := (hl.ext hx20).ext hx21
    replace hra := (hra.ext hx20).ext hx21
    replace hrd := (hrd.ext hx20).ext hx21
    clear hx20 hx21 hidxc hsl
    refine o_nil (hK _ _ ?_)
    clear hK K
    refine wk_seq fun K hK => ?_
    refine wk_reg ?_
    by_cases h60b : F.length = 60
    · rw [if_pos h60b] at hf1
      repeat' (first | refine a_mov ?_ | refine a_asg ?_ | refine a_binN ?_ | refine a_notd ?_ | refine a_notb ?_ | refine a_nilc ?_ | refine a_fa ?_ | refine a_ext ?_ | refine a_lenv ?_ | refine a_lens ?_ | refine a_pick_t ?_ | refine a_pick_f ?_ | refine a_not ?_ | refine a_nilf ?_ | (refine a_bin ?_ ?_ <;> intro _ <;> try (exfalso; omega)) | refine a_ld hl ?_ | (refine a_st hl ?_; clear hl; intro _ hl) | refine a_ix (fun _ => ?_) | refine a_row hrd ?_ | fail)
      refine a_all hra ?_
      refine a_fnP (check_calls (b := true) (e := 2) (a := t1.pos) (k := t1.kind) (num := t1.num) (tx := t1.text)) ?_ ?_
      · rintro v w22 ⟨h, -⟩
        cases h
      · rintro ch w22 ⟨-, rfl, hx22⟩
        exact hpan _ w22 (.slice da F.length dc) 2 t1.pos rfl rfl rfl rfl ((hl.ext hx22).sub (by repeat (first | exact List.cons_sublist_cons.2 (List.cons_sublist_cons.2 (List.cons_sublist_cons.2 (List.nil_sublist _))) | refine List.Sublist.cons _ ?_))) (hbad _ _ hf1)
    rw [if_neg h60b] at hf1
    repeat' (first | refine a_mov ?_ | refine a_asg ?_ | refine a_binN ?_ | refine a_notd ?_ | refine a_notb ?_ | refine a_nilc ?_ | refine a_fa ?_ | refine a_ext ?_ | refine a_lenv ?_ | refine a_lens ?_ | refine a_pick_t ?_ | refine a_pick_f ?_ | refine a_not ?_ | refine a_nilf ?_ | (refine a_bin ?_ ?_ <;> intro _ <;> try (exfalso; omega)) | refine a_ld hl ?_ | (refine a_st hl ?_; clear hl; intro _ hl) | refine a_ix (fun _ => ?_) | refine a_row hrd ?_ | fail)
    refine a_all hra ?_
    refine a_fnP (check_calls (b := false) (e := 2) (a := t1.pos) (k := t1.kind) (num := t1.num) (tx := t1.text)) ?_ ?_
    rotate_left
    · rintro ch w22 ⟨h, -⟩
      cases h
    rintro v w22 ⟨-, hx22⟩
    replace hl := hl.ext hx22
    clear hra hrd hx22
    refine o_nil (hK _ _ ?_)
    clear hK K
    refine wk_seq fun K hK => ?_
    refine wk_reg ?_
    refine a_mov ?_
    refine a_fnP (take_calls (k := 1) (wd := []) (hTK _ _ hl) hl.one hlt1) ?_ ?_ rfl (fun _ => rfl) (by simp only [str_nil]; rfl)
    rotate_left
    · rintro ch w23 ⟨e, a, hr, rfl, hu⟩
      exact hpan _ w23 (.slice da F.length dc) e a rfl rfl rfl rfl ((LH.lose (pb := pb) hl hu).sub (by repeat (first | exact List.cons_sublist_cons.2 (List.cons_sublist_cons.2 (List.cons_sublist_cons.2 (List.nil_sublist _))) | refine List.Sublist.cons _ ?_))) (hbad _ _ (by rw [hf1, hr]; rfl))
    rintro _ w23 ⟨hlt2, hr2, rfl, hlA⟩
    replace hl := hl.swap hlA
    clear hlA
    generalize ts[i + 1] = t2 at hr2
    rw [hr2] at hf1
    simp only [Rd.bind] at hf1
    refine o_alloc hl [.int .i64 0, .string "".toByteArray, .int .i64 0, .int .i64 0] (by kernel_rfl) rfl ?_
    clear hl
    intro b10 w24 hb hl
    refine o_putN (us := tokL t2) hl rfl rfl rfl (by simp only [tokL, List.all_cons, List.all_nil, oneCell_str]; rfl) rfl (.here rfl rfl) ?_
    clear hl
    intro w25 hl
    replace hl := hl.perm (List.Perm.swap _ _ _)
    refine o_nil (hK _ _ ?_)
    clear hK K
    have hra : Row w25 b9 0 (tokL t1) := hl.rowL (vs := tokL t1) 2 0 4 rfl
    have hrb : Row w25 b10 0 (tokL t2) := hl.rowL (vs := tokL t2) 1 0 4 rfl
    refine wk_seq fun K hK => ?_
    refine wk_reg ?_
    repeat' (first | refine a_mov ?_ | refine a_asg ?_ | refine a_binN ?_ | refine a_notd ?_ | refine a_notb ?_ | refine a_nilc ?_ | refine a_fa ?_ | refine a_ext ?_ | refine a_lenv ?_ | refine a_lens ?_ | refine a_pick_t ?_ | refine a_pick_f ?_ | refine a_not ?_ | refine a_nilf ?_ | (refine a_bin ?_ ?_ <;> intro _ <;> try (exfalso; omega)) | refine a_ld hl ?_ | (refine a_st hl ?_; clear hl; intro _ hl) | refine a_ix (fun _ => ?_) | refine a_row hra ?_ | refine a_row hrb ?_ | fail)
    refine o_lookup (z := .int .i64 0) t2.text m3.r (hl.get 4 rfl) (key_str rfl) rfl rfl rfl rfl rfl ?_
    have hget : (if false = true then Value.tuple #[(Pd.get kindsL t2.text).getD (.int .i64 0), .bool (Pd.get kindsL t2.text).isSome] else (Pd.get kindsL t2.text).getD (.int .i64 0)) = .int .i64 (kindOf t2.text) := get_kinds _
    rw [hget]
    clear hget hra hrb
    refine o_build (factL ⟨t1.text, kindOf t2.text, 0, 0⟩) rfl (by simp only [factL, str_eq]; kernel_rfl) ?_
    refine o_alloc hl [.string "".toByteArray, .int .i64 0, .int .i64 0, .int .i64 0] (by kernel_rfl) rfl ?_
    clear hl
    intro b11 w26 hb11 hl
    refine o_putN (us := factL ⟨t1.text, kindOf t2.text, 0, 0⟩) hl rfl rfl rfl (factL_one _) rfl (.here rfl rfl) ?_
    clear hl
    intro w27 hl
    refine o_nil (hK _ _ ?_)
    clear hK K
    have hrb : Row w27 b10 0 (tokL t2) := hl.rowL (vs := tokL t2) 2 0 4 rfl
    have hrf : Row w27 b11 0 [str t1.text, .int .i64 (kindOf t2.text), .int .i64 0, .int .i64 0] := hl.rowL (vs := factL ⟨t1.text, kindOf t2.text, 0, 0⟩) 0 0 4 rfl
    refine wk_seq fun K hK => ?_
    refine wk_reg ?_
    by_cases hk0 : kindOf t2.text = 0
    · rw [if_pos hk0] at hf1
      repeat' (first | refine a_row hrf ?_ | refine a_mov ?_ | refine a_asg ?_ | refine a_binN ?_ | refine a_notd ?_ | refine a_notb ?_ | refine a_nilc ?_ | refine a_fa ?_ | refine a_ext ?_ | refine a_lenv ?_ | refine a_lens ?_ | refine a_pick_t ?_ | refine a_pick_f ?_ | refine a_not ?_ | refine a_nilf ?_ | (refine a_bin ?_ ?_ <;> intro _ <;> try (exfalso; omega)) | refine a_ld hl ?_ | (refine a_st hl ?_; clear hl; intro _ hl) | refine a_ix (fun _ => ?_) | fail)
      refine a_all hrb ?_
      refine a_fnP (check_calls (b := true) (e := 5) (a := t2.pos) (k := t2.kind) (num := t2.num) (tx := t2.text)) ?_ ?_
      · rintro v w28 ⟨h, -⟩
        cases h
      · rintro ch w28 ⟨-, rfl, hx28⟩
        exact hpan _ w28 (.slice da F.length dc) 5 t2.pos rfl rfl rfl rfl ((hl.ext hx28).sub (by repeat (first | exact List.cons_sublist_cons.2 (List.cons_sublist_cons.2 (List.cons_sublist_cons.2 (List.nil_sublist _))) | refine List.Sublist.cons _ ?_))) (hbad _ _ hf1)
    rw [if_neg hk0] at hf1
    repeat' (first | refine a_row hrf ?_ | refine a_mov ?_ | refine a_asg ?_ | refine a_binN ?_ | refine a_notd ?_ | refine a_notb ?_ | refine a_nilc ?_ | refine a_fa ?_ | refine a_ext ?_ | refine a_lenv ?_ | refine a_lens ?_ | refine a_pick_t ?_ | refine a_pick_f ?_ | refine a_not ?_ | refine a_nilf ?_ | (refine a_bin ?_ ?_ <;> intro _ <;> try (exfalso; omega)) | refine a_ld hl ?_ | (refine a_st hl ?_; clear hl; intro _ hl) | refine a_ix (fun _ => ?_) | fail)
    refine a_all hrb ?_
    refine a_fnP (check_calls (b := false) (e := 5) (a := t2.pos) (k := t2.kind) (num := t2.num) (tx := t2.text)) ?_ ?_
    rotate_left
    · rintro ch w28 ⟨h, -⟩
      cases h
    rintro v w28 ⟨-, hx28⟩
    replace hl := hl.ext hx28
    replace hrf := hrf.ext hx28
    clear hrb hx28
    refine o_nil (hK _ _ ?_)
    clear hK K
    refine wk_seq fun K hK => ?_
    refine wk_reg ?_
    repeat' (first | refine a_row hrf ?_ | refine a_mov ?_ | refine a_asg ?_ | refine a_binN ?_ | refine a_notd ?_ | refine a_notb ?_ | refine a_nilc ?_ | refine a_fa ?_ | refine a_ext ?_ | refine a_lenv ?_ | refine a_lens ?_ | refine a_pick_t ?_ | refine a_pick_f ?_ | refine a_not ?_ | refine a_nilf ?_ | (refine a_bin ?_ ?_ <;> intro _ <;> try (exfalso; omega)) | refine a_ld hl ?_ | (refine a_st hl ?_; clear hl; intro _ hl) | refine a_ix (fun _ => ?_) | fail)
    refine o_lookup (kindOf t2.text) n3.r (hl.get 4 rfl) (key_i64 rfl) rfl rfl rfl rfl rfl ?_
    replace hl := hl.perm (List.Perm.swap _ _ _)
    refine a_fwP (range_calls (hTK _ _ hl) hl.one hlt2 (kindOf_cases hk0)) ?_ ?_
    rotate_left
    · rintro ch w29 ⟨e, a, hr, rfl, hu⟩
      exact hpan _ w29 (.slice da F.length dc) e a rfl rfl rfl rfl ((LH.lose (pb := pb) hl hu).sub (by repeat (first | exact List.cons_sublist_cons.2 (List.cons_sublist_cons.2 (List.cons_sublist_cons.2 (List.nil_sublist _))) | refine List.Sublist.cons _ ?_))) (hbad _ _ (by rw [hf1, hr]))
    rintro _ w29 ⟨pr, j, hr3, hij, hjt, rfl, hlA⟩
    replace hl := hl.swap hlA
    clear hlA hrf
    rw [hr3] at hf1
    simp only [Rd.bind] at hf1
    refine a_mov ?_
    first | refine a_mov ?_ | refine a_asg ?_ | refine a_binN ?_ | refine a_notd ?_ | refine a_notb ?_ | refine a_nilc ?_ | refine a_fa ?_ | refine a_ext ?_ | refine a_lenv ?_ | refine a_lens ?_ | refine a_pick_t ?_ | refine a_pick_f ?_ | refine a_not ?_ | refine a_nilf ?_ | (refine a_bin ?_ ?_ <;> intro _ <;> try (exfalso; omega)) | refine a_ld hl ?_ | (refine a_st hl ?_; clear hl; intro _ hl) | refine a_ix (fun _ => ?_)
    first | refine a_mov ?_ | refine a_asg ?_ | refine a_binN ?_ | refine a_notd ?_ | refine a_notb ?_ | refine a_nilc ?_ | refine a_fa ?_ | refine a_ext ?_ | refine a_lenv ?_ | refine a_lens ?_ | refine a_pick_t ?_ | refine a_pick_f ?_ | refine a_not ?_ | refine a_nilf ?_ | (refine a_bin ?_ ?_ <;> intro _ <;> try (exfalso; omega)) | refine a_ld hl ?_ | (refine a_st hl ?_; clear hl; intro _ hl) | refine a_ix (fun _ => ?_)
    first | refine a_mov ?_ | refine a_asg ?_ | refine a_binN ?_ | refine a_notd ?_ | refine a_notb ?_ | refine a_nilc ?_ | refine a_fa ?_ | refine a_ext ?_ | refine a_lenv ?_ | refine a_lens ?_ | refine a_pick_t ?_ | refine a_pick_f ?_ | refine a_not ?_ | refine a_nilf ?_ | (refine a_bin ?_ ?_ <;> intro _ <;> try (exfalso; omega)) | refine a_ld hl ?_ | (refine a_st hl ?_; clear hl; intro _ hl) | refine a_ix (fun _ => ?_)
    refine o_put1 (b := b11) (o := 2) (v := .int .i64 pr.1) hl rfl rfl rfl ⟨rfl, rfl⟩ rfl (.there (.here rfl rfl)) ?_
    clear hl
    intro w30 hl
    first | refine a_mov ?_ | refine a_asg ?_ | refine a_binN ?_ | refine a_notd ?_ | refine a_notb ?_ | refine a_nilc ?_ | refine a_fa ?_ | refine a_ext ?_ | refine a_lenv ?_ | refine a_lens ?_ | refine a_pick_t ?_ | refine a_pick_f ?_ | refine a_not ?_ | refine a_nilf ?_ | (refine a_bin ?_ ?_ <;> intro _ <;> try (exfalso; omega)) | refine a_ld hl ?_ | (refine a_st hl ?_; clear hl; intro _ hl) | refine a_ix (fun _ => ?_)
    refine o_put1 (b := b11) (o := 3) (v := .int .i64 pr.2) hl rfl rfl rfl ⟨rfl, rfl⟩ rfl (.there (.here rfl rfl)) ?_
    clear hl
    intro w31 hl
    refine o_nil (hK _ _ ?_)
    clear hK K
    refine wk_seq fun K hK => ?_
    refine wk_reg ?_
    refine a_mov ?_
    refine a_fnP (take_calls (k := 3) (wd := kSemi) (hTK _ _ hl) hl.one hjt) ?_ ?_ rfl (fun _ => rfl) (by simp only [kSemi, str_eq]; rfl)
    rotate_left
    · rintro ch w32 ⟨e, a, hr, rfl, hu⟩
      exact hpan _ w32 (.slice da F.length dc) e a rfl rfl rfl rfl ((LH.lose (pb := pb) hl hu).sub (by repeat (first | exact List.cons_sublist_cons.2 (List.cons_sublist_cons.2 (List.cons_sublist_cons.2 (List.nil_sublist _))) | refine List.Sublist.cons _ ?_))) (hbad _ _ (by rw [hf1, hr]))
    rintro _ w32 ⟨hlt3, hr4, rfl, hlA⟩
    replace hl := hl.swap hlA
    clear hlA
    rw [hr4] at hf1
    simp only at hf1
    refine o_nil (hK _ _ ?_)
    clear hK K
    refine wk_reg ?_
    have hrd : Row w32 b2 0 [.slice da F.length dc] := hl.rowL (vs := [.slice da F.length dc]) 8 0 1 rfl
    have hrf : Row w32 b11 0 (factL ⟨t1.text, kindOf t2.text, pr.1, pr.2⟩) := hl.rowL (vs := factL ⟨t1.text, kindOf t2.text, pr.1, pr.2⟩) 1 0 4 rfl
    first | refine a_mov ?_ | refine a_asg ?_ | refine a_binN ?_ | refine a_notd ?_ | refine a_notb ?_ | refine a_nilc ?_ | refine a_fa ?_ | refine a_ext ?_ | refine a_lenv ?_ | refine a_lens ?_ | refine a_pick_t ?_ | refine a_pick_f ?_ | refine a_not ?_ | refine a_nilf ?_ | (refine a_bin ?_ ?_ <;> intro _ <;> try (exfalso; omega)) | refine a_ld hl ?_ | (refine a_st hl ?_; clear hl; intro _ hl) | refine a_ix (fun _ => ?_)
    refine a_row hrd ?_
    refine a_all hrf ?_
    refine o_buildSlice hl (factL ⟨t1.text, kindOf t2.text, pr.1, pr.2⟩) rfl rfl (by simp only [factL, str_eq]; kernel_rfl) ?_
    clear hl hrd hrf
    intro b13 w33 hb13 hl
    refine o_append (us := factL ⟨t1.text, kindOf t2.text, pr.1, pr.2⟩) (bl' := [(b13, _), psB pb (.slice ta ts.length tc) (j + 1 : Nat) text.length, (b11, _), (b10, _), (b9, _), (br, _), (bk, _), (b4, _), (b3, _), (b2, _)]) (bytes := 40) (q := 1) hl ha (hl.rowL (vs := factL ⟨t1.text, kindOf t2.text, pr.1, pr.2⟩) 0 0 4 rfl) rfl (factL_one _) (by decide) (by omega) (by omega) rfl rfl (by kernel_rfl) rfl rfl ?_
    clear hl
    intro dv' w34 acc' hl ha'
    obtain ⟨da', dc', rfl⟩ := ha'.shape
    first | refine a_mov ?_ | refine a_asg ?_ | refine a_binN ?_ | refine a_notd ?_ | refine a_notb ?_ | refine a_nilc ?_ | refine a_fa ?_ | refine a_ext ?_ | refine a_lenv ?_ | refine a_lens ?_ | refine a_pick_t ?_ | refine a_pick_f ?_ | refine a_not ?_ | refine a_nilf ?_ | (refine a_bin ?_ ?_ <;> intro _ <;> try (exfalso; omega)) | refine a_ld hl ?_ | (refine a_st hl ?_; clear hl; intro _ hl) | refine a_ix (fun _ => ?_)
    refine o_put1 (b := b2) (o := 0) (v := .slice da' (F.length + 1) dc') hl rfl rfl rfl ⟨rfl, rfl⟩ rfl (.there (.there (.there (.there (.there (.there (.there (.there (.there (.here rfl rfl)))))))))) ?_
    clear hl
    intro w35 hl
    have hgl : (ts.drop (j + 1)).length ≤ g := by
      rw [List.length_drop] at hf ⊢
      omega
    have hfa : factsP text.length g (F ++ [⟨t1.text, kindOf t2.text, pr.1, pr.2⟩]) (ts.drop (j + 1)) = parseD text := by
      rw [hf1] at hst
      exact hst
    have hlr : LH w6 (resK b2 b3 b4) w35 (psB pb (.slice ta ts.length tc) (j + 1 : Nat) text.length :: (br, .map er3 3) :: (bk, .map es3 3) :: (b4, Obj.cells [.int .i64 0].toArray 3 (0, 0)) :: (b3, Obj.cells [.int .i64 0].toArray 29 (0, 0)) :: (b2, Obj.cells [.slice da' (F.length + 1) dc'].toArray 24 (0, 0)) :: acc') := hl.sub (List.Sublist.cons _ (List.cons_sublist_cons.2 (List.Sublist.cons _ (List.Sublist.cons _ (List.Sublist.cons _ (List.Sublist.refl _))))))
    exact o_nil ⟨(F ++ [⟨t1.text, kindOf t2.text, pr.1, pr.2⟩], j + 1, .slice da' (F.length + 1) dc', acc'), ⟨rfl, rfl, rfl, rfl, rfl, rfl, rfl, trivial⟩, rfl, ⟨⟨hlt3, by rw [List.length_append]; simp only [List.length_singleton]; omega, g, hgl, hfa⟩, hlr, by rw [List.length_append]; simpa only [List.length_singleton, factsL, List.flatMap_append, List.flatMap_cons, List.flatMap_nil, List.append_nil] using ha'⟩, by show ts.length - (j + 1) < ts.length - i; omega⟩
end Go.Proofs
