/-
  Conditions of commencement: the words of operations; start and its closures.
-/
import Derived.Test.YtebaoilkpedppaaDoorStL
import Derived.Test.YtebaoilkpedppaaDoorIter
set_option linter.unusedVariables false
set_option linter.unusedSimpArgs false
set_option linter.unnecessarySimpa false
set_option maxRecDepth 10000
namespace Go.Proofs
open Go Go.Pd Go.Sta
open Go.Lexs (Tok)
attribute [local irreducible] OpsL W RetQ OpsQ OpsC
def wordV : List (Tx × Value) := wordL.map fun p => (p.1, .int .i64 p.2)
theorem words_calls (w : World) : Calls Tryd.prog 32 #[] w (fun e w' => ∃ v, e = .returned v ∧ ∃ b es c, v = .map (some b) ∧ LH w (fun _ => False) w' [(b, .map es c)] ∧ MapB str es c wordV) := by
  refine calls_of Tryd.func32 rfl Tryd.ntmps32 rfl ?_
  refine wk_seq fun K hK => ?_
  refine wk_reg ?_
  refine a_asg ?_
  refine o_nil (hK _ _ ?_)
  clear hK K
  refine wk_seq fun K hK => ?_
  refine wk_reg ?_
  refine o_makeMap (LH.start w (fun _ => False)) rfl ?_
  intro b w0 hb hl
  refine o_insertB (a := wordL[0].1) (v := .int .i64 1) hl 0 rfl (MapB.nil 0) (by decide) (key_str rfl) rfl rfl rfl (by simp only [str_eq]; rfl) rfl ?_
  clear hl
  intro w1 es1 m1 hl
  refine o_insertB (a := wordL[1].1) (v := .int .i64 2) hl 0 rfl m1 (by decide) (key_str rfl) rfl rfl rfl (by simp only [str_eq]; rfl) rfl ?_
  clear hl
  intro w2 es2 m2 hl
  refine o_insertB (a := wordL[2].1) (v := .int .i64 3) hl 0 rfl m2 (by decide) (key_str rfl) rfl rfl rfl (by simp only [str_eq]; rfl) rfl ?_
  clear hl
  intro w3 es3 m3 hl
  refine o_insertB (a := wordL[3].1) (v := .int .i64 4) hl 0 rfl m3 (by decide) (key_str rfl) rfl rfl rfl (by simp only [str_eq]; rfl) rfl ?_
  clear hl
  intro w4 es4 m4 hl
  refine o_insertB (a := wordL[4].1) (v := .int .i64 5) hl 0 rfl m4 (by decide) (key_str rfl) rfl rfl rfl (by simp only [str_eq]; rfl) rfl ?_
  clear hl
  intro w5 es5 m5 hl
  refine o_insertB (a := wordL[5].1) (v := .int .i64 6) hl 0 rfl m5 (by decide) (key_str rfl) rfl rfl rfl (by simp only [str_eq]; rfl) rfl ?_
  clear hl
  intro w6 es6 m6 hl
  refine o_insertB (a := wordL[6].1) (v := .int .i64 7) hl 0 rfl m6 (by decide) (key_str rfl) rfl rfl rfl (by simp only [str_eq]; rfl) rfl ?_
  clear hl
  intro w7 es7 m7 hl
  refine a_mov ?_
  refine a_asg ?_
  refine o_nil (hK _ _ ?_)
  clear hK K
  refine wk_ret (retQ_tmp1 Tryd.results32 (by decide) rfl (by conv => lhs; whnf) ?_)
  exact ⟨b, es7, _, rfl, hl, m7⟩
/-- A condition's reader, as a function value. -/
def oneV (pb : Nat) : Value := .func (.func 28) #[.pointer (some ⟨pb, 0, none⟩)] #[]
def OneC (n : Nat) : Prop := ∀ (w0 : World) (pb : Nat) (tv : Value) (ts : List Tok) (en : Int), TK w0 pb tv ts → RdC Tryd.prog w0 pb tv ts en (oneV pb) n (pOne en (n + 1))
theorem all_calls {n : Nat} (h1 : OneC n) {w0 : World} {pb b1 : Nat} {tv : Value} {ts : List Tok} {en : Int} (hT : TK w0 pb tv ts) (hb : Row w0 b1 0 [.pointer (some ⟨pb, 0, none⟩)]) (hne : b1 ≠ pb) : RdC Tryd.prog w0 pb tv ts en (.func (.func 26) #[] #[.pointer (some ⟨b1, 0, none⟩)]) n (pAll en (n + 1)) := by
  intro w i hu hl hi hn
  refine ⟨_, #[], _, rfl, fun _ => rfl, ?_⟩
  show Calls Tryd.prog _ #[.pointer (some ⟨b1, 0, none⟩)] w _
  have hbw : Row w b1 0 [.pointer (some ⟨pb, 0, none⟩)] := hb.upd hu (by simpa [OneB] using hne)
  have hTw := hT.upd hu
  refine calls_ofP Tryd.func26 rfl Tryd.ntmps26 rfl ?_
  refine wk_seq fun K hK => ?_
  refine wk_reg ?_
  refine o_alloc hl [.int .i64 0, .string "".toByteArray, .int .i64 0, .slice none 0 0] (by kernel_rfl) rfl ?_
  clear hl
  intro b2 w1 hb2 hl
  replace hl := hl.perm (List.Perm.swap _ _ [])
  have hu1 := hl.upd
  have hb1 := hbw.upd hu1 (by simpa [OneB] using hne)
  refine o_nil (hK _ _ ?_)
  clear hK K
  refine wk_seq fun K hK => ?_
  refine wk_reg ?_
  refine a_row hb1 ?_
  refine a_row hb1 ?_
  refine o_mf [.pointer (some ⟨pb, 0, none⟩)] [] rfl rfl rfl ?_
  have hT1 := hTw.upd hu1
  refine a_fnP (several_calls (wd := kAnd) (op := 8) (h1 w1 pb tv ts en hT1) hT1 (fun w lv m h => joinAll_calls w lv m h) (.refl _ _) hl.one hi hn) ?_ ?_ rfl (fun _ => rfl) (by simp only [kAnd, str_eq]; rfl)
  rotate_left
  · rintro ch w2 ⟨e, a, hr, rfl, hu2⟩
    exact retP_panic rfl ⟨e, a, hr, rfl, hu1.trans hu2 fun k hk hM => hM⟩
  rintro _ w2 ⟨s0, kv0, j, rfl, hr0, hj, hj2, hl2, hk0⟩
  have hl0 := hl
  replace hl := hl.swap hl2
  have hk2 : KR w2 (FrN w w2 [psB pb tv j en, (b2, Obj.cells #[.int .i64 0, .string "".toByteArray, .int .i64 0, .slice none 0 0] 29 (0, 0))]) s0.kids kv0 := KR.newN hl0 hu1.size rfl hk0
  refine o_putN (us := snL s0 kv0) hl.rb rfl rfl rfl (snL_one hk0) rfl (.there (.here rfl rfl)) ?_
  intro w3 hl3
  have hk3 := KR.grow (l6 := [_, _]) hl3 hk2
  replace hl := hl.bk hl3
  refine o_nil (hK _ _ ?_)
  clear hK K
  refine wk_ret (retP_of (retQ_res [.agg (snL s0 kv0).toArray] rfl rfl ⟨by decide, ⟨⟨b2, 0, none⟩, rfl, run_loadVarN rfl rfl (hl.rowL (vs := snL s0 kv0) 1 0 4 rfl)⟩, trivial⟩ ?_) rfl)
  exact ⟨s0, kv0, j, rfl, hr0, hj, hj2, hl.sub (List.cons_sublist_cons.2 (List.nil_sublist _)), hk3.mono fun b hb => ⟨hb.1, hb.2.1⟩⟩
theorem start_calls {n : Nat} (h1 : OneC n) {w : World} {pb i : Nat} {tv : Value} {ts : List Tok} {en : Int} (hT : TK w pb tv ts) (hl : LH w (OneB pb) w [psB pb tv i en]) (hi : i ≤ ts.length) (hn : ts.length - i ≤ n) :
    Calls Tryd.prog 14 #[.pointer (some ⟨pb, 0, none⟩)] w (EndP (RdV w pb tv ts en i (pStart en (n + 1))) (RdZ w pb ts i (pStart en (n + 1)))) := by
  refine calls_ofP Tryd.func14 rfl Tryd.ntmps14 rfl ?_
  refine wk_seq fun K hK => ?_
  refine wk_reg ?_
  refine o_box hl [.pointer (some ⟨pb, 0, none⟩)] rfl rfl rfl ?_
  clear hl
  intro b1 w0 hb1 hl
  refine o_alloc hl [.int .i64 0, .string "".toByteArray, .int .i64 0, .slice none 0 0] (by kernel_rfl) rfl ?_
  clear hl
  intro b2 w1 hb2 hl
  replace hl := hl.perm (List.reverse_perm _).symm
  have hl : LH w (OneB pb) w1 [psB pb tv i en, (b1, Obj.cells #[.pointer (some ⟨pb, 0, none⟩)] 55 (0, 0)), (b2, Obj.cells #[.int .i64 0, .string "".toByteArray, .int .i64 0, .slice none 0 0] 29 (0, 0))] := hl
  have hu1 := hl.upd
  have hne : b1 ≠ pb := fun e => by
    have := hl.nd
    simp [psB, e] at this
  have hb : Row w1 b1 0 [.pointer (some ⟨pb, 0, none⟩)] := hl.rowL (vs := [.pointer (some ⟨pb, 0, none⟩)]) 1 0 1 rfl
  refine o_nil (hK _ _ ?_)
  clear hK K
  refine wk_seq fun K hK => ?_
  refine wk_reg ?_
  refine o_mf [] [.pointer (some ⟨b1, 0, none⟩)] rfl rfl rfl ?_
  refine a_asg ?_
  refine o_nil (hK _ _ ?_)
  clear hK K
  refine wk_seq fun K hK => ?_
  refine wk_reg ?_
  refine a_row hb ?_
  refine a_mov ?_
  have hT1 := hT.upd hu1
  refine a_fnP (several_calls (wd := kOr) (op := 9) (all_calls h1 hT1 hb hne) hT1 (fun w lv m h => joinAny_calls w lv m h) (.refl _ _) hl.one hi hn) ?_ ?_ rfl (fun _ => rfl) (by simp only [kOr, str_eq]; rfl)
  rotate_left
  · rintro ch w2 ⟨e, a, hr, rfl, hu2⟩
    exact retP_panic rfl ⟨e, a, hr, rfl, hu1.trans hu2 fun k hk hM => hM⟩
  rintro _ w2 ⟨s0, kv0, j, rfl, hr0, hj, hj2, hl2, hk0⟩
  have hl0 := hl
  replace hl := hl.swap hl2
  have hk2 : KR w2 (FrN w w2 [psB pb tv j en, (b1, Obj.cells #[.pointer (some ⟨pb, 0, none⟩)] 55 (0, 0)), (b2, Obj.cells #[.int .i64 0, .string "".toByteArray, .int .i64 0, .slice none 0 0] 29 (0, 0))]) s0.kids kv0 := KR.newN hl0 hu1.size rfl hk0
  refine o_putN (us := snL s0 kv0) hl.rb rfl rfl rfl (snL_one hk0) rfl (.there (.there (.here rfl rfl))) ?_
  intro w3 hl3
  have hk3 := KR.grow (l6 := [_, _, _]) hl3 hk2
  replace hl := hl.bk hl3
  refine o_nil (hK _ _ ?_)
  clear hK K
  refine wk_ret (retP_of (retQ_res [.agg (snL s0 kv0).toArray] rfl rfl ⟨by decide, ⟨⟨b2, 0, none⟩, rfl, run_loadVarN rfl rfl (hl.rowL (vs := snL s0 kv0) 2 0 4 rfl)⟩, trivial⟩ ?_) rfl)
  exact ⟨s0, kv0, j, rfl, hr0, hj, hj2, hl.sub (List.cons_sublist_cons.2 (List.nil_sublist _)), hk3.mono fun b hb => ⟨hb.1, hb.2.1⟩⟩
end Go.Proofs
