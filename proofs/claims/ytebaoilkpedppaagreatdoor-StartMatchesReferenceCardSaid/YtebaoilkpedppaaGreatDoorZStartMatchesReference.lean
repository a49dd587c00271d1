/-
  The statement StartMatchesReference of layer 24: for every two conditions, day, day known, lists and text, all functions agree with the reference implementation.
  Conditions: none of ours beside those that the given row states (each argument is read as data; package variables that the row lists start as the text of the program lays them).
-/
import Derived.Test.YtebaoilkpedppaaGreatDoorCards
import Derived.Test.YtebaoilkpedppaaGreatDoorTie
import Derived.Test.YtebaoilkpedppaaGreatDoorQLE
import Derived.Test.YtebaoilkpedppaaGreatDoorQStRk
import Derived.SevenTiedAt
import Derived.Lay
import Derived.Test.YtebaoilkpedppaaGreatDoorQWit
set_option linter.unusedVariables false
set_option linter.unusedSimpArgs false
set_option linter.unnecessarySimpa false
set_option maxRecDepth 10000
namespace Go.Proofs.YtebaoilkpedppaaGreatDoor.startMatchesReferenceWalk
open Go Go.Pd Go.ChangeShapes Go.WideShapes Go.ChangeAt Go.RowKit
theorem own : ownKnob Tryz.prog.godebug = none := by kernel_rfl
theorem kids : Kids Tryz.prog (· < Tryz.prog.types.size) := kids_rows (by kernel_rfl) (by kernel_rfl)
theorem full : ∀ t e, t < Tryz.prog.types.size → Tryz.prog.underlying t = some (.slice e) → 0 < Tryz.prog.cellsOf e := slices_full_of Tryz.prog (by kernel_rfl)
theorem tabs {W : World} (h : laidMet Tryz.prog Rows.startMatchesReferenceRow.laid W) : Go.Proofs.Tabs W :=
  ⟨Go.Proofs.tab_of_laid (k := .u8) (zs := Lib.asciiSpaceTab) (g := 0) (t := 108) (e := 5) (n := 256) (by kernel_rfl) (by kernel_rfl) (by kernel_rfl) (by kernel_rfl) (by kernel_rfl) (by kernel_rfl) h (List.mem_of_getElem? (i := 7) (by kernel_rfl)),
    Go.Proofs.tab_of_laid (k := .u64) (zs := Lib.pow10Tab) (g := 2) (t := 165) (e := 125) (n := 20) (by kernel_rfl) (by kernel_rfl) (by kernel_rfl) (by kernel_rfl) (by kernel_rfl) (by kernel_rfl) h (List.mem_of_getElem? (i := 2) (by kernel_rfl))⟩
set_option maxRecDepth 100000 in
theorem contract (H : Type) (enc : TypeId × Value → H) (W : World) (base : Nat) (args : Array Value) (ds gs : List (DataW H)) (before : List MemPlace)
    (hval : ∀ (j : Nat) t v, Tryz.f7.params[j]? = some t → args[j]? = some v → Value.okWide Tryz.prog W .any base t v)
    (hW : DataW.Whole enc Tryz.prog Tryz.f7.params.toList Rows.startMatchesReferenceSpec.vars false W args.toList ds gs before)
    (hwt : (DataW.weightsEach Tryz.prog (Tryz.f7.params.toList ++ (OpenSpec.ofChange Rows.startMatchesReferenceSpec).bare.plain.varTypes Tryz.prog) (ds ++ gs)).all (· ≤ reachBytes) = true) (hL : laidMet Tryz.prog Rows.startMatchesReferenceRow.laid W) :
    Calls Tryz.prog 7 args W fun e W' => ∃ v, e = .returned v ∧ Rows.startMatchesReferenceSpec.post enc Tryz.prog Tryz.f7 false true false false W args v W' := by
  have hW' := hW
  obtain ⟨p, q, hA0, hV, rfl, hfz, hnd⟩ := hW
  have hA : DataW.TrodAll enc Tryz.prog W 0 (fun _ => true) true Tryz.f7.params.toList args.toList ds p := hA0
  rw [Tryz.params7] at hA hval hwt
  obtain ⟨v0, vs0, d0, ds0, p0, q0, hargs, rfl, rfl, h0, r0⟩ := trodAll_cons hA
  obtain ⟨v1, vs1, d1, ds1, p1, q1, rfl, rfl, rfl, h1, r1⟩ := trodAll_cons r0
  obtain ⟨v2, vs2, d2, ds2, p2, q2, rfl, rfl, rfl, h2, r2⟩ := trodAll_cons r1
  obtain ⟨v3, vs3, d3, ds3, p3, q3, rfl, rfl, rfl, h3, r3⟩ := trodAll_cons r2
  obtain ⟨v4, vs4, d4, ds4, p4, q4, rfl, rfl, rfl, h4, r4⟩ := trodAll_cons r3
  obtain ⟨v5, vs5, d5, ds5, p5, q5, rfl, rfl, rfl, h5, r5⟩ := trodAll_cons r4
  obtain ⟨v6, vs6, d6, ds6, p6, q6, rfl, rfl, rfl, h6, r6⟩ := trodAll_cons r5
  obtain ⟨rfl, rfl, rfl⟩ := trodAll_nil r6
  obtain rfl : args = #[v0, v1, v2, v3, v4, v5, v6] := by cases args; simp_all
  obtain ⟨m0, R0⟩ := Rd.mk h0 (weightsEach_get (i := 0) rfl rfl hwt)
  obtain ⟨x0, rfl, hx0⟩ := open_sn (hval 0 24 v0 rfl rfl) R0
  obtain ⟨m1, R1⟩ := Rd.mk h1 (weightsEach_get (i := 1) rfl rfl hwt)
  obtain ⟨x1, rfl, hx1⟩ := open_sn (hval 1 24 v1 rfl rfl) R1
  obtain ⟨m2, R2⟩ := Rd.mk h2 (weightsEach_get (i := 2) rfl rfl hwt)
  obtain ⟨z2, rfl, hz2⟩ := Rd.int1 Tryz.underlying3 (hval 2 3 v2 rfl rfl) R2
  have hz2 := wf_i64 hz2
  obtain ⟨m3, R3⟩ := Rd.mk h3 (weightsEach_get (i := 3) rfl rfl hwt)
  obtain ⟨x3, hx3⟩ := open_haps (hval 3 35 v3 rfl rfl) R3
  obtain ⟨m4, R4⟩ := Rd.mk h4 (weightsEach_get (i := 4) rfl rfl hwt)
  obtain ⟨z4, rfl, hz4⟩ := Rd.int1 Tryz.underlying3 (hval 4 3 v4 rfl rfl) R4
  have hz4 := wf_i64 hz4
  obtain ⟨m5, R5⟩ := Rd.mk h5 (weightsEach_get (i := 5) rfl rfl hwt)
  obtain ⟨x5, hx5⟩ := open_stus (hval 5 36 v5 rfl rfl) R5
  obtain ⟨m6, R6⟩ := Rd.mk h6 (weightsEach_get (i := 6) rfl rfl hwt)
  obtain ⟨s6, rfl, hs6⟩ := Rd.str1 Tryz.underlying9 (hval 6 9 v6 rfl rfl) R6
  obtain ⟨rfl, rfl⟩ := trodVars_none hV
  clear hA0 hval
  have walk := Go.Proofs.Matches_calls (E := ⟨z2, z4, x3, x5⟩) (text := s6) (tabs hL) hx0 hx1 hx3 hx5
  refine walk.mono ?_
  rintro e W' ⟨v, rfl, rfl, hE⟩
  exact ⟨_, rfl, post_keep hW' rfl kids full (by rw [Tryz.params7]; decide +kernel) (fun _ _ _ => trodAll_cons_mk (shut_bool Tryz.underlying4 _) trodAll_mk0) rfl rfl hE (ok_one (by kernel_rfl) rfl (okWide_bool_mk Tryz.underlying4 _))⟩

theorem laid_met (os : Os) : laidMet Tryz.prog Rows.startMatchesReferenceRow.laid ((World.laidAll Tryz.prog os Rows.startMatchesReferenceRow.laid).forCall (fun _ _ => 0) ⟨#[], #[.agg #[.int .i64 0, .string ⟨#[]⟩, .int .i64 0, .slice none 0 0], .agg #[.int .i64 0, .string ⟨#[]⟩, .int .i64 0, .slice none 0 0], .int .i64 0, .slice none 0 0, .int .i64 0, .slice none 0 0, .string ⟨#[]⟩], []⟩).memory :=
  laidMet_laidAll _ (by kernel_rfl) (by kernel_rfl)
theorem reads (os : Os) {H : Type} (enc : TypeId × Value → H) : ∃ places, DataW.whole enc Tryz.prog ((World.laidAll Tryz.prog os Rows.startMatchesReferenceRow.laid).forCall (fun _ _ => 0) ⟨#[], #[.agg #[.int .i64 0, .string ⟨#[]⟩, .int .i64 0, .slice none 0 0], .agg #[.int .i64 0, .string ⟨#[]⟩, .int .i64 0, .slice none 0 0], .int .i64 0, .slice none 0 0, .int .i64 0, .slice none 0 0, .string ⟨#[]⟩], []⟩).memory Tryz.f7.params.toList Rows.startMatchesReferenceSpec.vars false (#[.agg #[.int .i64 0, .string ⟨#[]⟩, .int .i64 0, .slice none 0 0], .agg #[.int .i64 0, .string ⟨#[]⟩, .int .i64 0, .slice none 0 0], .int .i64 0, .slice none 0 0, .int .i64 0, .slice none 0 0, .string ⟨#[]⟩] : Array Value).toList 8 = some ([.agg [.lit (.int .i64 0), .lit (.string []), .lit (.int .i64 0), .nil], .agg [.lit (.int .i64 0), .lit (.string []), .lit (.int .i64 0), .nil], .lit (.int .i64 0), .nil, .lit (.int .i64 0), .nil, .lit (.string [])], [], places) :=
  ⟨[], by kernel_rfl⟩

set_option maxRecDepth 100000 in
theorem lifted (os : Os) (started : os.Started) (H : Type) (enc : TypeId × Value → H) (F : Stop.Interp) :
    ReturnsInHanded {} Tryz.checked os 7 .any ((OpenSpec.ofChange Rows.startMatchesReferenceSpec).preRow enc Tryz.prog Tryz.f7 Rows.startMatchesReferenceRow.domain false Rows.startMatchesReferenceRow.laid) (((OpenSpec.ofChange Rows.startMatchesReferenceSpec).at F).post enc Tryz.prog Tryz.f7 false true false false) := by
  obtain ⟨places, hx⟩ := reads os enc
  refine returnsInHanded_of_row (C := Tryz.checked) (s := OpenSpec.ofChange Rows.startMatchesReferenceSpec) own started (by kernel_rfl) Tryz.func7
    (Go.Pd.witness_zip (enc := enc) (C := Tryz.checked) false (World.laidAll Tryz.prog os Rows.startMatchesReferenceRow.laid) #[.agg #[.int .i64 0, .string ⟨#[]⟩, .int .i64 0, .slice none 0 0], .agg #[.int .i64 0, .string ⟨#[]⟩, .int .i64 0, .slice none 0 0], .int .i64 0, .slice none 0 0, .int .i64 0, .slice none 0 0, .string ⟨#[]⟩] (World.laidAll_os _ _ _) (by kernel_rfl) (by kernel_rfl) (by kernel_rfl)
      (OpenSpec.preRow_of_cond 8 hx (by kernel_rfl) (fun k hk => by cases hk) (by kernel_rfl) (laid_met os))) ?_
  intro W base args ds gs before hval hW _ _ hwt hL _ _
  exact contract H enc W base args ds gs before hval hW hwt hL

theorem said : Rows.StartMatchesReferenceSaid :=
  OpenClaim.holds_of_cond 7 Tryz.f7 rfl rfl rfl rfl rfl rfl rfl ⟨rfl, rfl, rfl, rfl, rfl⟩ rfl rfl rfl rfl rfl (by kernel_rfl) Tryz.func7 (by kernel_rfl)
    (of_decide_eq_true (by kernel_rfl)) (by unfold Func.isWrapper; first | (rw [if_pos (by decide +kernel)]; kernel_rfl) | (rw [if_neg (by decide +kernel)]; exact ⟨rfl, rfl⟩))
    (fun os started H enc _ F => by rw [OpenClaim.pre_eq_preRow]; exact lifted os started H enc F)

theorem plain (f : FuncId) (fn : Func) (hf : Tryz.pinned.checked.prog.funcNamed "pandect/pandectlaw24.StartMatchesReference" = some f) (hfn : Tryz.pinned.checked.prog.funcs[f]? = some fn) :
    Tryz.pinned.checked.prog.looks [] = Tryz.pinned.checked.prog.looks [] ∧ ∀ (j : Nat) t, fn.params[j]? = some t → Tryz.pinned.checked.prog.wantsStandIn t = false := by
  obtain rfl : f = 7 := Option.some.inj ((show Tryz.prog.funcNamed "pandect/pandectlaw24.StartMatchesReference" = some 7 by kernel_rfl).symm.trans hf) |>.symm
  obtain rfl : fn = Tryz.f7 := (Option.some.inj (Tryz.func7.symm.trans hfn)).symm
  refine ⟨rfl, fun j t ht => ?_⟩
  rw [Tryz.params7] at ht
  have hm := Array.mem_of_getElem? ht
  simp only [List.mem_toArray, List.mem_cons, List.not_mem_nil, or_false] at hm
  rcases hm with rfl | rfl | rfl | rfl | rfl | rfl | rfl
  · exact (show Tryz.prog.wantsStandIn 24 = false by kernel_rfl)
  · exact (show Tryz.prog.wantsStandIn 24 = false by kernel_rfl)
  · exact (show Tryz.prog.wantsStandIn 3 = false by kernel_rfl)
  · exact (show Tryz.prog.wantsStandIn 35 = false by kernel_rfl)
  · exact (show Tryz.prog.wantsStandIn 3 = false by kernel_rfl)
  · exact (show Tryz.prog.wantsStandIn 36 = false by kernel_rfl)
  · exact (show Tryz.prog.wantsStandIn 9 = false by kernel_rfl)

theorem looksTrue : true = Tryz.pinned.checked.prog.looks [] := by kernel_rfl

/-- THE CARD. -/
theorem card : Rows.StartMatchesReferenceCardSaid :=
  Claim7.holds_tied_plain_at .later [] _ _ _ _ said (fun _ h => by cases h) (by kernel_rfl) (fun _ h => by cases h) startMatchesReference_row_tie rfl ⟨rfl, rfl⟩ (by kernel_rfl) rfl (fun f fn hf hfn => ⟨looksTrue, (plain f fn hf hfn).2⟩) (by kernel_rfl)
#print axioms card
end Go.Proofs.YtebaoilkpedppaaGreatDoor.startMatchesReferenceWalk

namespace Go.Proofs.YtebaoilkpedppaaGreatDoor
theorem startMatchesReference_card_holds : Rows.StartMatchesReferenceCardSaid := startMatchesReferenceWalk.card
end Go.Proofs.YtebaoilkpedppaaGreatDoor
