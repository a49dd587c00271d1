/-
  Conditions of commencement: Text; the chapter's examples.
-/
import Derived.Test.YtebaoilkpedppaaGreatDoorQStT
import Derived.Test.YtebaoilkpedppaaGreatDoorQStX
set_option linter.unusedVariables false
set_option linter.unusedSimpArgs false
set_option linter.unnecessarySimpa false
set_option maxRecDepth 10000
namespace Go.Sta
open Go.Lexs
def xA : Tx := [100, 97, 121, 32, 53, 32, 97, 110, 100, 32, 40, 111, 114, 100, 101, 114, 32, 120, 32, 111, 114, 32, 98, 101, 103, 117, 110, 32, 112, 49, 41]
def xB : Tx := [97, 108, 119, 97, 121, 115, 32, 111, 114, 32, 110, 101, 118, 101, 114, 32, 97, 110, 100, 32, 101, 118, 101, 110, 116, 32, 119, 97, 114]
def xC : Tx := [100, 97, 121, 32, 49, 48, 48, 48, 48, 48, 49]
def xD : Tx := [100, 97, 121, 32, 53, 32, 97, 110, 100]
def kX : Tx := [120]
def kP : Tx := [112, 49]
def kW : Tx := [119, 97, 114]
def sA2 : Sn := .node 9 [] 0 [.node 4 kX 0 [], .node 6 kP 0 []]
def sA : Sn := .node 8 [] 0 [.node 3 [] 5 [], sA2]
def sB2 : Sn := .node 8 [] 0 [.node 2 [] 0 [], .node 5 kW 0 []]
def sB : Sn := .node 9 [] 0 [.node 1 [] 0 [], sB2]
theorem parse_A : parse xA = .inl sA := by kernel_rfl
theorem parse_B : parse xB = .inl sB := by kernel_rfl
theorem parse_C : parse xC = .inr (10, 4) := by kernel_rfl
theorem parse_D : parse xD = .inr (6, 9) := by kernel_rfl
theorem text_A : textS sA = xA := by
  have h5 : decS 5 = [53] := decS_small (by decide)
  have h : textS sA = (wordS 3 ++ 32 :: decS 5) ++ (32 :: kAnd ++ 32 :: (paren true ((wordS 4 ++ 32 :: kX) ++ (32 :: kOr ++ 32 :: ((wordS 6 ++ 32 :: kP) ++ []))) ++ [])) := by kernel_rfl
  rw [h, h5]
  decide
theorem names_A : names sA = [kP] := by kernel_rfl
theorem valid_A : validB sA = true := by kernel_rfl
theorem holds_B : holds ⟨0, 0, [], []⟩ sB = true := by kernel_rfl
def hX : Hap := ⟨false, kX, 3, 9⟩
def uP : Stu := ⟨kP, 6, -1, -1⟩
theorem holds_A1 : holds ⟨5, 9, [hX], []⟩ sA = true := by kernel_rfl
theorem holds_A2 : holds ⟨4, 9, [hX], []⟩ sA = false := by kernel_rfl
theorem holds_A3 : holds ⟨5, 8, [hX], []⟩ sA = false := by kernel_rfl
theorem holds_A4 : holds ⟨6, 0, [], [uP]⟩ sA = true := by kernel_rfl
end Go.Sta
namespace Go.Proofs
open Go Go.Pd Go.Sta
attribute [local irreducible] OpsL W RetQ OpsQ OpsC
theorem Text_calls {s : Sn} {w : World} {kv : Value} (hk : KA w s.kids kv) (hfit : fitS s) (ht : Tabs w) : Calls Tryz.prog 10 #[.agg (snL s kv).toArray] w (fun e w' => ∃ v, e = .returned v ∧ v = (if validB s then .tuple #[str (textS s), .int .i64 0] else .tuple #[str [], .int .i64 1]) ∧ Ext w w') := by
  refine calls_of Tryz.func10 rfl Tryz.ntmps10 rfl ?_
  refine wk_seq fun K hK => ?_
  refine wk_reg ?_
  refine o_box (LH.start w (fun _ => False)) (snL s kv) rfl rfl rfl ?_
  intro b1 w1 hb1 hl
  have hr : Row w1 b1 0 (snL s kv) := hl.rowL (vs := snL s kv) 0 0 4 rfl
  have hx1 := hl.done
  clear hl
  refine a_asg ?_
  refine a_asg ?_
  refine o_nil (hK _ _ ?_)
  clear hK K
  refine wk_seq fun K hK => ?_
  refine wk_seq fun K2 hK2 => ?_
  refine wk_reg ?_
  refine a_all hr ?_
  refine a_fn (valid_calls (hk.ext hx1) hfit) ?_
  rintro _ w2 ⟨rfl, hx2⟩
  refine a_notb ?_
  refine o_nil (hK2 _ _ ?_)
  clear hK2 K2
  cases hv : validB s
  · refine wk_cond_t rfl ?_
    refine wk_seq fun K2 hK2 => ?_
    refine wk_reg ?_
    refine a_asg ?_
    refine a_asg ?_
    refine o_nil (hK2 _ _ ?_)
    refine wk_ret (retQ_tmp2 Tryz.results10 (by decide) (by decide) rfl (by conv => lhs; whnf) (by conv => lhs; whnf) ?_)
    refine ⟨?_, hx1.trans hx2⟩
    simp only [Bool.false_eq_true, if_false, hv, str_nil]
    try rfl
  · obtain ⟨h1, h2, h3⟩ := (valid_iff s).1 hv
    refine wk_cond_f rfl ?_
    refine wk_skip (hK _ _ ?_)
    clear hK K
    refine wk_seq fun K hK => ?_
    refine wk_reg ?_
    refine a_all (hr.ext hx2) ?_
    refine a_fn (text_calls s false w2 kv ((hk.ext hx1).ext hx2) h3 (by omega) ((ht.ext hx1).ext hx2)) ?_
    rintro _ w3 ⟨rfl, hx3⟩
    refine a_asg ?_
    refine a_asg ?_
    refine o_nil (hK _ _ ?_)
    clear hK K
    refine wk_ret (retQ_tmp2 Tryz.results10 (by decide) (by decide) rfl (by conv => lhs; whnf) (by conv => lhs; whnf) ?_)
    exact ⟨by rw [if_pos hv]; rfl, (hx1.trans hx2).trans hx3⟩
end Go.Proofs
