/-
  The statement FormulaConnectives, walked.
-/
import Derived.Test.YtibaknilaboepaaDoorOp
set_option linter.unusedVariables false
set_option linter.unusedSimpArgs false
set_option linter.unnecessarySimpa false
set_option maxRecDepth 10000
namespace Go.Fo
open Go.Lexs Go.Fin
theorem holds_bth {F : List Fact} {c : List Int} {T : List (List UInt8)} {op : Int} {ks : List Fm} (ho : (op = 5 ∧ ks.length = 1) ∨ ((op = 6 ∨ op = 7) ∧ 2 ≤ ks.length)) (h : ∀ k ∈ ks, Right F k) (hc : cntL ks ≤ 190) (hd : depL ks ≤ 19) (hfit : fitsB F c = true) : holdsB F c T (bth op ks) = eval F c T (bth op ks) :=
  holdsB_eval (by rw [cnt_bth]; omega) (by rw [dep_bth]; omega) (right_bth ho h) hfit
theorem all1 {Q : Fm → Prop} {f : Fm} (h : Q f) : ∀ k ∈ [f], Q k := fun k hk => by
  obtain rfl : k = f := by simpa using hk
  exact h
theorem all2 {Q : Fm → Prop} {f g : Fm} (h : Q f) (h' : Q g) : ∀ k ∈ [f, g], Q k := fun k hk => by
  rcases List.mem_cons.1 hk with rfl | hk
  · exact h
  · exact all1 h' k hk
theorem cnt1 (f : Fm) : cntL [f] = cnt f := rfl
theorem dep1 (f : Fm) : depL [f] = max (dep f) 0 := rfl
theorem cnt2 (f g : Fm) : cntL [f, g] = cnt f + (cnt g + 0) := rfl
theorem dep2 (f g : Fm) : depL [f, g] = max (dep f) (max (dep g) 0) := rfl
structure Conn (F : List Fact) (c : List Int) (T : List (List UInt8)) (f g : Fm) (A B : Bool) : Prop where
  hf : holdsB F c T f = A
  hg : holdsB F c T g = B
  nf : holdsB F c T (bth 5 [f]) = !A
  fg6 : holdsB F c T (bth 6 [f, g]) = (A && B)
  gf6 : holdsB F c T (bth 6 [g, f]) = (A && B)
  fg7 : holdsB F c T (bth 7 [f, g]) = (A || B)
  gf7 : holdsB F c T (bth 7 [g, f]) = (A || B)
  na : holdsB F c T (bth 5 [bth 6 [f, g]]) = !(A && B)
  on : holdsB F c T (bth 7 [bth 5 [f], bth 5 [g]]) = !(A && B)
theorem conn {F : List Fact} {c : List Int} {f g : Fm} (T : List (List UInt8)) (hf : goodB F c f = true) (hg : goodB F c g = true) : ∃ A B, Conn F c T f g A B := by
  obtain ⟨⟨f1, f2⟩, hfit, -⟩ := goodB_iff.1 hf
  obtain ⟨⟨g1, g2⟩, -, -⟩ := goodB_iff.1 hg
  have rf := good_right hf
  have rg := good_right hg
  have r6 := right_bth (op := 6) (ks := [f, g]) (.inr ⟨.inl rfl, by simp⟩) (all2 rf rg)
  have rn := right_bth (op := 5) (ks := [f]) (.inl ⟨rfl, rfl⟩) (all1 rf)
  have rm := right_bth (op := 5) (ks := [g]) (.inl ⟨rfl, rfl⟩) (all1 rg)
  refine ⟨eval F c T f, eval F c T g, holdsB_eval (by omega) (by omega) rf hfit, holdsB_eval (by omega) (by omega) rg hfit, ?_, ?_, ?_, ?_, ?_, ?_, ?_⟩
  · rw [holds_bth (.inl ⟨rfl, rfl⟩) (all1 rf) (by rw [cnt1]; omega) (by rw [dep1]; omega) hfit, eval_not]
  · rw [holds_bth (.inr ⟨.inl rfl, by simp⟩) (all2 rf rg) (by rw [cnt2]; omega) (by rw [dep2]; omega) hfit, eval_and]
  · rw [holds_bth (.inr ⟨.inl rfl, by simp⟩) (all2 rg rf) (by rw [cnt2]; omega) (by rw [dep2]; omega) hfit, eval_and, Bool.and_comm]
  · rw [holds_bth (.inr ⟨.inr rfl, by simp⟩) (all2 rf rg) (by rw [cnt2]; omega) (by rw [dep2]; omega) hfit, eval_or]
  · rw [holds_bth (.inr ⟨.inr rfl, by simp⟩) (all2 rg rf) (by rw [cnt2]; omega) (by rw [dep2]; omega) hfit, eval_or, Bool.or_comm]
  · rw [holds_bth (.inl ⟨rfl, rfl⟩) (all1 r6) (by rw [cnt1, cnt_bth, cnt2]; omega) (by rw [dep1, dep_bth, dep2]; omega) hfit, eval_not, eval_and]
  · rw [holds_bth (.inr ⟨.inr rfl, by simp⟩) (all2 rn rm) (by rw [cnt2, cnt_bth, cnt_bth, cnt1, cnt1]; omega) (by rw [dep2, dep_bth, dep_bth, dep1, dep1]; omega) hfit, eval_or, eval_not, eval_not, Bool.not_and]
end Go.Fo

namespace Go.Pd
section
variable {P : Program} {r : Option Nat} {n : Nat} {ops : Array Oper} {w0 : World} {K : St → World → Prop} {s : St} {H T : List Nat} {l : List (List Nat × List Nat)}
/-- Quiet operations, then a group given by a table of relations. -/
theorem g_tab (R : Nat → Value → World → Prop) (hst : ∀ i v w w', R i v w → Ext w w' → R i v w')
    (h : OpsX P r n ops w0 (fun sT => ∀ vs : Nat → Value, (∀ i ∈ T, Prem P r n ops T w0 R (fillv ops T sT vs) vs i) ∧ ∀ w1, Ext w0 w1 → (∀ i ∈ T, R i (vs i) w1) → SegG P r n ops K l w1 (fillv ops T sT vs)) H s) : SegG P r n ops K ((H, T) :: l) w0 s :=
  seg_cons h fun sT hk => ⟨R, hst, hk⟩
def Stb (R : Value → World → Prop) : Prop := ∀ v w w', R v w → Ext w w' → R v w'
theorem Stb.cond {R S : Value → World → Prop} (h : Stb R) (h' : Stb S) : ∀ b : Bool, Stb (bif b then R else S)
  | true => h
  | false => h'
theorem Stb.val (x : Value) : Stb (fun v _ => v = x) := fun _ _ _ h _ => h
theorem x_eqC {k i : Nat} {l : List Nat} {k' : St → Prop} {ty : TypeId} {p : String} {af : Array Edge} {g : Option (Nat × Bool)} {xt yt : TypeId} {x y : Operand} {a b : Bool} (c : Bool) (hk : OpsX P r n ops w0 k' l (s.set k (.bool c))) (ho : ops[i]? = some ⟨some k, .binOp .eql xt x y yt, ty, p, af, g⟩ := by rfl) (hw : Region.wanted ⟨some k, .binOp .eql xt x y yt, ty, p, af, g⟩ (yieldedE ops n s) = true := by rfl) (hx : rd n s x = .bool a := by rfl) (hy : rd n s y = .bool b := by rfl) (hu : P.underlying xt = some .bool := by rfl) (hc : (a == b) = c := by rfl) : OpsX P r n ops w0 k' (i :: l) s := by
  subst hc
  exact x_eqB hk ho hw hx hy hu
end
end Go.Pd

namespace Go.Proofs
open Go Go.Pd Go.Lexs Go.Fin Go.Fo
attribute [local irreducible] OpsL W RetQ OpsQ OpsC

def Sl2 (f g : Fm) (fv gv : Value) (v : Value) (w : World) : Prop := ∃ b, v = .slice (some ⟨b, 0, none⟩) 2 2 ∧ Row w b 0 (fmL f fv ++ fmL g gv)
theorem Sl2.stb (f g : Fm) (fv gv : Value) : Stb (Sl2 f g fv gv) := fun v w w' ⟨b, h1, h2⟩ e => ⟨b, h1, h2.ext e⟩
def KV (ks : List Fm) (v : Value) (w : World) : Prop := KA w ks v
theorem KV.stb (ks : List Fm) : Stb (KV ks) := fun v w w' h e => KA.ext h e
def FV (f : Fm) (v : Value) (w : World) : Prop := ∃ kv, v = .agg (fmL f kv).toArray ∧ KA w f.kids kv
theorem FV.stb (f : Fm) : Stb (FV f) := fun v w w' ⟨kv, h1, h2⟩ e => ⟨kv, h1, h2.ext e⟩
theorem FV.one (f : Fm) {v : Value} {w : World} (h : FV f v w) : ∃ a c, v = .agg (fmL f (.slice a f.kids.length c)).toArray ∧ KA w f.kids (.slice a f.kids.length c) := by
  obtain ⟨kv, h1, h2⟩ := h
  obtain ⟨a, c, rfl, -⟩ := h2.shape
  exact ⟨a, c, h1, h2⟩
/-- The table of the last region. -/
def R9 (f g : Fm) (C : Bool) (i : Nat) : Value → World → Prop :=
  bif Nat.beq i 10 then KV [f, g] else bif Nat.beq i 11 then FV (bth 6 [f, g]) else bif Nat.beq i 12 then KV [bth 6 [f, g]] else bif Nat.beq i 13 then FV (bth 5 [bth 6 [f, g]]) else bif Nat.beq i 20 then KV [g] else bif Nat.beq i 21 then FV (bth 5 [g]) else bif Nat.beq i 22 then KV [bth 5 [f], bth 5 [g]] else bif Nat.beq i 23 then FV (bth 7 [bth 5 [f], bth 5 [g]]) else (fun v _ => v = .bool C)
theorem R9.stb (f g : Fm) (C : Bool) (i : Nat) : Stb (R9 f g C i) :=
  (KV.stb _).cond ((FV.stb _).cond ((KV.stb _).cond ((FV.stb _).cond ((KV.stb _).cond ((FV.stb _).cond ((KV.stb _).cond ((FV.stb _).cond (Stb.val _) _) _) _) _) _) _) _) _

set_option maxHeartbeats 8000000 in
theorem Connectives_calls {w : World} {f y : Fm} {fv yv dv cv tv : Value} {F : List Fact} {c : List Int} {T : List (List UInt8)} (hf : FmIn w f fv) (hy : FmIn w y yv) (hD : DomIn w F dv) (hC : CaseIn w c cv) (hTin : StrsIn w T tv) :
    Calls Tryd.prog 4 #[.agg (fmL f fv).toArray, .agg (fmL y yv).toArray, .agg #[dv], cv, tv] w (fun e w' => ∃ x, e = .returned x ∧ x = .bool true ∧ Ext w w') := by
  obtain ⟨hd, nF', tF'⟩ := hD
  obtain ⟨hc, nC'⟩ := hC
  obtain ⟨ht, nT', tT'⟩ := hTin
  obtain ⟨fa, fc, rfl, -⟩ := hf.k.shape
  obtain ⟨ya, yc, rfl, -⟩ := hy.k.shape
  obtain ⟨da, dc, rfl, -⟩ := hd.shape (factsL_len F) (by omega)
  obtain ⟨ca, cc, rfl, -⟩ := hc.shape (intsL_len c) (by omega)
  obtain ⟨ta, tc, rfl, -⟩ := ht.shape (strsL_len T) (by omega)
  have nF : F.length ≤ 9223372036854775806 := by omega
  have nC : c.length ≤ 9223372036854775806 := by omega
  have nT : T.length ≤ 9223372036854775806 := by omega
  have tF : ∀ f ∈ F, f.name.length ≤ 9223372036854775806 := fun f h => by have := tF' f h; omega
  have tT : ∀ s ∈ T, s.length ≤ 9223372036854775806 := fun s h => by have := tT' s h; omega
  refine calls_of Tryd.func4 rfl Tryd.ntmps4 rfl ?_
  refine wk_seq fun K hK => ?_
  refine wk_reg ?_
  refine o_box (LH.start w (fun _ => False)) [.int .i64 (f).op, str (f).name, .int .i64 (f).cmp, .int .i64 (f).num, .slice fa f.kids.length fc] rfl rfl rfl ?_
  intro bF w1 hbF hl
  refine o_box hl [.int .i64 (y).op, str (y).name, .int .i64 (y).cmp, .int .i64 (y).num, .slice ya y.kids.length yc] rfl rfl rfl ?_
  clear hl
  intro bG w2 hbG hl
  refine o_box hl [.slice da F.length dc] rfl rfl rfl ?_
  clear hl
  intro bD w3 hbD hl
  repeat' (first | refine a_mov ?_ | refine a_asg ?_ | refine a_binN ?_ | refine a_notd ?_ | refine a_notb ?_ | refine a_nilc ?_ | refine a_fa ?_ | refine a_ext ?_ | refine a_lenv ?_ | refine a_lens ?_ | refine a_pick_t ?_ | refine a_pick_f ?_ | refine a_not ?_ | refine a_nilf ?_ | (refine o_nil (hK _ _ ?_); clear hK K) | refine wk_reg ?_ | refine wk_seq fun K hK => ?_ | (refine wk_skip (hK _ _ ?_); clear hK K) | (refine wk_label (hK _ _ ?_); clear hK K) | refine wk_scope ?_ | refine wk_block ?_ | refine wk_cond_t rfl ?_ | refine wk_cond_f rfl ?_ | (refine wk_exit ?_; (repeat (refine blockK_other rfl ?_)); refine blockK_same ?_; try ((repeat ((fail_if_success (refine hK _ _ ?_)); clear hK K)); refine hK _ _ ?_; clear hK K)) | (refine a_bin ?_ ?_ <;> intro _ <;> try (exfalso; omega)) | refine a_ld hl ?_ | (refine a_st hl ?_; clear hl; intro _ hl) | refine a_ix (fun _ => ?_) | fail)
  refine a_fn (head_calls w3) ?_
  rintro _ w4 ⟨rfl, hx⟩
  replace hl := hl.ext hx
  clear hx
  have he := hl.done
  have rf : Row w4 bF 0 [.int .i64 (f).op, str (f).name, .int .i64 (f).cmp, .int .i64 (f).num, .slice fa f.kids.length fc] := hl.rowL (vs := [.int .i64 (f).op, str (f).name, .int .i64 (f).cmp, .int .i64 (f).num, .slice fa f.kids.length fc]) 2 0 5 rfl
  have ry : Row w4 bG 0 [.int .i64 (y).op, str (y).name, .int .i64 (y).cmp, .int .i64 (y).num, .slice ya y.kids.length yc] := hl.rowL (vs := [.int .i64 (y).op, str (y).name, .int .i64 (y).cmp, .int .i64 (y).num, .slice ya y.kids.length yc]) 1 0 5 rfl
  have rd' : Row w4 bD 0 [.slice da F.length dc] := hl.rowL (vs := [.slice da F.length dc]) 0 0 1 rfl
  have hkf := hf.k.ext he
  have hky := hy.k.ext he
  replace hd := hd.ext he
  replace hc := hc.ext he
  replace ht := ht.ext he
  clear hl
  repeat' (first | refine a_mov ?_ | refine a_asg ?_ | refine a_binN ?_ | refine a_notd ?_ | refine a_notb ?_ | refine a_nilc ?_ | refine a_fa ?_ | refine a_ext ?_ | refine a_lenv ?_ | refine a_lens ?_ | refine a_pick_t ?_ | refine a_pick_f ?_ | refine a_not ?_ | refine a_nilf ?_ | (refine o_nil (hK _ _ ?_); clear hK K) | refine wk_reg ?_ | refine wk_seq fun K hK => ?_ | (refine wk_skip (hK _ _ ?_); clear hK K) | (refine wk_label (hK _ _ ?_); clear hK K) | refine wk_scope ?_ | refine wk_block ?_ | refine wk_cond_t rfl ?_ | refine wk_cond_f rfl ?_ | (refine wk_exit ?_; (repeat (refine blockK_other rfl ?_)); refine blockK_same ?_; try ((repeat ((fail_if_success (refine hK _ _ ?_)); clear hK K)); refine hK _ _ ?_; clear hK K)) | (refine a_bin ?_ ?_ <;> intro _ <;> try (exfalso; omega)) | refine a_ld hl ?_ | (refine a_st hl ?_; clear hl; intro _ hl) | refine a_ix (fun _ => ?_) | refine a_all rd' ?_)
  refine a_fn (few_calls hd hc ht nF nC nT tT) ?_
  rintro _ w5 ⟨rfl, hx⟩
  replace he := he.trans hx; replace rf := rf.ext hx; replace ry := ry.ext hx; replace rd' := rd'.ext hx; replace hkf := hkf.ext hx; replace hky := hky.ext hx; replace hd := hd.ext hx; replace hc := hc.ext hx; replace ht := ht.ext hx; clear hx
  cases hfew : fewB F c T
  · repeat' (first | refine a_mov ?_ | refine a_asg ?_ | refine a_binN ?_ | refine a_notd ?_ | refine a_notb ?_ | refine a_nilc ?_ | refine a_fa ?_ | refine a_ext ?_ | refine a_lenv ?_ | refine a_lens ?_ | refine a_pick_t ?_ | refine a_pick_f ?_ | refine a_not ?_ | refine a_nilf ?_ | (refine o_nil (hK _ _ ?_); clear hK K) | refine wk_reg ?_ | refine wk_seq fun K hK => ?_ | (refine wk_skip (hK _ _ ?_); clear hK K) | (refine wk_label (hK _ _ ?_); clear hK K) | refine wk_scope ?_ | refine wk_block ?_ | refine wk_cond_t rfl ?_ | refine wk_cond_f rfl ?_ | (refine wk_exit ?_; (repeat (refine blockK_other rfl ?_)); refine blockK_same ?_; try ((repeat ((fail_if_success (refine hK _ _ ?_)); clear hK K)); refine hK _ _ ?_; clear hK K)) | (refine a_bin ?_ ?_ <;> intro _ <;> try (exfalso; omega)) | refine a_ld hl ?_ | (refine a_st hl ?_; clear hl; intro _ hl) | refine a_ix (fun _ => ?_) | fail)
    refine wk_ret (retQ_tmp1 Tryd.results4 (by decide) rfl (by conv => lhs; whnf) ?_)
    exact ⟨rfl, he⟩
  have hT40 : T.length ≤ 40 := by unfold fewB at hfew; exact (of_decide_eq_true hfew).2.2.1
  repeat' (first | refine a_mov ?_ | refine a_asg ?_ | refine a_binN ?_ | refine a_notd ?_ | refine a_notb ?_ | refine a_nilc ?_ | refine a_fa ?_ | refine a_ext ?_ | refine a_lenv ?_ | refine a_lens ?_ | refine a_pick_t ?_ | refine a_pick_f ?_ | refine a_not ?_ | refine a_nilf ?_ | (refine o_nil (hK _ _ ?_); clear hK K) | refine wk_reg ?_ | refine wk_seq fun K hK => ?_ | (refine wk_skip (hK _ _ ?_); clear hK K) | (refine wk_label (hK _ _ ?_); clear hK K) | refine wk_scope ?_ | refine wk_block ?_ | refine wk_cond_t rfl ?_ | refine wk_cond_f rfl ?_ | (refine wk_exit ?_; (repeat (refine blockK_other rfl ?_)); refine blockK_same ?_; try ((repeat ((fail_if_success (refine hK _ _ ?_)); clear hK K)); refine hK _ _ ?_; clear hK K)) | (refine a_bin ?_ ?_ <;> intro _ <;> try (exfalso; omega)) | refine a_ld hl ?_ | (refine a_st hl ?_; clear hl; intro _ hl) | refine a_ix (fun _ => ?_) | refine a_all rf ?_ | refine a_all rd' ?_)
  refine a_fn (good_calls F c nF nC tF f w5 _ _ _ _ hkf (fun b h => h) hf.n hf.ns hd hc) ?_
  rintro _ w6 ⟨rfl, hx⟩
  replace he := he.trans hx; replace rf := rf.ext hx; replace ry := ry.ext hx; replace rd' := rd'.ext hx; replace hkf := hkf.ext hx; replace hky := hky.ext hx; replace hd := hd.ext hx; replace hc := hc.ext hx; replace ht := ht.ext hx; clear hx
  cases hgf : goodB F c f
  · repeat' (first | refine a_mov ?_ | refine a_asg ?_ | refine a_binN ?_ | refine a_notd ?_ | refine a_notb ?_ | refine a_nilc ?_ | refine a_fa ?_ | refine a_ext ?_ | refine a_lenv ?_ | refine a_lens ?_ | refine a_pick_t ?_ | refine a_pick_f ?_ | refine a_not ?_ | refine a_nilf ?_ | (refine o_nil (hK _ _ ?_); clear hK K) | refine wk_reg ?_ | refine wk_seq fun K hK => ?_ | (refine wk_skip (hK _ _ ?_); clear hK K) | (refine wk_label (hK _ _ ?_); clear hK K) | refine wk_scope ?_ | refine wk_block ?_ | refine wk_cond_t rfl ?_ | refine wk_cond_f rfl ?_ | (refine wk_exit ?_; (repeat (refine blockK_other rfl ?_)); refine blockK_same ?_; try ((repeat ((fail_if_success (refine hK _ _ ?_)); clear hK K)); refine hK _ _ ?_; clear hK K)) | (refine a_bin ?_ ?_ <;> intro _ <;> try (exfalso; omega)) | refine a_ld hl ?_ | (refine a_st hl ?_; clear hl; intro _ hl) | refine a_ix (fun _ => ?_) | fail)
    refine wk_ret (retQ_tmp1 Tryd.results4 (by decide) rfl (by conv => lhs; whnf) ?_)
    exact ⟨rfl, he⟩
  repeat' (first | refine a_mov ?_ | refine a_asg ?_ | refine a_binN ?_ | refine a_notd ?_ | refine a_notb ?_ | refine a_nilc ?_ | refine a_fa ?_ | refine a_ext ?_ | refine a_lenv ?_ | refine a_lens ?_ | refine a_pick_t ?_ | refine a_pick_f ?_ | refine a_not ?_ | refine a_nilf ?_ | (refine o_nil (hK _ _ ?_); clear hK K) | refine wk_reg ?_ | refine wk_seq fun K hK => ?_ | (refine wk_skip (hK _ _ ?_); clear hK K) | (refine wk_label (hK _ _ ?_); clear hK K) | refine wk_scope ?_ | refine wk_block ?_ | refine wk_cond_t rfl ?_ | refine wk_cond_f rfl ?_ | (refine wk_exit ?_; (repeat (refine blockK_other rfl ?_)); refine blockK_same ?_; try ((repeat ((fail_if_success (refine hK _ _ ?_)); clear hK K)); refine hK _ _ ?_; clear hK K)) | (refine a_bin ?_ ?_ <;> intro _ <;> try (exfalso; omega)) | refine a_ld hl ?_ | (refine a_st hl ?_; clear hl; intro _ hl) | refine a_ix (fun _ => ?_) | refine a_all ry ?_ | refine a_all rd' ?_)
  refine a_fn (good_calls F c nF nC tF y w6 _ _ _ _ hky (fun b h => h) hy.n hy.ns hd hc) ?_
  rintro _ w7 ⟨rfl, hx⟩
  replace he := he.trans hx; replace rf := rf.ext hx; replace ry := ry.ext hx; replace rd' := rd'.ext hx; replace hkf := hkf.ext hx; replace hky := hky.ext hx; replace hd := hd.ext hx; replace hc := hc.ext hx; replace ht := ht.ext hx; clear hx
  cases hgy : goodB F c y
  · repeat' (first | refine a_mov ?_ | refine a_asg ?_ | refine a_binN ?_ | refine a_notd ?_ | refine a_notb ?_ | refine a_nilc ?_ | refine a_fa ?_ | refine a_ext ?_ | refine a_lenv ?_ | refine a_lens ?_ | refine a_pick_t ?_ | refine a_pick_f ?_ | refine a_not ?_ | refine a_nilf ?_ | (refine o_nil (hK _ _ ?_); clear hK K) | refine wk_reg ?_ | refine wk_seq fun K hK => ?_ | (refine wk_skip (hK _ _ ?_); clear hK K) | (refine wk_label (hK _ _ ?_); clear hK K) | refine wk_scope ?_ | refine wk_block ?_ | refine wk_cond_t rfl ?_ | refine wk_cond_f rfl ?_ | (refine wk_exit ?_; (repeat (refine blockK_other rfl ?_)); refine blockK_same ?_; try ((repeat ((fail_if_success (refine hK _ _ ?_)); clear hK K)); refine hK _ _ ?_; clear hK K)) | (refine a_bin ?_ ?_ <;> intro _ <;> try (exfalso; omega)) | refine a_ld hl ?_ | (refine a_st hl ?_; clear hl; intro _ hl) | refine a_ix (fun _ => ?_) | fail)
    refine wk_ret (retQ_tmp1 Tryd.results4 (by decide) rfl (by conv => lhs; whnf) ?_)
    exact ⟨rfl, he⟩
  obtain ⟨⟨f1, f2⟩, hfit, -⟩ := goodB_iff.1 hgf
  obtain ⟨⟨y1, y2⟩, -, -⟩ := goodB_iff.1 hgy
  obtain ⟨A, B, hcn⟩ := conn T hgf hgy
  have H : ∀ (x : Fm) (kv : Value) (b : Bool) (w' : World), Ext w7 w' → KA w' x.kids kv → cnt x ≤ 200 → holdsB F c T x = b → Calls Tryd.prog 25 #[.agg (fmL x kv).toArray, .agg #[.slice da F.length dc], .slice ca c.length cc, .slice ta T.length tc] w' (fun e w3 => ∃ v, e = .returned v ∧ v = .bool b ∧ Ext w' w3) := by
    intro x kv b w' h1 h2 h3 h4
    rw [← h4]
    exact holds_calls F c T nF nC nT tF x w' _ _ _ _ _ h2 (fun b h => h) (short_of (by omega)) (by omega) (hd.ext h1) (hc.ext h1) (ht.ext h1)
  have cn : cnt (bth 5 [f]) ≤ 61 := by rw [cnt_bth, cnt1]; omega
  have cfg : ∀ op, cnt (bth op [f, y]) ≤ 121 := fun op => by rw [cnt_bth, cnt2]; omega
  have cgf : ∀ op, cnt (bth op [y, f]) ≤ 121 := fun op => by rw [cnt_bth, cnt2]; omega
  have cna : cnt (bth 5 [bth 6 [f, y]]) ≤ 200 := by rw [cnt_bth, cnt1]; have := cfg 6; omega
  have con : cnt (bth 7 [bth 5 [f], bth 5 [y]]) ≤ 200 := by rw [cnt_bth, cnt2, cnt_bth, cnt_bth, cnt1, cnt1]; omega
  repeat' (first | refine a_mov ?_ | refine a_asg ?_ | refine a_binN ?_ | refine a_notd ?_ | refine a_notb ?_ | refine a_nilc ?_ | refine a_fa ?_ | refine a_ext ?_ | refine a_lenv ?_ | refine a_lens ?_ | refine a_pick_t ?_ | refine a_pick_f ?_ | refine a_not ?_ | refine a_nilf ?_ | (refine o_nil (hK _ _ ?_); clear hK K) | refine wk_reg ?_ | refine wk_seq fun K hK => ?_ | (refine wk_skip (hK _ _ ?_); clear hK K) | (refine wk_label (hK _ _ ?_); clear hK K) | refine wk_scope ?_ | refine wk_block ?_ | refine wk_cond_t rfl ?_ | refine wk_cond_f rfl ?_ | (refine wk_exit ?_; (repeat (refine blockK_other rfl ?_)); refine blockK_same ?_; try ((repeat ((fail_if_success (refine hK _ _ ?_)); clear hK K)); refine hK _ _ ?_; clear hK K)) | (refine a_bin ?_ ?_ <;> intro _ <;> try (exfalso; omega)) | refine a_ld hl ?_ | (refine a_st hl ?_; clear hl; intro _ hl) | refine a_ix (fun _ => ?_) | refine a_all rf ?_ | refine a_all rd' ?_)
  refine a_fn (H f _ A w7 (.refl _ _) hkf (by omega) hcn.hf) ?_
  rintro _ w8 ⟨rfl, e8⟩
  repeat' (first | refine a_mov ?_ | refine a_asg ?_ | refine a_binN ?_ | refine a_notd ?_ | refine a_notb ?_ | refine a_nilc ?_ | refine a_fa ?_ | refine a_ext ?_ | refine a_lenv ?_ | refine a_lens ?_ | refine a_pick_t ?_ | refine a_pick_f ?_ | refine a_not ?_ | refine a_nilf ?_ | (refine o_nil (hK _ _ ?_); clear hK K) | refine wk_reg ?_ | refine wk_seq fun K hK => ?_ | (refine wk_skip (hK _ _ ?_); clear hK K) | (refine wk_label (hK _ _ ?_); clear hK K) | refine wk_scope ?_ | refine wk_block ?_ | refine wk_cond_t rfl ?_ | refine wk_cond_f rfl ?_ | (refine wk_exit ?_; (repeat (refine blockK_other rfl ?_)); refine blockK_same ?_; try ((repeat ((fail_if_success (refine hK _ _ ?_)); clear hK K)); refine hK _ _ ?_; clear hK K)) | (refine a_bin ?_ ?_ <;> intro _ <;> try (exfalso; omega)) | refine a_ld hl ?_ | (refine a_st hl ?_; clear hl; intro _ hl) | refine a_ix (fun _ => ?_) | refine a_all (ry.ext e8) ?_ | refine a_all (rd'.ext e8) ?_)
  refine a_fn (H y _ B w8 e8 (hky.ext e8) (by omega) hcn.hg) ?_
  rintro _ w9 ⟨rfl, hx⟩
  replace e8 := e8.trans hx
  clear hx
  repeat' (first | refine a_mov ?_ | refine a_asg ?_ | refine a_binN ?_ | refine a_notd ?_ | refine a_notb ?_ | refine a_nilc ?_ | refine a_fa ?_ | refine a_ext ?_ | refine a_lenv ?_ | refine a_lens ?_ | refine a_pick_t ?_ | refine a_pick_f ?_ | refine a_not ?_ | refine a_nilf ?_ | (refine o_nil (hK _ _ ?_); clear hK K) | refine wk_reg ?_ | refine wk_seq fun K hK => ?_ | (refine wk_skip (hK _ _ ?_); clear hK K) | (refine wk_label (hK _ _ ?_); clear hK K) | refine wk_scope ?_ | refine wk_block ?_ | refine wk_cond_t rfl ?_ | refine wk_cond_f rfl ?_ | (refine wk_exit ?_; (repeat (refine blockK_other rfl ?_)); refine blockK_same ?_; try ((repeat ((fail_if_success (refine hK _ _ ?_)); clear hK K)); refine hK _ _ ?_; clear hK K)) | (refine a_bin ?_ ?_ <;> intro _ <;> try (exfalso; omega)) | refine a_ld hl ?_ | (refine a_st hl ?_; clear hl; intro _ hl) | refine a_ix (fun _ => ?_) | refine a_all (rf.ext e8) ?_)
  refine o_buildSlice (LH.start w9 (fun _ => False)) [.int .i64 (f).op, str (f).name, .int .i64 (f).cmp, .int .i64 (f).num, .slice fa f.kids.length fc] rfl rfl (by kernel_rfl) ?_
  intro b10 w10 hb10 hl
  refine a_fn (both_calls 5 [f] _ ⟨_, _, rfl⟩ w10) ?_
  rintro _ w11 ⟨rfl, hx⟩
  replace hl := hl.ext hx
  clear hx
  refine o_alloc hl [.int .i64 0, .string ⟨#[]⟩, .int .i64 0, .int .i64 0, .slice none 0 0] rfl rfl ?_
  clear hl
  intro b14 w12 hb14 hl
  refine o_putN (us := fmL (bth 5 [f]) (.slice (some ⟨b10, 0, none⟩) 1 1)) hl rfl rfl rfl (by simp only [fmL, str_eq]; rfl) rfl (.all rfl rfl) ?_
  clear hl
  intro w13 hl
  have hx := e8.trans hl.done
  have rn : Row w13 b14 0 (fmL (bth 5 [f]) (.slice (some ⟨b10, 0, none⟩) 1 1)) := hl.rowL (vs := fmL (bth 5 [f]) (.slice (some ⟨b10, 0, none⟩) 1 1)) 0 0 5 rfl
  have kn : KA w13 [f] (.slice (some ⟨b10, 0, none⟩) 1 1) := .one (hl.rowL (vs := [.int .i64 (f).op, str (f).name, .int .i64 (f).cmp, .int .i64 (f).num, .slice fa f.kids.length fc]) 1 0 5 rfl) (Nat.le_refl _) (hkf.ext hx)
  clear hl e8
  replace H := fun x kv b w' (h : Ext w13 w') => H x kv b w' (hx.trans h)
  replace he := he.trans hx; replace rf := rf.ext hx; replace ry := ry.ext hx; replace rd' := rd'.ext hx; replace hkf := hkf.ext hx; replace hky := hky.ext hx; replace hd := hd.ext hx; replace hc := hc.ext hx; replace ht := ht.ext hx; clear hx
  repeat' (first | refine a_mov ?_ | refine a_asg ?_ | refine a_binN ?_ | refine a_notd ?_ | refine a_notb ?_ | refine a_nilc ?_ | refine a_fa ?_ | refine a_ext ?_ | refine a_lenv ?_ | refine a_lens ?_ | refine a_pick_t ?_ | refine a_pick_f ?_ | refine a_not ?_ | refine a_nilf ?_ | (refine o_nil (hK _ _ ?_); clear hK K) | refine wk_reg ?_ | refine wk_seq fun K hK => ?_ | (refine wk_skip (hK _ _ ?_); clear hK K) | (refine wk_label (hK _ _ ?_); clear hK K) | refine wk_scope ?_ | refine wk_block ?_ | refine wk_cond_t rfl ?_ | refine wk_cond_f rfl ?_ | (refine wk_exit ?_; (repeat (refine blockK_other rfl ?_)); refine blockK_same ?_; try ((repeat ((fail_if_success (refine hK _ _ ?_)); clear hK K)); refine hK _ _ ?_; clear hK K)) | (refine a_bin ?_ ?_ <;> intro _ <;> try (exfalso; omega)) | refine a_ld hl ?_ | (refine a_st hl ?_; clear hl; intro _ hl) | refine a_ix (fun _ => ?_) | fail)
  obtain ⟨C, hC⟩ : ∃ C, (!(A && B)) = C := ⟨_, rfl⟩
  have hna := hcn.na
  have hon := hcn.on
  rw [hC] at hna hon
  clear hC
  rcases A with _ | _ <;> rcases B with _ | _
  all_goals (
    refine wk_grow [([0, 1, 2, 3, 4, 5, 6, 7, 8, 9, 10, 13, 14, 15, 17, 18, 19, 20], [11]), ([12, 16, 21, 22, 23, 24, 25, 28, 29, 30, 32, 33, 34, 35], [26]), ([27, 31, 36, 37, 38], [])] ?_
    refine g_one (Sl2 f y (.slice fa f.kids.length fc) (.slice ya y.kids.length yc)) (Sl2.stb _ _ _ _) ?_
    refine x_all (fun w_ hw_ => rn.ext hw_) ?_
    refine x_all (fun w_ hw_ => rd'.ext hw_) ?_
    repeat' (first | refine x_mov ?_ | refine x_asg ?_ | refine x_fa ?_ | refine x_ext ?_ | refine x_binN ?_ | refine x_notd ?_ | refine x_notb ?_ | refine x_pick_t ?_ | refine x_pick_f ?_ | refine x_nilc ?_ | refine x_skip ?_ | refine x_lens ?_ | refine x_lenv ?_ | refine x_ix (fun _ => ?_) | (refine x_bin ?_ ?_ <;> intro _ <;> try (exfalso; omega)) | fail)
    refine x_fn (fun w' hw' => H (bth 5 [f]) _ _ w' hw' (kn.ext hw') (by omega) hcn.nf) ?_
    repeat' (first | refine x_mov ?_ | refine x_asg ?_ | refine x_fa ?_ | refine x_ext ?_ | refine x_binN ?_ | refine x_notd ?_ | refine x_notb ?_ | refine x_pick_t ?_ | refine x_pick_f ?_ | refine x_nilc ?_ | refine x_skip ?_ | refine x_lens ?_ | refine x_lenv ?_ | refine x_ix (fun _ => ?_) | (refine x_bin ?_ ?_ <;> intro _ <;> try (exfalso; omega)) | fail)
    refine x_eqC true ?_
    repeat' (first | refine x_mov ?_ | refine x_asg ?_ | refine x_fa ?_ | refine x_ext ?_ | refine x_binN ?_ | refine x_notd ?_ | refine x_notb ?_ | refine x_pick_t ?_ | refine x_pick_f ?_ | refine x_nilc ?_ | refine x_skip ?_ | refine x_lens ?_ | refine x_lenv ?_ | refine x_ix (fun _ => ?_) | (refine x_bin ?_ ?_ <;> intro _ <;> try (exfalso; omega)) | refine x_all (fun w_ hw_ => rf.ext hw_) ?_ | refine x_all (fun w_ hw_ => ry.ext hw_) ?_ | refine x_all (fun w_ hw_ => rd'.ext hw_) ?_)
    refine x_nil ⟨fun v => p_walk rfl rfl rfl fun w' hw' _ => ?_, ?_⟩
    · refine o_buildSlice (LH.start w' (fun _ => False)) (fmL f (.slice fa f.kids.length fc) ++ fmL y (.slice ya y.kids.length yc)) rfl rfl (by kernel_rfl) ?_
      intro b w'' hb hl
      exact o_nil ⟨_, rfl, hl.done, b, rfl, hl.rowL (vs := fmL f (.slice fa f.kids.length fc) ++ fmL y (.slice ya y.kids.length yc)) 0 0 10 rfl⟩
    rintro _ w14 hw14 ⟨b1, rfl, hr1⟩
    have k1 : KA w14 [f, y] (.slice (some ⟨b1, 0, none⟩) 2 2) := .two hr1 (Nat.le_refl _) (hkf.ext hw14) (hky.ext hw14)
    refine g_one (Sl2 y f (.slice ya y.kids.length yc) (.slice fa f.kids.length fc)) (Sl2.stb _ _ _ _) ?_
    refine x_fn (fun w' hw' => both_calls 6 [f, y] _ ⟨_, _, rfl⟩ w') ?_
    refine x_fn (fun w' hw' => H (bth 6 [f, y]) _ _ w' (hw14.trans hw') (k1.ext hw') (by have := cfg 6; omega) hcn.fg6) ?_
    refine x_eqC true ?_
    repeat' (first | refine x_mov ?_ | refine x_asg ?_ | refine x_fa ?_ | refine x_ext ?_ | refine x_binN ?_ | refine x_notd ?_ | refine x_notb ?_ | refine x_pick_t ?_ | refine x_pick_f ?_ | refine x_nilc ?_ | refine x_skip ?_ | refine x_lens ?_ | refine x_lenv ?_ | refine x_ix (fun _ => ?_) | (refine x_bin ?_ ?_ <;> intro _ <;> try (exfalso; omega)) | refine x_all (fun w_ hw_ => rf.ext (hw14.trans hw_)) ?_ | refine x_all (fun w_ hw_ => ry.ext (hw14.trans hw_)) ?_ | refine x_all (fun w_ hw_ => rd'.ext (hw14.trans hw_)) ?_)
    refine x_nil ⟨fun v => p_walk rfl rfl rfl fun w' hw' _ => ?_, ?_⟩
    · refine o_buildSlice (LH.start w' (fun _ => False)) (fmL y (.slice ya y.kids.length yc) ++ fmL f (.slice fa f.kids.length fc)) rfl rfl (by kernel_rfl) ?_
      intro b w'' hb hl
      exact o_nil ⟨_, rfl, hl.done, b, rfl, hl.rowL (vs := fmL y (.slice ya y.kids.length yc) ++ fmL f (.slice fa f.kids.length fc)) 0 0 10 rfl⟩
    rintro _ w15 hw15 ⟨b2, rfl, hr2⟩
    replace hw15 := hw14.trans hw15
    have k2 : KA w15 [y, f] (.slice (some ⟨b2, 0, none⟩) 2 2) := .two hr2 (Nat.le_refl _) (hky.ext hw15) (hkf.ext hw15)
    refine g_end ?_
    refine x_fn (fun w' hw' => both_calls 7 [y, f] _ ⟨_, _, rfl⟩ w') ?_
    refine x_fn (fun w' hw' => H (bth 7 [y, f]) _ _ w' (hw15.trans hw') (k2.ext hw') (by have := cgf 7; omega) hcn.gf7) ?_
    refine x_eqC true ?_
    repeat' (first | refine x_mov ?_ | refine x_asg ?_ | refine x_fa ?_ | refine x_ext ?_ | refine x_binN ?_ | refine x_notd ?_ | refine x_notb ?_ | refine x_pick_t ?_ | refine x_pick_f ?_ | refine x_nilc ?_ | refine x_skip ?_ | refine x_lens ?_ | refine x_lenv ?_ | refine x_ix (fun _ => ?_) | (refine x_bin ?_ ?_ <;> intro _ <;> try (exfalso; omega)) | fail)
    refine x_nil fun w16 hw16 => hK _ _ ?_
    have hx := hw15.trans hw16
    clear hK K hw14 hw15 hw16 hr1 hr2 k1 k2
    replace H := fun x kv b w' (h : Ext w16 w') => H x kv b w' (hx.trans h)
    replace rn := rn.ext hx
    replace kn := kn.ext hx
    replace he := he.trans hx; replace rf := rf.ext hx; replace ry := ry.ext hx; replace rd' := rd'.ext hx; replace hkf := hkf.ext hx; replace hky := hky.ext hx; replace hd := hd.ext hx; replace hc := hc.ext hx; replace ht := ht.ext hx; clear hx
    repeat' (first | refine a_mov ?_ | refine a_asg ?_ | refine a_binN ?_ | refine a_notd ?_ | refine a_notb ?_ | refine a_nilc ?_ | refine a_fa ?_ | refine a_ext ?_ | refine a_lenv ?_ | refine a_lens ?_ | refine a_pick_t ?_ | refine a_pick_f ?_ | refine a_not ?_ | refine a_nilf ?_ | (refine o_nil (hK _ _ ?_); clear hK K) | refine wk_reg ?_ | refine wk_seq fun K hK => ?_ | (refine wk_skip (hK _ _ ?_); clear hK K) | (refine wk_label (hK _ _ ?_); clear hK K) | refine wk_scope ?_ | refine wk_block ?_ | refine wk_cond_t rfl ?_ | refine wk_cond_f rfl ?_ | (refine wk_exit ?_; (repeat (refine blockK_other rfl ?_)); refine blockK_same ?_; try ((repeat ((fail_if_success (refine hK _ _ ?_)); clear hK K)); refine hK _ _ ?_; clear hK K)) | (refine a_bin ?_ ?_ <;> intro _ <;> try (exfalso; omega)) | refine a_ld hl ?_ | (refine a_st hl ?_; clear hl; intro _ hl) | refine a_ix (fun _ => ?_) | fail)
    refine wk_grow [([0, 1, 4, 5, 6, 8, 9, 10, 11], [2]), ([3, 7, 12, 13, 14, 15, 18, 19, 20, 22, 23, 24, 25], [16]), ([17, 21, 26, 27, 28], [])] ?_
    refine g_one (Sl2 y f (.slice ya y.kids.length yc) (.slice fa f.kids.length fc)) (Sl2.stb _ _ _ _) ?_
    repeat' (first | refine x_mov ?_ | refine x_asg ?_ | refine x_fa ?_ | refine x_ext ?_ | refine x_binN ?_ | refine x_notd ?_ | refine x_notb ?_ | refine x_pick_t ?_ | refine x_pick_f ?_ | refine x_nilc ?_ | refine x_skip ?_ | refine x_lens ?_ | refine x_lenv ?_ | refine x_ix (fun _ => ?_) | (refine x_bin ?_ ?_ <;> intro _ <;> try (exfalso; omega)) | refine x_all (fun w_ hw_ => rf.ext hw_) ?_ | refine x_all (fun w_ hw_ => ry.ext hw_) ?_ | refine x_all (fun w_ hw_ => rd'.ext hw_) ?_)
    refine x_nil ⟨fun v => p_walk rfl rfl rfl fun w' hw' _ => ?_, ?_⟩
    · refine o_buildSlice (LH.start w' (fun _ => False)) (fmL y (.slice ya y.kids.length yc) ++ fmL f (.slice fa f.kids.length fc)) rfl rfl (by kernel_rfl) ?_
      intro b w'' hb hl
      exact o_nil ⟨_, rfl, hl.done, b, rfl, hl.rowL (vs := fmL y (.slice ya y.kids.length yc) ++ fmL f (.slice fa f.kids.length fc)) 0 0 10 rfl⟩
    rintro _ w14 hw14 ⟨b1, rfl, hr1⟩
    have k1 : KA w14 [y, f] (.slice (some ⟨b1, 0, none⟩) 2 2) := .two hr1 (Nat.le_refl _) (hky.ext hw14) (hkf.ext hw14)
    refine g_one (Sl2 f y (.slice fa f.kids.length fc) (.slice ya y.kids.length yc)) (Sl2.stb _ _ _ _) ?_
    refine x_fn (fun w' hw' => both_calls 6 [y, f] _ ⟨_, _, rfl⟩ w') ?_
    refine x_fn (fun w' hw' => H (bth 6 [y, f]) _ _ w' (hw14.trans hw') (k1.ext hw') (by have := cgf 6; omega) hcn.gf6) ?_
    refine x_eqC true ?_
    repeat' (first | refine x_mov ?_ | refine x_asg ?_ | refine x_fa ?_ | refine x_ext ?_ | refine x_binN ?_ | refine x_notd ?_ | refine x_notb ?_ | refine x_pick_t ?_ | refine x_pick_f ?_ | refine x_nilc ?_ | refine x_skip ?_ | refine x_lens ?_ | refine x_lenv ?_ | refine x_ix (fun _ => ?_) | (refine x_bin ?_ ?_ <;> intro _ <;> try (exfalso; omega)) | refine x_all (fun w_ hw_ => rf.ext (hw14.trans hw_)) ?_ | refine x_all (fun w_ hw_ => ry.ext (hw14.trans hw_)) ?_ | refine x_all (fun w_ hw_ => rd'.ext (hw14.trans hw_)) ?_)
    refine x_nil ⟨fun v => p_walk rfl rfl rfl fun w' hw' _ => ?_, ?_⟩
    · refine o_buildSlice (LH.start w' (fun _ => False)) (fmL f (.slice fa f.kids.length fc) ++ fmL y (.slice ya y.kids.length yc)) rfl rfl (by kernel_rfl) ?_
      intro b w'' hb hl
      exact o_nil ⟨_, rfl, hl.done, b, rfl, hl.rowL (vs := fmL f (.slice fa f.kids.length fc) ++ fmL y (.slice ya y.kids.length yc)) 0 0 10 rfl⟩
    rintro _ w15 hw15 ⟨b2, rfl, hr2⟩
    replace hw15 := hw14.trans hw15
    have k2 : KA w15 [f, y] (.slice (some ⟨b2, 0, none⟩) 2 2) := .two hr2 (Nat.le_refl _) (hkf.ext hw15) (hky.ext hw15)
    refine g_end ?_
    refine x_fn (fun w' hw' => both_calls 7 [f, y] _ ⟨_, _, rfl⟩ w') ?_
    refine x_fn (fun w' hw' => H (bth 7 [f, y]) _ _ w' (hw15.trans hw') (k2.ext hw') (by have := cfg 7; omega) hcn.fg7) ?_
    refine x_eqC true ?_
    repeat' (first | refine x_mov ?_ | refine x_asg ?_ | refine x_fa ?_ | refine x_ext ?_ | refine x_binN ?_ | refine x_notd ?_ | refine x_notb ?_ | refine x_pick_t ?_ | refine x_pick_f ?_ | refine x_nilc ?_ | refine x_skip ?_ | refine x_lens ?_ | refine x_lenv ?_ | refine x_ix (fun _ => ?_) | (refine x_bin ?_ ?_ <;> intro _ <;> try (exfalso; omega)) | fail)
    refine x_nil fun w17 hw17 => hK _ _ ?_
    have hx := hw15.trans hw17
    clear hK K hw14 hw15 hw17 hr1 hr2 k1 k2
    replace H := fun x kv b w' (h : Ext w17 w') => H x kv b w' (hx.trans h)
    replace rn := rn.ext hx
    replace kn := kn.ext hx
    replace he := he.trans hx; replace rf := rf.ext hx; replace ry := ry.ext hx; replace rd' := rd'.ext hx; replace hkf := hkf.ext hx; replace hky := hky.ext hx; replace hd := hd.ext hx; replace hc := hc.ext hx; replace ht := ht.ext hx; clear hx
    repeat' (first | refine a_mov ?_ | refine a_asg ?_ | refine a_binN ?_ | refine a_notd ?_ | refine a_notb ?_ | refine a_nilc ?_ | refine a_fa ?_ | refine a_ext ?_ | refine a_lenv ?_ | refine a_lens ?_ | refine a_pick_t ?_ | refine a_pick_f ?_ | refine a_not ?_ | refine a_nilf ?_ | (refine o_nil (hK _ _ ?_); clear hK K) | refine wk_reg ?_ | refine wk_seq fun K hK => ?_ | (refine wk_skip (hK _ _ ?_); clear hK K) | (refine wk_label (hK _ _ ?_); clear hK K) | refine wk_scope ?_ | refine wk_block ?_ | refine wk_cond_t rfl ?_ | refine wk_cond_f rfl ?_ | (refine wk_exit ?_; (repeat (refine blockK_other rfl ?_)); refine blockK_same ?_; try ((repeat ((fail_if_success (refine hK _ _ ?_)); clear hK K)); refine hK _ _ ?_; clear hK K)) | (refine a_bin ?_ ?_ <;> intro _ <;> try (exfalso; omega)) | refine a_ld hl ?_ | (refine a_st hl ?_; clear hl; intro _ hl) | refine a_ix (fun _ => ?_) | fail)
    refine wk_grow [([0, 1, 2, 3, 4, 5, 6, 7, 8, 9, 14, 15, 16, 18, 19, 24, 25, 26], [10, 11, 12, 13, 17, 20, 21, 22, 23, 27]), ([28, 29, 30], [])] ?_
    refine g_tab (R9 f y C) (fun i => R9.stb f y C i) ?_
    repeat' (first | refine x_mov ?_ | refine x_asg ?_ | refine x_fa ?_ | refine x_ext ?_ | refine x_binN ?_ | refine x_notd ?_ | refine x_notb ?_ | refine x_pick_t ?_ | refine x_pick_f ?_ | refine x_nilc ?_ | refine x_skip ?_ | refine x_lens ?_ | refine x_lenv ?_ | refine x_ix (fun _ => ?_) | (refine x_bin ?_ ?_ <;> intro _ <;> try (exfalso; omega)) | refine x_all (fun w_ hw_ => rf.ext hw_) ?_ | refine x_all (fun w_ hw_ => ry.ext hw_) ?_ | refine x_all (fun w_ hw_ => rn.ext hw_) ?_ | refine x_all (fun w_ hw_ => rd'.ext hw_) ?_)
    refine x_nil fun vs => ⟨?_, ?_⟩
    · intro i hi
      simp only [List.mem_cons, List.not_mem_nil, or_false] at hi
      rcases hi with rfl | rfl | rfl | rfl | rfl | rfl | rfl | rfl | rfl | rfl
      · refine p_walk rfl rfl rfl fun w' hw' _ => ?_
        refine o_buildSlice (LH.start w' (fun _ => False)) (fmL f (.slice fa f.kids.length fc) ++ fmL y (.slice ya y.kids.length yc)) rfl rfl (by kernel_rfl) ?_
        intro b w'' hb hl
        refine o_nil ⟨_, rfl, hl.done, ?_⟩
        exact (.two ((hl.rowL (vs := fmL f (.slice fa f.kids.length fc) ++ fmL y (.slice ya y.kids.length yc)) 0 0 10 rfl)) (Nat.le_refl _) ((hkf.ext hw').ext hl.done) ((hky.ext hw').ext hl.done) : KA w'' [f, y] (.slice (some ⟨b, 0, none⟩) 2 2))
      · refine p_fn (args := #[.int .i64 6, vs 10]) (fun w' hw' hR => ?_)
        have h1 : KA w' [f, y] (vs 10) := hR 10 (by simp) (by kernel_rfl)
        refine Calls.mono (both_calls 6 [f, y] (vs 10) (by obtain ⟨a, c, h, -⟩ := h1.shape; exact ⟨a, c, h⟩) w') ?_
        rintro e w'' ⟨x, h2, h3, h4⟩
        exact ⟨x, h2, ⟨vs 10, h3, h1.ext h4⟩, h4⟩
      · refine p_walk rfl rfl rfl fun w' hw' hR => ?_
        obtain ⟨a, c', h1, h2⟩ := FV.one _ (hR 11 (by simp) (by kernel_rfl))
        refine o_buildSlice (LH.start w' (fun _ => False)) (fmL (bth 6 [f, y]) (.slice a 2 c')) rfl rfl (by show buildSC _ _ _ [(0, vs 11)] = _; rw [h1]; kernel_rfl) ?_
        intro b w'' hb hl
        refine o_nil ⟨_, rfl, hl.done, ?_⟩
        exact (.one ((hl.rowL (vs := fmL (bth 6 [f, y]) (.slice a 2 c')) 0 0 5 rfl)) (Nat.le_refl _) (h2.ext hl.done) : KA w'' [(bth 6 [f, y])] (.slice (some ⟨b, 0, none⟩) 1 1))
      · refine p_fn (args := #[.int .i64 5, vs 12]) (fun w' hw' hR => ?_)
        have h1 : KA w' [(bth 6 [f, y])] (vs 12) := hR 12 (by simp) (by kernel_rfl)
        refine Calls.mono (both_calls 5 [(bth 6 [f, y])] (vs 12) (by obtain ⟨a, c, h, -⟩ := h1.shape; exact ⟨a, c, h⟩) w') ?_
        rintro e w'' ⟨x, h2, h3, h4⟩
        exact ⟨x, h2, ⟨vs 12, h3, h1.ext h4⟩, h4⟩
      · refine p_fn (args := #[vs 13, .agg #[.slice da F.length dc], .slice ca c.length cc, .slice ta T.length tc]) (fun w' hw' hR => ?_)
        obtain ⟨a, c', h1, h2⟩ := FV.one _ (hR 13 (by simp) (by kernel_rfl))
        rw [h1]
        refine Calls.mono (H (bth 5 [bth 6 [f, y]]) _ C w' hw' h2 cna hna) ?_
        rintro e w'' ⟨v, h3, h4, h5⟩
        exact ⟨v, h3, h4, h5⟩
      · refine p_walk rfl rfl rfl fun w' hw' _ => ?_
        refine o_buildSlice (LH.start w' (fun _ => False)) (fmL y (.slice ya y.kids.length yc)) rfl rfl (by kernel_rfl) ?_
        intro b w'' hb hl
        refine o_nil ⟨_, rfl, hl.done, ?_⟩
        exact (.one ((hl.rowL (vs := fmL y (.slice ya y.kids.length yc)) 0 0 5 rfl)) (Nat.le_refl _) ((hky.ext hw').ext hl.done) : KA w'' [y] (.slice (some ⟨b, 0, none⟩) 1 1))
      · refine p_fn (args := #[.int .i64 5, vs 20]) (fun w' hw' hR => ?_)
        have h1 : KA w' [y] (vs 20) := hR 20 (by simp) (by kernel_rfl)
        refine Calls.mono (both_calls 5 [y] (vs 20) (by obtain ⟨a, c, h, -⟩ := h1.shape; exact ⟨a, c, h⟩) w') ?_
        rintro e w'' ⟨x, h2, h3, h4⟩
        exact ⟨x, h2, ⟨vs 20, h3, h1.ext h4⟩, h4⟩
      · refine p_walk rfl rfl rfl fun w' hw' hR => ?_
        obtain ⟨a, c', h1, h2⟩ := FV.one _ (hR 21 (by simp) (by kernel_rfl))
        refine o_buildSlice (LH.start w' (fun _ => False)) (fmL (bth 5 [f]) (.slice (some ⟨b10, 0, none⟩) 1 1) ++ fmL (bth 5 [y]) (.slice a 1 c')) rfl rfl (by show buildSC _ _ _ [(0, .agg (fmL (bth 5 [f]) (.slice (some ⟨b10, 0, none⟩) 1 1)).toArray), (1, vs 21)] = _; rw [h1]; kernel_rfl) ?_
        intro b w'' hb hl
        refine o_nil ⟨_, rfl, hl.done, ?_⟩
        exact (.two ((hl.rowL (vs := fmL (bth 5 [f]) (.slice (some ⟨b10, 0, none⟩) 1 1) ++ fmL (bth 5 [y]) (.slice a 1 c')) 0 0 10 rfl)) (Nat.le_refl _) ((kn.ext hw').ext hl.done) (h2.ext hl.done) : KA w'' [bth 5 [f], (bth 5 [y])] (.slice (some ⟨b, 0, none⟩) 2 2))
      · refine p_fn (args := #[.int .i64 7, vs 22]) (fun w' hw' hR => ?_)
        have h1 : KA w' [bth 5 [f], bth 5 [y]] (vs 22) := hR 22 (by simp) (by kernel_rfl)
        refine Calls.mono (both_calls 7 [bth 5 [f], bth 5 [y]] (vs 22) (by obtain ⟨a, c, h, -⟩ := h1.shape; exact ⟨a, c, h⟩) w') ?_
        rintro e w'' ⟨x, h2, h3, h4⟩
        exact ⟨x, h2, ⟨vs 22, h3, h1.ext h4⟩, h4⟩
      · refine p_fn (args := #[vs 23, .agg #[.slice da F.length dc], .slice ca c.length cc, .slice ta T.length tc]) (fun w' hw' hR => ?_)
        obtain ⟨a, c', h1, h2⟩ := FV.one _ (hR 23 (by simp) (by kernel_rfl))
        rw [h1]
        refine Calls.mono (H (bth 7 [bth 5 [f], bth 5 [y]]) _ C w' hw' h2 con hon) ?_
        rintro e w'' ⟨v, h3, h4, h5⟩
        exact ⟨v, h3, h4, h5⟩
    · intro w14 hw14 hR
      have h17 : vs 17 = .bool C := hR 17 (by simp)
      have h27 : vs 27 = .bool C := hR 27 (by simp)
      refine g_end ?_
      refine x_eqC true ?_ (hx := by (conv => lhs; whnf); exact h17) (hy := by (conv => lhs; whnf); exact h27) (hc := beq_self_eq_true C)
      repeat' (first | refine x_mov ?_ | refine x_asg ?_ | refine x_fa ?_ | refine x_ext ?_ | refine x_binN ?_ | refine x_notd ?_ | refine x_notb ?_ | refine x_pick_t ?_ | refine x_pick_f ?_ | refine x_nilc ?_ | refine x_skip ?_ | refine x_lens ?_ | refine x_lenv ?_ | refine x_ix (fun _ => ?_) | (refine x_bin ?_ ?_ <;> intro _ <;> try (exfalso; omega)) | fail)
      refine x_nil fun w15 hw15 => hK _ _ ?_
      clear hK K
      repeat' (first | refine a_mov ?_ | refine a_asg ?_ | refine a_binN ?_ | refine a_notd ?_ | refine a_notb ?_ | refine a_nilc ?_ | refine a_fa ?_ | refine a_ext ?_ | refine a_lenv ?_ | refine a_lens ?_ | refine a_pick_t ?_ | refine a_pick_f ?_ | refine a_not ?_ | refine a_nilf ?_ | (refine o_nil (hK _ _ ?_); clear hK K) | refine wk_reg ?_ | refine wk_seq fun K hK => ?_ | (refine wk_skip (hK _ _ ?_); clear hK K) | (refine wk_label (hK _ _ ?_); clear hK K) | refine wk_scope ?_ | refine wk_block ?_ | refine wk_cond_t rfl ?_ | refine wk_cond_f rfl ?_ | (refine wk_exit ?_; (repeat (refine blockK_other rfl ?_)); refine blockK_same ?_; try ((repeat ((fail_if_success (refine hK _ _ ?_)); clear hK K)); refine hK _ _ ?_; clear hK K)) | (refine a_bin ?_ ?_ <;> intro _ <;> try (exfalso; omega)) | refine a_ld hl ?_ | (refine a_st hl ?_; clear hl; intro _ hl) | refine a_ix (fun _ => ?_) | fail)
      refine wk_ret (retQ_tmp1 Tryd.results4 (by decide) rfl (by conv => lhs; whnf) ?_)
      exact ⟨rfl, he.trans (hw14.trans hw15)⟩
  )
end Go.Proofs
