/-
  A network: one of the law's operations.
-/
import Derived.Test.YthiiodbjmcafgaaNeI
import Derived.Test.YthiiodbjmcafgaaNeK
set_option linter.unusedVariables false
set_option linter.unusedSimpArgs false
set_option linter.unnecessarySimpa false
set_option maxRecDepth 10000
namespace Go.Pd
variable {P : Program} {r : Option Nat} {n : Nat}
theorem r_remN {s : St} {w : World} {k : Nat} {ty : TypeId} {p : String} {af : Array Edge} {g : Option (Nat × Bool)} {xt yt : TypeId} {x y : Operand} {kk : IntKind} {a b : Nat} (hx : rd n s x = .int kk (a : Int)) (hy : rd n s y = .int kk (b : Int)) (hb : 0 < b) :
    (Oper.semAt r (rd n s) ⟨some k, .binOp .rem xt x y yt, ty, p, af, g⟩).run P w = .ok (.value (.int kk ((a % b : Nat) : Int))) w := by
  rw [Oper.semAt_eq _ _ _ (fun c e => by cases e)]
  have h1 : (b : Int) ≠ 0 := by omega
  have h0 : b ≠ 0 := by omega
  have h2 : (a : Int).tmod (b : Int) = ((a % b : Nat) : Int) := by rw [Int.tmod_eq_emod_of_nonneg (by omega)]; exact (Int.natCast_emod a b).symm
  simp [execOp, hx, hy, eqGuard, binOp, Op.intDiv, h0, h1, h2, bind, Sem.bind, pure, Sem.run]
section
variable {ops : Array Oper} {K : St → World → Prop} {X : List PanicEntry → St → World → Prop} {l : List Oper} {s : St} {w : World}
variable {k : Nat} {ty : TypeId} {p : String} {af : Array Edge} {g : Option (Nat × Bool)}
theorem o_remN {xt yt : TypeId} {x y : Operand} {kk : IntKind} {a b : Nat} (hw : Region.wanted ⟨some k, .binOp .rem xt x y yt, ty, p, af, g⟩ (yieldedE ops n s) = true) (hx : rd n s x = .int kk (a : Int)) (hy : rd n s y = .int kk (b : Int)) (hb : 0 < b)
    (hk : OpsL P r n ops K X l (s.set k (.int kk ((a % b : Nat) : Int))) w) : OpsL P r n ops K X (⟨some k, .binOp .rem xt x y yt, ty, p, af, g⟩ :: l) s w := o_val hw (r_remN hx hy hb) hk
end
end Go.Pd
namespace Go.Ne
open Go Go.Pd
/-- What bounds the memory that a network needs. -/
structure Small (s : Net) : Prop where
  t : ∀ a, (texts s a).length ≤ 100000
  q : ∀ a b, (s.q a b).length ≤ 100
  m : ∀ a b, ∀ m ∈ s.q a b, m.texts.length ≤ 100000
def OpOK (o : Opn) : Prop := o.kind ≤ 255 ∧ o.a ≤ 255 ∧ o.b ≤ 255 ∧ o.text.length ≤ 9223372036854775807
end Go.Ne
namespace Go.Proofs
open Go Go.Pd Go.Ne
attribute [local irreducible] OpsL W RetQ OpsQ OpsC

set_option maxHeartbeats 1000000 in
theorem do_calls {X : Nat → Prop} {s : Net} {p : Nat} {bl : List (Nat × Obj)} {w : World} (h : NetR X s p bl w) (hs : Small s) (o : Opn) (ho : OpOK o) :
    Calls Try.prog 27 #[.pointer (some ⟨p, 0, none⟩), .int .i64 (s.n : Int), .agg (opC o).toArray] w (fun e w' => ∃ v, e = .returned v ∧ After X (doOp s o) p bl w w') := by
  have hn : 1 ≤ s.n ∧ s.n ≤ 8 := by
    obtain ⟨D, -, -, -, hok, -⟩ := h
    exact hok.np
  obtain ⟨ho1, ho2, ho3, ho4⟩ := ho
  have hlen : ∀ a, (texts s a).length ≤ 1000000 := fun a => Nat.le_trans (hs.t a) (by omega)
  refine calls_of Try.func27 rfl Try.ntmps27 rfl ?_
  refine wk_seq fun K hK => ?_
  refine wk_reg ?_
  refine o_box (LH.start w (fun _ => False)) (opC o) rfl rfl rfl ?_
  intro b5 w1 hb5 hl1
  refine o_nil (hK _ _ ?_)
  clear hK K
  refine wk_seq fun K hK => ?_
  have hrow : ∀ w', To w1 w' w1.heap → Row w' b5 0 (opC o) := fun w' h => (hl1.heap h).rowL (vs := opC o) 0 0 6 rfl
  refine wk_draw [0, 1, 2, 3, 4, 5, 6, 7, 8, 9, 10, 11] [] [] (fun w' => To w1 w' w1.heap) (fun _ => True) rfl (by kernel_rfl) (fun _ _ _ _ h => by first | exact h | (simp only [BlockK, NoGoto, RetQ] at h)) (fun _ h => h) (fun _ _ => trivial) ?_
  repeat' (first | refine q_mov ?_ | refine q_asg ?_ | refine q_fa ?_ | refine q_ext ?_ | refine q_binN ?_ | refine q_notd ?_ | refine q_notb ?_ | refine q_pick_t ?_ | refine q_pick_f ?_ | refine q_nilc ?_ | refine q_skip ?_ | refine q_lens ?_ | refine q_lenv ?_ | refine q_nil ?_ | refine q_ix (fun _ => ?_) | (refine q_bin ?_ ?_ <;> intro _ <;> try (exfalso; omega)) | refine q_row (fun w_ hw_ => hrow w_ hw_) ?_ | refine q_pur rfl rfl rfl (fun _ => r_conv rfl rfl rfl (wrap_i64' (by omega))) ?_ | refine q_pur rfl rfl rfl (fun _ => r_remN rfl rfl (by omega)) ?_ | fail)
  intro w2 hw2
  have hl2 := hl1.heap hw2
  have hx2 : Ext w w2 := hl2.done
  have hr2 := hrow w2 hw2
  have hN := h.ext hx2
  have hback : ∀ {s' : Net} {w' : World}, After X s' p bl w2 w' → After X s' p bl w w' := by
    rintro s' w' ⟨bl', h1, h2⟩
    refine ⟨bl', ?_, h2⟩
    obtain ⟨D, -, -, rfl, -, hown⟩ := h
    exact hown.back hx2 h1
  refine ops_nil (hK _ _ ?_)
  clear hK K
  repeat' (first | refine a_mov ?_ | refine a_asg ?_ | refine a_binN ?_ | refine a_notd ?_ | refine a_notb ?_ | refine a_nilc ?_ | refine a_fa ?_ | refine a_ext ?_ | refine a_lenv ?_ | refine a_lens ?_ | refine a_pick_t ?_ | refine a_pick_f ?_ | refine a_not ?_ | refine a_nilf ?_ | (refine o_nil (hK _ _ ?_); clear hK K) | refine wk_reg ?_ | refine wk_seq fun K hK => ?_ | (refine wk_skip (hK _ _ ?_); clear hK K) | (refine wk_label (hK _ _ ?_); clear hK K) | refine wk_scope ?_ | refine wk_block ?_ | refine wk_cond_t rfl ?_ | refine wk_cond_f rfl ?_ | (refine wk_exit ?_; (repeat (refine blockK_other rfl ?_)); refine blockK_same ?_; try ((repeat ((fail_if_success (refine hK _ _ ?_)); clear hK K)); refine hK _ _ ?_; clear hK K)) | (refine a_bin ?_ ?_ <;> intro _ <;> try (exfalso; omega)) | refine a_ld hl ?_ | (refine a_st hl ?_; clear hl; intro _ hl) | refine a_ix (fun _ => ?_) | refine a_row hr2 ?_ | fail)
  refine o_remN (b := 4) rfl rfl rfl (by omega) ?_
  repeat' (first | refine a_mov ?_ | refine a_asg ?_ | refine a_binN ?_ | refine a_notd ?_ | refine a_notb ?_ | refine a_nilc ?_ | refine a_fa ?_ | refine a_ext ?_ | refine a_lenv ?_ | refine a_lens ?_ | refine a_pick_t ?_ | refine a_pick_f ?_ | refine a_not ?_ | refine a_nilf ?_ | (refine o_nil (hK _ _ ?_); clear hK K) | refine wk_reg ?_ | refine wk_seq fun K hK => ?_ | (refine wk_skip (hK _ _ ?_); clear hK K) | (refine wk_label (hK _ _ ?_); clear hK K) | refine wk_scope ?_ | refine wk_block ?_ | refine wk_cond_t rfl ?_ | refine wk_cond_f rfl ?_ | (refine wk_exit ?_; (repeat (refine blockK_other rfl ?_)); refine blockK_same ?_; try ((repeat ((fail_if_success (refine hK _ _ ?_)); clear hK K)); refine hK _ _ ?_; clear hK K)) | (refine a_bin ?_ ?_ <;> intro _ <;> try (exfalso; omega)) | refine a_ld hl ?_ | (refine a_st hl ?_; clear hl; intro _ hl) | refine a_ix (fun _ => ?_) | refine a_row hr2 ?_ | refine a_notb ?_ | fail)
  · refine a_fn (put_calls hN _ o.text hlen ho4) ?_
    rintro _ w3 ⟨rfl, hA⟩
    have e : doOp s o = put s (o.a % s.n) o.text := if_pos (by omega)
    exact o_nil (retQ_tmp0 rfl rfl (by rw [e]; exact hback hA))
  · refine a_fn (send_calls hN _ _ hlen hs.q) ?_
    rintro _ w3 ⟨rfl, hA⟩
    have e : doOp s o = send s (o.a % s.n) (o.b % s.n) := by unfold doOp; rw [if_neg (by omega), if_pos (by omega)]
    exact o_nil (retQ_tmp0 rfl rfl (by rw [e]; exact hback hA))
  · refine a_fn (deliver_calls hN _ _ o.lost o.again hs.t hs.m) ?_
    rintro _ w3 ⟨rfl, hA⟩
    have e : doOp s o = deliver s (o.a % s.n) (o.b % s.n) o.lost o.again := by unfold doOp; rw [if_neg (by omega), if_neg (by omega), if_pos (by omega)]
    exact o_nil (retQ_tmp0 rfl rfl (by rw [e]; exact hback hA))
  · refine a_fn (cut_calls hN _ _ (!o.lost)) ?_
    rintro _ w3 ⟨rfl, hA⟩
    have e : doOp s o = setCut s (o.a % s.n) (o.b % s.n) (!o.lost) := by unfold doOp; rw [if_neg (by omega), if_neg (by omega), if_neg (by omega)]
    exact o_nil (retQ_tmp0 rfl rfl (by rw [e]; exact hback hA))
end Go.Proofs
