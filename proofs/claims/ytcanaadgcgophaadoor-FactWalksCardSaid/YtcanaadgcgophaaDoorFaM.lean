/-
  Facts: a panic with a fault is turned into results (caught, and the closures that call it).
-/
import Derived.Test.YtcanaadgcgophaaDoorFaL
import Derived.Test.YtcanaadgcgophaaDoorRec2
set_option linter.unusedVariables false
set_option linter.unusedSimpArgs false
set_option linter.unnecessarySimpa false
set_option maxRecDepth 10000
namespace Go.Pd
open Go
section
variable {P : Program} {r : Option Nat} {n : Nat} {ops : Array Oper} {K : St → World → Prop} {X : List PanicEntry → St → World → Prop} {l : List Oper} {s : St} {w : World} {k : Nat} {ty : TypeId} {p : String} {af : Array Edge} {g : Option (Nat × Bool)}
/-- An interface value against nil. -/
theorem o_eqnil {xt yt : TypeId} {x : Operand} {ms : Array (String × TypeId)} (hk : OpsL P r n ops K X l (s.set k (.bool true)) w) (hx : rd n s x = .nilIface) (hu : P.underlying xt = some (.interface ms)) (hw : Region.wanted ⟨some k, .binOp .eql xt x (.const .nilIface) yt, ty, p, af, g⟩ (yieldedE ops n s) = true := by rfl) : OpsL P r n ops K X (⟨some k, .binOp .eql xt x (.const .nilIface) yt, ty, p, af, g⟩ :: l) s w := by
  refine o_val (w' := w) hw ?_ hk
  rw [Oper.semAt_eq _ _ _ (fun c e => by cases e)]
  have h1 : (eqGuard .eql xt x (.const .nilIface) .nilIface .nilIface).run P w = .ok () w := by
    cases x <;> rfl
  have h2 : (binOp .eql xt .nilIface .nilIface).run P w = .ok (.bool true) w := by
    show (do pure (Value.bool (← Op.equal xt .nilIface .nilIface)) : Sem Value).run P w = _
    rw [sem_bind (run_equalNil hu w)]
    rfl
  simp only [execOp, hx, rd_const]
  have h3 : (do eqGuard .eql xt x (.const .nilIface) .nilIface .nilIface; binOp .eql xt .nilIface .nilIface : Sem Value).run P w = .ok (.bool true) w := by
    rw [sem_bind h1]; exact h2
  rw [sem_bind h3]
  rfl
theorem o_eqiface {xt yt : TypeId} {x : Operand} {ms : Array (String × TypeId)} {t : TypeId} {v : Value} (hk : OpsL P r n ops K X l (s.set k (.bool false)) w) (hx : rd n s x = .iface t v) (hu : P.underlying xt = some (.interface ms)) (hw : Region.wanted ⟨some k, .binOp .eql xt x (.const .nilIface) yt, ty, p, af, g⟩ (yieldedE ops n s) = true := by rfl) : OpsL P r n ops K X (⟨some k, .binOp .eql xt x (.const .nilIface) yt, ty, p, af, g⟩ :: l) s w := by
  refine o_val (w' := w) hw ?_ hk
  rw [Oper.semAt_eq _ _ _ (fun c e => by cases e)]
  have h0 : (Op.equal xt (.iface t v) .nilIface).run P w = .ok false w := by
    have h9 : Op.equal xt (.iface t v) .nilIface = Op.equalIn (9999 + 1) xt (.iface t v) .nilIface := rfl
    rw [h9, Op.equalIn, sem_bind (run_underlying' hu w)]
    rfl
  have h2 : (binOp .eql xt (.iface t v) .nilIface).run P w = .ok (.bool false) w := by
    show (do pure (Value.bool (← Op.equal xt (.iface t v) .nilIface)) : Sem Value).run P w = _
    rw [sem_bind h0]
    rfl
  simp only [execOp, hx, rd_const]
  have h3 : (do eqGuard .eql xt x (.const .nilIface) (.iface t v) .nilIface; binOp .eql xt (.iface t v) .nilIface : Sem Value).run P w = .ok (.bool false) w := by
    rw [sem_bind (a := ()) (w' := w) rfl]; exact h2
  rw [sem_bind h3]
  rfl
end
end Go.Pd
namespace Go.Proofs
open Go Go.Pd Go.Fac
open Go.Lexs (Tok)
attribute [local irreducible] OpsL W RetQ OpsQ OpsC
abbrev resK (b2 b3 b4 : Nat) : Nat → Prop := fun b => b ∈ [b4, b3, b2]
/-- The results' cells: an offset, an error, and one cell of the thing. -/
def resB (T : TypeId) (b2 b3 b4 : Nat) (dv : Value) (e a : Int) : List (Nat × Obj) := [(b4, .cells [.int .i64 a].toArray 3 (0, 0)), (b3, .cells [.int .i64 e].toArray 29 (0, 0)), (b2, .cells [dv].toArray T (0, 0))]
theorem caught_calm {w : World} {cv : Value} {b3 b4 : Nat} : Calls Tryd.prog 36 #[.nilIface, cv, .pointer (some ⟨b3, 0, none⟩), .pointer (some ⟨b4, 0, none⟩)] w (fun e w' => ∃ v, e = .returned v ∧ Ext w w') := by
  refine calls_of Tryd.func36 rfl Tryd.ntmps36 rfl ?_
  refine wk_seq fun K hK => ?_
  refine wk_seq fun K2 hK2 => ?_
  refine wk_reg ?_
  refine a_mov ?_
  refine o_eqnil ?_ rfl rfl
  refine o_nil (hK2 _ _ ?_)
  refine wk_cond_t rfl ?_
  exact wk_ret (retQ_tmp0 rfl rfl (.refl _ _))
set_option maxHeartbeats 2000000 in
theorem caught_fault {T : TypeId} {w : World} {cv dv : Value} {b2 b3 b4 : Nat} {e0 a0 e a : Int} {f : FuncId} (hen : ∀ w, (callFunc f #[.pointer (some ⟨b2, 0, none⟩)]).run Tryd.prog w = .ok (.enter f #[.pointer (some ⟨b2, 0, none⟩)]) w) (hcv : cv = .func (.func f) #[] #[.pointer (some ⟨b2, 0, none⟩)]) (hl : LH w (resK b2 b3 b4) w (resB T b2 b3 b4 dv e0 a0))
    (hc : ∀ (w1 : World) (p : Nat × Obj), LH w (resK b2 b3 b4) w1 (p :: resB T b2 b3 b4 dv e0 a0) → Calls Tryd.prog f #[.pointer (some ⟨b2, 0, none⟩)] w1 (fun x w' => ∃ v, x = .returned v ∧ LH w (resK b2 b3 b4) w' (p :: resB T b2 b3 b4 (.slice none 0 0) e0 a0))) :
    Calls Tryd.prog 36 #[faultV e a, cv, .pointer (some ⟨b3, 0, none⟩), .pointer (some ⟨b4, 0, none⟩)] w (fun x w' => ∃ v, x = .returned v ∧ LH w (resK b2 b3 b4) w' (resB T b2 b3 b4 (.slice none 0 0) e a)) := by
  subst hcv
  refine calls_of Tryd.func36 rfl Tryd.ntmps36 rfl ?_
  refine wk_seq fun K hK => ?_
  refine wk_seq fun K2 hK2 => ?_
  refine wk_reg ?_
  refine a_mov ?_
  refine o_eqiface ?_ rfl rfl
  refine o_nil (hK2 _ _ ?_)
  clear hK2 K2
  refine wk_cond_f rfl ?_
  refine wk_skip (hK _ _ ?_)
  clear hK K
  refine wk_seq fun K hK => ?_
  refine wk_reg ?_
  refine a_mov ?_
  refine a_tas ?_ rfl
  refine o_alloc hl [.int .i64 0, .int .i64 0] (by kernel_rfl) rfl ?_
  clear hl
  intro b8 w1 hb8 hl
  refine o_putN (us := [.int .i64 e, .int .i64 a]) hl rfl rfl rfl rfl rfl (.here rfl rfl) ?_
  clear hl
  intro w2 hl
  refine o_nil (hK _ _ ?_)
  clear hK K
  refine wk_seq fun K hK => ?_
  refine wk_reg ?_
  refine a_mov ?_
  refine a_fc #[] #[.pointer (some ⟨b2, 0, none⟩)] #[.pointer (some ⟨b2, 0, none⟩)] rfl (hc w2 _ hl) ?_ (hen := hen)
  rintro v w3 hl
  refine o_nil (hK _ _ ?_)
  clear hK K
  have hr : Row w3 b8 0 [.int .i64 e, .int .i64 a] := hl.rowL (vs := [.int .i64 e, .int .i64 a]) 0 0 2 rfl
  refine wk_draw [0, 1, 2, 3, 4, 5, 6, 8] [3, 5] [7, 9] (fun w' => To w3 w' w3.heap) (fun w' => w'.heap[b8]? = some (Obj.cells [.int .i64 e, .int .i64 a].toArray 99 (0, 0))) rfl (by kernel_rfl) (fun _ _ _ _ h => by first | exact h | (simp only [BlockK, NoGoto, RetQ] at h)) (fun _ h => h) (fun w' h => by rw [h.1]; exact hl.get 0 rfl) ?_
  repeat' (first | refine q_mov ?_ | refine q_asg ?_ | refine q_fa ?_ | refine q_ext ?_ | refine q_binN ?_ | refine q_notd ?_ | refine q_notb ?_ | refine q_pick_t ?_ | refine q_pick_f ?_ | refine q_nilc ?_ | refine q_skip ?_ | refine q_lens ?_ | refine q_lenv ?_ | refine q_nil ?_ | refine q_ix (fun _ => ?_) | (refine q_bin ?_ ?_ <;> intro _ <;> try (exfalso; omega)) | refine q_late rfl rfl rfl rfl (fun w' hw' => r_load rfl rfl (cell_of_block hw' rfl)) ?_)
  intro w4 hw4
  replace hl := hl.heap hw4
  refine ops_tail rfl rfl ?_
  refine o_put1 (b := b3) (o := 0) (v := .int .i64 e) hl rfl rfl rfl ⟨rfl, rfl⟩ rfl (.there (.there (.here rfl rfl))) ?_
  clear hl
  intro w5 hl
  refine o_nil ⟨hl.get 0 rfl, ?_⟩
  refine ops_tail rfl rfl ?_
  refine o_put1 (b := b4) (o := 0) (v := .int .i64 a) hl rfl rfl rfl ⟨rfl, rfl⟩ rfl (.there (.here rfl rfl)) ?_
  clear hl
  intro w6 hl
  refine o_nil ⟨hl.get 0 rfl, ?_⟩
  refine ops_nil (retQ_tmp0 rfl rfl ?_)
  exact hl.sub (List.sublist_cons_self _ _)
/-- The thing is cleared. -/
theorem clearD_calls {w w1 : World} {b2 b3 b4 : Nat} {dv : Value} {e a : Int} {p : Nat × Obj} (hl : LH w (resK b2 b3 b4) w1 (p :: resB 24 b2 b3 b4 dv e a)) : Calls Tryd.prog 37 #[.pointer (some ⟨b2, 0, none⟩)] w1 (fun x w' => ∃ v, x = .returned v ∧ LH w (resK b2 b3 b4) w' (p :: resB 24 b2 b3 b4 (.slice none 0 0) e a)) := by
  refine calls_of Tryd.func37 rfl Tryd.ntmps37 rfl ?_
  refine wk_reg ?_
  refine o_build [.slice none 0 0] rfl rfl ?_
  refine o_putN (us := [.slice none 0 0]) hl rfl rfl rfl rfl rfl (.there (.there (.there (.here rfl rfl)))) ?_
  clear hl
  intro w2 hl
  exact o_nil (retQ_tmp0 rfl rfl hl)
theorem clearC_calls {w w1 : World} {b2 b3 b4 : Nat} {dv : Value} {e a : Int} {p : Nat × Obj} (hl : LH w (resK b2 b3 b4) w1 (p :: resB 26 b2 b3 b4 dv e a)) : Calls Tryd.prog 45 #[.pointer (some ⟨b2, 0, none⟩)] w1 (fun x w' => ∃ v, x = .returned v ∧ LH w (resK b2 b3 b4) w' (p :: resB 26 b2 b3 b4 (.slice none 0 0) e a)) := by
  refine calls_of Tryd.func45 rfl Tryd.ntmps45 rfl ?_
  refine wk_reg ?_
  refine o_put1 (b := b2) (o := 0) (v := .slice none 0 0) hl rfl rfl rfl ⟨rfl, rfl⟩ rfl (.there (.there (.there (.here rfl rfl)))) ?_
  clear hl
  intro w2 hl
  exact o_nil (retQ_tmp0 rfl rfl hl)
theorem recD_calm {w : World} {b2 b3 b4 : Nat} : CallsDIn (FR none) 0 Tryd.prog 35 #[.pointer (some ⟨b2, 0, none⟩), .pointer (some ⟨b3, 0, none⟩), .pointer (some ⟨b4, 0, none⟩)] .returning w (fun e u' w' => (∃ x, e = .returned x) ∧ u' = .returning ∧ Ext w w') := by
  refine callsD_rec1 (v := .nilIface) (R := fun w' => Ext w w') Tryd.func35 rfl (Nat.le_of_ble_eq_true rfl) rfl (fun c₀ cs hc => .inr ⟨?_, rfl, rfl⟩) ?_
  · simp [recoverD, hc]
  refine o_mf [] [.pointer (some ⟨b2, 0, none⟩)] rfl rfl rfl ?_
  refine a_fn (caught_calm (cv := .func (.func 37) #[] #[.pointer (some ⟨b2, 0, none⟩)]) (b3 := b3) (b4 := b4)) ?_
  rintro v w1 hx
  exact o_nil ⟨rfl, hx⟩
theorem recD_fault {w : World} {b2 b3 b4 : Nat} {dv : Value} {e0 a0 e a : Int} (hl : LH w (resK b2 b3 b4) w (resB 24 b2 b3 b4 dv e0 a0)) : CallsDIn (FR none) 0 Tryd.prog 35 #[.pointer (some ⟨b2, 0, none⟩), .pointer (some ⟨b3, 0, none⟩), .pointer (some ⟨b4, 0, none⟩)] (.panicking (faultC e a)) w (fun x u' w' => (∃ y, x = .returned y) ∧ u' = .panicking [{ v := faultV e a, recovered := true }] ∧ LH w (resK b2 b3 b4) w' (resB 24 b2 b3 b4 (.slice none 0 0) e a)) := by
  refine callsD_rec1 (v := faultV e a) (R := fun w' => LH w (resK b2 b3 b4) w' (resB 24 b2 b3 b4 (.slice none 0 0) e a)) Tryd.func35 rfl (Nat.le_of_ble_eq_true rfl) rfl (fun c₀ cs hc => .inl ?_) ?_
  · simp [recoverD, hc, faultC]
  refine o_mf [] [.pointer (some ⟨b2, 0, none⟩)] rfl rfl rfl ?_
  refine a_fn (caught_fault (fun _ => rfl) rfl hl fun w1 p h => clearD_calls h) ?_
  rintro v w1 hl1
  exact o_nil ⟨rfl, hl1⟩
theorem recC_calm {w : World} {b2 b3 b4 : Nat} : CallsDIn (FR none) 0 Tryd.prog 44 #[.pointer (some ⟨b2, 0, none⟩), .pointer (some ⟨b3, 0, none⟩), .pointer (some ⟨b4, 0, none⟩)] .returning w (fun e u' w' => (∃ x, e = .returned x) ∧ u' = .returning ∧ Ext w w') := by
  refine callsD_rec1 (v := .nilIface) (R := fun w' => Ext w w') Tryd.func44 rfl (Nat.le_of_ble_eq_true rfl) rfl (fun c₀ cs hc => .inr ⟨?_, rfl, rfl⟩) ?_
  · simp [recoverD, hc]
  refine o_mf [] [.pointer (some ⟨b2, 0, none⟩)] rfl rfl rfl ?_
  refine a_fn (caught_calm (cv := .func (.func 45) #[] #[.pointer (some ⟨b2, 0, none⟩)]) (b3 := b3) (b4 := b4)) ?_
  rintro v w1 hx
  exact o_nil ⟨rfl, hx⟩
theorem recC_fault {w : World} {b2 b3 b4 : Nat} {dv : Value} {e0 a0 e a : Int} (hl : LH w (resK b2 b3 b4) w (resB 26 b2 b3 b4 dv e0 a0)) : CallsDIn (FR none) 0 Tryd.prog 44 #[.pointer (some ⟨b2, 0, none⟩), .pointer (some ⟨b3, 0, none⟩), .pointer (some ⟨b4, 0, none⟩)] (.panicking (faultC e a)) w (fun x u' w' => (∃ y, x = .returned y) ∧ u' = .panicking [{ v := faultV e a, recovered := true }] ∧ LH w (resK b2 b3 b4) w' (resB 26 b2 b3 b4 (.slice none 0 0) e a)) := by
  refine callsD_rec1 (v := faultV e a) (R := fun w' => LH w (resK b2 b3 b4) w' (resB 26 b2 b3 b4 (.slice none 0 0) e a)) Tryd.func44 rfl (Nat.le_of_ble_eq_true rfl) rfl (fun c₀ cs hc => .inl ?_) ?_
  · simp [recoverD, hc, faultC]
  refine o_mf [] [.pointer (some ⟨b2, 0, none⟩)] rfl rfl rfl ?_
  refine a_fn (caught_fault (fun _ => rfl) rfl hl fun w1 p h => clearC_calls h) ?_
  rintro v w1 hl1
  exact o_nil ⟨rfl, hl1⟩
end Go.Proofs
