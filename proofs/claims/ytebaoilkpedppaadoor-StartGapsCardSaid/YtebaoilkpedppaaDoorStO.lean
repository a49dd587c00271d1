/-
  Conditions of commencement: Parse and its recovering closure.
-/
import Derived.Test.YtebaoilkpedppaaDoorStN
import Derived.Test.YtebaoilkpedppaaDoorRec
set_option linter.unusedVariables false
set_option linter.unusedSimpArgs false
set_option linter.unnecessarySimpa false
set_option maxRecDepth 10000
namespace Go.Proofs
open Go Go.Pd Go.Sta
open Go.Lexs (Tok lex)
attribute [local irreducible] OpsL W RetQ OpsQ OpsC
/-- The results' cells. -/
def resB (b2 b3 b4 : Nat) (s : Sn) (kv : Value) (e a : Int) : List (Nat × Obj) := [(b4, .cells [.int .i64 a].toArray 3 (0, 0)), (b3, .cells [.int .i64 e].toArray 24 (0, 0)), (b2, .cells (snL s kv).toArray 29 (0, 0))]
def nilS : Sn := .node 0 [] 0 []
abbrev resK (b2 b3 b4 : Nat) : Nat → Prop := fun b => b ∈ [b4, b3, b2]
/-- The closure, where nothing was panicked. -/
theorem rec_calm {w : World} {b2 b3 b4 : Nat} : CallsDIn (FR none) 0 Tryd.prog 13 #[.pointer (some ⟨b2, 0, none⟩), .pointer (some ⟨b3, 0, none⟩), .pointer (some ⟨b4, 0, none⟩)] .returning w (fun e u' w' => (∃ x, e = .returned x) ∧ u' = .returning ∧ Ext w w') := by
  refine callsD_rec (v := .nilIface) (R := fun w' => Ext w w') Tryd.func13 rfl (Nat.le_of_ble_eq_true rfl) rfl (by decide) (fun c₀ cs hc => .inr ⟨?_, rfl, rfl⟩) ?_
  · simp [recoverD, hc]
  refine wk_w ?_
  refine wk_seq fun K hK => ?_
  refine wk_reg ?_
  refine a_mov ?_
  refine o_neqnil rfl rfl rfl ?_
  refine o_nil (hK _ _ ?_)
  refine wk_cond_f rfl ?_
  exact wk_skip ⟨rfl, .refl _ _⟩
/-- The closure, where a fault was panicked. -/
theorem rec_fault {w : World} {b2 b3 b4 : Nat} {s : Sn} {kv : Value} {e0 a0 e a : Int} (hl : LH w (resK b2 b3 b4) w (resB b2 b3 b4 s kv e0 a0)) : CallsDIn (FR none) 0 Tryd.prog 13 #[.pointer (some ⟨b2, 0, none⟩), .pointer (some ⟨b3, 0, none⟩), .pointer (some ⟨b4, 0, none⟩)] (.panicking (faultC e a)) w (fun x u' w' => (∃ y, x = .returned y) ∧ u' = .panicking [{ v := faultV e a, recovered := true }] ∧ LH w (resK b2 b3 b4) w' (resB b2 b3 b4 nilS (.slice none 0 0) e a)) := by
  refine callsD_rec (v := faultV e a) (R := fun w' => LH w (resK b2 b3 b4) w' (resB b2 b3 b4 nilS (.slice none 0 0) e a)) Tryd.func13 rfl (Nat.le_of_ble_eq_true rfl) rfl (by decide) (fun c₀ cs hc => .inl ?_) ?_
  · simp [recoverD, hc, faultC]
  refine wk_w ?_
  refine wk_seq fun K hK => ?_
  refine wk_reg ?_
  refine a_mov ?_
  refine o_neqiface ?_ rfl rfl
  refine o_nil (hK _ _ ?_)
  clear hK K
  refine wk_cond_t rfl ?_
  refine wk_seq fun K hK => ?_
  refine wk_reg ?_
  refine a_mov ?_
  refine a_tas ?_ rfl
  refine o_alloc hl [.int .i64 0, .int .i64 0] (by kernel_rfl) rfl ?_
  clear hl
  intro b5 w1 hb5 hl
  refine o_putN (us := [.int .i64 e, .int .i64 a]) hl rfl rfl rfl rfl rfl (.here rfl rfl) ?_
  clear hl
  intro w2 hl
  refine o_nil (hK _ _ ?_)
  clear hK K
  have hr : Row w2 b5 0 [.int .i64 e, .int .i64 a] := hl.rowL (vs := [.int .i64 e, .int .i64 a]) 0 0 2 rfl
  refine wk_draw (List.range 5) [2, 4] [5, 6, 7] (fun w' => To w2 w' w2.heap) (fun w' => w'.heap[b5]? = some (Obj.cells [.int .i64 e, .int .i64 a].toArray 54 (0, 0))) rfl (by kernel_rfl) (by intro _ _ _ _ h; exact h) (fun _ h => h) (fun w' h => by rw [h.1]; exact hl.get 0 rfl) ?_
  refine q_build [.int .i64 0, .string ⟨#[]⟩, .int .i64 0, .slice none 0 0] rfl rfl (by kernel_rfl) ?_
  repeat' (first | refine q_mov ?_ | refine q_asg ?_ | refine q_fa ?_ | refine q_ext ?_ | refine q_binN ?_ | refine q_notd ?_ | refine q_notb ?_ | refine q_pick_t ?_ | refine q_pick_f ?_ | refine q_nilc ?_ | refine q_skip ?_ | refine q_lens ?_ | refine q_lenv ?_ | refine q_nil ?_ | refine q_ix (fun _ => ?_) | (refine q_bin ?_ ?_ <;> intro _ <;> try (exfalso; omega)) | refine q_late rfl rfl rfl rfl (fun w' hw' => r_load rfl rfl (cell_of_block hw' rfl)) ?_)
  intro w3 hw3
  replace hl := hl.heap hw3
  have hl : LH w (resK b2 b3 b4) w3 ((b5, _) :: resB b2 b3 b4 s kv e0 a0) := hl
  refine ops_tail rfl rfl ?_
  refine o_putN (us := [.int .i64 0, .string ⟨#[]⟩, .int .i64 0, .slice none 0 0]) hl rfl rfl rfl rfl rfl (.there (.there (.there (.here rfl rfl)))) ?_
  clear hl
  intro w4 hl
  refine o_nil ⟨hl.get 0 rfl, ?_⟩
  refine ops_tail rfl rfl ?_
  refine o_put1 (b := b3) (o := 0) (v := .int .i64 e) hl rfl rfl rfl ⟨rfl, rfl⟩ rfl (.there (.there (.here rfl rfl))) ?_
  clear hl
  intro w5 hl
  refine o_nil ⟨hl.get 0 rfl, ?_⟩
  refine ops_tail rfl rfl ?_
  refine o_put1 (b := b4) (o := 0) (v := .int .i64 a) hl rfl rfl rfl ⟨rfl, rfl⟩ rfl (.there (.here rfl rfl)) ?_
  clear hl
  intro w6 hl
  refine o_nil ⟨hl.get 0 rfl, ?_⟩
  refine ops_nil ⟨rfl, ?_⟩
  have h := hl.sub (List.sublist_cons_self _ _)
  show LH w (resK b2 b3 b4) w6 [_, _, (b2, .cells (snL nilS (.slice none 0 0)).toArray 29 (0, 0))]
  simp only [nilS, snL, Sn.op, Sn.name, Sn.day, str_nil]
  exact h
end Go.Proofs
