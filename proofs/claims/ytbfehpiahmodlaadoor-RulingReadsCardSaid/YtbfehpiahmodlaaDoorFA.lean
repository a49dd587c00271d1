/-
  Formulas: the iterator over all nodes.
-/
import Derived.Test.YtbfehpiahmodlaaDoorRA
import Derived.Test.YtbfehpiahmodlaaDoorLZ
set_option linter.unusedVariables false
set_option linter.unusedSimpArgs false
set_option linter.unnecessarySimpa false
set_option maxRecDepth 10000
namespace Go.Proofs
open Go Go.Pd Go.Lexs Go.Fin Go.Fo
attribute [local irreducible] OpsL W RetQ OpsQ OpsC

/-- A later world, of which those blocks may be other ones. -/
def Later (Fp Fp' : Nat → Prop) (w w' : World) : Prop := Upd Fp w w' ∧ ∀ b, Fp' b → Fp b ∨ w.heap.size ≤ b

theorem Later.refl (Fp : Nat → Prop) (w : World) : Later Fp Fp w w := ⟨.refl _ _, fun _ h => .inl h⟩
theorem Later.ext {Fp Fp' : Nat → Prop} {w w' w2 : World} (h : Later Fp Fp' w w') (e : Ext w' w2) : Later Fp Fp' w w2 := ⟨Upd.trans h.1 e fun _ _ h => h.elim, h.2⟩
theorem Later.trans {F1 F2 F3 : Nat → Prop} {w1 w2 w3 : World} (h : Later F1 F2 w1 w2) (h' : Later F2 F3 w2 w3) : Later F1 F3 w1 w3 :=
  ⟨Upd.trans h.1 h'.1 fun b hb hF => (h.2 b hF).elim id fun h => by omega, fun b hb => (h'.2 b hb).elim (h.2 b) fun h2 => .inr (Nat.le_trans h.1.size h2)⟩

/-- What a consumer of nodes does with one. -/
def YieldC (fv : Value) (tot : List Fm) (J : List Fm → (Nat → Prop) → World → Prop) (S : World → Prop) : Prop :=
  ∀ (p : List Fm) (x : Fm) (Fp : Nat → Prop) (w : World) (kv : Value), (∃ rest, tot = p ++ x :: rest) → J p Fp w → (∃ a c, kv = .slice a x.kids.length c) →
    CallV Tryd.prog fv #[.agg (fmL x kv).toArray] w (fun v w2 => (v = .bool true ∧ ∃ Fp', J (p ++ [x]) Fp' w2 ∧ Later Fp Fp' w w2) ∨ (v = .bool false ∧ S w2))

def visitV (by_ bv : Nat) : Value := .func (.func 54) #[] #[.pointer (some ⟨by_, 0, none⟩), .pointer (some ⟨bv, 0, none⟩)]

structure VisEnv (fv : Value) (by_ bv : Nat) (Fp : Nat → Prop) (w : World) : Prop where
  y : ¬ Fp by_
  v : ¬ Fp bv
  cy : w.cell? ⟨by_, 0, none⟩ = some fv
  cv : w.cell? ⟨bv, 0, none⟩ = some (visitV by_ bv)

theorem VisEnv.later {fv : Value} {by_ bv : Nat} {Fp Fp' : Nat → Prop} {w w' : World} (h : VisEnv fv by_ bv Fp w) (e : Later Fp Fp' w w') : VisEnv fv by_ bv Fp' w' := by
  have h1 := lt_of_cell h.cy
  have h2 := lt_of_cell h.cv
  exact ⟨fun hf => (e.2 _ hf).elim h.y fun h => by simp at h1; omega, fun hf => (e.2 _ hf).elim h.v fun h => by simp at h2; omega, e.1.cell h.y h.cy, e.1.cell h.v h.cv⟩

theorem preL_take_succ {ks : List Fm} {i : Nat} (hi : i < ks.length) : preL (ks.take (i + 1)) = preL (ks.take i) ++ pre ks[i] := by rw [List.take_succ_eq_append_getElem hi, preL_snoc]
theorem preL_split {ks : List Fm} {i : Nat} (hi : i < ks.length) : preL ks = preL (ks.take i) ++ (pre ks[i] ++ preL (ks.drop (i + 1))) := by
  have h1 := preL_app (ks.take (i + 1)) (ks.drop (i + 1))
  rw [List.take_append_drop, preL_take_succ hi] at h1
  rw [h1, List.append_assoc]

set_option maxHeartbeats 2000000 in
theorem visit_calls (fv : Value) (by_ bv : Nat) (tot : List Fm) (J : List Fm → (Nat → Prop) → World → Prop) (S : World → Prop)
    (hlt : ∀ p Fp w, J p Fp w → ∀ b, Fp b → b < w.heap.size) (hX : ∀ p Fp w w', J p Fp w → Ext w w' → J p Fp w') (hY : YieldC fv tot J S) :
    ∀ (f : Fm) (p : List Fm) (Fp G : Nat → Prop) (w : World) (kv : Value), KR w G f.kids kv → (∀ b, G b → ¬ Fp b ∧ b < w.heap.size) → VisEnv fv by_ bv Fp w → Short f.kids → (∃ rest, tot = p ++ (pre f ++ rest)) → J p Fp w →
      Calls Tryd.prog 54 #[.agg (fmL f kv).toArray, .pointer (some ⟨by_, 0, none⟩), .pointer (some ⟨bv, 0, none⟩)] w (fun e w' => ∃ v, e = .returned v ∧ ((v = .bool true ∧ ∃ Fp', J (p ++ pre f) Fp' w' ∧ Later Fp Fp' w w') ∨ (v = .bool false ∧ S w'))) := by
  refine Fm.ind ?_
  rintro f ih p Fp G w kv hk hG hE hs ⟨rest, htot⟩ hJ
  have hkv := hk.shape
  obtain ⟨a, c, rfl, -⟩ := hk.shape
  have hlen := hs.1
  have hlt0 := hlt _ _ _ hJ
  refine calls_of Tryd.func54 rfl Tryd.ntmps54 rfl ?_
  refine wk_seq fun K hK => ?_
  refine wk_reg ?_
  refine o_box (LH.start w (fun _ => False)) [.int .i64 (f).op, str (f).name, .int .i64 (f).cmp, .int .i64 (f).num, .slice a f.kids.length c] rfl rfl rfl ?_
  intro b1 w1 hb1 hl
  have he1 := hl.done
  have hE1 := hE.later ((Later.refl Fp w).ext he1)
  repeat' (first | refine a_mov ?_ | refine a_asg ?_ | refine a_binN ?_ | refine a_notd ?_ | refine a_notb ?_ | refine a_nilc ?_ | refine a_fa ?_ | refine a_ext ?_ | refine a_lenv ?_ | refine a_lens ?_ | refine a_pick_t ?_ | refine a_pick_f ?_ | refine a_not ?_ | refine a_nilf ?_ | (refine o_nil (hK _ _ ?_); clear hK K) | refine wk_reg ?_ | refine wk_seq fun K hK => ?_ | (refine wk_skip (hK _ _ ?_); clear hK K) | (refine wk_label (hK _ _ ?_); clear hK K) | refine wk_scope ?_ | refine wk_block ?_ | refine wk_cond_t rfl ?_ | refine wk_cond_f rfl ?_ | (refine wk_exit ?_; (repeat (refine blockK_other rfl ?_)); refine blockK_same ?_; try ((repeat ((fail_if_success (refine hK _ _ ?_)); clear hK K)); refine hK _ _ ?_; clear hK K)) | (refine a_bin ?_ ?_ <;> intro _ <;> try (exfalso; omega)) | refine a_ld hl ?_ | (refine a_st hl ?_; clear hl; intro _ hl) | refine a_ix (fun _ => ?_) | refine o_load rfl rfl rfl hE1.cy ?_ | refine a_all (hl.rowL (vs := [.int .i64 (f).op, str (f).name, .int .i64 (f).cmp, .int .i64 (f).num, .slice a f.kids.length c]) 0 0 5 rfl) ?_)
  refine o_callv (fv := fv) (args := #[.agg ([.int .i64 (f).op, str (f).name, .int .i64 (f).cmp, .int .i64 (f).num, .slice a f.kids.length c] : List Value).toArray]) rfl rfl rfl (hY p f Fp w1 _ ⟨preL f.kids ++ rest, by rw [htot, pre_eq]; simp⟩ (hX _ _ _ _ hJ he1) ⟨a, c, rfl⟩) ?_
  rintro v w2 (⟨rfl, Fp2, hJ2, hL2⟩ | ⟨rfl, hS⟩)
  rotate_left
  · repeat' (first | refine a_mov ?_ | refine a_asg ?_ | refine a_binN ?_ | refine a_notd ?_ | refine a_notb ?_ | refine a_nilc ?_ | refine a_fa ?_ | refine a_ext ?_ | refine a_lenv ?_ | refine a_lens ?_ | refine a_pick_t ?_ | refine a_pick_f ?_ | refine a_not ?_ | refine a_nilf ?_ | (refine o_nil (hK _ _ ?_); clear hK K) | refine wk_reg ?_ | refine wk_seq fun K hK => ?_ | (refine wk_skip (hK _ _ ?_); clear hK K) | (refine wk_label (hK _ _ ?_); clear hK K) | refine wk_scope ?_ | refine wk_block ?_ | refine wk_cond_t rfl ?_ | refine wk_cond_f rfl ?_ | (refine wk_exit ?_; (repeat (refine blockK_other rfl ?_)); refine blockK_same ?_; try ((repeat ((fail_if_success (refine hK _ _ ?_)); clear hK K)); refine hK _ _ ?_; clear hK K)) | (refine a_bin ?_ ?_ <;> intro _ <;> try (exfalso; omega)) | refine a_ld hl ?_ | (refine a_st hl ?_; clear hl; intro _ hl) | refine a_ix (fun _ => ?_) | fail)
    refine wk_ret (retQ_tmp1 Tryd.results54 (by decide) rfl (by conv => lhs; whnf) ?_)
    exact .inr ⟨rfl, hS⟩
  have hb1F : ¬ Fp b1 := fun h => by have := hlt0 b1 h; omega
  have hbk : w2.heap[b1]? = some (Obj.cells ([.int .i64 (f).op, str (f).name, .int .i64 (f).cmp, .int .i64 (f).num, .slice a f.kids.length c] : List Value).toArray 25 (0, 0)) := (hL2.1.same b1 (hl.lt (p := (b1, _)) List.mem_cons_self) hb1F).trans (hl.get 0 rfl)
  have hL : Later Fp Fp2 w w2 := Later.trans ((Later.refl Fp w).ext he1) hL2
  clear hL2
  repeat' (first | refine a_mov ?_ | refine a_asg ?_ | refine a_binN ?_ | refine a_notd ?_ | refine a_notb ?_ | refine a_nilc ?_ | refine a_fa ?_ | refine a_ext ?_ | refine a_lenv ?_ | refine a_lens ?_ | refine a_pick_t ?_ | refine a_pick_f ?_ | refine a_not ?_ | refine a_nilf ?_ | (refine o_nil (hK _ _ ?_); clear hK K) | refine wk_reg ?_ | refine wk_seq fun K hK => ?_ | (refine wk_skip (hK _ _ ?_); clear hK K) | (refine wk_label (hK _ _ ?_); clear hK K) | refine wk_scope ?_ | refine wk_block ?_ | refine wk_cond_t rfl ?_ | refine wk_cond_f rfl ?_ | (refine wk_exit ?_; (repeat (refine blockK_other rfl ?_)); refine blockK_same ?_; try ((repeat ((fail_if_success (refine hK _ _ ?_)); clear hK K)); refine hK _ _ ?_; clear hK K)) | (refine a_bin ?_ ?_ <;> intro _ <;> try (exfalso; omega)) | refine a_ld hl ?_ | (refine a_st hl ?_; clear hl; intro _ hl) | refine a_ix (fun _ => ?_) | refine o_load rfl rfl rfl (cell_of_block hbk rfl) ?_)
  refine wk_loopH [] rfl (fun i : Nat => [(1, .pointer (some ⟨by_, 0, none⟩)), (2, .pointer (some ⟨bv, 0, none⟩)), (12, .slice a f.kids.length c), (13, .int .i64 (f.kids.length : Int)), (14, .int .i64 (i : Int))]) (fun i w' => i ≤ f.kids.length ∧ ∃ Fp', J (p ++ f :: preL (f.kids.take i)) Fp' w' ∧ Later Fp Fp' w w') (fun i => f.kids.length - i) 0 ⟨rfl, rfl, rfl, rfl, rfl, trivial⟩ ⟨by omega, Fp2, hJ2, hL⟩ ?_
  clear hbk hJ2 hL hl hE1 he1 w2 w1
  rintro i t w1 ⟨hi, Fp1, hJ1, hL1⟩
  by_cases hi1 : i < f.kids.length
  · have hG1 : ∀ b, G b → ¬ Fp1 b ∧ b < w1.heap.size := fun b hb => ⟨fun h => (hL1.2 b h).elim (hG b hb).1 fun h => by have := (hG b hb).2; omega, Nat.lt_of_lt_of_le (hG b hb).2 hL1.1.size⟩
    have hE1 := hE.later hL1
    obtain ⟨bk, ok, kv, hp, hr, hkk⟩ := (hk.upd hL1.1 (fun b hb => (hG b hb).1)).at hi1
    have hsplit := preL_split hi1
    have htk := preL_take_succ hi1
    have hsk := hs.kid hi1
    have ihk := ih f.kids[i] (List.getElem_mem hi1)
    have hone := fmL_one hkk
    rw [pre_eq f, hsplit] at htot
    generalize f.kids[i] = k at *
    repeat' (first | refine a_mov ?_ | refine a_asg ?_ | refine a_binN ?_ | refine a_notd ?_ | refine a_notb ?_ | refine a_nilc ?_ | refine a_fa ?_ | refine a_ext ?_ | refine a_lenv ?_ | refine a_lens ?_ | refine a_pick_t ?_ | refine a_pick_f ?_ | refine a_not ?_ | refine a_nilf ?_ | (refine o_nil (hK _ _ ?_); clear hK K) | refine wk_reg ?_ | refine wk_seq fun K hK => ?_ | (refine wk_skip (hK _ _ ?_); clear hK K) | (refine wk_label (hK _ _ ?_); clear hK K) | refine wk_scope ?_ | refine wk_block ?_ | refine wk_cond_t rfl ?_ | refine wk_cond_f rfl ?_ | (refine wk_exit ?_; (repeat (refine blockK_other rfl ?_)); refine blockK_same ?_; try ((repeat ((fail_if_success (refine hK _ _ ?_)); clear hK K)); refine hK _ _ ?_; clear hK K)) | (refine a_bin ?_ ?_ <;> intro _ <;> try (exfalso; omega)) | refine a_ld hl ?_ | (refine a_st hl ?_; clear hl; intro _ hl) | refine a_ix (fun _ => ?_) | refine a_idx (c := 5) i hp ?_ | refine a_all hr ?_)
    refine o_alloc (LH.start w1 (fun _ => False)) [.int .i64 0, .string ⟨#[]⟩, .int .i64 0, .int .i64 0, .slice none 0 0] rfl rfl ?_
    intro b2 w2 hb2 hl
    refine o_putN (us := [.int .i64 (k).op, str (k).name, .int .i64 (k).cmp, .int .i64 (k).num, kv]) hl rfl rfl rfl hone rfl (.all rfl rfl) ?_
    clear hl
    intro w3 hl
    have he3 := hl.done
    have hE3 := hE1.later ((Later.refl Fp1 w1).ext he3)
    repeat' (first | refine a_mov ?_ | refine a_asg ?_ | refine a_binN ?_ | refine a_notd ?_ | refine a_notb ?_ | refine a_nilc ?_ | refine a_fa ?_ | refine a_ext ?_ | refine a_lenv ?_ | refine a_lens ?_ | refine a_pick_t ?_ | refine a_pick_f ?_ | refine a_not ?_ | refine a_nilf ?_ | (refine o_nil (hK _ _ ?_); clear hK K) | refine wk_reg ?_ | refine wk_seq fun K hK => ?_ | (refine wk_skip (hK _ _ ?_); clear hK K) | (refine wk_label (hK _ _ ?_); clear hK K) | refine wk_scope ?_ | refine wk_block ?_ | refine wk_cond_t rfl ?_ | refine wk_cond_f rfl ?_ | (refine wk_exit ?_; (repeat (refine blockK_other rfl ?_)); refine blockK_same ?_; try ((repeat ((fail_if_success (refine hK _ _ ?_)); clear hK K)); refine hK _ _ ?_; clear hK K)) | (refine a_bin ?_ ?_ <;> intro _ <;> try (exfalso; omega)) | refine a_ld hl ?_ | (refine a_st hl ?_; clear hl; intro _ hl) | refine a_ix (fun _ => ?_) | refine o_load rfl rfl rfl hE3.cv ?_ | refine a_all (hl.rowL (vs := [.int .i64 (k).op, str (k).name, .int .i64 (k).cmp, .int .i64 (k).num, kv]) 0 0 5 rfl) ?_)
    refine a_fc #[.agg ([.int .i64 (k).op, str (k).name, .int .i64 (k).cmp, .int .i64 (k).num, kv] : List Value).toArray] #[.pointer (some ⟨by_, 0, none⟩), .pointer (some ⟨bv, 0, none⟩)] #[.agg (fmL k kv).toArray, .pointer (some ⟨by_, 0, none⟩), .pointer (some ⟨bv, 0, none⟩)] rfl (ihk (p ++ f :: preL (f.kids.take i)) Fp1 G w3 kv (hkk.ext he3) (fun b hb => ⟨(hG1 b hb).1, Nat.lt_of_lt_of_le (hG1 b hb).2 he3.size⟩) hE3 hsk ⟨preL (f.kids.drop (i + 1)) ++ rest, by rw [htot]; simp⟩ (hX _ _ _ _ hJ1 he3)) ?_
    rintro v w4 (⟨rfl, Fp4, hJ4, hL4⟩ | ⟨rfl, hS⟩)
    · repeat' (first | refine a_mov ?_ | refine a_asg ?_ | refine a_binN ?_ | refine a_notd ?_ | refine a_notb ?_ | refine a_nilc ?_ | refine a_fa ?_ | refine a_ext ?_ | refine a_lenv ?_ | refine a_lens ?_ | refine a_pick_t ?_ | refine a_pick_f ?_ | refine a_not ?_ | refine a_nilf ?_ | (refine o_nil (hK _ _ ?_); clear hK K) | refine wk_reg ?_ | refine wk_seq fun K hK => ?_ | (refine wk_skip (hK _ _ ?_); clear hK K) | (refine wk_label (hK _ _ ?_); clear hK K) | refine wk_scope ?_ | refine wk_block ?_ | refine wk_cond_t rfl ?_ | refine wk_cond_f rfl ?_ | (refine wk_exit ?_; (repeat (refine blockK_other rfl ?_)); refine blockK_same ?_; try ((repeat ((fail_if_success (refine hK _ _ ?_)); clear hK K)); refine hK _ _ ?_; clear hK K)) | (refine a_bin ?_ ?_ <;> intro _ <;> try (exfalso; omega)) | refine a_ld hl ?_ | (refine a_st hl ?_; clear hl; intro _ hl) | refine a_ix (fun _ => ?_) | fail)
      refine o_nil ⟨i + 1, ⟨rfl, rfl, rfl, rfl, rfl, trivial⟩, rfl, ⟨hi1, Fp4, ?_, hL1.trans (Later.trans ((Later.refl Fp1 w1).ext he3) hL4)⟩, by omega⟩
      rw [htk, ← List.cons_append, ← List.append_assoc]
      exact hJ4
    · repeat' (first | refine a_mov ?_ | refine a_asg ?_ | refine a_binN ?_ | refine a_notd ?_ | refine a_notb ?_ | refine a_nilc ?_ | refine a_fa ?_ | refine a_ext ?_ | refine a_lenv ?_ | refine a_lens ?_ | refine a_pick_t ?_ | refine a_pick_f ?_ | refine a_not ?_ | refine a_nilf ?_ | (refine o_nil (hK _ _ ?_); clear hK K) | refine wk_reg ?_ | refine wk_seq fun K hK => ?_ | (refine wk_skip (hK _ _ ?_); clear hK K) | (refine wk_label (hK _ _ ?_); clear hK K) | refine wk_scope ?_ | refine wk_block ?_ | refine wk_cond_t rfl ?_ | refine wk_cond_f rfl ?_ | (refine wk_exit ?_; (repeat (refine blockK_other rfl ?_)); refine blockK_same ?_; try ((repeat ((fail_if_success (refine hK _ _ ?_)); clear hK K)); refine hK _ _ ?_; clear hK K)) | (refine a_bin ?_ ?_ <;> intro _ <;> try (exfalso; omega)) | refine a_ld hl ?_ | (refine a_st hl ?_; clear hl; intro _ hl) | refine a_ix (fun _ => ?_) | fail)
      refine wk_ret (retQ_tmp1 Tryd.results54 (by decide) rfl (by conv => lhs; whnf) ?_)
      exact .inr ⟨rfl, hS⟩
  · have hke : i = f.kids.length := by omega
    rw [hke, List.take_of_length_le (Nat.le_refl _)] at hJ1
    repeat' (first | refine a_mov ?_ | refine a_asg ?_ | refine a_binN ?_ | refine a_notd ?_ | refine a_notb ?_ | refine a_nilc ?_ | refine a_fa ?_ | refine a_ext ?_ | refine a_lenv ?_ | refine a_lens ?_ | refine a_pick_t ?_ | refine a_pick_f ?_ | refine a_not ?_ | refine a_nilf ?_ | (refine o_nil (hK _ _ ?_); clear hK K) | refine wk_reg ?_ | refine wk_seq fun K hK => ?_ | (refine wk_skip (hK _ _ ?_); clear hK K) | (refine wk_label (hK _ _ ?_); clear hK K) | refine wk_scope ?_ | refine wk_block ?_ | refine wk_cond_t rfl ?_ | refine wk_cond_f rfl ?_ | (refine wk_exit ?_; (repeat (refine blockK_other rfl ?_)); refine blockK_same ?_; try ((repeat ((fail_if_success (refine hK _ _ ?_)); clear hK K)); refine hK _ _ ?_; clear hK K)) | (refine a_bin ?_ ?_ <;> intro _ <;> try (exfalso; omega)) | refine a_ld hl ?_ | (refine a_st hl ?_; clear hl; intro _ hl) | refine a_ix (fun _ => ?_) | fail)
    refine wk_ret (retQ_tmp1 Tryd.results54 (by decide) rfl (by conv => lhs; whnf) ?_)
    exact .inl ⟨rfl, Fp1, by rw [pre_eq]; exact hJ1, hL1⟩
end Go.Proofs

/-
  Formulas: nodes, lists of texts, Terms.
-/
set_option linter.unusedVariables false
set_option linter.unusedSimpArgs false
set_option linter.unnecessarySimpa false
set_option maxRecDepth 10000
namespace Go.Proofs
open Go Go.Pd Go.Lexs Go.Fin Go.Fo
attribute [local irreducible] OpsL W RetQ OpsQ OpsC

theorem nodes_calls (f : Fm) (kv : Value) (w : World) (hkv : ∃ a c, kv = .slice a f.kids.length c) : Calls Tryd.prog 41 #[.agg (fmL f kv).toArray] w (fun e w' => ∃ v, e = .returned v ∧ ∃ b, v = .func (.func 53) #[] #[.pointer (some ⟨b, 0, none⟩)] ∧ LH w (fun _ => False) w' [(b, Obj.cells ([.int .i64 (f).op, str (f).name, .int .i64 (f).cmp, .int .i64 (f).num, kv] : List Value).toArray 25 (0, 0))]) := by
  obtain ⟨a, c, rfl⟩ := hkv
  refine calls_of Tryd.func41 rfl Tryd.ntmps41 rfl ?_
  refine wk_seq fun K hK => ?_
  refine wk_reg ?_
  refine o_box (LH.start w (fun _ => False)) [.int .i64 (f).op, str (f).name, .int .i64 (f).cmp, .int .i64 (f).num, .slice a f.kids.length c] rfl rfl rfl ?_
  intro b1 w1 hb1 hl
  repeat' (first | refine a_mov ?_ | refine a_asg ?_ | refine a_binN ?_ | refine a_notd ?_ | refine a_notb ?_ | refine a_nilc ?_ | refine a_fa ?_ | refine a_ext ?_ | refine a_lenv ?_ | refine a_lens ?_ | refine a_pick_t ?_ | refine a_pick_f ?_ | refine a_not ?_ | refine a_nilf ?_ | (refine o_nil (hK _ _ ?_); clear hK K) | refine wk_reg ?_ | refine wk_seq fun K hK => ?_ | (refine wk_skip (hK _ _ ?_); clear hK K) | (refine wk_label (hK _ _ ?_); clear hK K) | refine wk_scope ?_ | refine wk_block ?_ | refine wk_cond_t rfl ?_ | refine wk_cond_f rfl ?_ | (refine wk_exit ?_; (repeat (refine blockK_other rfl ?_)); refine blockK_same ?_; try ((repeat ((fail_if_success (refine hK _ _ ?_)); clear hK K)); refine hK _ _ ?_; clear hK K)) | (refine a_bin ?_ ?_ <;> intro _ <;> try (exfalso; omega)) | refine a_ld hl ?_ | (refine a_st hl ?_; clear hl; intro _ hl) | refine a_ix (fun _ => ?_) | fail)
  refine o_mf [] [.pointer (some ⟨b1, 0, none⟩)] rfl rfl rfl ?_
  repeat' (first | refine a_mov ?_ | refine a_asg ?_ | refine a_binN ?_ | refine a_notd ?_ | refine a_notb ?_ | refine a_nilc ?_ | refine a_fa ?_ | refine a_ext ?_ | refine a_lenv ?_ | refine a_lens ?_ | refine a_pick_t ?_ | refine a_pick_f ?_ | refine a_not ?_ | refine a_nilf ?_ | (refine o_nil (hK _ _ ?_); clear hK K) | refine wk_reg ?_ | refine wk_seq fun K hK => ?_ | (refine wk_skip (hK _ _ ?_); clear hK K) | (refine wk_label (hK _ _ ?_); clear hK K) | refine wk_scope ?_ | refine wk_block ?_ | refine wk_cond_t rfl ?_ | refine wk_cond_f rfl ?_ | (refine wk_exit ?_; (repeat (refine blockK_other rfl ?_)); refine blockK_same ?_; try ((repeat ((fail_if_success (refine hK _ _ ?_)); clear hK K)); refine hK _ _ ?_; clear hK K)) | (refine a_bin ?_ ?_ <;> intro _ <;> try (exfalso; omega)) | refine a_ld hl ?_ | (refine a_st hl ?_; clear hl; intro _ hl) | refine a_ix (fun _ => ?_) | fail)
  refine wk_ret (retQ_tmp1 Tryd.results41 (by decide) rfl (by conv => lhs; whnf) ?_)
  exact ⟨b1, rfl, hl⟩

set_option maxHeartbeats 1000000 in
theorem nodes1_calls (fv : Value) (f : Fm) (kv : Value) (b0 : Nat) (J : List Fm → (Nat → Prop) → World → Prop) (S : World → Prop)
    (hlt : ∀ p Fp w, J p Fp w → ∀ b, Fp b → b < w.heap.size) (hX : ∀ p Fp w w', J p Fp w → Ext w w' → J p Fp w') (hY : YieldC fv (pre f) J S)
    (Fp G : Nat → Prop) (w : World) (hfv : Cell1 fv) (hk : KR w G f.kids kv) (hG : ∀ b, G b → ¬ Fp b ∧ b < w.heap.size) (hs : Short f.kids) (h0 : Row w b0 0 (fmL f kv)) (hJ : J [] Fp w) :
    Calls Tryd.prog 53 #[fv, .pointer (some ⟨b0, 0, none⟩)] w (fun e w' => ∃ v, e = .returned v ∧ ((∃ Fp', J (pre f) Fp' w' ∧ Later Fp Fp' w w') ∨ S w')) := by
  obtain ⟨a, c, rfl, -⟩ := hk.shape
  have hlt0 := hlt _ _ _ hJ
  refine calls_of Tryd.func53 rfl Tryd.ntmps53 rfl ?_
  refine wk_seq fun K hK => ?_
  refine wk_reg ?_
  refine o_box (LH.start w (fun _ => False)) [fv] rfl rfl hfv.1 ?_
  intro by_ w1 hby hl
  repeat' (first | refine a_mov ?_ | refine a_asg ?_ | refine a_binN ?_ | refine a_notd ?_ | refine a_notb ?_ | refine a_nilc ?_ | refine a_fa ?_ | refine a_ext ?_ | refine a_lenv ?_ | refine a_lens ?_ | refine a_pick_t ?_ | refine a_pick_f ?_ | refine a_not ?_ | refine a_nilf ?_ | (refine o_nil (hK _ _ ?_); clear hK K) | refine wk_reg ?_ | refine wk_seq fun K hK => ?_ | (refine wk_skip (hK _ _ ?_); clear hK K) | (refine wk_label (hK _ _ ?_); clear hK K) | refine wk_scope ?_ | refine wk_block ?_ | refine wk_cond_t rfl ?_ | refine wk_cond_f rfl ?_ | (refine wk_exit ?_; (repeat (refine blockK_other rfl ?_)); refine blockK_same ?_; try ((repeat ((fail_if_success (refine hK _ _ ?_)); clear hK K)); refine hK _ _ ?_; clear hK K)) | (refine a_bin ?_ ?_ <;> intro _ <;> try (exfalso; omega)) | refine a_ld hl ?_ | (refine a_st hl ?_; clear hl; intro _ hl) | refine a_ix (fun _ => ?_) | fail)
  refine o_alloc hl [.nilFunc] rfl rfl ?_
  clear hl
  intro bv w2 hbv hl
  repeat' (first | refine a_mov ?_ | refine a_asg ?_ | refine a_binN ?_ | refine a_notd ?_ | refine a_notb ?_ | refine a_nilc ?_ | refine a_fa ?_ | refine a_ext ?_ | refine a_lenv ?_ | refine a_lens ?_ | refine a_pick_t ?_ | refine a_pick_f ?_ | refine a_not ?_ | refine a_nilf ?_ | (refine o_nil (hK _ _ ?_); clear hK K) | refine wk_reg ?_ | refine wk_seq fun K hK => ?_ | (refine wk_skip (hK _ _ ?_); clear hK K) | (refine wk_label (hK _ _ ?_); clear hK K) | refine wk_scope ?_ | refine wk_block ?_ | refine wk_cond_t rfl ?_ | refine wk_cond_f rfl ?_ | (refine wk_exit ?_; (repeat (refine blockK_other rfl ?_)); refine blockK_same ?_; try ((repeat ((fail_if_success (refine hK _ _ ?_)); clear hK K)); refine hK _ _ ?_; clear hK K)) | (refine a_bin ?_ ?_ <;> intro _ <;> try (exfalso; omega)) | refine a_ld hl ?_ | (refine a_st hl ?_; clear hl; intro _ hl) | refine a_ix (fun _ => ?_) | fail)
  refine o_mf [] [.pointer (some ⟨by_, 0, none⟩), .pointer (some ⟨bv, 0, none⟩)] rfl rfl rfl ?_
  refine o_put1 hl rfl rfl (by conv => lhs; whnf) ⟨rfl, rfl⟩ rfl (.here rfl rfl) ?_
  clear hl
  intro w3 hl
  have he := hl.done
  have hE : VisEnv fv by_ bv Fp w3 := ⟨fun h => by have := hlt0 _ h; omega, fun h => by have := hlt0 _ h; omega, hl.cell 1 rfl rfl, hl.cell 0 rfl rfl⟩
  repeat' (first | refine a_mov ?_ | refine a_asg ?_ | refine a_binN ?_ | refine a_notd ?_ | refine a_notb ?_ | refine a_nilc ?_ | refine a_fa ?_ | refine a_ext ?_ | refine a_lenv ?_ | refine a_lens ?_ | refine a_pick_t ?_ | refine a_pick_f ?_ | refine a_not ?_ | refine a_nilf ?_ | (refine o_nil (hK _ _ ?_); clear hK K) | refine wk_reg ?_ | refine wk_seq fun K hK => ?_ | (refine wk_skip (hK _ _ ?_); clear hK K) | (refine wk_label (hK _ _ ?_); clear hK K) | refine wk_scope ?_ | refine wk_block ?_ | refine wk_cond_t rfl ?_ | refine wk_cond_f rfl ?_ | (refine wk_exit ?_; (repeat (refine blockK_other rfl ?_)); refine blockK_same ?_; try ((repeat ((fail_if_success (refine hK _ _ ?_)); clear hK K)); refine hK _ _ ?_; clear hK K)) | (refine a_bin ?_ ?_ <;> intro _ <;> try (exfalso; omega)) | refine a_ld hl ?_ | (refine a_st hl ?_; clear hl; intro _ hl) | refine a_ix (fun _ => ?_) | refine o_load rfl rfl rfl hE.cv ?_ | refine a_all (vs := [.int .i64 (f).op, str (f).name, .int .i64 (f).cmp, .int .i64 (f).num, .slice a f.kids.length c]) (h0.ext he) ?_)
  refine a_fc #[.agg ([.int .i64 (f).op, str (f).name, .int .i64 (f).cmp, .int .i64 (f).num, .slice a f.kids.length c] : List Value).toArray] #[.pointer (some ⟨by_, 0, none⟩), .pointer (some ⟨bv, 0, none⟩)] #[.agg (fmL f (.slice a f.kids.length c)).toArray, .pointer (some ⟨by_, 0, none⟩), .pointer (some ⟨bv, 0, none⟩)] rfl (visit_calls fv by_ bv (pre f) J S hlt hX hY f [] Fp G w3 _ (hk.ext he) (fun b hb => ⟨(hG b hb).1, Nat.lt_of_lt_of_le (hG b hb).2 he.size⟩) hE hs ⟨[], by simp⟩ (hX _ _ _ _ hJ he)) ?_
  rintro v w4 (⟨rfl, Fp4, hJ4, hL4⟩ | ⟨rfl, hS⟩)
  · repeat' (first | refine a_mov ?_ | refine a_asg ?_ | refine a_binN ?_ | refine a_notd ?_ | refine a_notb ?_ | refine a_nilc ?_ | refine a_fa ?_ | refine a_ext ?_ | refine a_lenv ?_ | refine a_lens ?_ | refine a_pick_t ?_ | refine a_pick_f ?_ | refine a_not ?_ | refine a_nilf ?_ | (refine o_nil (hK _ _ ?_); clear hK K) | refine wk_reg ?_ | refine wk_seq fun K hK => ?_ | (refine wk_skip (hK _ _ ?_); clear hK K) | (refine wk_label (hK _ _ ?_); clear hK K) | refine wk_scope ?_ | refine wk_block ?_ | refine wk_cond_t rfl ?_ | refine wk_cond_f rfl ?_ | (refine wk_exit ?_; (repeat (refine blockK_other rfl ?_)); refine blockK_same ?_; try ((repeat ((fail_if_success (refine hK _ _ ?_)); clear hK K)); refine hK _ _ ?_; clear hK K)) | (refine a_bin ?_ ?_ <;> intro _ <;> try (exfalso; omega)) | refine a_ld hl ?_ | (refine a_st hl ?_; clear hl; intro _ hl) | refine a_ix (fun _ => ?_) | fail)
    exact o_nil (retQ_tmp0 rfl rfl (.inl ⟨Fp4, hJ4, Later.trans ((Later.refl Fp w).ext he) hL4⟩))
  · repeat' (first | refine a_mov ?_ | refine a_asg ?_ | refine a_binN ?_ | refine a_notd ?_ | refine a_notb ?_ | refine a_nilc ?_ | refine a_fa ?_ | refine a_ext ?_ | refine a_lenv ?_ | refine a_lens ?_ | refine a_pick_t ?_ | refine a_pick_f ?_ | refine a_not ?_ | refine a_nilf ?_ | (refine o_nil (hK _ _ ?_); clear hK K) | refine wk_reg ?_ | refine wk_seq fun K hK => ?_ | (refine wk_skip (hK _ _ ?_); clear hK K) | (refine wk_label (hK _ _ ?_); clear hK K) | refine wk_scope ?_ | refine wk_block ?_ | refine wk_cond_t rfl ?_ | refine wk_cond_f rfl ?_ | (refine wk_exit ?_; (repeat (refine blockK_other rfl ?_)); refine blockK_same ?_; try ((repeat ((fail_if_success (refine hK _ _ ?_)); clear hK K)); refine hK _ _ ?_; clear hK K)) | (refine a_bin ?_ ?_ <;> intro _ <;> try (exfalso; omega)) | refine a_ld hl ?_ | (refine a_st hl ?_; clear hl; intro _ hl) | refine a_ix (fun _ => ?_) | fail)
    exact o_nil (retQ_tmp0 rfl rfl (.inr hS))

/-! ### Lists of texts -/
def strL (s : List UInt8) : List Value := [str s]
theorem strL_len (s : List UInt8) : (strL s).length = 1 := rfl
def strsL (T : List (List UInt8)) : List Value := T.flatMap strL
theorem strsL_len (T : List (List UInt8)) : (strsL T).length = T.length * 1 := flat_length strL_len T
theorem strL_one (s : List UInt8) : (strL s).all Value.oneCell' = true := by simp only [strL, str_eq]; rfl

theorem Sl.text {w : World} {a : Option Addr} {m c : Nat} {T : List (List UInt8)} (hv : Sl w (.slice a m c) 1 (strsL T)) (hm : m = T.length) {k : Nat} (hk : k < T.length) : ∃ b o, a = some ⟨b, o, none⟩ ∧ Row w b (o + k * 1) [str T[k]] := by
  subst hm
  obtain ⟨b, o, hp, hr⟩ := hv.at (strsL_len T) (by omega) (by omega)
  exact ⟨b, o, hp, hr.elem strL_len (k := k) (t := T[k]) (by simp)⟩

theorem contains_take {T : List (List UInt8)} {s : List UInt8} (h : ∀ j (hj : j < T.length), T[j] ≠ s) : T.contains s = false := by
  rw [← Bool.not_eq_true, List.contains_iff_mem]
  intro hm
  obtain ⟨j, hj, he⟩ := List.mem_iff_getElem.1 hm
  exact h j hj he

theorem index_calls {T : List (List UInt8)} {v : Value} {w : World} (hv : Sl w v 1 (strsL T)) (hlen : T.length ≤ 9223372036854775806) (s : List UInt8) :
    Calls Tryd.prog 43 #[v, str s] w (fun e w' => ∃ x, e = .returned x ∧ (∃ z : Int, x = .int .i64 z ∧ (0 ≤ z ↔ T.contains s = true)) ∧ w' = w) := by
  obtain ⟨pa, ca, rfl, -⟩ := hv.shape (strsL_len T) (by omega)
  refine calls_of Tryd.func43 rfl Tryd.ntmps43 rfl ?_
  repeat' (first | refine a_mov ?_ | refine a_asg ?_ | refine a_binN ?_ | refine a_notd ?_ | refine a_notb ?_ | refine a_nilc ?_ | refine a_fa ?_ | refine a_ext ?_ | refine a_lenv ?_ | refine a_lens ?_ | refine a_pick_t ?_ | refine a_pick_f ?_ | refine a_not ?_ | refine a_nilf ?_ | (refine o_nil (hK _ _ ?_); clear hK K) | refine wk_reg ?_ | refine wk_seq fun K hK => ?_ | (refine wk_skip (hK _ _ ?_); clear hK K) | (refine wk_label (hK _ _ ?_); clear hK K) | refine wk_scope ?_ | refine wk_block ?_ | refine wk_cond_t rfl ?_ | refine wk_cond_f rfl ?_ | (refine wk_exit ?_; (repeat (refine blockK_other rfl ?_)); refine blockK_same ?_; try ((repeat ((fail_if_success (refine hK _ _ ?_)); clear hK K)); refine hK _ _ ?_; clear hK K)) | (refine a_bin ?_ ?_ <;> intro _ <;> try (exfalso; omega)) | refine a_ld hl ?_ | (refine a_st hl ?_; clear hl; intro _ hl) | refine a_ix (fun _ => ?_) | fail)
  refine wk_loopH [] rfl (fun k : Nat => [(0, .slice pa T.length ca), (1, str s), (7, .int .i64 (T.length : Int)), (8, .int .i64 (k : Int))]) (fun k w' => (k ≤ T.length ∧ ∀ j (hj : j < T.length), j < k → T[j] ≠ s) ∧ w' = w) (fun k => T.length - k) 0 ⟨rfl, rfl, rfl, rfl, trivial⟩ ⟨⟨by omega, fun j hj h => by omega⟩, rfl⟩ ?_
  rintro k t w2 ⟨⟨hk, hno⟩, hw⟩
  obtain rfl : w2 = w := hw
  by_cases hk1 : k < T.length
  · obtain ⟨b, o, hp, hr⟩ := Sl.text hv rfl hk1
    repeat' (first | refine a_mov ?_ | refine a_asg ?_ | refine a_binN ?_ | refine a_notd ?_ | refine a_notb ?_ | refine a_nilc ?_ | refine a_fa ?_ | refine a_ext ?_ | refine a_lenv ?_ | refine a_lens ?_ | refine a_pick_t ?_ | refine a_pick_f ?_ | refine a_not ?_ | refine a_nilf ?_ | (refine o_nil (hK _ _ ?_); clear hK K) | refine wk_reg ?_ | refine wk_seq fun K hK => ?_ | (refine wk_skip (hK _ _ ?_); clear hK K) | (refine wk_label (hK _ _ ?_); clear hK K) | refine wk_scope ?_ | refine wk_block ?_ | refine wk_cond_t rfl ?_ | refine wk_cond_f rfl ?_ | (refine wk_exit ?_; (repeat (refine blockK_other rfl ?_)); refine blockK_same ?_; try ((repeat ((fail_if_success (refine hK _ _ ?_)); clear hK K)); refine hK _ _ ?_; clear hK K)) | (refine a_bin ?_ ?_ <;> intro _ <;> try (exfalso; omega)) | refine a_ld hl ?_ | (refine a_st hl ?_; clear hl; intro _ hl) | refine a_ix (fun _ => ?_) | refine a_idx (c := 1) k hp ?_ | refine a_row hr ?_)
    refine o_eqsT (a := s) (b := T[k]) rfl rfl rfl ?_ ?_
    · intro hid
      repeat' (first | refine a_mov ?_ | refine a_asg ?_ | refine a_binN ?_ | refine a_notd ?_ | refine a_notb ?_ | refine a_nilc ?_ | refine a_fa ?_ | refine a_ext ?_ | refine a_lenv ?_ | refine a_lens ?_ | refine a_pick_t ?_ | refine a_pick_f ?_ | refine a_not ?_ | refine a_nilf ?_ | (refine o_nil (hK _ _ ?_); clear hK K) | refine wk_reg ?_ | refine wk_seq fun K hK => ?_ | (refine wk_skip (hK _ _ ?_); clear hK K) | (refine wk_label (hK _ _ ?_); clear hK K) | refine wk_scope ?_ | refine wk_block ?_ | refine wk_cond_t rfl ?_ | refine wk_cond_f rfl ?_ | (refine wk_exit ?_; (repeat (refine blockK_other rfl ?_)); refine blockK_same ?_; try ((repeat ((fail_if_success (refine hK _ _ ?_)); clear hK K)); refine hK _ _ ?_; clear hK K)) | (refine a_bin ?_ ?_ <;> intro _ <;> try (exfalso; omega)) | refine a_ld hl ?_ | (refine a_st hl ?_; clear hl; intro _ hl) | refine a_ix (fun _ => ?_) | fail)
      refine wk_ret (retQ_tmp1 Tryd.results43 (by decide) rfl (by conv => lhs; whnf) ?_)
      exact ⟨⟨(k : Int), rfl, fun _ => List.contains_iff_mem.2 (hid ▸ List.getElem_mem hk1), fun _ => by omega⟩, rfl⟩
    · intro hid
      repeat' (first | refine a_mov ?_ | refine a_asg ?_ | refine a_binN ?_ | refine a_notd ?_ | refine a_notb ?_ | refine a_nilc ?_ | refine a_fa ?_ | refine a_ext ?_ | refine a_lenv ?_ | refine a_lens ?_ | refine a_pick_t ?_ | refine a_pick_f ?_ | refine a_not ?_ | refine a_nilf ?_ | (refine o_nil (hK _ _ ?_); clear hK K) | refine wk_reg ?_ | refine wk_seq fun K hK => ?_ | (refine wk_skip (hK _ _ ?_); clear hK K) | (refine wk_label (hK _ _ ?_); clear hK K) | refine wk_scope ?_ | refine wk_block ?_ | refine wk_cond_t rfl ?_ | refine wk_cond_f rfl ?_ | (refine wk_exit ?_; (repeat (refine blockK_other rfl ?_)); refine blockK_same ?_; try ((repeat ((fail_if_success (refine hK _ _ ?_)); clear hK K)); refine hK _ _ ?_; clear hK K)) | (refine a_bin ?_ ?_ <;> intro _ <;> try (exfalso; omega)) | refine a_ld hl ?_ | (refine a_st hl ?_; clear hl; intro _ hl) | refine a_ix (fun _ => ?_) | fail)
      exact o_nil ⟨k + 1, ⟨rfl, rfl, rfl, rfl, trivial⟩, rfl, ⟨⟨hk1, fun j hj hjk => by
        by_cases e : j = k
        · subst e; exact fun h => hid h.symm
        · exact hno j hj (by omega)⟩, rfl⟩, by omega⟩
  · have hst := contains_take (T := T) (s := s) fun j hj => hno j hj (by omega)
    clear hno
    repeat' (first | refine a_mov ?_ | refine a_asg ?_ | refine a_binN ?_ | refine a_notd ?_ | refine a_notb ?_ | refine a_nilc ?_ | refine a_fa ?_ | refine a_ext ?_ | refine a_lenv ?_ | refine a_lens ?_ | refine a_pick_t ?_ | refine a_pick_f ?_ | refine a_not ?_ | refine a_nilf ?_ | (refine o_nil (hK _ _ ?_); clear hK K) | refine wk_reg ?_ | refine wk_seq fun K hK => ?_ | (refine wk_skip (hK _ _ ?_); clear hK K) | (refine wk_label (hK _ _ ?_); clear hK K) | refine wk_scope ?_ | refine wk_block ?_ | refine wk_cond_t rfl ?_ | refine wk_cond_f rfl ?_ | (refine wk_exit ?_; (repeat (refine blockK_other rfl ?_)); refine blockK_same ?_; try ((repeat ((fail_if_success (refine hK _ _ ?_)); clear hK K)); refine hK _ _ ?_; clear hK K)) | (refine a_bin ?_ ?_ <;> intro _ <;> try (exfalso; omega)) | refine a_ld hl ?_ | (refine a_st hl ?_; clear hl; intro _ hl) | refine a_ix (fun _ => ?_) | fail)
    refine wk_ret (retQ_tmp1 Tryd.results43 (by decide) rfl (by conv => lhs; whnf) ?_)
    exact ⟨⟨-1, rfl, by rw [hst]; simp⟩, rfl⟩

theorem contains_calls {T : List (List UInt8)} {v : Value} {w : World} (hv : Sl w v 1 (strsL T)) (hlen : T.length ≤ 9223372036854775806) (s : List UInt8) :
    Calls Tryd.prog 24 #[v, str s] w (fun e w' => ∃ x, e = .returned x ∧ x = .bool (T.contains s) ∧ w' = w) := by
  obtain ⟨pa, ca, rfl, -⟩ := hv.shape (strsL_len T) (by omega)
  refine calls_of Tryd.func24 rfl Tryd.ntmps24 rfl ?_
  repeat' (first | refine a_mov ?_ | refine a_asg ?_ | refine a_binN ?_ | refine a_notd ?_ | refine a_notb ?_ | refine a_nilc ?_ | refine a_fa ?_ | refine a_ext ?_ | refine a_lenv ?_ | refine a_lens ?_ | refine a_pick_t ?_ | refine a_pick_f ?_ | refine a_not ?_ | refine a_nilf ?_ | (refine o_nil (hK _ _ ?_); clear hK K) | refine wk_reg ?_ | refine wk_seq fun K hK => ?_ | (refine wk_skip (hK _ _ ?_); clear hK K) | (refine wk_label (hK _ _ ?_); clear hK K) | refine wk_scope ?_ | refine wk_block ?_ | refine wk_cond_t rfl ?_ | refine wk_cond_f rfl ?_ | (refine wk_exit ?_; (repeat (refine blockK_other rfl ?_)); refine blockK_same ?_; try ((repeat ((fail_if_success (refine hK _ _ ?_)); clear hK K)); refine hK _ _ ?_; clear hK K)) | (refine a_bin ?_ ?_ <;> intro _ <;> try (exfalso; omega)) | refine a_ld hl ?_ | (refine a_st hl ?_; clear hl; intro _ hl) | refine a_ix (fun _ => ?_) | fail)
  refine a_fn (index_calls hv hlen s) ?_
  rintro _ w2 ⟨⟨z, rfl, hz⟩, hw⟩
  obtain rfl : w2 = w := hw
  repeat' (first | refine a_mov ?_ | refine a_asg ?_ | refine a_binN ?_ | refine a_notd ?_ | refine a_notb ?_ | refine a_nilc ?_ | refine a_fa ?_ | refine a_ext ?_ | refine a_lenv ?_ | refine a_lens ?_ | refine a_pick_t ?_ | refine a_pick_f ?_ | refine a_not ?_ | refine a_nilf ?_ | (refine o_nil (hK _ _ ?_); clear hK K) | refine wk_reg ?_ | refine wk_seq fun K hK => ?_ | (refine wk_skip (hK _ _ ?_); clear hK K) | (refine wk_label (hK _ _ ?_); clear hK K) | refine wk_scope ?_ | refine wk_block ?_ | refine wk_cond_t rfl ?_ | refine wk_cond_f rfl ?_ | (refine wk_exit ?_; (repeat (refine blockK_other rfl ?_)); refine blockK_same ?_; try ((repeat ((fail_if_success (refine hK _ _ ?_)); clear hK K)); refine hK _ _ ?_; clear hK K)) | (refine a_bin ?_ ?_ <;> intro _ <;> try (exfalso; omega)) | refine a_ld hl ?_ | (refine a_st hl ?_; clear hl; intro _ hl) | refine a_ix (fun _ => ?_) | fail)
  all_goals (refine wk_ret (retQ_tmp1 Tryd.results24 (by decide) rfl (by conv => lhs; whnf) ?_); refine ⟨?_, rfl⟩)
  · rw [hz.1 (by omega)]
  · cases hc : T.contains s
    · rfl
    · exact absurd (hz.2 hc) (by omega)
end Go.Proofs
