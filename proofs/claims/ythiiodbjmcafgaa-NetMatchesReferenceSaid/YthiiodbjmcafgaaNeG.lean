/-
  A network: Cut.
-/
import Derived.Test.YthiiodbjmcafgaaNeF
set_option linter.unusedVariables false
set_option linter.unusedSimpArgs false
set_option linter.unnecessarySimpa false
set_option maxRecDepth 10000
namespace Go.Pd
variable {P : Program} {r : Option Nat} {n : Nat}
section
variable {α : Type} [DecidableEq α] {f : α → Value}
variable {ops : Array Oper} {K : St → World → Prop} {X : List PanicEntry → St → World → Prop} {lo : List Oper} {s : St} {w w0 : World} {M : Nat → Prop} {bl : List (Nat × Obj)}
variable {d : Nat} {ty : TypeId} {p : String} {af : Array Edge} {g : Option (Nat × Bool)}
theorem o_delete {at_ : Array TypeId} {mt kt et : TypeId} {m kx : Operand} {b : Nat} {es : Array MapEntry} {c : Nat} {l : List (α × Value)} (a : α) (hl : LH w0 M w bl) (i : Nat) (hi : bl[i]? = some (b, .map es c)) (hm : MapR f es l) (hk : Key P kt f) (hw : Region.wanted ⟨none, .call ⟨.builtin .delete, #[m, kx], at_⟩, ty, p, af, g⟩ (yieldedE ops n s) = true) (ht : at_[0]? = some mt) (hu : P.underlying mt = some (.map kt et))
    (hx : rd n s m = .map (some b)) (hix : rd n s kx = f a) (hkk : ∀ w' es', MapR f es' (del l a) → LH w0 M w' (bl.set i (b, .map es' c)) → OpsL P r n ops K X lo s w') : OpsL P r n ops K X (⟨none, .call ⟨.builtin .delete, #[m, kx], at_⟩, ty, p, af, g⟩ :: lo) s w := by
  obtain ⟨es', hr, hm'⟩ := run_delete (P := P) (a := a) (ty' := ty) (at_ := at_) ht hu hk hm (hl.get i hi)
  refine o_wanted hw ?_
  unfold OpW
  rw [Oper.semAt_eq _ _ _ (fun c e => by cases e)]
  simp only [execOp, resolve, List.map_toArray, List.map_cons, List.map_nil, hx, hix]
  rw [sem_bind (w' := w) rfl]
  simp only [invoke, builtin]
  rw [sem_bind hr]
  exact hkk _ es' hm' (hl.put i hi ⟨rfl, rfl, rfl⟩)
end
end Go.Pd
namespace Go.Ne
open Go Go.Pd
theorem boolI_get (l : List (Nat × Nat)) (k : Nat × Nat) : Go.Pd.get (boolI l) k = if k ∈ l then some (.bool true) else none := by
  induction l with
  | nil => rfl
  | cons a l ih =>
    simp only [boolI, List.map_cons, Go.Pd.get, List.mem_cons] at ih ⊢
    by_cases h : k = a
    · rw [if_pos h, if_pos (.inl h)]
    · rw [if_neg h, ih]
      by_cases h2 : k ∈ l
      · rw [if_pos h2, if_pos (.inr h2)]
      · rw [if_neg h2, if_neg (by simp [h, h2])]
theorem boolI_ins (l : List (Nat × Nat)) (k : Nat × Nat) : ins (boolI l) k (.bool true) = boolI (if k ∈ l then l else l ++ [k]) := by
  induction l with
  | nil => rfl
  | cons a l ih =>
    simp only [boolI, List.map_cons, ins] at ih ⊢
    by_cases h : k = a
    · subst h
      rw [if_pos rfl, if_pos List.mem_cons_self]
      rfl
    · rw [if_neg h, ih]
      by_cases h2 : k ∈ l
      · rw [if_pos h2, if_pos (List.mem_cons_of_mem _ h2)]
        rfl
      · rw [if_neg h2, if_neg (by simp [h, h2])]
        rfl
def delI (l : List (Nat × Nat)) (k : Nat × Nat) : List (Nat × Nat) := match l with
  | [] => []
  | a :: l => if k = a then l else a :: delI l k
theorem boolI_del (l : List (Nat × Nat)) (k : Nat × Nat) : del (boolI l) k = boolI (delI l k) := by
  induction l with
  | nil => rfl
  | cons a l ih =>
    simp only [boolI, List.map_cons, del, delI] at ih ⊢
    by_cases h : k = a
    · rw [if_pos h, if_pos h]
    · rw [if_neg h, if_neg h, ih]
      rfl
theorem mem_delI {l : List (Nat × Nat)} (hn : l.Nodup) (k c : Nat × Nat) : c ∈ delI l k ↔ c ≠ k ∧ c ∈ l := by
  induction l with
  | nil => simp [delI]
  | cons a l ih =>
    rw [List.nodup_cons] at hn
    unfold delI
    by_cases h : k = a
    · subst h
      rw [if_pos rfl, List.mem_cons]
      constructor
      · intro hc; exact ⟨fun e => hn.1 (e ▸ hc), .inr hc⟩
      · rintro ⟨h1, h2 | h2⟩
        · exact absurd h2 h1
        · exact h2
    · rw [if_neg h, List.mem_cons, List.mem_cons, ih hn.2]
      constructor
      · rintro (rfl | ⟨h1, h2⟩)
        · exact ⟨fun e => h e.symm, .inl rfl⟩
        · exact ⟨h1, .inr h2⟩
      · rintro ⟨h1, h2 | h2⟩
        · exact .inl h2
        · exact .inr ⟨h1, h2⟩
theorem boolI_keys (l : List (Nat × Nat)) : (boolI l).map (·.1) = l := by simp [boolI, Function.comp_def]
end Go.Ne
namespace Go.Proofs
open Go Go.Pd Go.Ne
attribute [local irreducible] OpsL W RetQ OpsQ OpsC

set_option maxHeartbeats 1000000 in
theorem cut_calls {X : Nat → Prop} {s : Net} {p : Nat} {bl : List (Nat × Obj)} {w : World} (h : NetR X s p bl w) (a b : Nat) (off : Bool) :
    Calls Try.prog 19 #[.pointer (some ⟨p, 0, none⟩), .int .i64 (a : Int), .int .i64 (b : Int), .bool off] w (fun e w' => ∃ v, e = .returned v ∧ v = .int .i64 (setE s a b : Int) ∧ After X (setCut s a b off) p bl w w') := by
  have hR := h
  obtain ⟨D, rfl, rfl, rfl, hok, hown⟩ := h
  obtain ⟨nb, no, nc, hnv, hptr⟩ := hok.ptr hown
  have hhd := NetOK.head hown
  rw [hnv] at hhd
  refine calls_of Try.func19 rfl Try.ntmps19 rfl ?_
  repeat' (first | refine a_mov ?_ | refine a_asg ?_ | refine a_binN ?_ | refine a_notd ?_ | refine a_notb ?_ | refine a_nilc ?_ | refine a_fa ?_ | refine a_ext ?_ | refine a_lenv ?_ | refine a_lens ?_ | refine a_pick_t ?_ | refine a_pick_f ?_ | refine a_not ?_ | refine a_nilf ?_ | (refine o_nil (hK _ _ ?_); clear hK K) | refine wk_reg ?_ | refine wk_seq fun K hK => ?_ | (refine wk_skip (hK _ _ ?_); clear hK K) | (refine wk_label (hK _ _ ?_); clear hK K) | refine wk_scope ?_ | refine wk_block ?_ | refine wk_cond_t rfl ?_ | refine wk_cond_f rfl ?_ | (refine wk_exit ?_; (repeat (refine blockK_other rfl ?_)); refine blockK_same ?_; try ((repeat ((fail_if_success (refine hK _ _ ?_)); clear hK K)); refine hK _ _ ?_; clear hK K)) | (refine a_bin ?_ ?_ <;> intro _ <;> try (exfalso; omega)) | refine a_ld hl ?_ | (refine a_st hl ?_; clear hl; intro _ hl) | refine a_ix (fun _ => ?_) | fail)
  refine o_buildSlice (LH.start w (fun _ => False)) [.int .i64 (a : Int), .int .i64 (b : Int)] rfl rfl (by kernel_rfl) ?_
  intro b1 w1 hb1 hl1
  refine a_fn (there_calls (p := D.p) (l := [a, b]) (Sl.mk (b := b1) (o := 0) (m := 2) (c := 2) rfl (Nat.le_refl _) (hl1.rowL (vs := [.int .i64 (a : Int), .int .i64 (b : Int)]) 0 0 2 rfl)) (by simp) (fun j v hj => (hhd.ext hl1.done) j v (by cases j with | zero => exact hj | succ j => simp at hj))) ?_
  rintro _ w2 ⟨rfl, he2⟩
  have hx2 : Ext w w2 := hl1.done.trans he2
  by_cases hp : pair s a b = true
  · obtain ⟨ha, hb, hab⟩ := of_decide_eq_true hp
    have hall : [a, b].all (fun i => decide (i < s.n)) = true := by simp [ha, hb]
    have hE : setE s a b = 0 := if_pos hp
    have hset : setCut s a b off = { s with cut := upd2 s.cut (min a b) (max a b) off } := if_pos hp
    rw [hall]
    repeat' (first | refine a_mov ?_ | refine a_asg ?_ | refine a_binN ?_ | refine a_notd ?_ | refine a_notb ?_ | refine a_nilc ?_ | refine a_fa ?_ | refine a_ext ?_ | refine a_lenv ?_ | refine a_lens ?_ | refine a_pick_t ?_ | refine a_pick_f ?_ | refine a_not ?_ | refine a_nilf ?_ | (refine o_nil (hK _ _ ?_); clear hK K) | refine wk_reg ?_ | refine wk_seq fun K hK => ?_ | (refine wk_skip (hK _ _ ?_); clear hK K) | (refine wk_label (hK _ _ ?_); clear hK K) | refine wk_scope ?_ | refine wk_block ?_ | refine wk_cond_t rfl ?_ | refine wk_cond_f rfl ?_ | (refine wk_exit ?_; (repeat (refine blockK_other rfl ?_)); refine blockK_same ?_; try ((repeat ((fail_if_success (refine hK _ _ ?_)); clear hK K)); refine hK _ _ ?_; clear hK K)) | (refine a_bin ?_ ?_ <;> intro _ <;> try (exfalso; omega)) | refine a_ld hl ?_ | (refine a_st hl ?_; clear hl; intro _ hl) | refine a_ix (fun _ => ?_) | fail)
    have hl2 := hown.ext hx2
    have hd2 : ∀ w', To w2 w' w2.heap → w'.heap[D.p]? = some (.cells #[D.nv, .map (some D.qm), .map (some D.cm), .map (some D.am)] 55 (0, 0)) := fun w' h => (hl2.heap h).get 0 rfl
    cases off
    · repeat' (first | refine a_mov ?_ | refine a_asg ?_ | refine a_binN ?_ | refine a_notd ?_ | refine a_notb ?_ | refine a_nilc ?_ | refine a_fa ?_ | refine a_ext ?_ | refine a_lenv ?_ | refine a_lens ?_ | refine a_pick_t ?_ | refine a_pick_f ?_ | refine a_not ?_ | refine a_nilf ?_ | (refine o_nil (hK _ _ ?_); clear hK K) | refine wk_reg ?_ | refine wk_seq fun K hK => ?_ | (refine wk_skip (hK _ _ ?_); clear hK K) | (refine wk_label (hK _ _ ?_); clear hK K) | refine wk_scope ?_ | refine wk_block ?_ | refine wk_cond_t rfl ?_ | refine wk_cond_f rfl ?_ | (refine wk_exit ?_; (repeat (refine blockK_other rfl ?_)); refine blockK_same ?_; try ((repeat ((fail_if_success (refine hK _ _ ?_)); clear hK K)); refine hK _ _ ?_; clear hK K)) | (refine a_bin ?_ ?_ <;> intro _ <;> try (exfalso; omega)) | refine a_ld hl ?_ | (refine a_st hl ?_; clear hl; intro _ hl) | refine a_ix (fun _ => ?_) | fail)
      refine wk_drawP [0, 1, 2, 3, 4, 5] [3] [6, 7] [] [] (fun w' => To w2 w' w2.heap) (fun w' => w'.heap[D.p]? = some (.cells #[D.nv, .map (some D.qm), .map (some D.cm), .map (some D.am)] 55 (0, 0))) rfl (by kernel_rfl) (fun _ _ _ _ h => by first | exact h | (simp only [BlockK, NoGoto, RetQ] at h)) (fun _ h => h) (fun w' h => hd2 w' h) ?_
      repeat' (first | refine q_pur rfl rfl rfl (fun _ => r_mov (by conv => lhs; whnf)) ?_ | refine q_pur rfl rfl rfl (fun _ => r_asg (by conv => lhs; whnf)) ?_ | refine q_pur rfl rfl rfl (fun _ => r_fa2 rfl (by conv => lhs; whnf; arg 1; whnf) (by first | (conv => lhs; simp only [Nat.reduceAdd, Nat.zero_add, Nat.add_zero]) | rfl)) ?_ | refine q_pur rfl rfl rfl (fun _ => r_ext rfl (by conv => lhs; whnf)) ?_ | refine q_pur rfl rfl rfl (fun _ => r_binN rfl rfl rfl (by omega)) ?_ | refine q_pur rfl rfl rfl (fun _ => r_ix (by omega) rfl rfl rfl rfl) ?_ | refine q_pur rfl rfl rfl (fun _ => r_notd rfl) ?_ | refine q_pur rfl rfl rfl (fun _ => r_notb rfl) ?_ | refine q_pur rfl rfl rfl (fun _ => r_pick_t rfl (by conv => lhs; whnf)) ?_ | refine q_pur rfl rfl rfl (fun _ => r_pick_f rfl (by conv => lhs; whnf)) ?_ | refine q_pur rfl rfl rfl (fun _ => r_nilc rfl) ?_ | refine q_not rfl rfl ?_ | refine q_val rfl rfl rfl rfl (fun w_ hw_ => r_lens rfl rfl) ?_ | refine q_val rfl rfl rfl rfl (fun w_ hw_ => r_lenv rfl rfl) ?_ | refine q_nil ?_ | (refine q_binT rfl rfl rfl rfl rfl ?_ ?_ <;> intro _ <;> try (exfalso; omega)))
      refine q_late rfl rfl rfl rfl (fun w' hw' => r_load rfl rfl (cell_of_block hw' rfl)) ?_
      repeat' (first | refine q_pur rfl rfl rfl (fun _ => r_mov (by conv => lhs; whnf)) ?_ | refine q_pur rfl rfl rfl (fun _ => r_asg (by conv => lhs; whnf)) ?_ | refine q_pur rfl rfl rfl (fun _ => r_fa2 rfl (by conv => lhs; whnf; arg 1; whnf) (by first | (conv => lhs; simp only [Nat.reduceAdd, Nat.zero_add, Nat.add_zero]) | rfl)) ?_ | refine q_pur rfl rfl rfl (fun _ => r_ext rfl (by conv => lhs; whnf)) ?_ | refine q_pur rfl rfl rfl (fun _ => r_binN rfl rfl rfl (by omega)) ?_ | refine q_pur rfl rfl rfl (fun _ => r_ix (by omega) rfl rfl rfl rfl) ?_ | refine q_pur rfl rfl rfl (fun _ => r_notd rfl) ?_ | refine q_pur rfl rfl rfl (fun _ => r_notb rfl) ?_ | refine q_pur rfl rfl rfl (fun _ => r_pick_t rfl (by conv => lhs; whnf)) ?_ | refine q_pur rfl rfl rfl (fun _ => r_pick_f rfl (by conv => lhs; whnf)) ?_ | refine q_pur rfl rfl rfl (fun _ => r_nilc rfl) ?_ | refine q_not rfl rfl ?_ | refine q_val rfl rfl rfl rfl (fun w_ hw_ => r_lens rfl rfl) ?_ | refine q_val rfl rfl rfl rfl (fun w_ hw_ => r_lenv rfl rfl) ?_ | refine q_nil ?_ | (refine q_binT rfl rfl rfl rfl rfl ?_ ?_ <;> intro _ <;> try (exfalso; omega)))
      intro w3 hw3
      have hl3 := hl2.heap hw3
      refine opsD_tail rfl rfl ?_
      refine a_fn (line_calls a b w3) ?_
      rintro _ w4 ⟨rfl, he4⟩
      have hl4 := hl3.ext he4
      refine o_nil ⟨.inl (hl4.get 0 rfl), ?_⟩
      refine opsD_tail rfl rfl ?_
      refine o_delete (min a b, max a b) hl4 2 rfl hok.cm (key_int2 rfl rfl rfl) rfl rfl rfl rfl rfl ?_
      intro w5 es5 hm5 hl5
      refine o_nil ⟨.inr (by kernel_rfl), ?_⟩
      refine opsD_nil ?_
      unfold PostQ
      refine q_nil ?_
      refine hK _ _ ?_
      clear hK K
      repeat' (first | refine a_mov ?_ | refine a_asg ?_ | refine a_binN ?_ | refine a_notd ?_ | refine a_notb ?_ | refine a_nilc ?_ | refine a_fa ?_ | refine a_ext ?_ | refine a_lenv ?_ | refine a_lens ?_ | refine a_pick_t ?_ | refine a_pick_f ?_ | refine a_not ?_ | refine a_nilf ?_ | (refine o_nil (hK _ _ ?_); clear hK K) | refine wk_reg ?_ | refine wk_seq fun K hK => ?_ | (refine wk_skip (hK _ _ ?_); clear hK K) | (refine wk_label (hK _ _ ?_); clear hK K) | refine wk_scope ?_ | refine wk_block ?_ | refine wk_cond_t rfl ?_ | refine wk_cond_f rfl ?_ | (refine wk_exit ?_; (repeat (refine blockK_other rfl ?_)); refine blockK_same ?_; try ((repeat ((fail_if_success (refine hK _ _ ?_)); clear hK K)); refine hK _ _ ?_; clear hK K)) | (refine a_bin ?_ ?_ <;> intro _ <;> try (exfalso; omega)) | refine a_ld hl ?_ | (refine a_st hl ?_; clear hl; intro _ hl) | refine a_ix (fun _ => ?_) | fail)
      refine wk_ret (retQ_tmp1 Try.results19 (by decide) rfl (by conv => lhs; whnf) ?_)
      refine ⟨by rw [hE]; rfl, ?_⟩
      rw [hset]
      rw [boolI_del] at hm5
      have hnd : D.ck.Nodup := by have := hok.cm.nd; rwa [boolI_keys] at this
      have hl5 : LH w (Go.Pd.In (D.bl s)) w5 (NetB.bl { D with ces := es5, ck := delI D.ck (min a b, max a b) } { s with cut := upd2 s.cut (min a b) (max a b) false }) := hl5
      refine After.mk (by rfl) hl5 ⟨hok.np, hok.nv, hok.nd, hok.qm, hok.qg, fun x y hx hy => (hok.qu x y hx hy).step hl5, fun b hb => Nat.lt_of_lt_of_le (hok.xs b hb) hl5.upd.size, hm5, fun x y => ?_, hok.am⟩
      show upd2 s.cut (min a b) (max a b) false x y = decide ((x, y) ∈ delI D.ck (min a b, max a b))
      by_cases e : x = min a b ∧ y = max a b
      · obtain ⟨rfl, rfl⟩ := e
        rw [upd2_same, decide_eq_false (fun h => ((mem_delI hnd _ _).1 h).1 rfl)]
      · rw [upd2_ne _ _ e, hok.ck]
        have hne : (x, y) ≠ (min a b, max a b) := fun h => e (Prod.mk.inj h)
        exact decide_eq_decide.2 (by rw [mem_delI hnd]; simp [hne])
    · repeat' (first | refine a_mov ?_ | refine a_asg ?_ | refine a_binN ?_ | refine a_notd ?_ | refine a_notb ?_ | refine a_nilc ?_ | refine a_fa ?_ | refine a_ext ?_ | refine a_lenv ?_ | refine a_lens ?_ | refine a_pick_t ?_ | refine a_pick_f ?_ | refine a_not ?_ | refine a_nilf ?_ | (refine o_nil (hK _ _ ?_); clear hK K) | refine wk_reg ?_ | refine wk_seq fun K hK => ?_ | (refine wk_skip (hK _ _ ?_); clear hK K) | (refine wk_label (hK _ _ ?_); clear hK K) | refine wk_scope ?_ | refine wk_block ?_ | refine wk_cond_t rfl ?_ | refine wk_cond_f rfl ?_ | (refine wk_exit ?_; (repeat (refine blockK_other rfl ?_)); refine blockK_same ?_; try ((repeat ((fail_if_success (refine hK _ _ ?_)); clear hK K)); refine hK _ _ ?_; clear hK K)) | (refine a_bin ?_ ?_ <;> intro _ <;> try (exfalso; omega)) | refine a_ld hl ?_ | (refine a_st hl ?_; clear hl; intro _ hl) | refine a_ix (fun _ => ?_) | fail)
      refine wk_drawP [0, 1, 2, 3, 4, 5] [3] [6, 7] [] [] (fun w' => To w2 w' w2.heap) (fun w' => w'.heap[D.p]? = some (.cells #[D.nv, .map (some D.qm), .map (some D.cm), .map (some D.am)] 55 (0, 0))) rfl (by kernel_rfl) (fun _ _ _ _ h => by first | exact h | (simp only [BlockK, NoGoto, RetQ] at h)) (fun _ h => h) (fun w' h => hd2 w' h) ?_
      repeat' (first | refine q_pur rfl rfl rfl (fun _ => r_mov (by conv => lhs; whnf)) ?_ | refine q_pur rfl rfl rfl (fun _ => r_asg (by conv => lhs; whnf)) ?_ | refine q_pur rfl rfl rfl (fun _ => r_fa2 rfl (by conv => lhs; whnf; arg 1; whnf) (by first | (conv => lhs; simp only [Nat.reduceAdd, Nat.zero_add, Nat.add_zero]) | rfl)) ?_ | refine q_pur rfl rfl rfl (fun _ => r_ext rfl (by conv => lhs; whnf)) ?_ | refine q_pur rfl rfl rfl (fun _ => r_binN rfl rfl rfl (by omega)) ?_ | refine q_pur rfl rfl rfl (fun _ => r_ix (by omega) rfl rfl rfl rfl) ?_ | refine q_pur rfl rfl rfl (fun _ => r_notd rfl) ?_ | refine q_pur rfl rfl rfl (fun _ => r_notb rfl) ?_ | refine q_pur rfl rfl rfl (fun _ => r_pick_t rfl (by conv => lhs; whnf)) ?_ | refine q_pur rfl rfl rfl (fun _ => r_pick_f rfl (by conv => lhs; whnf)) ?_ | refine q_pur rfl rfl rfl (fun _ => r_nilc rfl) ?_ | refine q_not rfl rfl ?_ | refine q_val rfl rfl rfl rfl (fun w_ hw_ => r_lens rfl rfl) ?_ | refine q_val rfl rfl rfl rfl (fun w_ hw_ => r_lenv rfl rfl) ?_ | refine q_nil ?_ | (refine q_binT rfl rfl rfl rfl rfl ?_ ?_ <;> intro _ <;> try (exfalso; omega)))
      refine q_late rfl rfl rfl rfl (fun w' hw' => r_load rfl rfl (cell_of_block hw' rfl)) ?_
      repeat' (first | refine q_pur rfl rfl rfl (fun _ => r_mov (by conv => lhs; whnf)) ?_ | refine q_pur rfl rfl rfl (fun _ => r_asg (by conv => lhs; whnf)) ?_ | refine q_pur rfl rfl rfl (fun _ => r_fa2 rfl (by conv => lhs; whnf; arg 1; whnf) (by first | (conv => lhs; simp only [Nat.reduceAdd, Nat.zero_add, Nat.add_zero]) | rfl)) ?_ | refine q_pur rfl rfl rfl (fun _ => r_ext rfl (by conv => lhs; whnf)) ?_ | refine q_pur rfl rfl rfl (fun _ => r_binN rfl rfl rfl (by omega)) ?_ | refine q_pur rfl rfl rfl (fun _ => r_ix (by omega) rfl rfl rfl rfl) ?_ | refine q_pur rfl rfl rfl (fun _ => r_notd rfl) ?_ | refine q_pur rfl rfl rfl (fun _ => r_notb rfl) ?_ | refine q_pur rfl rfl rfl (fun _ => r_pick_t rfl (by conv => lhs; whnf)) ?_ | refine q_pur rfl rfl rfl (fun _ => r_pick_f rfl (by conv => lhs; whnf)) ?_ | refine q_pur rfl rfl rfl (fun _ => r_nilc rfl) ?_ | refine q_not rfl rfl ?_ | refine q_val rfl rfl rfl rfl (fun w_ hw_ => r_lens rfl rfl) ?_ | refine q_val rfl rfl rfl rfl (fun w_ hw_ => r_lenv rfl rfl) ?_ | refine q_nil ?_ | (refine q_binT rfl rfl rfl rfl rfl ?_ ?_ <;> intro _ <;> try (exfalso; omega)))
      intro w3 hw3
      have hl3 := hl2.heap hw3
      refine opsD_tail rfl rfl ?_
      refine a_fn (line_calls a b w3) ?_
      rintro _ w4 ⟨rfl, he4⟩
      have hl4 := hl3.ext he4
      refine o_nil ⟨.inl (hl4.get 0 rfl), ?_⟩
      refine opsD_tail rfl rfl ?_
      refine o_mapUpdate (v := .bool true) (min a b, max a b) hl4 2 rfl hok.cm (key_int2 rfl rfl rfl) rfl rfl rfl rfl rfl ?_
      intro w5 es5 c5 hm5 hl5
      refine o_nil ⟨.inr (by kernel_rfl), ?_⟩
      refine opsD_nil ?_
      unfold PostQ
      refine q_nil ?_
      refine hK _ _ ?_
      clear hK K
      repeat' (first | refine a_mov ?_ | refine a_asg ?_ | refine a_binN ?_ | refine a_notd ?_ | refine a_notb ?_ | refine a_nilc ?_ | refine a_fa ?_ | refine a_ext ?_ | refine a_lenv ?_ | refine a_lens ?_ | refine a_pick_t ?_ | refine a_pick_f ?_ | refine a_not ?_ | refine a_nilf ?_ | (refine o_nil (hK _ _ ?_); clear hK K) | refine wk_reg ?_ | refine wk_seq fun K hK => ?_ | (refine wk_skip (hK _ _ ?_); clear hK K) | (refine wk_label (hK _ _ ?_); clear hK K) | refine wk_scope ?_ | refine wk_block ?_ | refine wk_cond_t rfl ?_ | refine wk_cond_f rfl ?_ | (refine wk_exit ?_; (repeat (refine blockK_other rfl ?_)); refine blockK_same ?_; try ((repeat ((fail_if_success (refine hK _ _ ?_)); clear hK K)); refine hK _ _ ?_; clear hK K)) | (refine a_bin ?_ ?_ <;> intro _ <;> try (exfalso; omega)) | refine a_ld hl ?_ | (refine a_st hl ?_; clear hl; intro _ hl) | refine a_ix (fun _ => ?_) | fail)
      refine wk_ret (retQ_tmp1 Try.results19 (by decide) rfl (by conv => lhs; whnf) ?_)
      refine ⟨by rw [hE]; rfl, ?_⟩
      rw [hset]
      rw [boolI_ins] at hm5
      have hl5 : LH w (Go.Pd.In (D.bl s)) w5 (NetB.bl { D with ces := es5, cc := c5, ck := if (min a b, max a b) ∈ D.ck then D.ck else D.ck ++ [(min a b, max a b)] } { s with cut := upd2 s.cut (min a b) (max a b) true }) := hl5
      refine After.mk (by rfl) hl5 ⟨hok.np, hok.nv, hok.nd, hok.qm, hok.qg, fun x y hx hy => (hok.qu x y hx hy).step hl5, fun b hb => Nat.lt_of_lt_of_le (hok.xs b hb) hl5.upd.size, hm5, fun x y => ?_, hok.am⟩
      show upd2 s.cut (min a b) (max a b) true x y = decide ((x, y) ∈ if (min a b, max a b) ∈ D.ck then D.ck else D.ck ++ [(min a b, max a b)])
      have hmem : (x, y) ∈ (if (min a b, max a b) ∈ D.ck then D.ck else D.ck ++ [(min a b, max a b)]) ↔ (x, y) ∈ D.ck ∨ (x, y) = (min a b, max a b) := by
        split
        · rename_i h
          exact ⟨.inl, fun h' => h'.elim id fun e => e ▸ h⟩
        · simp
      by_cases e : x = min a b ∧ y = max a b
      · obtain ⟨rfl, rfl⟩ := e
        rw [upd2_same, decide_eq_true (hmem.2 (.inr rfl))]
      · rw [upd2_ne _ _ e, hok.ck]
        have hne : (x, y) ≠ (min a b, max a b) := fun h => e (Prod.mk.inj h)
        exact decide_eq_decide.2 (by rw [hmem]; simp [hne])
  · have hE : setE s a b = 1 := if_neg hp
    have hset : setCut s a b off = s := if_neg hp
    by_cases hall : [a, b].all (fun i => decide (i < s.n)) = true
    · rw [hall]
      have hab : a = b := by
        simp at hall
        apply Classical.byContradiction
        intro hne
        exact hp (decide_eq_true ⟨hall.1, hall.2, hne⟩)
      subst hab
      repeat' (first | refine a_mov ?_ | refine a_asg ?_ | refine a_binN ?_ | refine a_notd ?_ | refine a_notb ?_ | refine a_nilc ?_ | refine a_fa ?_ | refine a_ext ?_ | refine a_lenv ?_ | refine a_lens ?_ | refine a_pick_t ?_ | refine a_pick_f ?_ | refine a_not ?_ | refine a_nilf ?_ | (refine o_nil (hK _ _ ?_); clear hK K) | refine wk_reg ?_ | refine wk_seq fun K hK => ?_ | (refine wk_skip (hK _ _ ?_); clear hK K) | (refine wk_label (hK _ _ ?_); clear hK K) | refine wk_scope ?_ | refine wk_block ?_ | refine wk_cond_t rfl ?_ | refine wk_cond_f rfl ?_ | (refine wk_exit ?_; (repeat (refine blockK_other rfl ?_)); refine blockK_same ?_; try ((repeat ((fail_if_success (refine hK _ _ ?_)); clear hK K)); refine hK _ _ ?_; clear hK K)) | (refine a_bin ?_ ?_ <;> intro _ <;> try (exfalso; omega)) | refine a_ld hl ?_ | (refine a_st hl ?_; clear hl; intro _ hl) | refine a_ix (fun _ => ?_) | fail)
      refine wk_ret (retQ_tmp1 Try.results19 (by decide) rfl (by conv => lhs; whnf) ?_)
      exact ⟨by rw [hE]; rfl, by rw [hset]; exact After.same hR hx2⟩
    · rw [Bool.not_eq_true] at hall
      rw [hall]
      repeat' (first | refine a_mov ?_ | refine a_asg ?_ | refine a_binN ?_ | refine a_notd ?_ | refine a_notb ?_ | refine a_nilc ?_ | refine a_fa ?_ | refine a_ext ?_ | refine a_lenv ?_ | refine a_lens ?_ | refine a_pick_t ?_ | refine a_pick_f ?_ | refine a_not ?_ | refine a_nilf ?_ | (refine o_nil (hK _ _ ?_); clear hK K) | refine wk_reg ?_ | refine wk_seq fun K hK => ?_ | (refine wk_skip (hK _ _ ?_); clear hK K) | (refine wk_label (hK _ _ ?_); clear hK K) | refine wk_scope ?_ | refine wk_block ?_ | refine wk_cond_t rfl ?_ | refine wk_cond_f rfl ?_ | (refine wk_exit ?_; (repeat (refine blockK_other rfl ?_)); refine blockK_same ?_; try ((repeat ((fail_if_success (refine hK _ _ ?_)); clear hK K)); refine hK _ _ ?_; clear hK K)) | (refine a_bin ?_ ?_ <;> intro _ <;> try (exfalso; omega)) | refine a_ld hl ?_ | (refine a_st hl ?_; clear hl; intro _ hl) | refine a_ix (fun _ => ?_) | fail)
      refine wk_ret (retQ_tmp1 Try.results19 (by decide) rfl (by conv => lhs; whnf) ?_)
      exact ⟨by rw [hE]; rfl, by rw [hset]; exact After.same hR hx2⟩
end Go.Proofs
