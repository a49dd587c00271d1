/-
  A network: Has, Lacks.
-/
import Derived.Test.YthiiodbjmcafgaaNeC
import Derived.Test.YthiiodbjmcafgaaNeD
set_option linter.unusedVariables false
set_option linter.unusedSimpArgs false
set_option linter.unnecessarySimpa false
set_option maxRecDepth 10000
namespace Go.Ne
open Go Go.Pd
theorem NodOK.sl {n : Nat} {d : NodB} {x : Nod} {w w0 : World} {M : Nat → Prop} (h : NodOK n d x) (hl : LH w0 M w (nodBl n d x)) : Sl w d.tv 1 (sL x.texts) :=
  LH.acc_sl (l := []) (hl.sub (((List.sublist_append_right _ _).trans (List.sublist_append_left (nodA n d x) _)))) h.t
theorem NodOK.row2 {n : Nat} {d : NodB} {x : Nod} {w w0 : World} {M : Nat → Prop} (hl : LH w0 M w (nodBl n d x)) : Row w d.nb 0 [d.tv, .map (some d.hb)] := hl.rowL (vs := nodCells n d x) 0 0 2 rfl
theorem pcells_get (pr : Nat → Peer) (pg : Nat → Nat) (n j : Nat) (hj : j < 24) : (pcells pr pg n)[j]? = some (pcell pr pg n j) := by simp [pcells, hj]
theorem pcell0 (pr : Nat → Peer) (pg : Nat → Nat) (n k : Nat) : pcell pr pg n (k * 3) = .int .i64 ((pr k).heard : Int) := by
  unfold pcell
  rw [if_pos (by omega), show k * 3 / 3 = k by omega]
theorem pcell1 (pr : Nat → Peer) (pg : Nat → Nat) (n k : Nat) : pcell pr pg n (k * 3 + 1) = .int .i64 ((pr k).known : Int) := by
  unfold pcell
  rw [if_neg (by omega), if_pos (by omega), show (k * 3 + 1) / 3 = k by omega]
theorem pcell2 (pr : Nat → Peer) (pg : Nat → Nat) (n k : Nat) (hk : k < n) : pcell pr pg n (k * 3 + 2) = .map (some (pg k)) := by
  unfold pcell
  rw [if_neg (by omega), if_neg (by omega), show (k * 3 + 2) / 3 = k by omega, if_pos hk]
theorem pcell2n (pr : Nat → Peer) (pg : Nat → Nat) (n k : Nat) (hk : ¬ k < n) : pcell pr pg n (k * 3 + 2) = .map none := by
  unfold pcell
  rw [if_neg (by omega), if_neg (by omega), show (k * 3 + 2) / 3 = k by omega, if_neg hk]
/-- What a node knows of another one, in memory. -/
theorem NodOK.peer {n : Nat} {d : NodB} {x : Nod} {w w0 : World} {M : Nat → Prop} (hl : LH w0 M w (nodBl n d x)) {k : Nat} (hk : k < n) (hn : n ≤ 8) : Row w d.nb (2 + k * 3) [.int .i64 ((x.peer k).heard : Int), .int .i64 ((x.peer k).known : Int), .map (some (d.pg k))] := by
  have hb := hl.get 0 (b := d.nb) (o := .cells (nodCells n d x).toArray 61 (0, 0)) rfl
  refine Row.of_block hb fun i v hi => ?_
  have hg : ∀ j, j < 24 → (nodCells n d x).toArray[2 + j]? = some (pcell x.peer d.pg n j) := fun j hj => by
    rw [List.getElem?_toArray, Nat.add_comm 2 j]
    exact pcells_get x.peer d.pg n j hj
  rw [Nat.add_assoc]
  match i, hi with
  | 0, hi => rw [hg _ (by omega), Nat.add_zero, pcell0]; exact hi
  | 1, hi => rw [hg _ (by omega), pcell1]; exact hi
  | 2, hi => rw [hg _ (by omega), pcell2 _ _ _ _ hk]; exact hi
  | i + 3, hi => simp at hi
theorem NodOK.got {n : Nat} {d : NodB} {x : Nod} {w w0 : World} {M : Nat → Prop} (hl : LH w0 M w (nodBl n d x)) {k : Nat} (hk : k < n) : w.heap[d.pg k]? = some (.map (d.ges k) (d.gc k)) :=
  hl.own (d.pg k, .map (d.ges k) (d.gc k)) (List.mem_append_right _ (List.mem_map.2 ⟨k, List.mem_range.2 hk, rfl⟩))
theorem drop_min {α : Type} (l : List α) (k : Nat) : l.drop (min k l.length) = l.drop k := by
  rcases Nat.le_total k l.length with h | h
  · rw [Nat.min_eq_left h]
  · rw [Nat.min_eq_right h, List.drop_length, List.drop_of_length_le h]
end Go.Ne
namespace Go.Proofs
open Go Go.Pd Go.Ne
attribute [local irreducible] OpsL W RetQ OpsQ OpsC

/-- What a function gives back in memory of its own. -/
def Fresh (w : World) (w' : World) (v : Value) (l : List Tx) : Prop := ∃ acc, LH w (fun _ => False) w' acc ∧ Acc v 1 9 l.length (strL l) acc

theorem has_calls {X : Nat → Prop} {s : Net} {p : Nat} {bl : List (Nat × Obj)} {w : World} (h : NetR X s p bl w) (i : Nat) (hlen : ∀ a, (texts s a).length ≤ 1000000) :
    Calls Try.prog 22 #[.pointer (some ⟨p, 0, none⟩), .int .i64 (i : Int)] w (fun e w' => ∃ v, e = .returned v ∧ Fresh w w' v (has s i)) := by
  obtain ⟨D, rfl, rfl, rfl, hok, hown⟩ := h
  obtain ⟨nb, no, nc, hnv, hptr⟩ := hok.ptr hown
  have hhd := NetOK.head hown
  rw [hnv] at hhd
  refine calls_of Try.func22 rfl Try.ntmps22 rfl ?_
  repeat' (first | refine a_mov ?_ | refine a_asg ?_ | refine a_binN ?_ | refine a_notd ?_ | refine a_notb ?_ | refine a_nilc ?_ | refine a_fa ?_ | refine a_ext ?_ | refine a_lenv ?_ | refine a_lens ?_ | refine a_pick_t ?_ | refine a_pick_f ?_ | refine a_not ?_ | refine a_nilf ?_ | (refine o_nil (hK _ _ ?_); clear hK K) | refine wk_reg ?_ | refine wk_seq fun K hK => ?_ | (refine wk_skip (hK _ _ ?_); clear hK K) | (refine wk_label (hK _ _ ?_); clear hK K) | refine wk_scope ?_ | refine wk_block ?_ | refine wk_cond_t rfl ?_ | refine wk_cond_f rfl ?_ | (refine wk_exit ?_; (repeat (refine blockK_other rfl ?_)); refine blockK_same ?_; try ((repeat ((fail_if_success (refine hK _ _ ?_)); clear hK K)); refine hK _ _ ?_; clear hK K)) | (refine a_bin ?_ ?_ <;> intro _ <;> try (exfalso; omega)) | refine a_ld hl ?_ | (refine a_st hl ?_; clear hl; intro _ hl) | refine a_ix (fun _ => ?_) | fail)
  refine o_buildSlice (LH.start w (fun _ => False)) [.int .i64 (i : Int)] rfl rfl (by kernel_rfl) ?_
  intro b1 w1 hb1 hl1
  refine a_fn (there_calls (p := D.p) (l := [i]) (Sl.mk (b := b1) (o := 0) (m := 1) (c := 1) rfl (Nat.le_refl _) (hl1.rowL (vs := [.int .i64 (i : Int)]) 0 0 1 rfl)) (by simp) (fun j v hj => (hhd.ext hl1.done) j v (by cases j with | zero => exact hj | succ j => simp at hj))) ?_
  rintro _ w2 ⟨rfl, he2⟩
  have hx2 : Ext w w2 := hl1.done.trans he2
  by_cases hi : i < s.n
  · have hall : [i].all (fun i => decide (i < s.n)) = true := by simp [hi]
    have hhas : has s i = (s.node i).texts := if_pos hi
    rw [hall]
    have hno := NetOK.nodOwn hown hi
    have hd := hok.nd i hi
    repeat' (first | refine a_mov ?_ | refine a_asg ?_ | refine a_binN ?_ | refine a_notd ?_ | refine a_notb ?_ | refine a_nilc ?_ | refine a_fa ?_ | refine a_ext ?_ | refine a_lenv ?_ | refine a_lens ?_ | refine a_pick_t ?_ | refine a_pick_f ?_ | refine a_not ?_ | refine a_nilf ?_ | (refine o_nil (hK _ _ ?_); clear hK K) | refine wk_reg ?_ | refine wk_seq fun K hK => ?_ | (refine wk_skip (hK _ _ ?_); clear hK K) | (refine wk_label (hK _ _ ?_); clear hK K) | refine wk_scope ?_ | refine wk_block ?_ | refine wk_cond_t rfl ?_ | refine wk_cond_f rfl ?_ | (refine wk_exit ?_; (repeat (refine blockK_other rfl ?_)); refine blockK_same ?_; try ((repeat ((fail_if_success (refine hK _ _ ?_)); clear hK K)); refine hK _ _ ?_; clear hK K)) | (refine a_bin ?_ ?_ <;> intro _ <;> try (exfalso; omega)) | refine a_ld hl ?_ | (refine a_st hl ?_; clear hl; intro _ hl) | refine a_ix (fun _ => ?_) | refine a_row (hhd.ext hx2) ?_ | refine a_idx (c := 1) i rfl ?_ | refine a_row ((hptr i hi).ext hx2) ?_ | refine a_row ((NodOK.row2 hno).ext hx2) ?_ | fail)
    refine a_fn (clone_calls ((hd.sl hno).ext hx2) (hlen i)) ?_
    rintro v w3 ⟨acc, hl3, ha3⟩
    repeat' (first | refine a_mov ?_ | refine a_asg ?_ | refine a_binN ?_ | refine a_notd ?_ | refine a_notb ?_ | refine a_nilc ?_ | refine a_fa ?_ | refine a_ext ?_ | refine a_lenv ?_ | refine a_lens ?_ | refine a_pick_t ?_ | refine a_pick_f ?_ | refine a_not ?_ | refine a_nilf ?_ | (refine o_nil (hK _ _ ?_); clear hK K) | refine wk_reg ?_ | refine wk_seq fun K hK => ?_ | (refine wk_skip (hK _ _ ?_); clear hK K) | (refine wk_label (hK _ _ ?_); clear hK K) | refine wk_scope ?_ | refine wk_block ?_ | refine wk_cond_t rfl ?_ | refine wk_cond_f rfl ?_ | (refine wk_exit ?_; (repeat (refine blockK_other rfl ?_)); refine blockK_same ?_; try ((repeat ((fail_if_success (refine hK _ _ ?_)); clear hK K)); refine hK _ _ ?_; clear hK K)) | (refine a_bin ?_ ?_ <;> intro _ <;> try (exfalso; omega)) | refine a_ld hl ?_ | (refine a_st hl ?_; clear hl; intro _ hl) | refine a_ix (fun _ => ?_) | fail)
    refine wk_ret (retQ_tmp1 Try.results22 (by decide) rfl (by conv => lhs; whnf) ?_)
    exact ⟨acc, (((LH.start w _).ext hx2).join hl3).sub (by simp), by rw [hhas]; exact ha3⟩
  · have hall : [i].all (fun i => decide (i < s.n)) = false := by simp [hi]
    have hhas : has s i = [] := if_neg hi
    rw [hall]
    repeat' (first | refine a_mov ?_ | refine a_asg ?_ | refine a_binN ?_ | refine a_notd ?_ | refine a_notb ?_ | refine a_nilc ?_ | refine a_fa ?_ | refine a_ext ?_ | refine a_lenv ?_ | refine a_lens ?_ | refine a_pick_t ?_ | refine a_pick_f ?_ | refine a_not ?_ | refine a_nilf ?_ | (refine o_nil (hK _ _ ?_); clear hK K) | refine wk_reg ?_ | refine wk_seq fun K hK => ?_ | (refine wk_skip (hK _ _ ?_); clear hK K) | (refine wk_label (hK _ _ ?_); clear hK K) | refine wk_scope ?_ | refine wk_block ?_ | refine wk_cond_t rfl ?_ | refine wk_cond_f rfl ?_ | (refine wk_exit ?_; (repeat (refine blockK_other rfl ?_)); refine blockK_same ?_; try ((repeat ((fail_if_success (refine hK _ _ ?_)); clear hK K)); refine hK _ _ ?_; clear hK K)) | (refine a_bin ?_ ?_ <;> intro _ <;> try (exfalso; omega)) | refine a_ld hl ?_ | (refine a_st hl ?_; clear hl; intro _ hl) | refine a_ix (fun _ => ?_) | fail)
    refine wk_ret (retQ_tmp1 Try.results22 (by decide) rfl (by conv => lhs; whnf) ?_)
    exact ⟨[], (LH.start w _).ext hx2, by rw [hhas]; exact Acc.nil _ _⟩

set_option maxHeartbeats 2000000 in
theorem lacks_calls {X : Nat → Prop} {s : Net} {p : Nat} {bl : List (Nat × Obj)} {w : World} (h : NetR X s p bl w) (a b : Nat) (hlen : ∀ a, (texts s a).length ≤ 1000000) :
    Calls Try.prog 24 #[.pointer (some ⟨p, 0, none⟩), .int .i64 (a : Int), .int .i64 (b : Int)] w (fun e w' => ∃ v, e = .returned v ∧ Fresh w w' v (lacks s a b)) := by
  obtain ⟨D, rfl, rfl, rfl, hok, hown⟩ := h
  obtain ⟨nb, no, nc, hnv, hptr⟩ := hok.ptr hown
  have hhd := NetOK.head hown
  rw [hnv] at hhd
  refine calls_of Try.func24 rfl Try.ntmps24 rfl ?_
  repeat' (first | refine a_mov ?_ | refine a_asg ?_ | refine a_binN ?_ | refine a_notd ?_ | refine a_notb ?_ | refine a_nilc ?_ | refine a_fa ?_ | refine a_ext ?_ | refine a_lenv ?_ | refine a_lens ?_ | refine a_pick_t ?_ | refine a_pick_f ?_ | refine a_not ?_ | refine a_nilf ?_ | (refine o_nil (hK _ _ ?_); clear hK K) | refine wk_reg ?_ | refine wk_seq fun K hK => ?_ | (refine wk_skip (hK _ _ ?_); clear hK K) | (refine wk_label (hK _ _ ?_); clear hK K) | refine wk_scope ?_ | refine wk_block ?_ | refine wk_cond_t rfl ?_ | refine wk_cond_f rfl ?_ | (refine wk_exit ?_; (repeat (refine blockK_other rfl ?_)); refine blockK_same ?_; try ((repeat ((fail_if_success (refine hK _ _ ?_)); clear hK K)); refine hK _ _ ?_; clear hK K)) | (refine a_bin ?_ ?_ <;> intro _ <;> try (exfalso; omega)) | refine a_ld hl ?_ | (refine a_st hl ?_; clear hl; intro _ hl) | refine a_ix (fun _ => ?_) | fail)
  refine o_buildSlice (LH.start w (fun _ => False)) [.int .i64 (a : Int), .int .i64 (b : Int)] rfl rfl (by kernel_rfl) ?_
  intro b1 w1 hb1 hl1
  refine a_fn (there_calls (p := D.p) (l := [a, b]) (Sl.mk (b := b1) (o := 0) (m := 2) (c := 2) rfl (Nat.le_refl _) (hl1.rowL (vs := [.int .i64 (a : Int), .int .i64 (b : Int)]) 0 0 2 rfl)) (by simp) (fun j v hj => (hhd.ext hl1.done) j v (by cases j with | zero => exact hj | succ j => simp at hj))) ?_
  rintro _ w2 ⟨rfl, he2⟩
  have hx2 : Ext w w2 := hl1.done.trans he2
  by_cases hp : pair s a b = true
  · obtain ⟨ha, hb, hab⟩ := of_decide_eq_true hp
    have hall : [a, b].all (fun i => decide (i < s.n)) = true := by simp [ha, hb]
    have hlk : lacks s a b = ((s.node a).texts.drop ((s.node a).peer b).known).filter (notin ((s.node a).peer b).got) := if_pos hp
    rw [hall]
    have hno := NetOK.nodOwn hown ha
    have hd := hok.nd a ha
    have hn8 := hok.np.2
    repeat' (first | refine a_mov ?_ | refine a_asg ?_ | refine a_binN ?_ | refine a_notd ?_ | refine a_notb ?_ | refine a_nilc ?_ | refine a_fa ?_ | refine a_ext ?_ | refine a_lenv ?_ | refine a_lens ?_ | refine a_pick_t ?_ | refine a_pick_f ?_ | refine a_not ?_ | refine a_nilf ?_ | (refine o_nil (hK _ _ ?_); clear hK K) | refine wk_reg ?_ | refine wk_seq fun K hK => ?_ | (refine wk_skip (hK _ _ ?_); clear hK K) | (refine wk_label (hK _ _ ?_); clear hK K) | refine wk_scope ?_ | refine wk_block ?_ | refine wk_cond_t rfl ?_ | refine wk_cond_f rfl ?_ | (refine wk_exit ?_; (repeat (refine blockK_other rfl ?_)); refine blockK_same ?_; try ((repeat ((fail_if_success (refine hK _ _ ?_)); clear hK K)); refine hK _ _ ?_; clear hK K)) | (refine a_bin ?_ ?_ <;> intro _ <;> try (exfalso; omega)) | refine a_ld hl ?_ | (refine a_st hl ?_; clear hl; intro _ hl) | refine a_ix (fun _ => ?_) | refine a_row (hhd.ext hx2) ?_ | refine a_idx (c := 1) a rfl ?_ | refine a_row ((hptr a ha).ext hx2) ?_ | fail)
    refine o_indexArr (len := 8) (k := 3) b (by omega) rfl rfl rfl rfl rfl rfl ?_
    have hpr := (NodOK.peer hno hb hn8).ext hx2
    refine a_all hpr ?_
    refine o_alloc (LH.start w2 (fun _ => False)) [.int .i64 0, .int .i64 0, .map none] rfl rfl ?_
    intro b8 w3 hb8 hl3
    refine o_putN (us := [.int .i64 (((s.node a).peer b).heard : Int), .int .i64 (((s.node a).peer b).known : Int), .map (some ((D.nd a).pg b))]) hl3 rfl rfl rfl rfl rfl (.all rfl rfl) ?_
    intro w4 hl4
    have hx4 : Ext w w4 := hx2.trans hl4.done
    have hr2 : ∀ w', To w4 w' w4.heap → Row w' (D.nd a).nb 0 [(D.nd a).tv, .map (some (D.nd a).hb)] := fun w' h => ((NodOK.row2 hno).ext hx4).heap h
    have hsl : Sl w4 (D.nd a).tv 1 (sL (s.node a).texts) := (hd.sl hno).ext hx4
    obtain ⟨ta, tc, htv, htc⟩ := hsl.shape (m := (s.node a).texts.length) (by simp) (by omega)
    rw [htv] at hsl
    simp only [htv] at hr2
    have hcut := (cutL_sl (P := Try.prog) (t := 39) (k := 1) (lo := min ((s.node a).peer b).known (s.node a).texts.length) rfl rfl hsl (by simp) (by decide) htc (by omega)).1
    have hlo : (min (((s.node a).peer b).known : Int) ((s.node a).texts.length : Int)) = ((min ((s.node a).peer b).known (s.node a).texts.length : Nat) : Int) := by omega
    repeat' (first | refine a_mov ?_ | refine a_asg ?_ | refine a_binN ?_ | refine a_notd ?_ | refine a_notb ?_ | refine a_nilc ?_ | refine a_fa ?_ | refine a_ext ?_ | refine a_lenv ?_ | refine a_lens ?_ | refine a_pick_t ?_ | refine a_pick_f ?_ | refine a_not ?_ | refine a_nilf ?_ | (refine o_nil (hK _ _ ?_); clear hK K) | refine wk_reg ?_ | refine wk_seq fun K hK => ?_ | (refine wk_skip (hK _ _ ?_); clear hK K) | (refine wk_label (hK _ _ ?_); clear hK K) | refine wk_scope ?_ | refine wk_block ?_ | refine wk_cond_t rfl ?_ | refine wk_cond_f rfl ?_ | (refine wk_exit ?_; (repeat (refine blockK_other rfl ?_)); refine blockK_same ?_; try ((repeat ((fail_if_success (refine hK _ _ ?_)); clear hK K)); refine hK _ _ ?_; clear hK K)) | (refine a_bin ?_ ?_ <;> intro _ <;> try (exfalso; omega)) | refine a_ld hl ?_ | (refine a_st hl ?_; clear hl; intro _ hl) | refine a_ix (fun _ => ?_) | fail)
    refine wk_draw [0, 1, 2, 3, 4, 5, 6, 7, 8, 9, 10, 11, 12] [] [13, 14] (fun w' => To w4 w' w4.heap) (fun _ => True) rfl (by kernel_rfl) (fun _ _ _ _ h => by first | exact h | (simp only [BlockK, NoGoto, RetQ] at h)) (fun _ h => h) (fun _ _ => trivial) ?_
    repeat' (first | refine q_mov ?_ | refine q_asg ?_ | refine q_fa ?_ | refine q_ext ?_ | refine q_binN ?_ | refine q_notd ?_ | refine q_notb ?_ | refine q_pick_t ?_ | refine q_pick_f ?_ | refine q_nilc ?_ | refine q_skip ?_ | refine q_lens ?_ | refine q_lenv ?_ | refine q_nil ?_ | refine q_ix (fun _ => ?_) | (refine q_bin ?_ ?_ <;> intro _ <;> try (exfalso; omega)) | refine q_row (fun w_ hw_ => hr2 w_ hw_) ?_ | refine q_ld (fun w_ hw_ => hl4.heap hw_) ?_ | fail)
    refine q_pur rfl rfl rfl (fun _ => r_min rfl rfl) ?_
    refine q_pur rfl rfl rfl (fun w => r_slcL (lo := min ((s.node a).peer b).known (s.node a).texts.length) rfl rfl htc (by omega) rfl rfl hlo w) ?_
    refine q_nil ?_
    intro w5 hw5
    have hx5 : Ext w4 w5 := Upd.of_heap hw5
    rw [Nat.mul_one, ← List.map_drop, drop_min] at hcut
    refine ops_tail rfl rfl ?_
    refine a_fn (clone_calls (hcut.ext hx5) (by rw [List.length_drop]; have := hlen a; unfold texts at this; omega)) ?_
    rintro v6 w6 ⟨acc, hl6, ha6⟩
    refine o_nil ⟨trivial, ?_⟩
    refine ops_tail rfl rfl ?_
    refine a_asg ?_
    refine o_nil ⟨trivial, ?_⟩
    refine ops_nil (hK _ _ ?_)
    clear hK K
    have hx6 : Ext w4 w6 := hx5.trans hl6.done
    have hb8l : b8 < w5.heap.size := Nat.lt_of_lt_of_le (hl4.lt (p := (b8, _)) List.mem_cons_self) hx5.size
    have hgl : (D.nd a).pg b < w5.heap.size := by
      have h1 := (Array.getElem?_eq_some_iff.1 (NodOK.got hno hb)).1
      have h2 := hx4.size
      have h3 := hx5.size
      omega
    have hfr : ∀ k, k < w5.heap.size → ¬ Go.Pd.In acc k := fun k hk hi => by
      obtain ⟨q, hq, rfl⟩ := List.mem_map.1 hi
      rcases hl6.fresh q hq with h | h
      · omega
      · exact h
    repeat' (first | refine a_mov ?_ | refine a_asg ?_ | refine a_binN ?_ | refine a_notd ?_ | refine a_notb ?_ | refine a_nilc ?_ | refine a_fa ?_ | refine a_ext ?_ | refine a_lenv ?_ | refine a_lens ?_ | refine a_pick_t ?_ | refine a_pick_f ?_ | refine a_not ?_ | refine a_nilf ?_ | (refine o_nil (hK _ _ ?_); clear hK K) | refine wk_reg ?_ | refine wk_seq fun K hK => ?_ | (refine wk_skip (hK _ _ ?_); clear hK K) | (refine wk_label (hK _ _ ?_); clear hK K) | refine wk_scope ?_ | refine wk_block ?_ | refine wk_cond_t rfl ?_ | refine wk_cond_f rfl ?_ | (refine wk_exit ?_; (repeat (refine blockK_other rfl ?_)); refine blockK_same ?_; try ((repeat ((fail_if_success (refine hK _ _ ?_)); clear hK K)); refine hK _ _ ?_; clear hK K)) | (refine a_bin ?_ ?_ <;> intro _ <;> try (exfalso; omega)) | refine a_ld hl ?_ | (refine a_st hl ?_; clear hl; intro _ hl) | refine a_ix (fun _ => ?_) | fail)
    refine o_mf [] [.pointer (some ⟨b8, 0, none⟩)] rfl rfl rfl ?_
    refine a_fn (del_calls (l := (s.node a).texts.drop ((s.node a).peer b).known) (gl := ((s.node a).peer b).got) (pb := b8) (gb := (D.nd a).pg b) hl6.owned ha6 (by rw [List.length_drop]; have := hlen a; unfold texts at this; omega)
      (((hl4.rowL (vs := [.int .i64 (((s.node a).peer b).heard : Int), .int .i64 (((s.node a).peer b).known : Int), .map (some ((D.nd a).pg b))]) 0 2 1 rfl)).ext hx6)
      (((hx4.trans hx6).same _ (Array.getElem?_eq_some_iff.1 (NodOK.got hno hb)).1 (fun h => h)).trans (NodOK.got hno hb)) (hd.g b hb) (hfr _ hb8l) (hfr _ hgl)) ?_
    rintro v7 w7 ⟨acc7, hl7, ha7⟩
    repeat' (first | refine a_mov ?_ | refine a_asg ?_ | refine a_binN ?_ | refine a_notd ?_ | refine a_notb ?_ | refine a_nilc ?_ | refine a_fa ?_ | refine a_ext ?_ | refine a_lenv ?_ | refine a_lens ?_ | refine a_pick_t ?_ | refine a_pick_f ?_ | refine a_not ?_ | refine a_nilf ?_ | (refine o_nil (hK _ _ ?_); clear hK K) | refine wk_reg ?_ | refine wk_seq fun K hK => ?_ | (refine wk_skip (hK _ _ ?_); clear hK K) | (refine wk_label (hK _ _ ?_); clear hK K) | refine wk_scope ?_ | refine wk_block ?_ | refine wk_cond_t rfl ?_ | refine wk_cond_f rfl ?_ | (refine wk_exit ?_; (repeat (refine blockK_other rfl ?_)); refine blockK_same ?_; try ((repeat ((fail_if_success (refine hK _ _ ?_)); clear hK K)); refine hK _ _ ?_; clear hK K)) | (refine a_bin ?_ ?_ <;> intro _ <;> try (exfalso; omega)) | refine a_ld hl ?_ | (refine a_st hl ?_; clear hl; intro _ hl) | refine a_ix (fun _ => ?_) | fail)
    refine wk_ret (retQ_tmp1 Try.results24 (by decide) rfl (by conv => lhs; whnf) ?_)
    refine ⟨acc7, ?_, by rw [hlk]; exact ha7⟩
    have h8 := (((LH.start w (fun _ => False)).ext (hx4.trans hx5)).join hl6)
    have h9 := LH.focus h8 hl7
    simpa using h9
  · have hlk : lacks s a b = [] := if_neg hp
    by_cases hall : [a, b].all (fun i => decide (i < s.n)) = true
    · rw [hall]
      have hab : a = b := by
        simp at hall
        apply Classical.byContradiction
        intro hne
        exact hp (decide_eq_true ⟨hall.1, hall.2, hne⟩)
      subst hab
      repeat' (first | refine a_mov ?_ | refine a_asg ?_ | refine a_binN ?_ | refine a_notd ?_ | refine a_notb ?_ | refine a_nilc ?_ | refine a_fa ?_ | refine a_ext ?_ | refine a_lenv ?_ | refine a_lens ?_ | refine a_pick_t ?_ | refine a_pick_f ?_ | refine a_not ?_ | refine a_nilf ?_ | (refine o_nil (hK _ _ ?_); clear hK K) | refine wk_reg ?_ | refine wk_seq fun K hK => ?_ | (refine wk_skip (hK _ _ ?_); clear hK K) | (refine wk_label (hK _ _ ?_); clear hK K) | refine wk_scope ?_ | refine wk_block ?_ | refine wk_cond_t rfl ?_ | refine wk_cond_f rfl ?_ | (refine wk_exit ?_; (repeat (refine blockK_other rfl ?_)); refine blockK_same ?_; try ((repeat ((fail_if_success (refine hK _ _ ?_)); clear hK K)); refine hK _ _ ?_; clear hK K)) | (refine a_bin ?_ ?_ <;> intro _ <;> try (exfalso; omega)) | refine a_ld hl ?_ | (refine a_st hl ?_; clear hl; intro _ hl) | refine a_ix (fun _ => ?_) | fail)
      refine wk_ret (retQ_tmp1 Try.results24 (by decide) rfl (by conv => lhs; whnf) ?_)
      exact ⟨[], (LH.start w _).ext hx2, by rw [hlk]; exact Acc.nil _ _⟩
    · rw [Bool.not_eq_true] at hall
      rw [hall]
      repeat' (first | refine a_mov ?_ | refine a_asg ?_ | refine a_binN ?_ | refine a_notd ?_ | refine a_notb ?_ | refine a_nilc ?_ | refine a_fa ?_ | refine a_ext ?_ | refine a_lenv ?_ | refine a_lens ?_ | refine a_pick_t ?_ | refine a_pick_f ?_ | refine a_not ?_ | refine a_nilf ?_ | (refine o_nil (hK _ _ ?_); clear hK K) | refine wk_reg ?_ | refine wk_seq fun K hK => ?_ | (refine wk_skip (hK _ _ ?_); clear hK K) | (refine wk_label (hK _ _ ?_); clear hK K) | refine wk_scope ?_ | refine wk_block ?_ | refine wk_cond_t rfl ?_ | refine wk_cond_f rfl ?_ | (refine wk_exit ?_; (repeat (refine blockK_other rfl ?_)); refine blockK_same ?_; try ((repeat ((fail_if_success (refine hK _ _ ?_)); clear hK K)); refine hK _ _ ?_; clear hK K)) | (refine a_bin ?_ ?_ <;> intro _ <;> try (exfalso; omega)) | refine a_ld hl ?_ | (refine a_st hl ?_; clear hl; intro _ hl) | refine a_ix (fun _ => ?_) | fail)
      refine wk_ret (retQ_tmp1 Try.results24 (by decide) rfl (by conv => lhs; whnf) ?_)
      exact ⟨[], (LH.start w _).ext hx2, by rw [hlk]; exact Acc.nil _ _⟩
end Go.Proofs
