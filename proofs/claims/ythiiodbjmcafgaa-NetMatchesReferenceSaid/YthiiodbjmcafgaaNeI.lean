/-
  A network: Deliver.
-/
import Derived.Test.YthiiodbjmcafgaaNeH
set_option linter.unusedVariables false
set_option linter.unusedSimpArgs false
set_option linter.unnecessarySimpa false
set_option maxRecDepth 10000
namespace Go.Ne
open Go Go.Pd
theorem range_set {α : Type} (f f' : Nat → α) (n j : Nat) (v : α) (hj : j < n) (h : ∀ i, i ≠ j → f' i = f i) (hv : f' j = v) : ((List.range n).map f).set j v = (List.range n).map f' := by
  apply List.ext_getElem?
  intro i
  rw [List.getElem?_set]
  by_cases e : j = i
  · subst e
    rw [if_pos rfl, if_pos (by simpa using hj)]
    simp [hj, hv]
  · rw [if_neg e]
    by_cases hi : i < n
    · simp [hi, h i (fun e' => e e'.symm)]
    · rw [List.getElem?_eq_none (by simpa using hi), List.getElem?_eq_none (by simpa using hi)]
theorem nodBl_got (n : Nat) (d : NodB) (x : Nod) {k : Nat} (hk : k < n) : (nodBl n d x)[(nodA n d x).length + k]? = some (d.pg k, .map (d.ges k) (d.gc k)) := by
  unfold nodBl
  rw [List.getElem?_append_right (by omega), Nat.add_sub_cancel_left]
  simp [hk]
theorem nodBl_set (n : Nat) (d : NodB) (x : Nod) {k : Nat} (hk : k < n) (es : Array MapEntry) (c : Nat) : (nodBl n d x).set ((nodA n d x).length + k) (d.pg k, .map es c) = nodBl n { d with ges := upd d.ges k es, gc := upd d.gc k c } x := by
  unfold nodBl
  rw [List.set_append_right _ _ (by omega), Nat.add_sub_cancel_left]
  congr 1
  refine range_set _ _ n k _ hk (fun i hi => ?_) ?_
  · simp only [upd_ne _ _ hi]
  · simp only [upd_same]
/-- A peer's numbers and texts. -/
def setP (x : Nod) (k : Nat) (q : Peer) : Nod := ⟨x.texts, upd x.peer k q⟩
theorem cells_heard (n : Nat) (d : NodB) (x : Nod) {k : Nat} (hk : k < 8) (v : Nat) : (nodCells n d x).set (2 + k * 3) (.int .i64 (v : Int)) = nodCells n d (setP x k ⟨v, (x.peer k).known, (x.peer k).got⟩) := by
  unfold nodCells
  rw [show 2 + k * 3 = (k * 3) + 1 + 1 by omega, List.set_cons_succ, List.set_cons_succ]
  congr 2
  refine range_set _ _ 24 (k * 3) _ (by omega) (fun i hi => ?_) ?_
  · by_cases e : i / 3 = k
    · have h3 : i % 3 ≠ 0 := fun h => hi (by omega)
      unfold pcell setP
      simp only [if_neg h3, e, upd_same]
    · unfold pcell setP
      simp only [upd_ne _ _ e]
  · rw [pcell0]; unfold setP; simp only [upd_same]
theorem cells_known (n : Nat) (d : NodB) (x : Nod) {k : Nat} (hk : k < 8) (v : Nat) : (nodCells n d x).set (2 + k * 3 + 1) (.int .i64 (v : Int)) = nodCells n d (setP x k ⟨(x.peer k).heard, v, (x.peer k).got⟩) := by
  unfold nodCells
  rw [show 2 + k * 3 + 1 = (k * 3 + 1) + 1 + 1 by omega, List.set_cons_succ, List.set_cons_succ]
  congr 2
  refine range_set _ _ 24 (k * 3 + 1) _ (by omega) (fun i hi => ?_) ?_
  · by_cases e : i / 3 = k
    · have h3 : ¬ i % 3 = 1 := fun h => hi (by omega)
      unfold pcell setP
      simp only [if_neg h3, e, upd_same]
    · unfold pcell setP
      simp only [upd_ne _ _ e]
  · rw [pcell1]; unfold setP; simp only [upd_same]
/-- What a peer sent does not stand among the cells. -/
theorem cells_got (n : Nat) (d : NodB) (x : Nod) (k : Nat) (g : List Tx) : nodCells n d (setP x k ⟨(x.peer k).heard, (x.peer k).known, g⟩) = nodCells n d x := by
  unfold nodCells
  congr 2
  refine List.map_congr_left fun i _ => ?_
  unfold pcell setP
  by_cases e : i / 3 = k
  · simp only [e, upd_same]
  · simp only [upd_ne _ _ e]
theorem NodOK.sub {D : NetB} {s : Net} {i : Nat} (hi : i < s.n) {b : Nat} (h : Go.Pd.In (nodBl s.n (D.nd i) (s.node i)) b) : Go.Pd.In (D.bl s) b := by
  have hp := (perm_node D s hi).map (·.1)
  refine hp.mem_iff.2 ?_
  rw [List.map_append]
  exact List.mem_append_left _ h
end Go.Ne
namespace Go.Ne
open Go Go.Pd
theorem nodBl_gotx (n : Nat) (d : NodB) (x : Nod) (k : Nat) (g : List Tx) : nodBl n d (setP x k ⟨(x.peer k).heard, (x.peer k).known, g⟩) = nodBl n d x := by
  unfold nodBl nodA
  rw [cells_got]
def recvX (x : Nod) (f : Nat) (ts : List Tx) : Nod := ⟨ts.foldl addT x.texts, upd x.peer f ⟨(x.peer f).heard, (x.peer f).known, ts.foldl addT (x.peer f).got⟩⟩
theorem upd_id {α : Type} (g : Nat → α) (i : Nat) : upd g i (g i) = g := by
  funext j
  by_cases e : j = i
  · subst e; rw [upd_same]
  · rw [upd_ne _ _ e]
theorem upd_upd {α : Type} (g : Nat → α) (i : Nat) (a b : α) : upd (upd g i a) i b = upd g i b := by
  funext j
  by_cases e : j = i
  · subst e; rw [upd_same, upd_same]
  · rw [upd_ne _ _ e, upd_ne _ _ e, upd_ne _ _ e]
theorem recvX_nil (x : Nod) (f : Nat) : recvX x f [] = x := by
  unfold recvX
  rw [List.foldl_nil, List.foldl_nil, upd_id]
theorem recvX_step (x : Nod) (f : Nat) (ts : List Tx) (t : Tx) : setP ⟨addT (recvX x f ts).texts t, (recvX x f ts).peer⟩ f ⟨((recvX x f ts).peer f).heard, ((recvX x f ts).peer f).known, addT ((recvX x f ts).peer f).got t⟩ = recvX x f (ts ++ [t]) := by
  unfold recvX setP
  simp only [upd_same, upd_upd, List.foldl_append, List.foldl_cons, List.foldl_nil]
theorem foldT_len : ∀ (ts l : List Tx), (ts.foldl addT l).length ≤ l.length + ts.length
  | [], l => by simp
  | t :: ts, l => by
    rw [List.foldl_cons]
    have h := foldT_len ts (addT l t)
    have h2 : (addT l t).length ≤ l.length + 1 := by unfold addT; split <;> simp
    rw [List.length_cons]; omega
end Go.Ne
namespace Go.Proofs
open Go Go.Pd Go.Ne
attribute [local irreducible] OpsL W RetQ OpsQ OpsC

set_option maxHeartbeats 4000000 in
theorem deliver_calls {X : Nat → Prop} {s : Net} {p : Nat} {bl : List (Nat × Obj)} {w : World} (h : NetR X s p bl w) (a b : Nat) (lost again : Bool) (hlen : ∀ a, (texts s a).length ≤ 100000) (hmt : ∀ a b, ∀ m ∈ s.q a b, m.texts.length ≤ 100000) :
    Calls Try.prog 17 #[.pointer (some ⟨p, 0, none⟩), .int .i64 (a : Int), .int .i64 (b : Int), .bool lost, .bool again] w (fun e w' => ∃ v, e = .returned v ∧ v = .bool (delivB s a b) ∧ After X (deliver s a b lost again) p bl w w') := by
  have hR := h
  obtain ⟨D, rfl, rfl, rfl, hok, hown⟩ := h
  obtain ⟨nb, no, nc, hnv, hptr⟩ := hok.ptr hown
  have hhd := NetOK.head hown
  rw [hnv] at hhd
  have hsame : ∀ {w'}, Ext w w' → delivB s a b = false → After D.X (deliver s a b lost again) D.p (D.bl s) w w' := fun e hne => by
    have : deliver s a b lost again = s := by unfold deliver; rw [hne]; rfl
    rw [this]; exact After.same hR e
  refine calls_of Try.func17 rfl Try.ntmps17 rfl ?_
  repeat' (first | refine a_mov ?_ | refine a_asg ?_ | refine a_binN ?_ | refine a_notd ?_ | refine a_notb ?_ | refine a_nilc ?_ | refine a_fa ?_ | refine a_ext ?_ | refine a_lenv ?_ | refine a_lens ?_ | refine a_pick_t ?_ | refine a_pick_f ?_ | refine a_not ?_ | refine a_nilf ?_ | (refine o_nil (hK _ _ ?_); clear hK K) | refine wk_reg ?_ | refine wk_seq fun K hK => ?_ | (refine wk_skip (hK _ _ ?_); clear hK K) | (refine wk_label (hK _ _ ?_); clear hK K) | refine wk_scope ?_ | refine wk_block ?_ | refine wk_cond_t rfl ?_ | refine wk_cond_f rfl ?_ | (refine wk_exit ?_; (repeat (refine blockK_other rfl ?_)); refine blockK_same ?_; try ((repeat ((fail_if_success (refine hK _ _ ?_)); clear hK K)); refine hK _ _ ?_; clear hK K)) | (refine a_bin ?_ ?_ <;> intro _ <;> try (exfalso; omega)) | refine a_ld hl ?_ | (refine a_st hl ?_; clear hl; intro _ hl) | refine a_ix (fun _ => ?_) | fail)
  by_cases hp : pair s a b = true
  · obtain ⟨ha, hb, hab⟩ := of_decide_eq_true hp
    have hall : [a, b].all (fun i => decide (i < s.n)) = true := by simp [ha, hb]
    have hck := hok.ck (min a b) (max a b)
    have hn8 := hok.np.2
    have hcd : cutA s a b = decide ((min a b, max a b) ∈ D.ck) := hck
    refine wk_grow [([0, 1, 2], [3]), ([4, 5, 6, 7, 8, 9, 10, 11, 12, 13, 14, 15, 16, 17, 18, 19, 20], [])] ?_
    refine g_one (BsR 2 [.int .i64 (a : Int), .int .i64 (b : Int)]) (BsR.stb _ _) ?_
    repeat' (first | refine x_mov ?_ | refine x_asg ?_ | refine x_fa ?_ | refine x_ext ?_ | refine x_binN ?_ | refine x_notd ?_ | refine x_notb ?_ | refine x_pick_t ?_ | refine x_pick_f ?_ | refine x_nilc ?_ | refine x_skip ?_ | refine x_lens ?_ | refine x_lenv ?_ | refine x_ix (fun _ => ?_) | (refine x_bin ?_ ?_ <;> intro _ <;> try (exfalso; omega)) | fail)
    refine x_nil ⟨fun v => p_walk rfl rfl rfl fun w' hw' _ => ?_, ?_⟩
    · refine o_buildSlice (LH.start w' (fun _ => False)) [.int .i64 (a : Int), .int .i64 (b : Int)] rfl rfl (by kernel_rfl) ?_
      intro b1 w1 hb1 hl1
      exact o_nil ⟨_, rfl, hl1.done, b1, rfl, hl1.rowL (vs := [.int .i64 (a : Int), .int .i64 (b : Int)]) 0 0 2 rfl⟩
    rintro _ w1 hx1 ⟨b1, rfl, hr1⟩
    refine g_end ?_
    refine x_fn (v := .bool true) (fun w' hw' => ?_) ?_
    · refine (there_calls (p := D.p) (m := s.n) (l := [a, b]) (Sl.mk (b := b1) (o := 0) (m := 2) (c := 2) rfl (Nat.le_refl _) (hr1.ext hw')) (by simp) (fun j v hj => (hhd.ext (hx1.trans hw')) j v (by cases j with | zero => exact hj | succ j => simp at hj))).mono ?_
      rintro e w'' ⟨x, rfl, rfl, he⟩
      exact ⟨_, rfl, by rw [hall], he⟩
    repeat' (first | refine x_mov ?_ | refine x_asg ?_ | refine x_fa ?_ | refine x_ext ?_ | refine x_binN ?_ | refine x_notd ?_ | refine x_notb ?_ | refine x_pick_t ?_ | refine x_pick_f ?_ | refine x_nilc ?_ | refine x_skip ?_ | refine x_lens ?_ | refine x_lenv ?_ | refine x_ix (fun _ => ?_) | (refine x_bin ?_ ?_ <;> intro _ <;> try (exfalso; omega)) | refine x_row (fun w_ hw_ => hhd.ext (hx1.trans hw_)) ?_ | fail)
    refine x_fn (v := int2V (min a b, max a b)) (fun w' hw' => ?_) ?_
    · refine (line_calls a b w').mono ?_
      rintro e w'' ⟨x, rfl, rfl, he⟩
      exact ⟨_, rfl, rfl, he⟩
    have hval : (if false = true then Value.tuple #[(Go.Pd.get (boolI D.ck) (min a b, max a b)).getD (.bool false), .bool (Go.Pd.get (boolI D.ck) (min a b, max a b)).isSome] else (Go.Pd.get (boolI D.ck) (min a b, max a b)).getD (.bool false)) = .bool (cutA s a b) := by
      rw [boolI_get, hcd]
      by_cases hc : (min a b, max a b) ∈ D.ck <;> simp [hc]
    refine x_val (v := .bool (cutA s a b)) rfl rfl (fun w_ hw_ => ?_) ?_
    · rw [← hval]
      exact r_lookup (min a b, max a b) rfl (key_int2 rfl rfl rfl) hok.cm rfl rfl rfl ((hown.ext (hx1.trans hw_)).get 2 rfl)
    cases hcu : cutA s a b
    · repeat' (first | refine x_mov ?_ | refine x_asg ?_ | refine x_fa ?_ | refine x_ext ?_ | refine x_binN ?_ | refine x_notd ?_ | refine x_notb ?_ | refine x_pick_t ?_ | refine x_pick_f ?_ | refine x_nilc ?_ | refine x_skip ?_ | refine x_lens ?_ | refine x_lenv ?_ | refine x_ix (fun _ => ?_) | (refine x_bin ?_ ?_ <;> intro _ <;> try (exfalso; omega)) | fail)
      refine x_nil fun w2 hw2 => ?_
      refine hK _ _ ?_
      clear hK K
      have hx2 : Ext w w2 := hx1.trans hw2
      have hl2 := hown.ext hx2
      have hQ := hok.qu a b ha hb
      have hlq : (D.qu (a, b)).l.length = (s.q a b).length := by rw [← hQ.l, List.length_map]
      have hqo : Own w2 (qBl (D.qu (a, b))) := NetOK.qOwn hl2 ha hb
      refine wk_cond_f rfl ?_
      refine wk_skip (hK _ _ ?_)
      clear hK K
      refine wk_seq fun K hK => ?_
      cases hms : (D.qu (a, b)).l with
      | nil =>
        have hq0 : s.q a b = [] := by rw [← hQ.l, hms]; rfl
        have hdb : delivB s a b = false := by unfold delivB; rw [hq0]; simp
        have hfin : ∀ (D' : NetB) (w' : World), LH w2 (Go.Pd.In (qBl (D.qu (a, b)))) w' (qBl (D.qu (a, b))) → After D.X (deliver s a b lost again) D.p (D.bl s) w w' := fun D' w' hl' => by
          have : deliver s a b lost again = s := by unfold deliver; rw [hdb]; rfl
          rw [this]
          have h1 := (hl2.perm (perm_queue D s (mem_pairs.2 ⟨ha, hb⟩))).focus hl'
          have h2 := h1.perm (perm_queue D s (mem_pairs.2 ⟨ha, hb⟩)).symm
          have h3 := (LH.perm hl2.owned (perm_queue D s (mem_pairs.2 ⟨ha, hb⟩))).focus hl'
          have h4 := h3.perm (perm_queue D s (mem_pairs.2 ⟨ha, hb⟩)).symm
          exact After.mk (by rfl) h2 ⟨hok.np, hok.nv, hok.nd, hok.qm, hok.qg, fun x y hx hy => ((hok.qu x y hx hy).ext hx2).step h4, fun b hb => Nat.lt_of_lt_of_le (hok.xs b hb) h2.upd.size, hok.cm, hok.ck, hok.am⟩
        have hQ' : AccO (D.qu (a, b)).qv 3 83 (D.qu (a, b)).l.length ((D.qu (a, b)).l.flatMap msgC) (D.qu (a, b)).qacc := by rw [hlq]; exact hQ.a
        repeat' (first | refine a_mov ?_ | refine a_asg ?_ | refine a_binN ?_ | refine a_notd ?_ | refine a_notb ?_ | refine a_nilc ?_ | refine a_fa ?_ | refine a_ext ?_ | refine a_lenv ?_ | refine a_lens ?_ | refine a_pick_t ?_ | refine a_pick_f ?_ | refine a_not ?_ | refine a_nilf ?_ | (refine o_nil (hK _ _ ?_); clear hK K) | refine wk_reg ?_ | refine wk_seq fun K hK => ?_ | (refine wk_skip (hK _ _ ?_); clear hK K) | (refine wk_label (hK _ _ ?_); clear hK K) | refine wk_scope ?_ | refine wk_block ?_ | refine wk_cond_t rfl ?_ | refine wk_cond_f rfl ?_ | (refine wk_exit ?_; (repeat (refine blockK_other rfl ?_)); refine blockK_same ?_; try ((repeat ((fail_if_success (refine hK _ _ ?_)); clear hK K)); refine hK _ _ ?_; clear hK K)) | (refine a_bin ?_ ?_ <;> intro _ <;> try (exfalso; omega)) | refine a_ld hl ?_ | (refine a_st hl ?_; clear hl; intro _ hl) | refine a_ix (fun _ => ?_) | refine a_row (hhd.ext hx2) ?_ | fail)
        refine o_build [.int .i64 (a : Int), .int .i64 (b : Int)] rfl (by kernel_rfl) ?_
        refine o_lookup (a, b) hok.qm (hl2.get 1 rfl) (key_int2 rfl rfl rfl) rfl rfl rfl rfl rfl ?_
        rw [hok.qg a b ha hb]
        cases again
        · repeat' (first | refine a_mov ?_ | refine a_asg ?_ | refine a_binN ?_ | refine a_notd ?_ | refine a_notb ?_ | refine a_nilc ?_ | refine a_fa ?_ | refine a_ext ?_ | refine a_lenv ?_ | refine a_lens ?_ | refine a_pick_t ?_ | refine a_pick_f ?_ | refine a_not ?_ | refine a_nilf ?_ | (refine o_nil (hK _ _ ?_); clear hK K) | refine wk_reg ?_ | refine wk_seq fun K hK => ?_ | (refine wk_skip (hK _ _ ?_); clear hK K) | (refine wk_label (hK _ _ ?_); clear hK K) | refine wk_scope ?_ | refine wk_block ?_ | refine wk_cond_t rfl ?_ | refine wk_cond_f rfl ?_ | (refine wk_exit ?_; (repeat (refine blockK_other rfl ?_)); refine blockK_same ?_; try ((repeat ((fail_if_success (refine hK _ _ ?_)); clear hK K)); refine hK _ _ ?_; clear hK K)) | (refine a_bin ?_ ?_ <;> intro _ <;> try (exfalso; omega)) | refine a_ld hl ?_ | (refine a_st hl ?_; clear hl; intro _ hl) | refine a_ix (fun _ => ?_) | fail)
          refine a_fn (first_none false hqo hQ' hms) ?_
          rintro _ w3 ⟨rfl, hl3⟩
          repeat' (first | refine a_mov ?_ | refine a_asg ?_ | refine a_binN ?_ | refine a_notd ?_ | refine a_notb ?_ | refine a_nilc ?_ | refine a_fa ?_ | refine a_ext ?_ | refine a_lenv ?_ | refine a_lens ?_ | refine a_pick_t ?_ | refine a_pick_f ?_ | refine a_not ?_ | refine a_nilf ?_ | (refine o_nil (hK _ _ ?_); clear hK K) | refine wk_reg ?_ | refine wk_seq fun K hK => ?_ | (refine wk_skip (hK _ _ ?_); clear hK K) | (refine wk_label (hK _ _ ?_); clear hK K) | refine wk_scope ?_ | refine wk_block ?_ | refine wk_cond_t rfl ?_ | refine wk_cond_f rfl ?_ | (refine wk_exit ?_; (repeat (refine blockK_other rfl ?_)); refine blockK_same ?_; try ((repeat ((fail_if_success (refine hK _ _ ?_)); clear hK K)); refine hK _ _ ?_; clear hK K)) | (refine a_bin ?_ ?_ <;> intro _ <;> try (exfalso; omega)) | refine a_ld hl ?_ | (refine a_st hl ?_; clear hl; intro _ hl) | refine a_ix (fun _ => ?_) | fail)
          refine o_alloc (LH.start w3 (fun _ => False)) zeroMsg rfl rfl ?_
          intro b11 w4 hb11 hl4
          repeat' (first | refine a_mov ?_ | refine a_asg ?_ | refine a_binN ?_ | refine a_notd ?_ | refine a_notb ?_ | refine a_nilc ?_ | refine a_fa ?_ | refine a_ext ?_ | refine a_lenv ?_ | refine a_lens ?_ | refine a_pick_t ?_ | refine a_pick_f ?_ | refine a_not ?_ | refine a_nilf ?_ | (refine a_bin ?_ ?_ <;> intro _ <;> try (exfalso; omega)) | refine a_ld hl ?_ | (refine a_st hl ?_; clear hl; intro _ hl) | refine a_ix (fun _ => ?_) | fail)
          refine o_putN (us := zeroMsg) hl4 rfl rfl rfl rfl rfl (.all (vs := zeroMsg) rfl rfl) ?_
          intro w5 hl5
          repeat' (first | refine a_mov ?_ | refine a_asg ?_ | refine a_binN ?_ | refine a_notd ?_ | refine a_notb ?_ | refine a_nilc ?_ | refine a_fa ?_ | refine a_ext ?_ | refine a_lenv ?_ | refine a_lens ?_ | refine a_pick_t ?_ | refine a_pick_f ?_ | refine a_not ?_ | refine a_nilf ?_ | (refine o_nil (hK _ _ ?_); clear hK K) | refine wk_reg ?_ | refine wk_seq fun K hK => ?_ | (refine wk_skip (hK _ _ ?_); clear hK K) | (refine wk_label (hK _ _ ?_); clear hK K) | refine wk_scope ?_ | refine wk_block ?_ | refine wk_cond_t rfl ?_ | refine wk_cond_f rfl ?_ | (refine wk_exit ?_; (repeat (refine blockK_other rfl ?_)); refine blockK_same ?_; try ((repeat ((fail_if_success (refine hK _ _ ?_)); clear hK K)); refine hK _ _ ?_; clear hK K)) | (refine a_bin ?_ ?_ <;> intro _ <;> try (exfalso; omega)) | refine a_ld hl ?_ | (refine a_st hl ?_; clear hl; intro _ hl) | refine a_ix (fun _ => ?_) | fail)
          refine wk_ret (retQ_tmp1 Try.results17 (by decide) rfl (by conv => lhs; whnf) ?_)
          exact ⟨by rw [hdb], hfin D w5 (hl3.ext hl5.done)⟩
        · cases lost
          · repeat' (first | refine a_mov ?_ | refine a_asg ?_ | refine a_binN ?_ | refine a_notd ?_ | refine a_notb ?_ | refine a_nilc ?_ | refine a_fa ?_ | refine a_ext ?_ | refine a_lenv ?_ | refine a_lens ?_ | refine a_pick_t ?_ | refine a_pick_f ?_ | refine a_not ?_ | refine a_nilf ?_ | (refine o_nil (hK _ _ ?_); clear hK K) | refine wk_reg ?_ | refine wk_seq fun K hK => ?_ | (refine wk_skip (hK _ _ ?_); clear hK K) | (refine wk_label (hK _ _ ?_); clear hK K) | refine wk_scope ?_ | refine wk_block ?_ | refine wk_cond_t rfl ?_ | refine wk_cond_f rfl ?_ | (refine wk_exit ?_; (repeat (refine blockK_other rfl ?_)); refine blockK_same ?_; try ((repeat ((fail_if_success (refine hK _ _ ?_)); clear hK K)); refine hK _ _ ?_; clear hK K)) | (refine a_bin ?_ ?_ <;> intro _ <;> try (exfalso; omega)) | refine a_ld hl ?_ | (refine a_st hl ?_; clear hl; intro _ hl) | refine a_ix (fun _ => ?_) | fail)
            refine a_fn (first_none true hqo hQ' hms) ?_
            rintro _ w3 ⟨rfl, hl3⟩
            repeat' (first | refine a_mov ?_ | refine a_asg ?_ | refine a_binN ?_ | refine a_notd ?_ | refine a_notb ?_ | refine a_nilc ?_ | refine a_fa ?_ | refine a_ext ?_ | refine a_lenv ?_ | refine a_lens ?_ | refine a_pick_t ?_ | refine a_pick_f ?_ | refine a_not ?_ | refine a_nilf ?_ | (refine o_nil (hK _ _ ?_); clear hK K) | refine wk_reg ?_ | refine wk_seq fun K hK => ?_ | (refine wk_skip (hK _ _ ?_); clear hK K) | (refine wk_label (hK _ _ ?_); clear hK K) | refine wk_scope ?_ | refine wk_block ?_ | refine wk_cond_t rfl ?_ | refine wk_cond_f rfl ?_ | (refine wk_exit ?_; (repeat (refine blockK_other rfl ?_)); refine blockK_same ?_; try ((repeat ((fail_if_success (refine hK _ _ ?_)); clear hK K)); refine hK _ _ ?_; clear hK K)) | (refine a_bin ?_ ?_ <;> intro _ <;> try (exfalso; omega)) | refine a_ld hl ?_ | (refine a_st hl ?_; clear hl; intro _ hl) | refine a_ix (fun _ => ?_) | fail)
            refine o_alloc (LH.start w3 (fun _ => False)) zeroMsg rfl rfl ?_
            intro b11 w4 hb11 hl4
            repeat' (first | refine a_mov ?_ | refine a_asg ?_ | refine a_binN ?_ | refine a_notd ?_ | refine a_notb ?_ | refine a_nilc ?_ | refine a_fa ?_ | refine a_ext ?_ | refine a_lenv ?_ | refine a_lens ?_ | refine a_pick_t ?_ | refine a_pick_f ?_ | refine a_not ?_ | refine a_nilf ?_ | (refine a_bin ?_ ?_ <;> intro _ <;> try (exfalso; omega)) | refine a_ld hl ?_ | (refine a_st hl ?_; clear hl; intro _ hl) | refine a_ix (fun _ => ?_) | fail)
            refine o_putN (us := zeroMsg) hl4 rfl rfl rfl rfl rfl (.all (vs := zeroMsg) rfl rfl) ?_
            intro w5 hl5
            repeat' (first | refine a_mov ?_ | refine a_asg ?_ | refine a_binN ?_ | refine a_notd ?_ | refine a_notb ?_ | refine a_nilc ?_ | refine a_fa ?_ | refine a_ext ?_ | refine a_lenv ?_ | refine a_lens ?_ | refine a_pick_t ?_ | refine a_pick_f ?_ | refine a_not ?_ | refine a_nilf ?_ | (refine o_nil (hK _ _ ?_); clear hK K) | refine wk_reg ?_ | refine wk_seq fun K hK => ?_ | (refine wk_skip (hK _ _ ?_); clear hK K) | (refine wk_label (hK _ _ ?_); clear hK K) | refine wk_scope ?_ | refine wk_block ?_ | refine wk_cond_t rfl ?_ | refine wk_cond_f rfl ?_ | (refine wk_exit ?_; (repeat (refine blockK_other rfl ?_)); refine blockK_same ?_; try ((repeat ((fail_if_success (refine hK _ _ ?_)); clear hK K)); refine hK _ _ ?_; clear hK K)) | (refine a_bin ?_ ?_ <;> intro _ <;> try (exfalso; omega)) | refine a_ld hl ?_ | (refine a_st hl ?_; clear hl; intro _ hl) | refine a_ix (fun _ => ?_) | fail)
            refine wk_ret (retQ_tmp1 Try.results17 (by decide) rfl (by conv => lhs; whnf) ?_)
            exact ⟨by rw [hdb], hfin D w5 (hl3.ext hl5.done)⟩
          · repeat' (first | refine a_mov ?_ | refine a_asg ?_ | refine a_binN ?_ | refine a_notd ?_ | refine a_notb ?_ | refine a_nilc ?_ | refine a_fa ?_ | refine a_ext ?_ | refine a_lenv ?_ | refine a_lens ?_ | refine a_pick_t ?_ | refine a_pick_f ?_ | refine a_not ?_ | refine a_nilf ?_ | (refine o_nil (hK _ _ ?_); clear hK K) | refine wk_reg ?_ | refine wk_seq fun K hK => ?_ | (refine wk_skip (hK _ _ ?_); clear hK K) | (refine wk_label (hK _ _ ?_); clear hK K) | refine wk_scope ?_ | refine wk_block ?_ | refine wk_cond_t rfl ?_ | refine wk_cond_f rfl ?_ | (refine wk_exit ?_; (repeat (refine blockK_other rfl ?_)); refine blockK_same ?_; try ((repeat ((fail_if_success (refine hK _ _ ?_)); clear hK K)); refine hK _ _ ?_; clear hK K)) | (refine a_bin ?_ ?_ <;> intro _ <;> try (exfalso; omega)) | refine a_ld hl ?_ | (refine a_st hl ?_; clear hl; intro _ hl) | refine a_ix (fun _ => ?_) | fail)
            refine a_fn (first_none false hqo hQ' hms) ?_
            rintro _ w3 ⟨rfl, hl3⟩
            repeat' (first | refine a_mov ?_ | refine a_asg ?_ | refine a_binN ?_ | refine a_notd ?_ | refine a_notb ?_ | refine a_nilc ?_ | refine a_fa ?_ | refine a_ext ?_ | refine a_lenv ?_ | refine a_lens ?_ | refine a_pick_t ?_ | refine a_pick_f ?_ | refine a_not ?_ | refine a_nilf ?_ | (refine o_nil (hK _ _ ?_); clear hK K) | refine wk_reg ?_ | refine wk_seq fun K hK => ?_ | (refine wk_skip (hK _ _ ?_); clear hK K) | (refine wk_label (hK _ _ ?_); clear hK K) | refine wk_scope ?_ | refine wk_block ?_ | refine wk_cond_t rfl ?_ | refine wk_cond_f rfl ?_ | (refine wk_exit ?_; (repeat (refine blockK_other rfl ?_)); refine blockK_same ?_; try ((repeat ((fail_if_success (refine hK _ _ ?_)); clear hK K)); refine hK _ _ ?_; clear hK K)) | (refine a_bin ?_ ?_ <;> intro _ <;> try (exfalso; omega)) | refine a_ld hl ?_ | (refine a_st hl ?_; clear hl; intro _ hl) | refine a_ix (fun _ => ?_) | fail)
            refine o_alloc (LH.start w3 (fun _ => False)) zeroMsg rfl rfl ?_
            intro b11 w4 hb11 hl4
            repeat' (first | refine a_mov ?_ | refine a_asg ?_ | refine a_binN ?_ | refine a_notd ?_ | refine a_notb ?_ | refine a_nilc ?_ | refine a_fa ?_ | refine a_ext ?_ | refine a_lenv ?_ | refine a_lens ?_ | refine a_pick_t ?_ | refine a_pick_f ?_ | refine a_not ?_ | refine a_nilf ?_ | (refine a_bin ?_ ?_ <;> intro _ <;> try (exfalso; omega)) | refine a_ld hl ?_ | (refine a_st hl ?_; clear hl; intro _ hl) | refine a_ix (fun _ => ?_) | fail)
            refine o_putN (us := zeroMsg) hl4 rfl rfl rfl rfl rfl (.all (vs := zeroMsg) rfl rfl) ?_
            intro w5 hl5
            repeat' (first | refine a_mov ?_ | refine a_asg ?_ | refine a_binN ?_ | refine a_notd ?_ | refine a_notb ?_ | refine a_nilc ?_ | refine a_fa ?_ | refine a_ext ?_ | refine a_lenv ?_ | refine a_lens ?_ | refine a_pick_t ?_ | refine a_pick_f ?_ | refine a_not ?_ | refine a_nilf ?_ | (refine o_nil (hK _ _ ?_); clear hK K) | refine wk_reg ?_ | refine wk_seq fun K hK => ?_ | (refine wk_skip (hK _ _ ?_); clear hK K) | (refine wk_label (hK _ _ ?_); clear hK K) | refine wk_scope ?_ | refine wk_block ?_ | refine wk_cond_t rfl ?_ | refine wk_cond_f rfl ?_ | (refine wk_exit ?_; (repeat (refine blockK_other rfl ?_)); refine blockK_same ?_; try ((repeat ((fail_if_success (refine hK _ _ ?_)); clear hK K)); refine hK _ _ ?_; clear hK K)) | (refine a_bin ?_ ?_ <;> intro _ <;> try (exfalso; omega)) | refine a_ld hl ?_ | (refine a_st hl ?_; clear hl; intro _ hl) | refine a_ix (fun _ => ?_) | fail)
            refine wk_ret (retQ_tmp1 Try.results17 (by decide) rfl (by conv => lhs; whnf) ?_)
            exact ⟨by rw [hdb], hfin D w5 (hl3.ext hl5.done)⟩
      | cons q qs =>
        have hsq : s.q a b = q.2 :: qs.map (·.2) := by rw [← hQ.l, hms]; rfl
        have hdb : delivB s a b = true := by unfold delivB; rw [hcu, hp, hsq]; rfl
        have hq1 : Cell1 q.1 := by
          obtain ⟨x, c, hx, -⟩ := ((hQ.s q (by rw [hms]; exact List.mem_cons_self)).1).shape (m := q.2.texts.length) (by simp) (by omega)
          rw [hx]; exact ⟨rfl, rfl⟩
        have hQ' : AccO (D.qu (a, b)).qv 3 83 (D.qu (a, b)).l.length ((D.qu (a, b)).l.flatMap msgC) (D.qu (a, b)).qacc := by rw [hlq]; exact hQ.a
        let s1 : Net := { s with q := upd2 s.q a b (if again && !lost then s.q a b else qs.map (·.2)) }
        refine wk_cut [] (fun b11 : Nat => [(0, .pointer (some ⟨D.p, 0, none⟩)), (1, .int .i64 (a : Int)), (2, .int .i64 (b : Int)), (3, .bool lost), (4, .bool again), (11, .pointer (some ⟨b11, 0, none⟩)), (12, .bool true)])
          (fun b11 w' => ∃ D4 : NetB, (D4.p = D.p ∧ D4.X = D.X) ∧ LH w (Go.Pd.In (D.bl s)) w' (D4.bl s1) ∧ NetOK D4 s1 w' ∧ Row w' b11 0 (msgC q) ∧ ¬ Go.Pd.In (D4.bl s1) b11 ∧ b11 < w'.heap.size ∧ SlO (Go.Pd.In (D4.bl s1)) w' q.1 1 (strL q.2.texts)) ?_ ?_
        · clear hK K
          repeat' (first | refine a_mov ?_ | refine a_asg ?_ | refine a_binN ?_ | refine a_notd ?_ | refine a_notb ?_ | refine a_nilc ?_ | refine a_fa ?_ | refine a_ext ?_ | refine a_lenv ?_ | refine a_lens ?_ | refine a_pick_t ?_ | refine a_pick_f ?_ | refine a_not ?_ | refine a_nilf ?_ | (refine o_nil (hK _ _ ?_); clear hK K) | refine wk_reg ?_ | refine wk_seq fun K hK => ?_ | (refine wk_skip (hK _ _ ?_); clear hK K) | (refine wk_label (hK _ _ ?_); clear hK K) | refine wk_scope ?_ | refine wk_block ?_ | refine wk_cond_t rfl ?_ | refine wk_cond_f rfl ?_ | (refine wk_exit ?_; (repeat (refine blockK_other rfl ?_)); refine blockK_same ?_; try ((repeat ((fail_if_success (refine hK _ _ ?_)); clear hK K)); refine hK _ _ ?_; clear hK K)) | (refine a_bin ?_ ?_ <;> intro _ <;> try (exfalso; omega)) | refine a_ld hl ?_ | (refine a_st hl ?_; clear hl; intro _ hl) | refine a_ix (fun _ => ?_) | refine a_row (hhd.ext hx2) ?_ | fail)
          refine o_build [.int .i64 (a : Int), .int .i64 (b : Int)] rfl (by kernel_rfl) ?_
          refine o_lookup (a, b) hok.qm (hl2.get 1 rfl) (key_int2 rfl rfl rfl) rfl rfl rfl rfl rfl ?_
          rw [hok.qg a b ha hb]
          have hend : ∀ (st : Bool), st = (again && !lost) → ∀ (d' : QB) (w3 : World), LH w2 (Go.Pd.In (qBl (D.qu (a, b)))) w3 (qBl d') → d'.qb = (D.qu (a, b)).qb → d'.l = (if st = true then (D.qu (a, b)).l else qs) → AccO d'.qv 3 83 d'.l.length (d'.l.flatMap msgC) d'.qacc →
              ∃ D4 : NetB, (D4.p = D.p ∧ D4.X = D.X) ∧ LH w (Go.Pd.In (D.bl s)) w3 (D4.bl s1) ∧ NetOK D4 s1 w3 ∧ SlO (Go.Pd.In (D4.bl s1)) w3 q.1 1 (strL q.2.texts) := by
            intro st hst d' w3 hl3 hb3 hdl hac
            have hmap : d'.l.map (·.2) = (if again && !lost then s.q a b else qs.map (·.2)) := by
              rw [hdl, ← hst]
              cases st
              · rfl
              · show (D.qu (a, b)).l.map (·.2) = s.q a b
                exact hQ.l
            have hsub : ∀ z ∈ d'.l, z ∈ (D.qu (a, b)).l := fun z hz => by
              rw [hdl] at hz
              cases st
              · rw [hms]; exact List.mem_cons_of_mem _ hz
              · exact hz
            obtain ⟨h1, h2⟩ := (hok.ext hx2).queue hl2 ha hb (d' := d') (ms' := if again && !lost then s.q a b else qs.map (·.2)) hl3 hb3 (fun l' hl' => ⟨by rw [← hmap, List.length_map]; exact hac, hmap, fun z hz => ((hQ.s z (hsub z hz)).ext hx2).stepX hl'⟩)
            have h3 := ((hok.ext hx2).queue hl2.owned ha hb (d' := d') (ms' := if again && !lost then s.q a b else qs.map (·.2)) hl3 hb3 (fun l' hl' => ⟨by rw [← hmap, List.length_map]; exact hac, hmap, fun z hz => ((hQ.s z (hsub z hz)).ext hx2).stepX hl'⟩)).1
            exact ⟨_, ⟨by rfl, by rfl⟩, h1, h2, (((hQ.s q (by rw [hms]; exact List.mem_cons_self)).ext hx2).stepX h3).mono fun b hb => .inl hb⟩
          cases again
          · repeat' (first | refine a_mov ?_ | refine a_asg ?_ | refine a_binN ?_ | refine a_notd ?_ | refine a_notb ?_ | refine a_nilc ?_ | refine a_fa ?_ | refine a_ext ?_ | refine a_lenv ?_ | refine a_lens ?_ | refine a_pick_t ?_ | refine a_pick_f ?_ | refine a_not ?_ | refine a_nilf ?_ | (refine o_nil (hK _ _ ?_); clear hK K) | refine wk_reg ?_ | refine wk_seq fun K hK => ?_ | (refine wk_skip (hK _ _ ?_); clear hK K) | (refine wk_label (hK _ _ ?_); clear hK K) | refine wk_scope ?_ | refine wk_block ?_ | refine wk_cond_t rfl ?_ | refine wk_cond_f rfl ?_ | (refine wk_exit ?_; (repeat (refine blockK_other rfl ?_)); refine blockK_same ?_; try ((repeat ((fail_if_success (refine hK _ _ ?_)); clear hK K)); refine hK _ _ ?_; clear hK K)) | (refine a_bin ?_ ?_ <;> intro _ <;> try (exfalso; omega)) | refine a_ld hl ?_ | (refine a_st hl ?_; clear hl; intro _ hl) | refine a_ix (fun _ => ?_) | fail)
            refine a_fn (first_some false q qs hqo hQ' hms hq1) ?_
            rintro _ w3 ⟨rfl, d', hl3, hb3, hdl, hac⟩
            obtain ⟨D4, hp4, h1, h2, h3⟩ := hend _ (by rfl) d' w3 hl3 hb3 hdl hac
            repeat' (first | refine a_mov ?_ | refine a_asg ?_ | refine a_binN ?_ | refine a_notd ?_ | refine a_notb ?_ | refine a_nilc ?_ | refine a_fa ?_ | refine a_ext ?_ | refine a_lenv ?_ | refine a_lens ?_ | refine a_pick_t ?_ | refine a_pick_f ?_ | refine a_not ?_ | refine a_nilf ?_ | (refine o_nil (hK _ _ ?_); clear hK K) | refine wk_reg ?_ | refine wk_seq fun K hK => ?_ | (refine wk_skip (hK _ _ ?_); clear hK K) | (refine wk_label (hK _ _ ?_); clear hK K) | refine wk_scope ?_ | refine wk_block ?_ | refine wk_cond_t rfl ?_ | refine wk_cond_f rfl ?_ | (refine wk_exit ?_; (repeat (refine blockK_other rfl ?_)); refine blockK_same ?_; try ((repeat ((fail_if_success (refine hK _ _ ?_)); clear hK K)); refine hK _ _ ?_; clear hK K)) | (refine a_bin ?_ ?_ <;> intro _ <;> try (exfalso; omega)) | refine a_ld hl ?_ | (refine a_st hl ?_; clear hl; intro _ hl) | refine a_ix (fun _ => ?_) | fail)
            refine o_alloc (LH.start w3 (fun _ => False)) zeroMsg rfl rfl ?_
            intro b11 w4 hb11 hl4
            repeat' (first | refine a_mov ?_ | refine a_asg ?_ | refine a_binN ?_ | refine a_notd ?_ | refine a_notb ?_ | refine a_nilc ?_ | refine a_fa ?_ | refine a_ext ?_ | refine a_lenv ?_ | refine a_lens ?_ | refine a_pick_t ?_ | refine a_pick_f ?_ | refine a_not ?_ | refine a_nilf ?_ | (refine a_bin ?_ ?_ <;> intro _ <;> try (exfalso; omega)) | refine a_ld hl ?_ | (refine a_st hl ?_; clear hl; intro _ hl) | refine a_ix (fun _ => ?_) | fail)
            refine o_putN (us := msgC q) hl4 rfl rfl rfl (by show (q.1.oneCell' && _) = true; rw [hq1.2]; rfl) rfl (.all (vs := zeroMsg) rfl rfl) ?_
            intro w5 hl5
            repeat' (first | refine a_mov ?_ | refine a_asg ?_ | refine a_binN ?_ | refine a_notd ?_ | refine a_notb ?_ | refine a_nilc ?_ | refine a_fa ?_ | refine a_ext ?_ | refine a_lenv ?_ | refine a_lens ?_ | refine a_pick_t ?_ | refine a_pick_f ?_ | refine a_not ?_ | refine a_nilf ?_ | (refine a_bin ?_ ?_ <;> intro _ <;> try (exfalso; omega)) | refine a_ld hl ?_ | (refine a_st hl ?_; clear hl; intro _ hl) | refine a_ix (fun _ => ?_) | fail)
            exact o_nil ⟨b11, ⟨rfl, rfl, rfl, rfl, rfl, rfl, rfl, trivial⟩, rfl, D4, hp4, h1.ext hl5.done, h2.ext hl5.done, hl5.rowL (vs := msgC q) 0 0 3 rfl, fun hi => by
              obtain ⟨z, hz, he⟩ := List.mem_map.1 hi
              have := h1.lt hz
              omega, hl5.lt (p := (b11, _)) List.mem_cons_self, h3.ext hl5.done⟩
          · cases lost
            · repeat' (first | refine a_mov ?_ | refine a_asg ?_ | refine a_binN ?_ | refine a_notd ?_ | refine a_notb ?_ | refine a_nilc ?_ | refine a_fa ?_ | refine a_ext ?_ | refine a_lenv ?_ | refine a_lens ?_ | refine a_pick_t ?_ | refine a_pick_f ?_ | refine a_not ?_ | refine a_nilf ?_ | (refine o_nil (hK _ _ ?_); clear hK K) | refine wk_reg ?_ | refine wk_seq fun K hK => ?_ | (refine wk_skip (hK _ _ ?_); clear hK K) | (refine wk_label (hK _ _ ?_); clear hK K) | refine wk_scope ?_ | refine wk_block ?_ | refine wk_cond_t rfl ?_ | refine wk_cond_f rfl ?_ | (refine wk_exit ?_; (repeat (refine blockK_other rfl ?_)); refine blockK_same ?_; try ((repeat ((fail_if_success (refine hK _ _ ?_)); clear hK K)); refine hK _ _ ?_; clear hK K)) | (refine a_bin ?_ ?_ <;> intro _ <;> try (exfalso; omega)) | refine a_ld hl ?_ | (refine a_st hl ?_; clear hl; intro _ hl) | refine a_ix (fun _ => ?_) | fail)
              refine a_fn (first_some true q qs hqo hQ' hms hq1) ?_
              rintro _ w3 ⟨rfl, d', hl3, hb3, hdl, hac⟩
              obtain ⟨D4, hp4, h1, h2, h3⟩ := hend _ (by rfl) d' w3 hl3 hb3 hdl hac
              repeat' (first | refine a_mov ?_ | refine a_asg ?_ | refine a_binN ?_ | refine a_notd ?_ | refine a_notb ?_ | refine a_nilc ?_ | refine a_fa ?_ | refine a_ext ?_ | refine a_lenv ?_ | refine a_lens ?_ | refine a_pick_t ?_ | refine a_pick_f ?_ | refine a_not ?_ | refine a_nilf ?_ | (refine o_nil (hK _ _ ?_); clear hK K) | refine wk_reg ?_ | refine wk_seq fun K hK => ?_ | (refine wk_skip (hK _ _ ?_); clear hK K) | (refine wk_label (hK _ _ ?_); clear hK K) | refine wk_scope ?_ | refine wk_block ?_ | refine wk_cond_t rfl ?_ | refine wk_cond_f rfl ?_ | (refine wk_exit ?_; (repeat (refine blockK_other rfl ?_)); refine blockK_same ?_; try ((repeat ((fail_if_success (refine hK _ _ ?_)); clear hK K)); refine hK _ _ ?_; clear hK K)) | (refine a_bin ?_ ?_ <;> intro _ <;> try (exfalso; omega)) | refine a_ld hl ?_ | (refine a_st hl ?_; clear hl; intro _ hl) | refine a_ix (fun _ => ?_) | fail)
              refine o_alloc (LH.start w3 (fun _ => False)) zeroMsg rfl rfl ?_
              intro b11 w4 hb11 hl4
              repeat' (first | refine a_mov ?_ | refine a_asg ?_ | refine a_binN ?_ | refine a_notd ?_ | refine a_notb ?_ | refine a_nilc ?_ | refine a_fa ?_ | refine a_ext ?_ | refine a_lenv ?_ | refine a_lens ?_ | refine a_pick_t ?_ | refine a_pick_f ?_ | refine a_not ?_ | refine a_nilf ?_ | (refine a_bin ?_ ?_ <;> intro _ <;> try (exfalso; omega)) | refine a_ld hl ?_ | (refine a_st hl ?_; clear hl; intro _ hl) | refine a_ix (fun _ => ?_) | fail)
              refine o_putN (us := msgC q) hl4 rfl rfl rfl (by show (q.1.oneCell' && _) = true; rw [hq1.2]; rfl) rfl (.all (vs := zeroMsg) rfl rfl) ?_
              intro w5 hl5
              repeat' (first | refine a_mov ?_ | refine a_asg ?_ | refine a_binN ?_ | refine a_notd ?_ | refine a_notb ?_ | refine a_nilc ?_ | refine a_fa ?_ | refine a_ext ?_ | refine a_lenv ?_ | refine a_lens ?_ | refine a_pick_t ?_ | refine a_pick_f ?_ | refine a_not ?_ | refine a_nilf ?_ | (refine a_bin ?_ ?_ <;> intro _ <;> try (exfalso; omega)) | refine a_ld hl ?_ | (refine a_st hl ?_; clear hl; intro _ hl) | refine a_ix (fun _ => ?_) | fail)
              exact o_nil ⟨b11, ⟨rfl, rfl, rfl, rfl, rfl, rfl, rfl, trivial⟩, rfl, D4, hp4, h1.ext hl5.done, h2.ext hl5.done, hl5.rowL (vs := msgC q) 0 0 3 rfl, fun hi => by
                obtain ⟨z, hz, he⟩ := List.mem_map.1 hi
                have := h1.lt hz
                omega, hl5.lt (p := (b11, _)) List.mem_cons_self, h3.ext hl5.done⟩
            · repeat' (first | refine a_mov ?_ | refine a_asg ?_ | refine a_binN ?_ | refine a_notd ?_ | refine a_notb ?_ | refine a_nilc ?_ | refine a_fa ?_ | refine a_ext ?_ | refine a_lenv ?_ | refine a_lens ?_ | refine a_pick_t ?_ | refine a_pick_f ?_ | refine a_not ?_ | refine a_nilf ?_ | (refine o_nil (hK _ _ ?_); clear hK K) | refine wk_reg ?_ | refine wk_seq fun K hK => ?_ | (refine wk_skip (hK _ _ ?_); clear hK K) | (refine wk_label (hK _ _ ?_); clear hK K) | refine wk_scope ?_ | refine wk_block ?_ | refine wk_cond_t rfl ?_ | refine wk_cond_f rfl ?_ | (refine wk_exit ?_; (repeat (refine blockK_other rfl ?_)); refine blockK_same ?_; try ((repeat ((fail_if_success (refine hK _ _ ?_)); clear hK K)); refine hK _ _ ?_; clear hK K)) | (refine a_bin ?_ ?_ <;> intro _ <;> try (exfalso; omega)) | refine a_ld hl ?_ | (refine a_st hl ?_; clear hl; intro _ hl) | refine a_ix (fun _ => ?_) | fail)
              refine a_fn (first_some false q qs hqo hQ' hms hq1) ?_
              rintro _ w3 ⟨rfl, d', hl3, hb3, hdl, hac⟩
              obtain ⟨D4, hp4, h1, h2, h3⟩ := hend _ (by rfl) d' w3 hl3 hb3 hdl hac
              repeat' (first | refine a_mov ?_ | refine a_asg ?_ | refine a_binN ?_ | refine a_notd ?_ | refine a_notb ?_ | refine a_nilc ?_ | refine a_fa ?_ | refine a_ext ?_ | refine a_lenv ?_ | refine a_lens ?_ | refine a_pick_t ?_ | refine a_pick_f ?_ | refine a_not ?_ | refine a_nilf ?_ | (refine o_nil (hK _ _ ?_); clear hK K) | refine wk_reg ?_ | refine wk_seq fun K hK => ?_ | (refine wk_skip (hK _ _ ?_); clear hK K) | (refine wk_label (hK _ _ ?_); clear hK K) | refine wk_scope ?_ | refine wk_block ?_ | refine wk_cond_t rfl ?_ | refine wk_cond_f rfl ?_ | (refine wk_exit ?_; (repeat (refine blockK_other rfl ?_)); refine blockK_same ?_; try ((repeat ((fail_if_success (refine hK _ _ ?_)); clear hK K)); refine hK _ _ ?_; clear hK K)) | (refine a_bin ?_ ?_ <;> intro _ <;> try (exfalso; omega)) | refine a_ld hl ?_ | (refine a_st hl ?_; clear hl; intro _ hl) | refine a_ix (fun _ => ?_) | fail)
              refine o_alloc (LH.start w3 (fun _ => False)) zeroMsg rfl rfl ?_
              intro b11 w4 hb11 hl4
              repeat' (first | refine a_mov ?_ | refine a_asg ?_ | refine a_binN ?_ | refine a_notd ?_ | refine a_notb ?_ | refine a_nilc ?_ | refine a_fa ?_ | refine a_ext ?_ | refine a_lenv ?_ | refine a_lens ?_ | refine a_pick_t ?_ | refine a_pick_f ?_ | refine a_not ?_ | refine a_nilf ?_ | (refine a_bin ?_ ?_ <;> intro _ <;> try (exfalso; omega)) | refine a_ld hl ?_ | (refine a_st hl ?_; clear hl; intro _ hl) | refine a_ix (fun _ => ?_) | fail)
              refine o_putN (us := msgC q) hl4 rfl rfl rfl (by show (q.1.oneCell' && _) = true; rw [hq1.2]; rfl) rfl (.all (vs := zeroMsg) rfl rfl) ?_
              intro w5 hl5
              repeat' (first | refine a_mov ?_ | refine a_asg ?_ | refine a_binN ?_ | refine a_notd ?_ | refine a_notb ?_ | refine a_nilc ?_ | refine a_fa ?_ | refine a_ext ?_ | refine a_lenv ?_ | refine a_lens ?_ | refine a_pick_t ?_ | refine a_pick_f ?_ | refine a_not ?_ | refine a_nilf ?_ | (refine a_bin ?_ ?_ <;> intro _ <;> try (exfalso; omega)) | refine a_ld hl ?_ | (refine a_st hl ?_; clear hl; intro _ hl) | refine a_ix (fun _ => ?_) | fail)
              exact o_nil ⟨b11, ⟨rfl, rfl, rfl, rfl, rfl, rfl, rfl, trivial⟩, rfl, D4, hp4, h1.ext hl5.done, h2.ext hl5.done, hl5.rowL (vs := msgC q) 0 0 3 rfl, fun hi => by
                obtain ⟨z, hz, he⟩ := List.mem_map.1 hi
                have := h1.lt hz
                omega, hl5.lt (p := (b11, _)) List.mem_cons_self, h3.ext hl5.done⟩
        · rintro b11 t9 w5 ⟨D4, ⟨hp4, hX4⟩, hl5, hok5, hr11, hn11, hs11, hsl5⟩
          refine hK _ _ ?_
          clear hK K
          have hs1n : s1.n = s.n := rfl
          cases lost
          · have hdel : deliver s a b false again = recv s1 a b q.2 := by
              unfold deliver
              rw [hdb, hsq]
              simp only [if_true, Bool.not_false, Bool.and_true, Bool.false_eq_true, if_false]
              congr 1
              cases again
              · rfl
              · show s = { s with q := upd2 s.q a b (s.q a b) }
                have : upd2 s.q a b (s.q a b) = s.q := by
                  funext x y
                  by_cases e : x = a ∧ y = b
                  · obtain ⟨rfl, rfl⟩ := e; rw [upd2_same]
                  · rw [upd2_ne _ _ e]
                rw [this]
            obtain ⟨nb5, no5, nc5, hnv5, hptr5⟩ := hok5.ptr hl5
            have hhd5 := NetOK.head hl5
            rw [hp4, hnv5] at hhd5
            have hno5 : Own w5 (nodBl s.n (D4.nd b) (s.node b)) := NetOK.nodOwn (s := s1) hl5 hb
            have hnd5 : NodOK s.n (D4.nd b) (s.node b) := hok5.nd b hb
            have hsubn : ∀ k, Go.Pd.In (nodBl s.n (D4.nd b) (s.node b)) k → Go.Pd.In (D4.bl s1) k := fun k hk => NodOK.sub (D := D4) (s := s1) hb hk
            obtain ⟨ta, tc, hta, htc⟩ := hsl5.1.shape (m := q.2.texts.length) (by simp) (by omega)
            have hr5 : Row w5 b11 0 [.slice ta q.2.texts.length tc, .int .i64 (q.2.len : Int), .int .i64 (q.2.heard : Int)] := by
              have := hr11
              unfold msgC at this
              rwa [hta] at this
            have hsl6 := hsl5.mono hsubn
            rw [hta] at hsl6
            have hmlen : q.2.texts.length ≤ 100000 := hmt a b q.2 (by rw [hsq]; exact List.mem_cons_self)
            have hxlen := hlen b
            generalize hM : Go.Pd.In (nodBl s.n (D4.nd b) (s.node b)) = M at *
            have hn11' : ¬ M b11 := fun hi => hn11 (hsubn _ hi)
            repeat' (first | refine a_mov ?_ | refine a_asg ?_ | refine a_binN ?_ | refine a_notd ?_ | refine a_notb ?_ | refine a_nilc ?_ | refine a_fa ?_ | refine a_ext ?_ | refine a_lenv ?_ | refine a_lens ?_ | refine a_pick_t ?_ | refine a_pick_f ?_ | refine a_not ?_ | refine a_nilf ?_ | (refine o_nil (hK _ _ ?_); clear hK K) | refine wk_reg ?_ | refine wk_seq fun K hK => ?_ | (refine wk_skip (hK _ _ ?_); clear hK K) | (refine wk_label (hK _ _ ?_); clear hK K) | refine wk_scope ?_ | refine wk_block ?_ | refine wk_cond_t rfl ?_ | refine wk_cond_f rfl ?_ | (refine wk_exit ?_; (repeat (refine blockK_other rfl ?_)); refine blockK_same ?_; try ((repeat ((fail_if_success (refine hK _ _ ?_)); clear hK K)); refine hK _ _ ?_; clear hK K)) | (refine a_bin ?_ ?_ <;> intro _ <;> try (exfalso; omega)) | refine a_ld hl ?_ | (refine a_st hl ?_; clear hl; intro _ hl) | refine a_ix (fun _ => ?_) | refine a_row hhd5 ?_ | refine a_idx (c := 1) b rfl ?_ | refine a_row (hptr5 b hb) ?_ | refine o_indexArr (len := 8) (k := 3) a (by omega) rfl rfl rfl rfl rfl rfl ?_ | refine a_row hr5 ?_ | fail)
            refine wk_loopH [] rfl (fun z : Nat × NodB => [(11, .pointer (some ⟨b11, 0, none⟩)), (13, .pointer (some ⟨z.2.nb, 0, none⟩)), (14, .pointer (some ⟨z.2.nb, 0 + 2 + a * 3, none⟩)), (74, .slice ta q.2.texts.length tc), (75, .int .i64 (q.2.texts.length : Int)), (76, .int .i64 (z.1 : Int))])
              (fun z w' => (z.1 ≤ q.2.texts.length ∧ z.2.nb = (D4.nd b).nb) ∧ LH w5 M w' (nodBl s.n z.2 (recvX (s.node b) a (q.2.texts.take z.1))) ∧ NodOK s.n z.2 (recvX (s.node b) a (q.2.texts.take z.1))) (fun z => q.2.texts.length - z.1) (0, D4.nd b) ⟨rfl, rfl, rfl, rfl, rfl, rfl, trivial⟩ ⟨⟨Nat.zero_le _, rfl⟩, ?_, ?_⟩ ?_
            · show LH w5 M w5 (nodBl s.n (D4.nd b) (recvX (s.node b) a (q.2.texts.take 0)))
              rw [List.take_zero, recvX_nil, ← hM]; exact hno5
            · show NodOK s.n (D4.nd b) (recvX (s.node b) a (q.2.texts.take 0))
              rw [List.take_zero, recvX_nil]; exact hnd5
            · rintro ⟨k, d⟩ t6 w6 ⟨⟨hk, hdnb⟩, hl6, hnd6⟩
              dsimp only at hk hdnb hl6 hnd6 ⊢
              by_cases hk1 : k < q.2.texts.length
              · obtain ⟨bb, bo, hbb, hbr⟩ := Sl.tx (hsl6.upd hl6.upd) rfl hk1
                generalize hy : recvX (s.node b) a (q.2.texts.take k) = y at *
                have hylen : y.texts.length ≤ 1000000 := by
                  rw [← hy]
                  have h1 := foldT_len (q.2.texts.take k) (s.node b).texts
                  have h2 : (q.2.texts.take k).length ≤ q.2.texts.length := List.length_take_le' _ _
                  unfold recvX
                  unfold texts at hxlen
                  show (List.foldl addT (s.node b).texts (q.2.texts.take k)).length ≤ _
                  omega
                repeat' (first | refine a_mov ?_ | refine a_asg ?_ | refine a_binN ?_ | refine a_notd ?_ | refine a_notb ?_ | refine a_nilc ?_ | refine a_fa ?_ | refine a_ext ?_ | refine a_lenv ?_ | refine a_lens ?_ | refine a_pick_t ?_ | refine a_pick_f ?_ | refine a_not ?_ | refine a_nilf ?_ | (refine o_nil (hK _ _ ?_); clear hK K) | refine wk_reg ?_ | refine wk_seq fun K hK => ?_ | (refine wk_skip (hK _ _ ?_); clear hK K) | (refine wk_label (hK _ _ ?_); clear hK K) | refine wk_scope ?_ | refine wk_block ?_ | refine wk_cond_t rfl ?_ | refine wk_cond_f rfl ?_ | (refine wk_exit ?_; (repeat (refine blockK_other rfl ?_)); refine blockK_same ?_; try ((repeat ((fail_if_success (refine hK _ _ ?_)); clear hK K)); refine hK _ _ ?_; clear hK K)) | (refine a_bin ?_ ?_ <;> intro _ <;> try (exfalso; omega)) | refine a_ld hl ?_ | (refine a_st hl ?_; clear hl; intro _ hl) | refine a_ix (fun _ => ?_) | refine a_idx (c := 1) k hbb ?_ | refine a_row hbr ?_ | fail)
                refine a_fn (addN_calls q.2.texts[k] hl6.owned hnd6 hylen) ?_
                rintro v7 w7 ⟨tv, tacc, hes, hc, hl7, hnd7⟩
                have hl7' := hl6.bk hl7
                have hpr7 := NodOK.peer hl7' ha hn8
                repeat' (first | refine a_mov ?_ | refine a_asg ?_ | refine a_binN ?_ | refine a_notd ?_ | refine a_notb ?_ | refine a_nilc ?_ | refine a_fa ?_ | refine a_ext ?_ | refine a_lenv ?_ | refine a_lens ?_ | refine a_pick_t ?_ | refine a_pick_f ?_ | refine a_not ?_ | refine a_nilf ?_ | (refine o_nil (hK _ _ ?_); clear hK K) | refine wk_reg ?_ | refine wk_seq fun K hK => ?_ | (refine wk_skip (hK _ _ ?_); clear hK K) | (refine wk_label (hK _ _ ?_); clear hK K) | refine wk_scope ?_ | refine wk_block ?_ | refine wk_cond_t rfl ?_ | refine wk_cond_f rfl ?_ | (refine wk_exit ?_; (repeat (refine blockK_other rfl ?_)); refine blockK_same ?_; try ((repeat ((fail_if_success (refine hK _ _ ?_)); clear hK K)); refine hK _ _ ?_; clear hK K)) | (refine a_bin ?_ ?_ <;> intro _ <;> try (exfalso; omega)) | refine a_ld hl ?_ | (refine a_st hl ?_; clear hl; intro _ hl) | refine a_ix (fun _ => ?_) | refine a_row hpr7 ?_ | fail)
                refine o_mapUpdate (v := .bool true) q.2.texts[k] hl7' _ (nodBl_got s.n (withT d tv tacc hes hc) _ ha) (hnd7.g a ha) (key_str rfl) rfl rfl rfl rfl rfl ?_
                intro w8 es8 c8 hm8 hl8
                rw [boolM_ins] at hm8
                rw [nodBl_set _ _ _ ha] at hl8
                rw [← nodBl_gotx s.n _ _ a (addT (y.peer a).got q.2.texts[k])] at hl8
                have hstep : setP ⟨addT y.texts q.2.texts[k], y.peer⟩ a ⟨(y.peer a).heard, (y.peer a).known, addT (y.peer a).got q.2.texts[k]⟩ = recvX (s.node b) a (q.2.texts.take (k + 1)) := by
                  rw [List.take_succ_eq_append_getElem hk1, ← recvX_step, hy]
                have hnd8 : NodOK s.n { withT d tv tacc hes hc with ges := upd d.ges a es8, gc := upd d.gc a c8 } (setP ⟨addT y.texts q.2.texts[k], y.peer⟩ a ⟨(y.peer a).heard, (y.peer a).known, addT (y.peer a).got q.2.texts[k]⟩) := by
                  refine ⟨hnd7.t, hnd7.h, fun j hj => ?_⟩
                  show MapR str (upd d.ges a es8 j) (boolM (upd y.peer a ⟨(y.peer a).heard, (y.peer a).known, addT (y.peer a).got q.2.texts[k]⟩ j).got)
                  by_cases e : j = a
                  · subst e; rw [upd_same, upd_same]; exact hm8
                  · rw [upd_ne _ _ e, upd_ne _ _ e]; exact hnd7.g j hj
                rw [hstep] at hnd8
                repeat' (first | refine a_mov ?_ | refine a_asg ?_ | refine a_binN ?_ | refine a_notd ?_ | refine a_notb ?_ | refine a_nilc ?_ | refine a_fa ?_ | refine a_ext ?_ | refine a_lenv ?_ | refine a_lens ?_ | refine a_pick_t ?_ | refine a_pick_f ?_ | refine a_not ?_ | refine a_nilf ?_ | (refine o_nil (hK _ _ ?_); clear hK K) | refine wk_reg ?_ | refine wk_seq fun K hK => ?_ | (refine wk_skip (hK _ _ ?_); clear hK K) | (refine wk_label (hK _ _ ?_); clear hK K) | refine wk_scope ?_ | refine wk_block ?_ | refine wk_cond_t rfl ?_ | refine wk_cond_f rfl ?_ | (refine wk_exit ?_; (repeat (refine blockK_other rfl ?_)); refine blockK_same ?_; try ((repeat ((fail_if_success (refine hK _ _ ?_)); clear hK K)); refine hK _ _ ?_; clear hK K)) | (refine a_bin ?_ ?_ <;> intro _ <;> try (exfalso; omega)) | refine a_ld hl ?_ | (refine a_st hl ?_; clear hl; intro _ hl) | refine a_ix (fun _ => ?_) | fail)
                refine o_nil ⟨(k + 1, { withT d tv tacc hes hc with ges := upd d.ges a es8, gc := upd d.gc a c8 }), ⟨rfl, rfl, rfl, rfl, rfl, rfl, trivial⟩, rfl, ⟨⟨hk1, hdnb⟩, ?_, hnd8⟩, ?_⟩
                · rw [← hstep]; exact hl8
                · show q.2.texts.length - (k + 1) < q.2.texts.length - k; omega
              · obtain rfl : k = q.2.texts.length := by omega
                rw [List.take_length] at hl6 hnd6
                generalize hy : recvX (s.node b) a q.2.texts = y at *
                repeat' (first | refine a_mov ?_ | refine a_asg ?_ | refine a_binN ?_ | refine a_notd ?_ | refine a_notb ?_ | refine a_nilc ?_ | refine a_fa ?_ | refine a_ext ?_ | refine a_lenv ?_ | refine a_lens ?_ | refine a_pick_t ?_ | refine a_pick_f ?_ | refine a_not ?_ | refine a_nilf ?_ | (refine o_nil (hK _ _ ?_); clear hK K) | refine wk_reg ?_ | refine wk_seq fun K hK => ?_ | (refine wk_skip (hK _ _ ?_); clear hK K) | (refine wk_label (hK _ _ ?_); clear hK K) | refine wk_scope ?_ | refine wk_block ?_ | refine wk_cond_t rfl ?_ | refine wk_cond_f rfl ?_ | (refine wk_exit ?_; (repeat (refine blockK_other rfl ?_)); refine blockK_same ?_; try ((repeat ((fail_if_success (refine hK _ _ ?_)); clear hK K)); refine hK _ _ ?_; clear hK K)) | (refine a_bin ?_ ?_ <;> intro _ <;> try (exfalso; omega)) | refine a_ld hl ?_ | (refine a_st hl ?_; clear hl; intro _ hl) | refine a_ix (fun _ => ?_) | fail)
                have hpr6 := NodOK.peer hl6 ha hn8
                have hrC : ∀ {w' : World} {l : List (Nat × Obj)}, LH w5 M w' l → Row w' b11 0 [.slice ta q.2.texts.length tc, .int .i64 (q.2.len : Int), .int .i64 (q.2.heard : Int)] := fun hl => hr5.upd hl.upd hn11'
                refine wk_draw [0, 1, 2, 3, 4, 5, 6, 7, 8, 9, 10, 11, 12, 13, 14, 15, 16, 17, 19, 20] [14] [18, 21] (fun w' => To w6 w' w6.heap) (fun w' => Row w' b11 0 [.slice ta q.2.texts.length tc, .int .i64 (q.2.len : Int), .int .i64 (q.2.heard : Int)]) rfl (by kernel_rfl) (fun _ _ _ _ h => by first | exact h | (simp only [BlockK, NoGoto, RetQ] at h)) (fun _ h => h) (fun w' h => hrC (hl6.heap h)) ?_
                repeat' (first | refine q_mov ?_ | refine q_asg ?_ | refine q_fa ?_ | refine q_ext ?_ | refine q_binN ?_ | refine q_notd ?_ | refine q_notb ?_ | refine q_pick_t ?_ | refine q_pick_f ?_ | refine q_nilc ?_ | refine q_skip ?_ | refine q_lens ?_ | refine q_lenv ?_ | refine q_nil ?_ | refine q_ix (fun _ => ?_) | (refine q_bin ?_ ?_ <;> intro _ <;> try (exfalso; omega)) | refine q_row (fun w_ hw_ => hpr6.heap hw_) ?_ | refine q_row (fun w_ hw_ => hrC (hl6.heap hw_)) ?_ | refine q_late rfl rfl rfl rfl (fun w' hw' => r_load rfl rfl (hw' 2 _ rfl)) ?_ | refine q_pur rfl rfl rfl (fun _ => r_max rfl rfl) ?_ | fail)
                intro w7 hw7
                have hl7 := hl6.heap hw7
                have hmx1 : max ((y.peer a).heard : Int) (q.2.len : Int) = ((max (y.peer a).heard q.2.len : Nat) : Int) := by omega
                have hmx2 : max ((y.peer a).known : Int) (q.2.heard : Int) = ((max (y.peer a).known q.2.heard : Nat) : Int) := by omega
                refine ops_tail rfl rfl ?_
                refine o_put1 (v := .int .i64 ((max (y.peer a).heard q.2.len : Nat) : Int)) (bl' := nodBl s.n d (setP y a ⟨max (y.peer a).heard q.2.len, (y.peer a).known, (y.peer a).got⟩)) hl7 rfl rfl (congrArg (Value.int .i64) hmx1) ⟨rfl, rfl⟩ rfl (.here (vs := nodCells s.n d y) (blt_t (by show _ < 26; omega)) (cells_heard s.n d y (by omega) _)) ?_
                intro w8 hl8
                refine o_nil ⟨hrC hl8, ?_⟩
                refine ops_tail rfl rfl ?_
                generalize hz : setP y a ⟨max (y.peer a).heard q.2.len, (y.peer a).known, (y.peer a).got⟩ = z at hl8
                refine o_put1 (v := .int .i64 ((max (y.peer a).known q.2.heard : Nat) : Int)) (bl' := nodBl s.n d (setP z a ⟨(z.peer a).heard, max (y.peer a).known q.2.heard, (z.peer a).got⟩)) hl8 rfl rfl (congrArg (Value.int .i64) hmx2) ⟨rfl, rfl⟩ rfl (.here (vs := nodCells s.n d z) (blt_t (by show _ < 26; omega)) (cells_known s.n d z (by omega) _)) ?_
                intro w9 hl9
                refine o_nil ⟨hrC hl9, ?_⟩
                refine ops_nil (hK _ _ ?_)
                clear hK K
                have hfinal : setP z a ⟨(z.peer a).heard, max (y.peer a).known q.2.heard, (z.peer a).got⟩ = ⟨q.2.texts.foldl addT (s.node b).texts, upd (s.node b).peer a ⟨max ((s.node b).peer a).heard q.2.len, max ((s.node b).peer a).known q.2.heard, q.2.texts.foldl addT ((s.node b).peer a).got⟩⟩ := by
                  rw [← hz, ← hy]
                  unfold setP recvX
                  simp only [upd_same, upd_upd]
                have hnd9 : NodOK s.n d (setP z a ⟨(z.peer a).heard, max (y.peer a).known q.2.heard, (z.peer a).got⟩) := by
                  have e1 : (setP z a ⟨(z.peer a).heard, max (y.peer a).known q.2.heard, (z.peer a).got⟩).texts = y.texts := by rw [← hz]; rfl
                  have e2 : ∀ j, ((setP z a ⟨(z.peer a).heard, max (y.peer a).known q.2.heard, (z.peer a).got⟩).peer j).got = (y.peer j).got := fun j => by
                    rw [← hz]
                    unfold setP
                    by_cases e : j = a
                    · subst e; simp only [upd_same]
                    · simp only [upd_ne _ _ e]
                  exact ⟨by rw [e1]; exact hnd6.t, by rw [e1]; exact hnd6.h, fun j hj => by rw [e2]; exact hnd6.g j hj⟩
                rw [hfinal] at hl9 hnd9
                rw [← hM] at hl9
                obtain ⟨hl10, hok10⟩ := hok5.node hl5 (i := b) hb hl9 hnd9 hdnb
                repeat' (first | refine a_mov ?_ | refine a_asg ?_ | refine a_binN ?_ | refine a_notd ?_ | refine a_notb ?_ | refine a_nilc ?_ | refine a_fa ?_ | refine a_ext ?_ | refine a_lenv ?_ | refine a_lens ?_ | refine a_pick_t ?_ | refine a_pick_f ?_ | refine a_not ?_ | refine a_nilf ?_ | (refine o_nil (hK _ _ ?_); clear hK K) | refine wk_reg ?_ | refine wk_seq fun K hK => ?_ | (refine wk_skip (hK _ _ ?_); clear hK K) | (refine wk_label (hK _ _ ?_); clear hK K) | refine wk_scope ?_ | refine wk_block ?_ | refine wk_cond_t rfl ?_ | refine wk_cond_f rfl ?_ | (refine wk_exit ?_; (repeat (refine blockK_other rfl ?_)); refine blockK_same ?_; try ((repeat ((fail_if_success (refine hK _ _ ?_)); clear hK K)); refine hK _ _ ?_; clear hK K)) | (refine a_bin ?_ ?_ <;> intro _ <;> try (exfalso; omega)) | refine a_ld hl ?_ | (refine a_st hl ?_; clear hl; intro _ hl) | refine a_ix (fun _ => ?_) | fail)
                refine wk_ret (retQ_tmp1 Try.results17 (by decide) rfl (by conv => lhs; whnf) ?_)
                refine ⟨by rw [hdb], ?_⟩
                rw [hdel]
                exact After.mk (by exact hp4) hl10 hok10 (by exact hX4)
          · have hdel : deliver s a b true again = s1 := by
              unfold deliver
              rw [hdb, hsq]
              simp only [if_true, Bool.not_true, Bool.and_false, Bool.false_eq_true, if_false]
              show _ = { s with q := upd2 s.q a b (if (again && !true) = true then s.q a b else List.map (fun z : Value × Msg => z.2) qs) }
              rw [show (again && !true) = false by cases again <;> rfl]
              rfl
            repeat' (first | refine a_mov ?_ | refine a_asg ?_ | refine a_binN ?_ | refine a_notd ?_ | refine a_notb ?_ | refine a_nilc ?_ | refine a_fa ?_ | refine a_ext ?_ | refine a_lenv ?_ | refine a_lens ?_ | refine a_pick_t ?_ | refine a_pick_f ?_ | refine a_not ?_ | refine a_nilf ?_ | (refine o_nil (hK _ _ ?_); clear hK K) | refine wk_reg ?_ | refine wk_seq fun K hK => ?_ | (refine wk_skip (hK _ _ ?_); clear hK K) | (refine wk_label (hK _ _ ?_); clear hK K) | refine wk_scope ?_ | refine wk_block ?_ | refine wk_cond_t rfl ?_ | refine wk_cond_f rfl ?_ | (refine wk_exit ?_; (repeat (refine blockK_other rfl ?_)); refine blockK_same ?_; try ((repeat ((fail_if_success (refine hK _ _ ?_)); clear hK K)); refine hK _ _ ?_; clear hK K)) | (refine a_bin ?_ ?_ <;> intro _ <;> try (exfalso; omega)) | refine a_ld hl ?_ | (refine a_st hl ?_; clear hl; intro _ hl) | refine a_ix (fun _ => ?_) | fail)
            refine wk_ret (retQ_tmp1 Try.results17 (by decide) rfl (by conv => lhs; whnf) ?_)
            refine ⟨by rw [hdb], ?_⟩
            rw [hdel]
            exact After.mk hp4 hl5 hok5 hX4
    · have hdb : delivB s a b = false := by unfold delivB; rw [hcu, hp]; rfl
      repeat' (first | refine x_mov ?_ | refine x_asg ?_ | refine x_fa ?_ | refine x_ext ?_ | refine x_binN ?_ | refine x_notd ?_ | refine x_notb ?_ | refine x_pick_t ?_ | refine x_pick_f ?_ | refine x_nilc ?_ | refine x_skip ?_ | refine x_lens ?_ | refine x_lenv ?_ | refine x_ix (fun _ => ?_) | (refine x_bin ?_ ?_ <;> intro _ <;> try (exfalso; omega)) | fail)
      refine x_nil fun w2 hw2 => ?_
      refine hK _ _ ?_
      clear hK K
      repeat' (first | refine a_mov ?_ | refine a_asg ?_ | refine a_binN ?_ | refine a_notd ?_ | refine a_notb ?_ | refine a_nilc ?_ | refine a_fa ?_ | refine a_ext ?_ | refine a_lenv ?_ | refine a_lens ?_ | refine a_pick_t ?_ | refine a_pick_f ?_ | refine a_not ?_ | refine a_nilf ?_ | (refine o_nil (hK _ _ ?_); clear hK K) | refine wk_reg ?_ | refine wk_seq fun K hK => ?_ | (refine wk_skip (hK _ _ ?_); clear hK K) | (refine wk_label (hK _ _ ?_); clear hK K) | refine wk_scope ?_ | refine wk_block ?_ | refine wk_cond_t rfl ?_ | refine wk_cond_f rfl ?_ | (refine wk_exit ?_; (repeat (refine blockK_other rfl ?_)); refine blockK_same ?_; try ((repeat ((fail_if_success (refine hK _ _ ?_)); clear hK K)); refine hK _ _ ?_; clear hK K)) | (refine a_bin ?_ ?_ <;> intro _ <;> try (exfalso; omega)) | refine a_ld hl ?_ | (refine a_st hl ?_; clear hl; intro _ hl) | refine a_ix (fun _ => ?_) | fail)
      refine wk_ret (retQ_tmp1 Try.results17 (by decide) rfl (by conv => lhs; whnf) ?_)
      exact ⟨by rw [hdb], hsame (hx1.trans hw2) hdb⟩
  · have hdb : delivB s a b = false := by unfold delivB; rw [Bool.not_eq_true] at hp; rw [hp]; rfl
    refine wk_grow [([0, 1, 2], [3]), ([4, 5, 6, 7, 8, 9, 10, 11, 12, 13, 14, 15, 16, 17, 18, 19, 20], [])] ?_
    refine g_one (BsR 2 [.int .i64 (a : Int), .int .i64 (b : Int)]) (BsR.stb _ _) ?_
    repeat' (first | refine x_mov ?_ | refine x_asg ?_ | refine x_fa ?_ | refine x_ext ?_ | refine x_binN ?_ | refine x_notd ?_ | refine x_notb ?_ | refine x_pick_t ?_ | refine x_pick_f ?_ | refine x_nilc ?_ | refine x_skip ?_ | refine x_lens ?_ | refine x_lenv ?_ | refine x_ix (fun _ => ?_) | (refine x_bin ?_ ?_ <;> intro _ <;> try (exfalso; omega)) | fail)
    refine x_nil ⟨fun v => p_walk rfl rfl rfl fun w' hw' _ => ?_, ?_⟩
    · refine o_buildSlice (LH.start w' (fun _ => False)) [.int .i64 (a : Int), .int .i64 (b : Int)] rfl rfl (by kernel_rfl) ?_
      intro b1 w1 hb1 hl1
      exact o_nil ⟨_, rfl, hl1.done, b1, rfl, hl1.rowL (vs := [.int .i64 (a : Int), .int .i64 (b : Int)]) 0 0 2 rfl⟩
    rintro _ w1 hx1 ⟨b1, rfl, hr1⟩
    refine g_end ?_
    refine x_fn (v := .bool ([a, b].all (fun i => decide (i < s.n)))) (fun w' hw' => ?_) ?_
    · refine (there_calls (p := D.p) (m := s.n) (l := [a, b]) (Sl.mk (b := b1) (o := 0) (m := 2) (c := 2) rfl (Nat.le_refl _) (hr1.ext hw')) (by simp) (fun j v hj => (hhd.ext (hx1.trans hw')) j v (by cases j with | zero => exact hj | succ j => simp at hj))).mono ?_
      rintro e w'' ⟨x, rfl, rfl, he⟩
      exact ⟨_, rfl, rfl, he⟩
    by_cases hall : [a, b].all (fun i => decide (i < s.n)) = true
    · rw [hall]
      have hab : a = b := by
        simp at hall
        apply Classical.byContradiction
        intro hne
        exact hp (decide_eq_true ⟨hall.1, hall.2, hne⟩)
      subst hab
      repeat' (first | refine x_mov ?_ | refine x_asg ?_ | refine x_fa ?_ | refine x_ext ?_ | refine x_binN ?_ | refine x_notd ?_ | refine x_notb ?_ | refine x_pick_t ?_ | refine x_pick_f ?_ | refine x_nilc ?_ | refine x_skip ?_ | refine x_lens ?_ | refine x_lenv ?_ | refine x_ix (fun _ => ?_) | (refine x_bin ?_ ?_ <;> intro _ <;> try (exfalso; omega)) | fail)
      refine x_nil fun w2 hw2 => ?_
      refine hK _ _ ?_
      clear hK K
      repeat' (first | refine a_mov ?_ | refine a_asg ?_ | refine a_binN ?_ | refine a_notd ?_ | refine a_notb ?_ | refine a_nilc ?_ | refine a_fa ?_ | refine a_ext ?_ | refine a_lenv ?_ | refine a_lens ?_ | refine a_pick_t ?_ | refine a_pick_f ?_ | refine a_not ?_ | refine a_nilf ?_ | (refine o_nil (hK _ _ ?_); clear hK K) | refine wk_reg ?_ | refine wk_seq fun K hK => ?_ | (refine wk_skip (hK _ _ ?_); clear hK K) | (refine wk_label (hK _ _ ?_); clear hK K) | refine wk_scope ?_ | refine wk_block ?_ | refine wk_cond_t rfl ?_ | refine wk_cond_f rfl ?_ | (refine wk_exit ?_; (repeat (refine blockK_other rfl ?_)); refine blockK_same ?_; try ((repeat ((fail_if_success (refine hK _ _ ?_)); clear hK K)); refine hK _ _ ?_; clear hK K)) | (refine a_bin ?_ ?_ <;> intro _ <;> try (exfalso; omega)) | refine a_ld hl ?_ | (refine a_st hl ?_; clear hl; intro _ hl) | refine a_ix (fun _ => ?_) | fail)
      refine wk_ret (retQ_tmp1 Try.results17 (by decide) rfl (by conv => lhs; whnf) ?_)
      exact ⟨by rw [hdb], hsame (hx1.trans hw2) hdb⟩
    · rw [Bool.not_eq_true] at hall
      rw [hall]
      repeat' (first | refine x_mov ?_ | refine x_asg ?_ | refine x_fa ?_ | refine x_ext ?_ | refine x_binN ?_ | refine x_notd ?_ | refine x_notb ?_ | refine x_pick_t ?_ | refine x_pick_f ?_ | refine x_nilc ?_ | refine x_skip ?_ | refine x_lens ?_ | refine x_lenv ?_ | refine x_ix (fun _ => ?_) | (refine x_bin ?_ ?_ <;> intro _ <;> try (exfalso; omega)) | fail)
      refine x_nil fun w2 hw2 => ?_
      refine hK _ _ ?_
      clear hK K
      repeat' (first | refine a_mov ?_ | refine a_asg ?_ | refine a_binN ?_ | refine a_notd ?_ | refine a_notb ?_ | refine a_nilc ?_ | refine a_fa ?_ | refine a_ext ?_ | refine a_lenv ?_ | refine a_lens ?_ | refine a_pick_t ?_ | refine a_pick_f ?_ | refine a_not ?_ | refine a_nilf ?_ | (refine o_nil (hK _ _ ?_); clear hK K) | refine wk_reg ?_ | refine wk_seq fun K hK => ?_ | (refine wk_skip (hK _ _ ?_); clear hK K) | (refine wk_label (hK _ _ ?_); clear hK K) | refine wk_scope ?_ | refine wk_block ?_ | refine wk_cond_t rfl ?_ | refine wk_cond_f rfl ?_ | (refine wk_exit ?_; (repeat (refine blockK_other rfl ?_)); refine blockK_same ?_; try ((repeat ((fail_if_success (refine hK _ _ ?_)); clear hK K)); refine hK _ _ ?_; clear hK K)) | (refine a_bin ?_ ?_ <;> intro _ <;> try (exfalso; omega)) | refine a_ld hl ?_ | (refine a_st hl ?_; clear hl; intro _ hl) | refine a_ix (fun _ => ?_) | fail)
      refine wk_ret (retQ_tmp1 Try.results17 (by decide) rfl (by conv => lhs; whnf) ?_)
      exact ⟨by rw [hdb], hsame (hx1.trans hw2) hdb⟩
end Go.Proofs
