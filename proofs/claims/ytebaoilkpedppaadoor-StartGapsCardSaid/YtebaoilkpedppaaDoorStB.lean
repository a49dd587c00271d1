/-
  Conditions of commencement: Valid.
-/
import Derived.Test.YtebaoilkpedppaaDoorStA
set_option linter.unusedVariables false
set_option linter.unusedSimpArgs false
set_option linter.unnecessarySimpa false
set_option maxRecDepth 10000
namespace Go.Sta
/-- A list of kids, one after the other. -/
def PropL (l : List Sn) (d : Nat) (left : Int) : Prop := (cntL l : Int) ≤ left ∧ (∀ k ∈ l, dep k ≤ d) ∧ l.all okB = true
theorem cntL_app (l m : List Sn) : cntL (l ++ m) = cntL l + cntL m := by
  induction l with
  | nil => simp [cntL]
  | cons a l ih => simp only [List.cons_append, cntL, ih]; omega
theorem cntL_take_le (l : List Sn) (k : Nat) : cntL (l.take k) ≤ cntL l := by
  have := cntL_app (l.take k) (l.drop k)
  rw [List.take_append_drop] at this
  omega
theorem PropL.nil (d : Nat) {left : Int} (h : 0 ≤ left) : PropL [] d left := ⟨by simpa [cntL] using h, (fun _ h => nomatch h), rfl⟩
theorem PropL.step {l : List Sn} {d : Nat} {left : Int} {i : Nat} (hi : i < l.length) (h : PropL (l.take i) d left) (hk : Proper l[i] d (left - cntL (l.take i))) : PropL (l.take (i + 1)) d left := by
  obtain ⟨h1, h2, h3⟩ := h
  obtain ⟨k1, k2, k3⟩ := hk
  refine ⟨by rw [cntL_take_succ hi]; omega, ?_, ?_⟩
  · rw [List.take_succ_eq_append_getElem hi]
    intro k hk
    rcases List.mem_append.1 hk with hk | hk
    · exact h2 k hk
    · rw [List.mem_singleton.1 hk]; exact k2
  · rw [List.take_succ_eq_append_getElem hi, List.all_append, h3]
    simp [k3]
theorem PropL.stop {l : List Sn} {d : Nat} {left : Int} {i : Nat} (hi : i < l.length) (hk : ¬ Proper l[i] d (left - cntL (l.take i))) : ¬ PropL l d left := by
  rintro ⟨h1, h2, h3⟩
  refine hk ⟨?_, h2 _ (List.getElem_mem hi), List.all_eq_true.1 h3 _ (List.getElem_mem hi)⟩
  have h4 := cntL_take_le l (i + 1)
  have h5 := cntL_take_succ hi
  omega
theorem nodeB_iff (s : Sn) : nodeB s = true ↔ (1 ≤ s.op ∧ s.op ≤ 9) ∧ (if named s.op then nameB s.name else decide (s.name = [])) = true ∧ (s.day = 0 ∨ (s.op = 3 ∧ 0 < s.day ∧ s.day ≤ 1000000)) ∧ (if many s.op then decide (2 ≤ s.kids.length) else decide (s.kids = [])) = true := by
  unfold nodeB
  simp only [Bool.and_eq_true, decide_eq_true_eq, and_assoc]
theorem proper_iff (s : Sn) (d : Nat) (left : Int) : Proper s d left ↔ nodeB s = true ∧ 1 ≤ d ∧ 1 ≤ left ∧ PropL s.kids (d - 1) (left - 1) := by
  unfold Proper PropL
  rw [cnt_eq, dep_eq, okB_eq, okL_all, Bool.and_eq_true]
  have hd : depL s.kids + 1 ≤ d ↔ 1 ≤ d ∧ ∀ k ∈ s.kids, dep k ≤ d - 1 := by
    constructor
    · intro h
      refine ⟨by omega, fun k hk => ?_⟩
      have := dep_le_of_mem hk
      omega
    · rintro ⟨h1, h2⟩
      have := depL_le h2
      omega
  rw [hd]
  constructor
  · rintro ⟨h1, ⟨h2, h3⟩, h4, h5⟩
    exact ⟨h4, h2, by omega, by omega, h3, h5⟩
  · rintro ⟨h1, h2, h3, h4, h5, h6⟩
    exact ⟨by omega, ⟨h2, h5⟩, h1, h6⟩
mutual
/-- Its names and lists of kids fit into a machine. -/
def fitS : Sn → Prop
  | .node _ s _ ks => s.length ≤ 140737488351232 ∧ ks.length ≤ 140737488351232 ∧ fitL ks
def fitL : List Sn → Prop
  | [] => True
  | k :: ks => fitS k ∧ fitL ks
end
theorem fitL_mem {l : List Sn} (h : fitL l) : ∀ k ∈ l, fitS k := by
  induction l with
  | nil => intro k hk; cases hk
  | cons a l ih =>
    intro k hk
    rcases List.mem_cons.1 hk with rfl | hk
    · exact h.1
    · exact ih h.2 k hk
theorem fitS_eq (s : Sn) : fitS s ↔ s.name.length ≤ 140737488351232 ∧ s.kids.length ≤ 140737488351232 ∧ fitL s.kids := by
  cases s
  simp only [fitS]
  exact Iff.rfl
end Go.Sta
namespace Go.Proofs
open Go Go.Pd Go.Sta
attribute [local irreducible] OpsL W RetQ OpsQ OpsC
def leftB (lb : Nat) (x : Int) : Nat × Obj := (lb, .cells [.int .i64 x].toArray 3 (0, 0))
/-- One block alone. -/
abbrev OneB (lb : Nat) : Nat → Prop := fun b => b ∈ [lb]
theorem KR.one {w w' : World} {lb : Nat} {ks : List Sn} {kv : Value} (h : KR w (fun b => b ≠ lb) ks kv) (e : Upd (OneB lb) w w') : KR w' (fun b => b ≠ lb) ks kv := h.upd e fun b hb hm => hb (by simpa [OneB] using hm)
/-- What proper does for one condition. -/
def PropC (s : Sn) : Prop := ∀ (w : World) (kv : Value) (d lb : Nat) (left : Int), KR w (fun b => b ≠ lb) s.kids kv → LH w (OneB lb) w [leftB lb left] → fitS s → 0 ≤ left → left ≤ 1000000 → d ≤ 1000000 →
    Calls Tryd.prog 31 #[.agg (snL s kv).toArray, .int .i64 (d : Int), .pointer (some ⟨lb, 0, none⟩)] w (fun e w' => ∃ v, e = .returned v ∧ ∃ b left', v = .bool b ∧ LH w (OneB lb) w' [leftB lb left'] ∧ -1 ≤ left' ∧ left' ≤ left ∧ (b = true → Proper s d left ∧ left' = left - cnt s) ∧ (b = false → ¬ Proper s d left))
/-- The closure over the kids. -/
theorem proper1_calls {k : Sn} (hk : PropC k) {w : World} {kv : Value} {d lb bd bp : Nat} {left : Int} (hkr : KR w (fun b => b ≠ lb) k.kids kv) (hown : LH w (OneB lb) w [leftB lb left]) (hbd : Row w bd 0 [.int .i64 (d : Int)]) (hbp : Row w bp 0 [.pointer (some ⟨lb, 0, none⟩)]) (hfit : fitS k) (h0 : 0 ≤ left) (h1 : left ≤ 1000000) (hd : 1 ≤ d) (hd2 : d ≤ 1000000) :
    Calls Tryd.prog 51 #[.agg (snL k kv).toArray, .pointer (some ⟨bd, 0, none⟩), .pointer (some ⟨bp, 0, none⟩)] w (fun e w' => ∃ v, e = .returned v ∧ ∃ b left', v = .bool (!b) ∧ LH w (OneB lb) w' [leftB lb left'] ∧ -1 ≤ left' ∧ left' ≤ left ∧ (b = true → Proper k (d - 1) left ∧ left' = left - cnt k) ∧ (b = false → ¬ Proper k (d - 1) left)) := by
  refine calls_of Tryd.func51 rfl Tryd.ntmps51 rfl ?_
  refine wk_seq fun K hK => ?_
  refine wk_reg ?_
  refine o_box (LH.start w (fun _ => False)) (snL k kv) rfl rfl rfl ?_
  intro b3 w1 hb3 hl
  have hx1 := hl.done
  have hr3 : Row w1 b3 0 (snL k kv) := hl.rowL (vs := snL k kv) 0 0 4 rfl
  clear hl
  repeat' (first | refine a_mov ?_ | refine a_asg ?_ | refine a_binN ?_ | refine a_notd ?_ | refine a_notb ?_ | refine a_nilc ?_ | refine a_fa ?_ | refine a_ext ?_ | refine a_lenv ?_ | refine a_lens ?_ | refine a_pick_t ?_ | refine a_pick_f ?_ | refine a_not ?_ | refine a_nilf ?_ | (refine o_nil (hK _ _ ?_); clear hK K) | refine wk_reg ?_ | refine wk_seq fun K hK => ?_ | (refine wk_skip (hK _ _ ?_); clear hK K) | (refine wk_label (hK _ _ ?_); clear hK K) | refine wk_scope ?_ | refine wk_block ?_ | refine wk_cond_t rfl ?_ | refine wk_cond_f rfl ?_ | (refine wk_exit ?_; (repeat (refine blockK_other rfl ?_)); refine blockK_same ?_; try ((repeat ((fail_if_success (refine hK _ _ ?_)); clear hK K)); refine hK _ _ ?_; clear hK K)) | (refine a_bin ?_ ?_ <;> intro _ <;> try (exfalso; omega)) | refine a_ld hl ?_ | (refine a_st hl ?_; clear hl; intro _ hl) | refine a_ix (fun _ => ?_) | refine a_all hr3 ?_ | refine a_row (hbd.ext hx1) ?_ | refine a_row (hbp.ext hx1) ?_ | fail)
  have hd1 : (d : Int) - 1 = ((d - 1 : Nat) : Int) := by omega
  rw [hd1]
  refine a_fn (hk w1 kv (d - 1) lb left (hkr.ext hx1) (hown.ext hx1).rb hfit h0 h1 (by omega)) ?_
  rintro _ w2 ⟨b, left', rfl, hl2, h2, h3, h4, h5⟩
  repeat' (first | refine a_mov ?_ | refine a_asg ?_ | refine a_binN ?_ | refine a_notd ?_ | refine a_notb ?_ | refine a_nilc ?_ | refine a_fa ?_ | refine a_ext ?_ | refine a_lenv ?_ | refine a_lens ?_ | refine a_pick_t ?_ | refine a_pick_f ?_ | refine a_not ?_ | refine a_nilf ?_ | (refine o_nil (hK _ _ ?_); clear hK K) | refine wk_reg ?_ | refine wk_seq fun K hK => ?_ | (refine wk_skip (hK _ _ ?_); clear hK K) | (refine wk_label (hK _ _ ?_); clear hK K) | refine wk_scope ?_ | refine wk_block ?_ | refine wk_cond_t rfl ?_ | refine wk_cond_f rfl ?_ | (refine wk_exit ?_; (repeat (refine blockK_other rfl ?_)); refine blockK_same ?_; try ((repeat ((fail_if_success (refine hK _ _ ?_)); clear hK K)); refine hK _ _ ?_; clear hK K)) | (refine a_bin ?_ ?_ <;> intro _ <;> try (exfalso; omega)) | refine a_ld hl ?_ | (refine a_st hl ?_; clear hl; intro _ hl) | refine a_ix (fun _ => ?_) | fail)
  refine wk_ret (retQ_tmp1 Tryd.results51 (by decide) rfl (by conv => lhs; whnf) ?_)
  exact ⟨b, left', rfl, (hown.ext hx1).bk hl2, h2, h3, h4, h5⟩
/-- The kids, until one is not as required. -/
theorem kidsIdx_calls {ks : List Sn} (hks : ∀ k ∈ ks, PropC k) {w : World} {kv : Value} {d lb bd bp : Nat} {left : Int} (hkr : KR w (fun b => b ≠ lb) ks kv) (hown : LH w (OneB lb) w [leftB lb left]) (hbd : Row w bd 0 [.int .i64 (d : Int)]) (hbp : Row w bp 0 [.pointer (some ⟨lb, 0, none⟩)]) (hnd : bd ≠ lb) (hnp : bp ≠ lb) (hfit : fitL ks) (hlen : ks.length ≤ 140737488351232) (h0 : 0 ≤ left) (h1 : left ≤ 1000000) (hd : 1 ≤ d) (hd2 : d ≤ 1000000) :
    Calls Tryd.prog 60 #[kv, .func (.func 51) #[] #[.pointer (some ⟨bd, 0, none⟩), .pointer (some ⟨bp, 0, none⟩)]] w (fun e w' => ∃ v, e = .returned v ∧ ∃ z left', v = .int .i64 z ∧ LH w (OneB lb) w' [leftB lb left'] ∧ -1 ≤ left' ∧ left' ≤ left ∧ (z = -1 → PropL ks (d - 1) left ∧ left' = left - cntL ks) ∧ (z ≠ -1 → 0 ≤ z ∧ ¬ PropL ks (d - 1) left)) := by
  obtain ⟨ka, kc, rfl, -⟩ := hkr.shape
  refine calls_of Tryd.func60 rfl Tryd.ntmps60 rfl ?_
  repeat' (first | refine a_mov ?_ | refine a_asg ?_ | refine a_binN ?_ | refine a_notd ?_ | refine a_notb ?_ | refine a_nilc ?_ | refine a_fa ?_ | refine a_ext ?_ | refine a_lenv ?_ | refine a_lens ?_ | refine a_pick_t ?_ | refine a_pick_f ?_ | refine a_not ?_ | refine a_nilf ?_ | (refine o_nil (hK _ _ ?_); clear hK K) | refine wk_reg ?_ | refine wk_seq fun K hK => ?_ | (refine wk_skip (hK _ _ ?_); clear hK K) | (refine wk_label (hK _ _ ?_); clear hK K) | refine wk_scope ?_ | refine wk_block ?_ | refine wk_cond_t rfl ?_ | refine wk_cond_f rfl ?_ | (refine wk_exit ?_; (repeat (refine blockK_other rfl ?_)); refine blockK_same ?_; try ((repeat ((fail_if_success (refine hK _ _ ?_)); clear hK K)); refine hK _ _ ?_; clear hK K)) | (refine a_bin ?_ ?_ <;> intro _ <;> try (exfalso; omega)) | refine a_ld hl ?_ | (refine a_st hl ?_; clear hl; intro _ hl) | refine a_ix (fun _ => ?_) | fail)
  refine wk_loopH [] rfl (fun i : Nat => [(0, .slice ka ks.length kc), (1, .func (.func 51) #[] #[.pointer (some ⟨bd, 0, none⟩), .pointer (some ⟨bp, 0, none⟩)]), (7, .int .i64 (ks.length : Int)), (8, .int .i64 (i : Int))])
    (fun i w' => (i ≤ ks.length ∧ PropL (ks.take i) (d - 1) left) ∧ LH w (OneB lb) w' [leftB lb (left - cntL (ks.take i))]) (fun i => ks.length - i) 0 ⟨rfl, rfl, rfl, rfl, trivial⟩ ⟨⟨Nat.zero_le _, PropL.nil _ h0⟩, by simpa [cntL] using hown⟩ ?_
  rintro i t1 w1 ⟨⟨hi, hpre⟩, hl1⟩
  by_cases hi1 : i < ks.length
  · obtain ⟨b, o, kv1, hpp, hr, hk1⟩ := (hkr.one hl1.upd).at hi1
    have hbd1 := hbd.upd hl1.upd (by simpa [OneB] using hnd)
    have hbp1 := hbp.upd hl1.upd (by simpa [OneB] using hnp)
    have hc := hpre.1
    have hmem := List.getElem_mem hi1
    repeat' (first | refine a_mov ?_ | refine a_asg ?_ | refine a_binN ?_ | refine a_notd ?_ | refine a_notb ?_ | refine a_nilc ?_ | refine a_fa ?_ | refine a_ext ?_ | refine a_lenv ?_ | refine a_lens ?_ | refine a_pick_t ?_ | refine a_pick_f ?_ | refine a_not ?_ | refine a_nilf ?_ | (refine o_nil (hK _ _ ?_); clear hK K) | refine wk_reg ?_ | refine wk_seq fun K hK => ?_ | (refine wk_skip (hK _ _ ?_); clear hK K) | (refine wk_label (hK _ _ ?_); clear hK K) | refine wk_scope ?_ | refine wk_block ?_ | refine wk_cond_t rfl ?_ | refine wk_cond_f rfl ?_ | (refine wk_exit ?_; (repeat (refine blockK_other rfl ?_)); refine blockK_same ?_; try ((repeat ((fail_if_success (refine hK _ _ ?_)); clear hK K)); refine hK _ _ ?_; clear hK K)) | (refine a_bin ?_ ?_ <;> intro _ <;> try (exfalso; omega)) | refine a_ld hl ?_ | (refine a_st hl ?_; clear hl; intro _ hl) | refine a_ix (fun _ => ?_) | refine a_idx (c := 4) i hpp ?_ | refine a_all hr ?_ | fail)
    refine a_fc #[.agg (snL ks[i] kv1).toArray] #[.pointer (some ⟨bd, 0, none⟩), .pointer (some ⟨bp, 0, none⟩)] _ rfl (proper1_calls (hks _ hmem) hk1 hl1.rb hbd1 hbp1 (fitL_mem hfit _ hmem) (by omega) (by omega) hd hd2) ?_
    rintro _ w2 ⟨c, left', rfl, hl2, h2, h3, h4, h5⟩
    have hl3 := hl1.bk hl2
    cases c
    · repeat' (first | refine a_mov ?_ | refine a_asg ?_ | refine a_binN ?_ | refine a_notd ?_ | refine a_notb ?_ | refine a_nilc ?_ | refine a_fa ?_ | refine a_ext ?_ | refine a_lenv ?_ | refine a_lens ?_ | refine a_pick_t ?_ | refine a_pick_f ?_ | refine a_not ?_ | refine a_nilf ?_ | (refine o_nil (hK _ _ ?_); clear hK K) | refine wk_reg ?_ | refine wk_seq fun K hK => ?_ | (refine wk_skip (hK _ _ ?_); clear hK K) | (refine wk_label (hK _ _ ?_); clear hK K) | refine wk_scope ?_ | refine wk_block ?_ | refine wk_cond_t rfl ?_ | refine wk_cond_f rfl ?_ | (refine wk_exit ?_; (repeat (refine blockK_other rfl ?_)); refine blockK_same ?_; try ((repeat ((fail_if_success (refine hK _ _ ?_)); clear hK K)); refine hK _ _ ?_; clear hK K)) | (refine a_bin ?_ ?_ <;> intro _ <;> try (exfalso; omega)) | refine a_ld hl ?_ | (refine a_st hl ?_; clear hl; intro _ hl) | refine a_ix (fun _ => ?_) | fail)
      refine wk_ret (retQ_tmp1 Tryd.results60 (by decide) rfl (by conv => lhs; whnf) ?_)
      exact ⟨(i : Int), left', rfl, hl3, h2, by omega, fun h => by omega, fun _ => ⟨by omega, PropL.stop hi1 (h5 rfl)⟩⟩
    · obtain ⟨h6, rfl⟩ := h4 rfl
      repeat' (first | refine a_mov ?_ | refine a_asg ?_ | refine a_binN ?_ | refine a_notd ?_ | refine a_notb ?_ | refine a_nilc ?_ | refine a_fa ?_ | refine a_ext ?_ | refine a_lenv ?_ | refine a_lens ?_ | refine a_pick_t ?_ | refine a_pick_f ?_ | refine a_not ?_ | refine a_nilf ?_ | (refine o_nil (hK _ _ ?_); clear hK K) | refine wk_reg ?_ | refine wk_seq fun K hK => ?_ | (refine wk_skip (hK _ _ ?_); clear hK K) | (refine wk_label (hK _ _ ?_); clear hK K) | refine wk_scope ?_ | refine wk_block ?_ | refine wk_cond_t rfl ?_ | refine wk_cond_f rfl ?_ | (refine wk_exit ?_; (repeat (refine blockK_other rfl ?_)); refine blockK_same ?_; try ((repeat ((fail_if_success (refine hK _ _ ?_)); clear hK K)); refine hK _ _ ?_; clear hK K)) | (refine a_bin ?_ ?_ <;> intro _ <;> try (exfalso; omega)) | refine a_ld hl ?_ | (refine a_st hl ?_; clear hl; intro _ hl) | refine a_ix (fun _ => ?_) | fail)
      refine o_nil ⟨i + 1, ⟨rfl, rfl, rfl, rfl, trivial⟩, rfl, ⟨⟨hi1, PropL.step hi1 hpre h6⟩, ?_⟩, by omega⟩
      rw [cntL_take_succ hi1]
      rw [show left - ((cntL (ks.take i) + cnt ks[i] : Nat) : Int) = left - (cntL (ks.take i) : Int) - (cnt ks[i] : Int) by omega]
      exact hl3
  · obtain rfl : i = ks.length := by omega
    rw [List.take_length] at hpre hl1
    repeat' (first | refine a_mov ?_ | refine a_asg ?_ | refine a_binN ?_ | refine a_notd ?_ | refine a_notb ?_ | refine a_nilc ?_ | refine a_fa ?_ | refine a_ext ?_ | refine a_lenv ?_ | refine a_lens ?_ | refine a_pick_t ?_ | refine a_pick_f ?_ | refine a_not ?_ | refine a_nilf ?_ | (refine o_nil (hK _ _ ?_); clear hK K) | refine wk_reg ?_ | refine wk_seq fun K hK => ?_ | (refine wk_skip (hK _ _ ?_); clear hK K) | (refine wk_label (hK _ _ ?_); clear hK K) | refine wk_scope ?_ | refine wk_block ?_ | refine wk_cond_t rfl ?_ | refine wk_cond_f rfl ?_ | (refine wk_exit ?_; (repeat (refine blockK_other rfl ?_)); refine blockK_same ?_; try ((repeat ((fail_if_success (refine hK _ _ ?_)); clear hK K)); refine hK _ _ ?_; clear hK K)) | (refine a_bin ?_ ?_ <;> intro _ <;> try (exfalso; omega)) | refine a_ld hl ?_ | (refine a_st hl ?_; clear hl; intro _ hl) | refine a_ix (fun _ => ?_) | fail)
    refine wk_ret (retQ_tmp1 Tryd.results60 (by decide) rfl (by conv => lhs; whnf) ?_)
    have hc := hpre.1
    exact ⟨-1, _, rfl, hl1, by omega, by omega, fun _ => ⟨hpre, rfl⟩, fun h => absurd rfl h⟩
theorem kidsAny_calls {ks : List Sn} (hks : ∀ k ∈ ks, PropC k) {w : World} {kv : Value} {d lb bd bp : Nat} {left : Int} (hkr : KR w (fun b => b ≠ lb) ks kv) (hown : LH w (OneB lb) w [leftB lb left]) (hbd : Row w bd 0 [.int .i64 (d : Int)]) (hbp : Row w bp 0 [.pointer (some ⟨lb, 0, none⟩)]) (hnd : bd ≠ lb) (hnp : bp ≠ lb) (hfit : fitL ks) (hlen : ks.length ≤ 140737488351232) (h0 : 0 ≤ left) (h1 : left ≤ 1000000) (hd : 1 ≤ d) (hd2 : d ≤ 1000000) :
    Calls Tryd.prog 41 #[kv, .func (.func 51) #[] #[.pointer (some ⟨bd, 0, none⟩), .pointer (some ⟨bp, 0, none⟩)]] w (fun e w' => ∃ v, e = .returned v ∧ ∃ c left', v = .bool c ∧ LH w (OneB lb) w' [leftB lb left'] ∧ -1 ≤ left' ∧ left' ≤ left ∧ (c = false → PropL ks (d - 1) left ∧ left' = left - cntL ks) ∧ (c = true → ¬ PropL ks (d - 1) left)) := by
  refine calls_of Tryd.func41 rfl Tryd.ntmps41 rfl ?_
  repeat' (first | refine a_mov ?_ | refine a_asg ?_ | refine a_binN ?_ | refine a_notd ?_ | refine a_notb ?_ | refine a_nilc ?_ | refine a_fa ?_ | refine a_ext ?_ | refine a_lenv ?_ | refine a_lens ?_ | refine a_pick_t ?_ | refine a_pick_f ?_ | refine a_not ?_ | refine a_nilf ?_ | (refine o_nil (hK _ _ ?_); clear hK K) | refine wk_reg ?_ | refine wk_seq fun K hK => ?_ | (refine wk_skip (hK _ _ ?_); clear hK K) | (refine wk_label (hK _ _ ?_); clear hK K) | refine wk_scope ?_ | refine wk_block ?_ | refine wk_cond_t rfl ?_ | refine wk_cond_f rfl ?_ | (refine wk_exit ?_; (repeat (refine blockK_other rfl ?_)); refine blockK_same ?_; try ((repeat ((fail_if_success (refine hK _ _ ?_)); clear hK K)); refine hK _ _ ?_; clear hK K)) | (refine a_bin ?_ ?_ <;> intro _ <;> try (exfalso; omega)) | refine a_ld hl ?_ | (refine a_st hl ?_; clear hl; intro _ hl) | refine a_ix (fun _ => ?_) | fail)
  refine a_fn (kidsIdx_calls hks hkr hown hbd hbp hnd hnp hfit hlen h0 h1 hd hd2) ?_
  rintro _ w2 ⟨z, left', rfl, hl2, h2, h3, h4, h5⟩
  by_cases hz : z = -1
  · subst hz
    repeat' (first | refine a_mov ?_ | refine a_asg ?_ | refine a_binN ?_ | refine a_notd ?_ | refine a_notb ?_ | refine a_nilc ?_ | refine a_fa ?_ | refine a_ext ?_ | refine a_lenv ?_ | refine a_lens ?_ | refine a_pick_t ?_ | refine a_pick_f ?_ | refine a_not ?_ | refine a_nilf ?_ | (refine o_nil (hK _ _ ?_); clear hK K) | refine wk_reg ?_ | refine wk_seq fun K hK => ?_ | (refine wk_skip (hK _ _ ?_); clear hK K) | (refine wk_label (hK _ _ ?_); clear hK K) | refine wk_scope ?_ | refine wk_block ?_ | refine wk_cond_t rfl ?_ | refine wk_cond_f rfl ?_ | (refine wk_exit ?_; (repeat (refine blockK_other rfl ?_)); refine blockK_same ?_; try ((repeat ((fail_if_success (refine hK _ _ ?_)); clear hK K)); refine hK _ _ ?_; clear hK K)) | (refine a_bin ?_ ?_ <;> intro _ <;> try (exfalso; omega)) | refine a_ld hl ?_ | (refine a_st hl ?_; clear hl; intro _ hl) | refine a_ix (fun _ => ?_) | fail)
    refine wk_ret (retQ_tmp1 Tryd.results41 (by decide) rfl (by conv => lhs; whnf) ?_)
    exact ⟨false, left', rfl, hl2, h2, h3, fun _ => h4 rfl, (fun h => nomatch h)⟩
  · obtain ⟨h6, h7⟩ := h5 hz
    repeat' (first | refine a_mov ?_ | refine a_asg ?_ | refine a_binN ?_ | refine a_notd ?_ | refine a_notb ?_ | refine a_nilc ?_ | refine a_fa ?_ | refine a_ext ?_ | refine a_lenv ?_ | refine a_lens ?_ | refine a_pick_t ?_ | refine a_pick_f ?_ | refine a_not ?_ | refine a_nilf ?_ | (refine o_nil (hK _ _ ?_); clear hK K) | refine wk_reg ?_ | refine wk_seq fun K hK => ?_ | (refine wk_skip (hK _ _ ?_); clear hK K) | (refine wk_label (hK _ _ ?_); clear hK K) | refine wk_scope ?_ | refine wk_block ?_ | refine wk_cond_t rfl ?_ | refine wk_cond_f rfl ?_ | (refine wk_exit ?_; (repeat (refine blockK_other rfl ?_)); refine blockK_same ?_; try ((repeat ((fail_if_success (refine hK _ _ ?_)); clear hK K)); refine hK _ _ ?_; clear hK K)) | (refine a_bin ?_ ?_ <;> intro _ <;> try (exfalso; omega)) | refine a_ld hl ?_ | (refine a_st hl ?_; clear hl; intro _ hl) | refine a_ix (fun _ => ?_) | fail)
    refine wk_ret (retQ_tmp1 Tryd.results41 (by decide) rfl (by conv => lhs; whnf) ?_)
    exact ⟨true, left', rfl, hl2, h2, h3, (fun h => nomatch h), fun _ => h7⟩
set_option maxHeartbeats 4000000 in
theorem proper_calls : ∀ s : Sn, PropC s := Sn.ind fun s ih => by
  intro w kv d lb left hkr hown hfit h0 h1 hd
  obtain ⟨ka, kc, rfl, -⟩ := hkr.shape
  obtain ⟨hf1, hf2, hf3⟩ := (fitS_eq s).1 hfit
  have hpi := proper_iff s d left
  refine calls_of Tryd.func31 rfl Tryd.ntmps31 rfl ?_
  refine wk_seq fun K hK => ?_
  refine wk_reg ?_
  refine o_box hown (snL s (.slice ka s.kids.length kc)) rfl rfl rfl ?_
  intro b3 w3 hb3 hl3
  refine o_box hl3 [.int .i64 (d : Int)] rfl rfl rfl ?_
  clear hl3
  intro b4 w4 hb4 hl4
  refine o_box hl4 [.pointer (some ⟨lb, 0, none⟩)] rfl rfl rfl ?_
  clear hl4
  intro b5 w5 hb5 hl
  repeat' (first | refine a_mov ?_ | refine a_asg ?_ | refine a_binN ?_ | refine a_notd ?_ | refine a_notb ?_ | refine a_nilc ?_ | refine a_fa ?_ | refine a_ext ?_ | refine a_lenv ?_ | refine a_lens ?_ | refine a_pick_t ?_ | refine a_pick_f ?_ | refine a_not ?_ | refine a_nilf ?_ | (refine a_bin ?_ ?_ <;> intro _ <;> try (exfalso; omega)) | refine a_ld hl ?_ | (refine a_st hl ?_; clear hl; intro _ hl) | refine a_ix (fun _ => ?_) | fail)
  refine o_nil (hK _ _ ?_)
  clear hK K
  refine wk_seq fun K hK => ?_
  refine wk_reg ?_
  repeat' (first | refine a_mov ?_ | refine a_asg ?_ | refine a_binN ?_ | refine a_notd ?_ | refine a_notb ?_ | refine a_nilc ?_ | refine a_fa ?_ | refine a_ext ?_ | refine a_lenv ?_ | refine a_lens ?_ | refine a_pick_t ?_ | refine a_pick_f ?_ | refine a_not ?_ | refine a_nilf ?_ | (refine a_bin ?_ ?_ <;> intro _ <;> try (exfalso; omega)) | refine a_ld hl ?_ | (refine a_st hl ?_; clear hl; intro _ hl) | refine a_ix (fun _ => ?_) | refine a_ld hl ?_ | fail)
  rename_i w6
  have hl : LH w (OneB lb) w6 [(b5, .cells [.pointer (some ⟨lb, 0, none⟩)].toArray 81 (0, 0)), (b4, .cells [.int .i64 (d : Int)].toArray 3 (0, 0)), (b3, .cells (snL s (.slice ka s.kids.length kc)).toArray 29 (0, 0)), leftB lb (left - 1)] := hl
  refine o_nil (hK _ _ ?_)
  clear hK K
  have hret : ∀ {w' : World}, LH w (OneB lb) w' [(b5, .cells [.pointer (some ⟨lb, 0, none⟩)].toArray 81 (0, 0)), (b4, .cells [.int .i64 (d : Int)].toArray 3 (0, 0)), (b3, .cells (snL s (.slice ka s.kids.length kc)).toArray 29 (0, 0)), leftB lb (left - 1)] → LH w (OneB lb) w' [leftB lb (left - 1)] := fun h => h.sub (by simp)
  by_cases hq : left < 1 ∨ d = 0 ∨ s.op < 1 ∨ 9 < s.op
  · repeat' (first | refine a_mov ?_ | refine a_asg ?_ | refine a_binN ?_ | refine a_notd ?_ | refine a_notb ?_ | refine a_nilc ?_ | refine a_fa ?_ | refine a_ext ?_ | refine a_lenv ?_ | refine a_lens ?_ | refine a_pick_t ?_ | refine a_pick_f ?_ | refine a_not ?_ | refine a_nilf ?_ | (refine o_nil (hK _ _ ?_); clear hK K) | refine wk_reg ?_ | refine wk_seq fun K hK => ?_ | (refine wk_skip (hK _ _ ?_); clear hK K) | (refine wk_label (hK _ _ ?_); clear hK K) | refine wk_scope ?_ | refine wk_block ?_ | refine wk_cond_t rfl ?_ | refine wk_cond_f rfl ?_ | (refine wk_exit ?_; (repeat (refine blockK_other rfl ?_)); refine blockK_same ?_; try ((repeat ((fail_if_success (refine hK _ _ ?_)); clear hK K)); refine hK _ _ ?_; clear hK K)) | (refine a_bin ?_ ?_ <;> intro _ <;> try (exfalso; omega)) | refine a_ld hl ?_ | (refine a_st hl ?_; clear hl; intro _ hl) | refine a_ix (fun _ => ?_) | fail)
    all_goals refine wk_ret (retQ_tmp1 Tryd.results31 (by decide) rfl (by conv => lhs; whnf) ?_)
    all_goals exact ⟨false, left - 1, rfl, hret hl, by omega, by omega, (fun h => nomatch h), fun _ hp => by
      obtain ⟨h2, h3, h4, -⟩ := hpi.1 hp
      have := ((nodeB_iff s).1 h2).1
      omega⟩
  have hsl : s.name.length ≤ 140737488351232 := hf1
  obtain ⟨nb, hnb⟩ : ∃ nb, nb = (if named s.op then nameB s.name else decide (s.name = [])) := ⟨_, rfl⟩
  obtain ⟨ke, hke⟩ : ∃ ke, ke = decide (s.kids = []) := ⟨_, rfl⟩
  obtain ⟨db, hdb⟩ : ∃ db, db = decide (s.day = 0 ∨ (s.op = 3 ∧ 0 < s.day ∧ s.day ≤ 1000000)) := ⟨_, rfl⟩
  obtain ⟨kb, hkb⟩ : ∃ kb, kb = (if many s.op then decide (2 ≤ s.kids.length) else decide (s.kids = [])) := ⟨_, rfl⟩
  repeat' (first | refine a_mov ?_ | refine a_asg ?_ | refine a_binN ?_ | refine a_notd ?_ | refine a_notb ?_ | refine a_nilc ?_ | refine a_fa ?_ | refine a_ext ?_ | refine a_lenv ?_ | refine a_lens ?_ | refine a_pick_t ?_ | refine a_pick_f ?_ | refine a_not ?_ | refine a_nilf ?_ | (refine o_nil (hK _ _ ?_); clear hK K) | refine wk_reg ?_ | refine wk_seq fun K hK => ?_ | (refine wk_skip (hK _ _ ?_); clear hK K) | (refine wk_label (hK _ _ ?_); clear hK K) | refine wk_scope ?_ | refine wk_block ?_ | refine wk_cond_t rfl ?_ | refine wk_cond_f rfl ?_ | (refine wk_exit ?_; (repeat (refine blockK_other rfl ?_)); refine blockK_same ?_; try ((repeat ((fail_if_success (refine hK _ _ ?_)); clear hK K)); refine hK _ _ ?_; clear hK K)) | (refine a_bin ?_ ?_ <;> intro _ <;> try (exfalso; omega)) | refine a_ld hl ?_ | (refine a_st hl ?_; clear hl; intro _ hl) | refine a_ix (fun _ => ?_) | fail)
  refine o_cut [] (fun _ : Unit => [(3, .pointer (some ⟨b3, 0, none⟩)), (4, .pointer (some ⟨b4, 0, none⟩)), (5, .pointer (some ⟨b5, 0, none⟩)), (7, .bool (decide (s.name = [])))]) (fun _ w' => LH w (OneB lb) w' [(b5, .cells [.pointer (some ⟨lb, 0, none⟩)].toArray 81 (0, 0)), (b4, .cells [.int .i64 (d : Int)].toArray 3 (0, 0)), (b3, .cells (snL s (.slice ka s.kids.length kc)).toArray 29 (0, 0)), leftB lb (left - 1)]) ?_ ?_
  · refine o_eqsT (a := s.name) (b := []) rfl rfl (by simp only [str_eq]; rfl) ?_ ?_ <;> intro hn
    · repeat' (first | refine a_mov ?_ | refine a_asg ?_ | refine a_binN ?_ | refine a_notd ?_ | refine a_notb ?_ | refine a_nilc ?_ | refine a_fa ?_ | refine a_ext ?_ | refine a_lenv ?_ | refine a_lens ?_ | refine a_pick_t ?_ | refine a_pick_f ?_ | refine a_not ?_ | refine a_nilf ?_ | (refine a_bin ?_ ?_ <;> intro _ <;> try (exfalso; omega)) | refine a_ld hl ?_ | (refine a_st hl ?_; clear hl; intro _ hl) | refine a_ix (fun _ => ?_) | fail)
      exact o_nil ⟨(), ⟨rfl, rfl, rfl, by rw [decide_eq_true hn]; rfl, trivial⟩, rfl, hl⟩
    · repeat' (first | refine a_mov ?_ | refine a_asg ?_ | refine a_binN ?_ | refine a_notd ?_ | refine a_notb ?_ | refine a_nilc ?_ | refine a_fa ?_ | refine a_ext ?_ | refine a_lenv ?_ | refine a_lens ?_ | refine a_pick_t ?_ | refine a_pick_f ?_ | refine a_not ?_ | refine a_nilf ?_ | (refine a_bin ?_ ?_ <;> intro _ <;> try (exfalso; omega)) | refine a_ld hl ?_ | (refine a_st hl ?_; clear hl; intro _ hl) | refine a_ix (fun _ => ?_) | fail)
      exact o_nil ⟨(), ⟨rfl, rfl, rfl, by rw [decide_eq_false hn]; rfl, trivial⟩, rfl, hl⟩
  clear hl
  rintro _ t7 w7 hl
  refine hK _ _ ?_
  clear hK K
  refine wk_seq fun K hK => ?_
  refine wk_cut [] (fun _ : Unit => [(3, .pointer (some ⟨b3, 0, none⟩)), (4, .pointer (some ⟨b4, 0, none⟩)), (5, .pointer (some ⟨b5, 0, none⟩)), (7, .bool nb)]) (fun _ w' => LH w (OneB lb) w' [(b5, .cells [.pointer (some ⟨lb, 0, none⟩)].toArray 81 (0, 0)), (b4, .cells [.int .i64 (d : Int)].toArray 3 (0, 0)), (b3, .cells (snL s (.slice ka s.kids.length kc)).toArray 29 (0, 0)), leftB lb (left - 1)]) ?_ ?_
  · clear hK K
    repeat' (first | refine a_mov ?_ | refine a_asg ?_ | refine a_binN ?_ | refine a_notd ?_ | refine a_notb ?_ | refine a_nilc ?_ | refine a_fa ?_ | refine a_ext ?_ | refine a_lenv ?_ | refine a_lens ?_ | refine a_pick_t ?_ | refine a_pick_f ?_ | refine a_not ?_ | refine a_nilf ?_ | (refine o_nil (hK _ _ ?_); clear hK K) | refine wk_reg ?_ | refine wk_seq fun K hK => ?_ | (refine wk_skip (hK _ _ ?_); clear hK K) | (refine wk_label (hK _ _ ?_); clear hK K) | refine wk_scope ?_ | refine wk_block ?_ | refine wk_cond_t rfl ?_ | refine wk_cond_f rfl ?_ | (refine wk_exit ?_; (repeat (refine blockK_other rfl ?_)); refine blockK_same ?_; try ((repeat ((fail_if_success (refine hK _ _ ?_)); clear hK K)); refine hK _ _ ?_; clear hK K)) | (refine a_bin ?_ ?_ <;> intro _ <;> try (exfalso; omega)) | refine a_ld hl ?_ | (refine a_st hl ?_; clear hl; intro _ hl) | refine a_ix (fun _ => ?_) | fail)
    refine a_fn (isNamed_calls s.op w7) ?_
    rintro _ w8 ⟨rfl, rfl⟩
    cases hnm : named s.op
    · rw [hnm, if_neg (by decide)] at hnb
      repeat' (first | refine a_mov ?_ | refine a_asg ?_ | refine a_binN ?_ | refine a_notd ?_ | refine a_notb ?_ | refine a_nilc ?_ | refine a_fa ?_ | refine a_ext ?_ | refine a_lenv ?_ | refine a_lens ?_ | refine a_pick_t ?_ | refine a_pick_f ?_ | refine a_not ?_ | refine a_nilf ?_ | (refine o_nil (hK _ _ ?_); clear hK K) | refine wk_reg ?_ | refine wk_seq fun K hK => ?_ | (refine wk_skip (hK _ _ ?_); clear hK K) | (refine wk_label (hK _ _ ?_); clear hK K) | refine wk_scope ?_ | refine wk_block ?_ | refine wk_cond_t rfl ?_ | refine wk_cond_f rfl ?_ | (refine wk_exit ?_; (repeat (refine blockK_other rfl ?_)); refine blockK_same ?_; try ((repeat ((fail_if_success (refine hK _ _ ?_)); clear hK K)); refine hK _ _ ?_; clear hK K)) | (refine a_bin ?_ ?_ <;> intro _ <;> try (exfalso; omega)) | refine a_ld hl ?_ | (refine a_st hl ?_; clear hl; intro _ hl) | refine a_ix (fun _ => ?_) | fail)
      exact wk_skip ⟨(), ⟨rfl, rfl, rfl, by rw [hnb]; rfl, trivial⟩, rfl, hl⟩
    · rw [hnm, if_pos rfl] at hnb
      repeat' (first | refine a_mov ?_ | refine a_asg ?_ | refine a_binN ?_ | refine a_notd ?_ | refine a_notb ?_ | refine a_nilc ?_ | refine a_fa ?_ | refine a_ext ?_ | refine a_lenv ?_ | refine a_lens ?_ | refine a_pick_t ?_ | refine a_pick_f ?_ | refine a_not ?_ | refine a_nilf ?_ | (refine o_nil (hK _ _ ?_); clear hK K) | refine wk_reg ?_ | refine wk_seq fun K hK => ?_ | (refine wk_skip (hK _ _ ?_); clear hK K) | (refine wk_label (hK _ _ ?_); clear hK K) | refine wk_scope ?_ | refine wk_block ?_ | refine wk_cond_t rfl ?_ | refine wk_cond_f rfl ?_ | (refine wk_exit ?_; (repeat (refine blockK_other rfl ?_)); refine blockK_same ?_; try ((repeat ((fail_if_success (refine hK _ _ ?_)); clear hK K)); refine hK _ _ ?_; clear hK K)) | (refine a_bin ?_ ?_ <;> intro _ <;> try (exfalso; omega)) | refine a_ld hl ?_ | (refine a_st hl ?_; clear hl; intro _ hl) | refine a_ix (fun _ => ?_) | fail)
      refine a_fn (isName_calls s.name hsl w8) ?_
      rintro _ w9 ⟨rfl, rfl⟩
      repeat' (first | refine a_mov ?_ | refine a_asg ?_ | refine a_binN ?_ | refine a_notd ?_ | refine a_notb ?_ | refine a_nilc ?_ | refine a_fa ?_ | refine a_ext ?_ | refine a_lenv ?_ | refine a_lens ?_ | refine a_pick_t ?_ | refine a_pick_f ?_ | refine a_not ?_ | refine a_nilf ?_ | (refine o_nil (hK _ _ ?_); clear hK K) | refine wk_reg ?_ | refine wk_seq fun K hK => ?_ | (refine wk_skip (hK _ _ ?_); clear hK K) | (refine wk_label (hK _ _ ?_); clear hK K) | refine wk_scope ?_ | refine wk_block ?_ | refine wk_cond_t rfl ?_ | refine wk_cond_f rfl ?_ | (refine wk_exit ?_; (repeat (refine blockK_other rfl ?_)); refine blockK_same ?_; try ((repeat ((fail_if_success (refine hK _ _ ?_)); clear hK K)); refine hK _ _ ?_; clear hK K)) | (refine a_bin ?_ ?_ <;> intro _ <;> try (exfalso; omega)) | refine a_ld hl ?_ | (refine a_st hl ?_; clear hl; intro _ hl) | refine a_ix (fun _ => ?_) | fail)
      exact o_nil ⟨(), ⟨rfl, rfl, rfl, by rw [hnb]; rfl, trivial⟩, rfl, hl⟩
  clear hl
  rintro _ t8 w8 hl
  refine hK _ _ ?_
  clear hK K
  refine wk_seq fun K hK => ?_
  refine wk_cut [] (fun _ : Unit => [(3, .pointer (some ⟨b3, 0, none⟩)), (4, .pointer (some ⟨b4, 0, none⟩)), (5, .pointer (some ⟨b5, 0, none⟩)), (7, .bool nb), (8, .bool db)]) (fun _ w' => LH w (OneB lb) w' [(b5, .cells [.pointer (some ⟨lb, 0, none⟩)].toArray 81 (0, 0)), (b4, .cells [.int .i64 (d : Int)].toArray 3 (0, 0)), (b3, .cells (snL s (.slice ka s.kids.length kc)).toArray 29 (0, 0)), leftB lb (left - 1)]) ?_ ?_
  · clear hK K
    repeat' (first | refine a_mov ?_ | refine a_asg ?_ | refine a_binN ?_ | refine a_notd ?_ | refine a_notb ?_ | refine a_nilc ?_ | refine a_fa ?_ | refine a_ext ?_ | refine a_lenv ?_ | refine a_lens ?_ | refine a_pick_t ?_ | refine a_pick_f ?_ | refine a_not ?_ | refine a_nilf ?_ | (refine o_nil (hK _ _ ?_); clear hK K) | refine wk_reg ?_ | refine wk_seq fun K hK => ?_ | (refine wk_skip (hK _ _ ?_); clear hK K) | (refine wk_label (hK _ _ ?_); clear hK K) | refine wk_scope ?_ | refine wk_block ?_ | refine wk_cond_t rfl ?_ | refine wk_cond_f rfl ?_ | (refine wk_exit ?_; (repeat (refine blockK_other rfl ?_)); refine blockK_same ?_; try ((repeat ((fail_if_success (refine hK _ _ ?_)); clear hK K)); refine hK _ _ ?_; clear hK K)) | (refine a_bin ?_ ?_ <;> intro _ <;> try (exfalso; omega)) | refine a_ld hl ?_ | (refine a_st hl ?_; clear hl; intro _ hl) | refine a_ix (fun _ => ?_) | fail)
    all_goals first
      | exact o_nil ⟨(), ⟨rfl, rfl, rfl, rfl, by rw [hdb, decide_eq_true (by omega)]; rfl, trivial⟩, rfl, hl⟩
      | exact o_nil ⟨(), ⟨rfl, rfl, rfl, rfl, by rw [hdb, decide_eq_false (by omega)]; rfl, trivial⟩, rfl, hl⟩
  clear hl
  rintro _ t9 w9 hl
  refine hK _ _ ?_
  clear hK K
  refine wk_seq fun K hK => ?_
  refine wk_cut [] (fun _ : Unit => [(3, .pointer (some ⟨b3, 0, none⟩)), (4, .pointer (some ⟨b4, 0, none⟩)), (5, .pointer (some ⟨b5, 0, none⟩)), (7, .bool nb), (8, .bool db), (9, .bool ke)]) (fun _ w' => LH w (OneB lb) w' [(b5, .cells [.pointer (some ⟨lb, 0, none⟩)].toArray 81 (0, 0)), (b4, .cells [.int .i64 (d : Int)].toArray 3 (0, 0)), (b3, .cells (snL s (.slice ka s.kids.length kc)).toArray 29 (0, 0)), leftB lb (left - 1)]) ?_ ?_
  · clear hK K
    have hk0 : s.kids = [] ↔ s.kids.length = 0 := List.length_eq_zero_iff.symm
    repeat' (first | refine a_mov ?_ | refine a_asg ?_ | refine a_binN ?_ | refine a_notd ?_ | refine a_notb ?_ | refine a_nilc ?_ | refine a_fa ?_ | refine a_ext ?_ | refine a_lenv ?_ | refine a_lens ?_ | refine a_pick_t ?_ | refine a_pick_f ?_ | refine a_not ?_ | refine a_nilf ?_ | (refine o_nil (hK _ _ ?_); clear hK K) | refine wk_reg ?_ | refine wk_seq fun K hK => ?_ | (refine wk_skip (hK _ _ ?_); clear hK K) | (refine wk_label (hK _ _ ?_); clear hK K) | refine wk_scope ?_ | refine wk_block ?_ | refine wk_cond_t rfl ?_ | refine wk_cond_f rfl ?_ | (refine wk_exit ?_; (repeat (refine blockK_other rfl ?_)); refine blockK_same ?_; try ((repeat ((fail_if_success (refine hK _ _ ?_)); clear hK K)); refine hK _ _ ?_; clear hK K)) | (refine a_bin ?_ ?_ <;> intro _ <;> try (exfalso; omega)) | refine a_ld hl ?_ | (refine a_st hl ?_; clear hl; intro _ hl) | refine a_ix (fun _ => ?_) | fail)
    · exact o_nil ⟨(), ⟨rfl, rfl, rfl, rfl, rfl, by rw [hke, decide_eq_true (hk0.2 (by omega))]; rfl, trivial⟩, rfl, hl⟩
    · exact o_nil ⟨(), ⟨rfl, rfl, rfl, rfl, rfl, by rw [hke, decide_eq_false (fun h => by have := hk0.1 h; omega)]; rfl, trivial⟩, rfl, hl⟩
  clear hl
  rintro _ t10 w10 hl
  refine hK _ _ ?_
  clear hK K
  refine wk_seq fun K hK => ?_
  refine wk_cut [] (fun _ : Unit => [(3, .pointer (some ⟨b3, 0, none⟩)), (4, .pointer (some ⟨b4, 0, none⟩)), (5, .pointer (some ⟨b5, 0, none⟩)), (7, .bool nb), (8, .bool db), (9, .bool kb)]) (fun _ w' => LH w (OneB lb) w' [(b5, .cells [.pointer (some ⟨lb, 0, none⟩)].toArray 81 (0, 0)), (b4, .cells [.int .i64 (d : Int)].toArray 3 (0, 0)), (b3, .cells (snL s (.slice ka s.kids.length kc)).toArray 29 (0, 0)), leftB lb (left - 1)]) ?_ ?_
  · clear hK K
    repeat' (first | refine a_mov ?_ | refine a_asg ?_ | refine a_binN ?_ | refine a_notd ?_ | refine a_notb ?_ | refine a_nilc ?_ | refine a_fa ?_ | refine a_ext ?_ | refine a_lenv ?_ | refine a_lens ?_ | refine a_pick_t ?_ | refine a_pick_f ?_ | refine a_not ?_ | refine a_nilf ?_ | (refine o_nil (hK _ _ ?_); clear hK K) | refine wk_reg ?_ | refine wk_seq fun K hK => ?_ | (refine wk_skip (hK _ _ ?_); clear hK K) | (refine wk_label (hK _ _ ?_); clear hK K) | refine wk_scope ?_ | refine wk_block ?_ | refine wk_cond_t rfl ?_ | refine wk_cond_f rfl ?_ | (refine wk_exit ?_; (repeat (refine blockK_other rfl ?_)); refine blockK_same ?_; try ((repeat ((fail_if_success (refine hK _ _ ?_)); clear hK K)); refine hK _ _ ?_; clear hK K)) | (refine a_bin ?_ ?_ <;> intro _ <;> try (exfalso; omega)) | refine a_ld hl ?_ | (refine a_st hl ?_; clear hl; intro _ hl) | refine a_ix (fun _ => ?_) | fail)
    refine a_fn (isMany_calls s.op w10) ?_
    rintro _ w11 ⟨rfl, rfl⟩
    cases hm : many s.op
    · rw [hm, if_neg (by decide), ← hke] at hkb
      repeat' (first | refine a_mov ?_ | refine a_asg ?_ | refine a_binN ?_ | refine a_notd ?_ | refine a_notb ?_ | refine a_nilc ?_ | refine a_fa ?_ | refine a_ext ?_ | refine a_lenv ?_ | refine a_lens ?_ | refine a_pick_t ?_ | refine a_pick_f ?_ | refine a_not ?_ | refine a_nilf ?_ | (refine o_nil (hK _ _ ?_); clear hK K) | refine wk_reg ?_ | refine wk_seq fun K hK => ?_ | (refine wk_skip (hK _ _ ?_); clear hK K) | (refine wk_label (hK _ _ ?_); clear hK K) | refine wk_scope ?_ | refine wk_block ?_ | refine wk_cond_t rfl ?_ | refine wk_cond_f rfl ?_ | (refine wk_exit ?_; (repeat (refine blockK_other rfl ?_)); refine blockK_same ?_; try ((repeat ((fail_if_success (refine hK _ _ ?_)); clear hK K)); refine hK _ _ ?_; clear hK K)) | (refine a_bin ?_ ?_ <;> intro _ <;> try (exfalso; omega)) | refine a_ld hl ?_ | (refine a_st hl ?_; clear hl; intro _ hl) | refine a_ix (fun _ => ?_) | fail)
      exact wk_skip ⟨(), ⟨rfl, rfl, rfl, rfl, rfl, by rw [hkb]; rfl, trivial⟩, rfl, hl⟩
    · rw [hm, if_pos rfl] at hkb
      repeat' (first | refine a_mov ?_ | refine a_asg ?_ | refine a_binN ?_ | refine a_notd ?_ | refine a_notb ?_ | refine a_nilc ?_ | refine a_fa ?_ | refine a_ext ?_ | refine a_lenv ?_ | refine a_lens ?_ | refine a_pick_t ?_ | refine a_pick_f ?_ | refine a_not ?_ | refine a_nilf ?_ | (refine o_nil (hK _ _ ?_); clear hK K) | refine wk_reg ?_ | refine wk_seq fun K hK => ?_ | (refine wk_skip (hK _ _ ?_); clear hK K) | (refine wk_label (hK _ _ ?_); clear hK K) | refine wk_scope ?_ | refine wk_block ?_ | refine wk_cond_t rfl ?_ | refine wk_cond_f rfl ?_ | (refine wk_exit ?_; (repeat (refine blockK_other rfl ?_)); refine blockK_same ?_; try ((repeat ((fail_if_success (refine hK _ _ ?_)); clear hK K)); refine hK _ _ ?_; clear hK K)) | (refine a_bin ?_ ?_ <;> intro _ <;> try (exfalso; omega)) | refine a_ld hl ?_ | (refine a_st hl ?_; clear hl; intro _ hl) | refine a_ix (fun _ => ?_) | fail)
      · exact o_nil ⟨(), ⟨rfl, rfl, rfl, rfl, rfl, by rw [hkb, decide_eq_true (by omega)]; rfl, trivial⟩, rfl, hl⟩
      · exact o_nil ⟨(), ⟨rfl, rfl, rfl, rfl, rfl, by rw [hkb, decide_eq_false (by omega)]; rfl, trivial⟩, rfl, hl⟩
  clear hl
  rintro _ t11 w11 hl
  refine hK _ _ ?_
  clear hK K
  have hdt : db = true ↔ (s.day = 0 ∨ (s.op = 3 ∧ 0 < s.day ∧ s.day ≤ 1000000)) := by rw [hdb, decide_eq_true_eq]
  have hbad : ¬ (nb = true ∧ db = true ∧ kb = true) → ¬ Proper s d left := fun h hp => by
    obtain ⟨h2, -⟩ := hpi.1 hp
    obtain ⟨-, h3, h4, h5⟩ := (nodeB_iff s).1 h2
    exact h ⟨hnb.trans h3, hdt.2 h4, hkb.trans h5⟩
  have hgood : nb = true → db = true → kb = true → nodeB s = true := fun h1 h2 h3 => (nodeB_iff s).2 ⟨by omega, hnb ▸ h1, hdt.1 h2, hkb ▸ h3⟩
  clear hdt hdb hnb hkb
  have hfalse : ∀ {w' : World}, LH w (OneB lb) w' [(b5, .cells [.pointer (some ⟨lb, 0, none⟩)].toArray 81 (0, 0)), (b4, .cells [.int .i64 (d : Int)].toArray 3 (0, 0)), (b3, .cells (snL s (.slice ka s.kids.length kc)).toArray 29 (0, 0)), leftB lb (left - 1)] → ¬ Proper s d left → ∃ b left', Value.bool false = .bool b ∧ LH w (OneB lb) w' [leftB lb left'] ∧ -1 ≤ left' ∧ left' ≤ left ∧ (b = true → Proper s d left ∧ left' = left - cnt s) ∧ (b = false → ¬ Proper s d left) := fun h hp => ⟨false, left - 1, rfl, hret h, by omega, by omega, (fun h => nomatch h), fun _ => hp⟩
  cases nb
  · repeat' (first | refine a_mov ?_ | refine a_asg ?_ | refine a_binN ?_ | refine a_notd ?_ | refine a_notb ?_ | refine a_nilc ?_ | refine a_fa ?_ | refine a_ext ?_ | refine a_lenv ?_ | refine a_lens ?_ | refine a_pick_t ?_ | refine a_pick_f ?_ | refine a_not ?_ | refine a_nilf ?_ | (refine o_nil (hK _ _ ?_); clear hK K) | refine wk_reg ?_ | refine wk_seq fun K hK => ?_ | (refine wk_skip (hK _ _ ?_); clear hK K) | (refine wk_label (hK _ _ ?_); clear hK K) | refine wk_scope ?_ | refine wk_block ?_ | refine wk_cond_t rfl ?_ | refine wk_cond_f rfl ?_ | (refine wk_exit ?_; (repeat (refine blockK_other rfl ?_)); refine blockK_same ?_; try ((repeat ((fail_if_success (refine hK _ _ ?_)); clear hK K)); refine hK _ _ ?_; clear hK K)) | (refine a_bin ?_ ?_ <;> intro _ <;> try (exfalso; omega)) | refine a_ld hl ?_ | (refine a_st hl ?_; clear hl; intro _ hl) | refine a_ix (fun _ => ?_) | fail)
    refine wk_ret (retQ_tmp1 Tryd.results31 (by decide) rfl (by conv => lhs; whnf) ?_)
    exact hfalse hl (hbad (by simp))
  cases db
  · repeat' (first | refine a_mov ?_ | refine a_asg ?_ | refine a_binN ?_ | refine a_notd ?_ | refine a_notb ?_ | refine a_nilc ?_ | refine a_fa ?_ | refine a_ext ?_ | refine a_lenv ?_ | refine a_lens ?_ | refine a_pick_t ?_ | refine a_pick_f ?_ | refine a_not ?_ | refine a_nilf ?_ | (refine o_nil (hK _ _ ?_); clear hK K) | refine wk_reg ?_ | refine wk_seq fun K hK => ?_ | (refine wk_skip (hK _ _ ?_); clear hK K) | (refine wk_label (hK _ _ ?_); clear hK K) | refine wk_scope ?_ | refine wk_block ?_ | refine wk_cond_t rfl ?_ | refine wk_cond_f rfl ?_ | (refine wk_exit ?_; (repeat (refine blockK_other rfl ?_)); refine blockK_same ?_; try ((repeat ((fail_if_success (refine hK _ _ ?_)); clear hK K)); refine hK _ _ ?_; clear hK K)) | (refine a_bin ?_ ?_ <;> intro _ <;> try (exfalso; omega)) | refine a_ld hl ?_ | (refine a_st hl ?_; clear hl; intro _ hl) | refine a_ix (fun _ => ?_) | fail)
    refine wk_ret (retQ_tmp1 Tryd.results31 (by decide) rfl (by conv => lhs; whnf) ?_)
    exact hfalse hl (hbad (by simp))
  cases kb
  · repeat' (first | refine a_mov ?_ | refine a_asg ?_ | refine a_binN ?_ | refine a_notd ?_ | refine a_notb ?_ | refine a_nilc ?_ | refine a_fa ?_ | refine a_ext ?_ | refine a_lenv ?_ | refine a_lens ?_ | refine a_pick_t ?_ | refine a_pick_f ?_ | refine a_not ?_ | refine a_nilf ?_ | (refine o_nil (hK _ _ ?_); clear hK K) | refine wk_reg ?_ | refine wk_seq fun K hK => ?_ | (refine wk_skip (hK _ _ ?_); clear hK K) | (refine wk_label (hK _ _ ?_); clear hK K) | refine wk_scope ?_ | refine wk_block ?_ | refine wk_cond_t rfl ?_ | refine wk_cond_f rfl ?_ | (refine wk_exit ?_; (repeat (refine blockK_other rfl ?_)); refine blockK_same ?_; try ((repeat ((fail_if_success (refine hK _ _ ?_)); clear hK K)); refine hK _ _ ?_; clear hK K)) | (refine a_bin ?_ ?_ <;> intro _ <;> try (exfalso; omega)) | refine a_ld hl ?_ | (refine a_st hl ?_; clear hl; intro _ hl) | refine a_ix (fun _ => ?_) | fail)
    refine wk_ret (retQ_tmp1 Tryd.results31 (by decide) rfl (by conv => lhs; whnf) ?_)
    exact hfalse hl (hbad (by simp))
  have hnode := hgood rfl rfl rfl
  repeat' (first | refine a_mov ?_ | refine a_asg ?_ | refine a_binN ?_ | refine a_notd ?_ | refine a_notb ?_ | refine a_nilc ?_ | refine a_fa ?_ | refine a_ext ?_ | refine a_lenv ?_ | refine a_lens ?_ | refine a_pick_t ?_ | refine a_pick_f ?_ | refine a_not ?_ | refine a_nilf ?_ | (refine o_nil (hK _ _ ?_); clear hK K) | refine wk_reg ?_ | refine wk_seq fun K hK => ?_ | (refine wk_skip (hK _ _ ?_); clear hK K) | (refine wk_label (hK _ _ ?_); clear hK K) | refine wk_scope ?_ | refine wk_block ?_ | refine wk_cond_t rfl ?_ | refine wk_cond_f rfl ?_ | (refine wk_exit ?_; (repeat (refine blockK_other rfl ?_)); refine blockK_same ?_; try ((repeat ((fail_if_success (refine hK _ _ ?_)); clear hK K)); refine hK _ _ ?_; clear hK K)) | (refine a_bin ?_ ?_ <;> intro _ <;> try (exfalso; omega)) | refine a_ld hl ?_ | (refine a_st hl ?_; clear hl; intro _ hl) | refine a_ix (fun _ => ?_) | fail)
  refine o_mf [] [.pointer (some ⟨b4, 0, none⟩), .pointer (some ⟨b5, 0, none⟩)] rfl rfl rfl ?_
  have h5n : b5 ≠ lb := fun e => by have := hl.nd; simp [leftB, e] at this
  have h4n : b4 ≠ lb := fun e => by have := hl.nd; simp [leftB, e] at this
  have hsub : LH w (OneB lb) w11 [leftB lb (left - 1)] := hret hl
  refine a_fn (kidsAny_calls (fun k hk => ih k hk) (hkr.one hl.upd) hsub.rb (hl.rowL (vs := [.int .i64 (d : Int)]) 1 0 1 rfl) (hl.rowL (vs := [.pointer (some ⟨lb, 0, none⟩)]) 0 0 1 rfl) h4n h5n hf3 hf2 (by omega) (by omega) (by omega) hd) ?_
  rintro _ w12 ⟨c, left', rfl, hl12, k1, k2, k3, k4⟩
  have hl13 := hsub.bk hl12
  cases c
  · obtain ⟨k5, k6⟩ := k3 rfl
    repeat' (first | refine a_mov ?_ | refine a_asg ?_ | refine a_binN ?_ | refine a_notd ?_ | refine a_notb ?_ | refine a_nilc ?_ | refine a_fa ?_ | refine a_ext ?_ | refine a_lenv ?_ | refine a_lens ?_ | refine a_pick_t ?_ | refine a_pick_f ?_ | refine a_not ?_ | refine a_nilf ?_ | (refine o_nil (hK _ _ ?_); clear hK K) | refine wk_reg ?_ | refine wk_seq fun K hK => ?_ | (refine wk_skip (hK _ _ ?_); clear hK K) | (refine wk_label (hK _ _ ?_); clear hK K) | refine wk_scope ?_ | refine wk_block ?_ | refine wk_cond_t rfl ?_ | refine wk_cond_f rfl ?_ | (refine wk_exit ?_; (repeat (refine blockK_other rfl ?_)); refine blockK_same ?_; try ((repeat ((fail_if_success (refine hK _ _ ?_)); clear hK K)); refine hK _ _ ?_; clear hK K)) | (refine a_bin ?_ ?_ <;> intro _ <;> try (exfalso; omega)) | refine a_ld hl ?_ | (refine a_st hl ?_; clear hl; intro _ hl) | refine a_ix (fun _ => ?_) | fail)
    refine wk_ret (retQ_tmp1 Tryd.results31 (by decide) rfl (by conv => lhs; whnf) ?_)
    exact ⟨true, left', rfl, hl13, k1, by omega, fun _ => ⟨hpi.2 ⟨hnode, by omega, by omega, k5⟩, by rw [k6, cnt_eq]; omega⟩, (fun h => nomatch h)⟩
  · repeat' (first | refine a_mov ?_ | refine a_asg ?_ | refine a_binN ?_ | refine a_notd ?_ | refine a_notb ?_ | refine a_nilc ?_ | refine a_fa ?_ | refine a_ext ?_ | refine a_lenv ?_ | refine a_lens ?_ | refine a_pick_t ?_ | refine a_pick_f ?_ | refine a_not ?_ | refine a_nilf ?_ | (refine o_nil (hK _ _ ?_); clear hK K) | refine wk_reg ?_ | refine wk_seq fun K hK => ?_ | (refine wk_skip (hK _ _ ?_); clear hK K) | (refine wk_label (hK _ _ ?_); clear hK K) | refine wk_scope ?_ | refine wk_block ?_ | refine wk_cond_t rfl ?_ | refine wk_cond_f rfl ?_ | (refine wk_exit ?_; (repeat (refine blockK_other rfl ?_)); refine blockK_same ?_; try ((repeat ((fail_if_success (refine hK _ _ ?_)); clear hK K)); refine hK _ _ ?_; clear hK K)) | (refine a_bin ?_ ?_ <;> intro _ <;> try (exfalso; omega)) | refine a_ld hl ?_ | (refine a_st hl ?_; clear hl; intro _ hl) | refine a_ix (fun _ => ?_) | fail)
    refine wk_ret (retQ_tmp1 Tryd.results31 (by decide) rfl (by conv => lhs; whnf) ?_)
    exact ⟨false, left', rfl, hl13, k1, by omega, (fun h => nomatch h), fun _ hp => k4 rfl (hpi.1 hp).2.2.2⟩
end Go.Proofs
