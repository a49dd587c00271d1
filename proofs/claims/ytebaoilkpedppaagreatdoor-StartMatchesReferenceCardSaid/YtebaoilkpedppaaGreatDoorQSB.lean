/-
  Conditions of commencement in memory.
-/
import Derived.Test.YtebaoilkpedppaaGreatDoorQLD
import Derived.Test.YtebaoilkpedppaaGreatDoorQSA
set_option linter.unusedVariables false
set_option linter.unusedSimpArgs false
set_option linter.unnecessarySimpa false
set_option maxRecDepth 10000
namespace Go.Proofs
open Go Go.Pd Go.Sta
attribute [local irreducible] OpsL W RetQ OpsQ OpsC

def snL (f : Sn) (kv : Value) : List Value := [.int .i64 f.op, str f.name, .int .i64 f.day, kv]
def kidS (p : Sn × Value) : List Value := snL p.1 p.2
theorem kidS_len (p : Sn × Value) : (kidS p).length = 4 := rfl

inductive KR (w : World) (G : Nat → Prop) : List Sn → Value → Prop
  | mk {ks : List Sn} {kv : Value} (ps : List (Sn × Value)) (he : ps.map (·.1) = ks) (hs : Sl w kv 4 (ps.flatMap kidS)) (hg : ps ≠ [] → Off (fun b => ¬ G b) kv) (h : ∀ p ∈ ps, KR w G p.1.kids p.2) : KR w G ks kv

theorem off_sub {G M : Nat → Prop} {v : Value} (h : Off (fun b => ¬ G b) v) (hd : ∀ b, G b → ¬ M b) : Off M v := by
  cases v with
  | slice a m c =>
    cases a with
    | none => trivial
    | some a => exact hd _ (Classical.not_not.1 h)
  | _ => trivial

theorem sl_updE {M : Nat → Prop} {w w' : World} {v : Value} {k : Nat} {vs : List Value} (h : Sl w v k vs) (e : Upd M w w') (hn : vs ≠ [] → Off M v) : Sl w' v k vs := by
  by_cases hv : vs = []
  · subst hv
    rcases h with h | ⟨a, m, c, h1, h2, h3, h4, h5⟩
    · exact .inl h
    · exact .inr ⟨a, m, c, h1, h2, h3, h4, fun i v hi => by simp at hi⟩
  · exact h.upd e (hn hv)

theorem KR.upd {w w' : World} {G M : Nat → Prop} {ks : List Sn} {kv : Value} (h : KR w G ks kv) (e : Upd M w w') (hd : ∀ b, G b → ¬ M b) : KR w' G ks kv := by
  induction h with
  | mk ps he hs hg _ ih => exact .mk ps he (sl_updE hs e fun hne => off_sub (hg fun h => hne (by rw [h]; rfl)) hd) hg ih
theorem KR.ext {w w' : World} {G : Nat → Prop} {ks : List Sn} {kv : Value} (h : KR w G ks kv) (e : Ext w w') : KR w' G ks kv := h.upd e fun _ _ h => h
theorem KR.heap {w w' : World} {G : Nat → Prop} {ks : List Sn} {kv : Value} (h : KR w G ks kv) (e : To w w' w.heap) : KR w' G ks kv := h.ext (Upd.of_heap e)
theorem KR.mono {w : World} {G G' : Nat → Prop} {ks : List Sn} {kv : Value} (h : KR w G ks kv) (hm : ∀ b, G b → G' b) : KR w G' ks kv := by
  induction h with
  | mk ps he hs hg _ ih => exact .mk ps he hs (fun hp => off_sub (hg hp) fun b hb hn => hn (hm b hb)) ih

theorem KR.nil (w : World) (G : Nat → Prop) : KR w G [] (.slice none 0 0) := .mk [] rfl (.nil _ _) (fun h => absurd rfl h) fun _ h => nomatch h

theorem KR.shape {w : World} {G : Nat → Prop} {ks : List Sn} {kv : Value} (h : KR w G ks kv) : ∃ a c, kv = .slice a ks.length c ∧ ks.length ≤ c := by
  cases h with
  | mk ps he hs hg _ =>
    subst he
    rw [List.length_map]
    exact hs.shape (flat_length kidS_len ps) (by omega)

theorem KR.at {w : World} {G : Nat → Prop} {ks : List Sn} {a : Option Addr} {m c : Nat} (h : KR w G ks (.slice a m c)) {i : Nat} (hi : i < ks.length) :
    ∃ b o kv, a = some ⟨b, o, none⟩ ∧ Row w b (o + i * 4) (snL ks[i] kv) ∧ KR w G ks[i].kids kv := by
  cases h with
  | mk ps he hs hg hk =>
    subst he
    rw [List.length_map] at hi
    obtain ⟨a', c', h1, h2⟩ := hs.shape (flat_length kidS_len ps) (by omega)
    cases h1
    obtain ⟨b, o, hp, hr⟩ := hs.at (flat_length kidS_len ps) (by omega) (by omega)
    refine ⟨b, o, ps[i].2, hp, ?_, ?_⟩
    · have := hr.elem kidS_len (k := i) (t := ps[i]) (by simp [hi])
      simp only [List.getElem_map]
      exact this
    · simp only [List.getElem_map]
      exact hk _ (List.getElem_mem hi)
theorem snL_one {w : World} {G : Nat → Prop} {f : Sn} {kv : Value} (h : KR w G f.kids kv) : (snL f kv).all Value.oneCell' = true := by
  obtain ⟨a, c, rfl, -⟩ := h.shape
  simp only [snL, List.all_cons, List.all_nil, oneCell_str]
  rfl
theorem kidS_flat (ps : List (Sn × Value)) : (ps.flatMap kidS).length = ps.length * 4 := flat_length kidS_len ps
def KA (w : World) (ks : List Sn) (kv : Value) : Prop := KR w (fun b => b < w.heap.size) ks kv
theorem KA.ext {w w' : World} {ks : List Sn} {kv : Value} (h : KA w ks kv) (e : Ext w w') : KA w' ks kv := (KR.ext h e).mono fun b hb => Nat.lt_of_lt_of_le hb e.size
theorem KA.nil (w : World) : KA w [] (.slice none 0 0) := KR.nil _ _
theorem lt_of_row {w : World} {b o : Nat} {v : Value} {vs : List Value} (h : Row w b o (v :: vs)) : b < w.heap.size := lt_of_cell (h 0 v rfl)
end Go.Proofs

set_option linter.unusedVariables false
set_option linter.unusedSimpArgs false
set_option linter.unnecessarySimpa false
set_option maxRecDepth 10000
namespace Go.Proofs
open Go Go.Pd Go.Sta
attribute [local irreducible] OpsL W RetQ OpsQ OpsC
theorem isNamed_calls (z : Int) (w : World) : Calls Tryz.prog 51 #[.int .i64 z] w (fun e w' => ∃ v, e = .returned v ∧ v = .bool (named z) ∧ w' = w) := by
  refine calls_of Tryz.func51 rfl Tryz.ntmps51 rfl ?_
  repeat' (first | refine a_mov ?_ | refine a_asg ?_ | refine a_binN ?_ | refine a_notd ?_ | refine a_notb ?_ | refine a_nilc ?_ | refine a_fa ?_ | refine a_ext ?_ | refine a_lenv ?_ | refine a_lens ?_ | refine a_pick_t ?_ | refine a_pick_f ?_ | refine a_not ?_ | refine a_nilf ?_ | (refine o_nil (hK _ _ ?_); clear hK K) | refine wk_reg ?_ | refine wk_seq fun K hK => ?_ | (refine wk_skip (hK _ _ ?_); clear hK K) | (refine wk_label (hK _ _ ?_); clear hK K) | refine wk_scope ?_ | refine wk_block ?_ | refine wk_cond_t rfl ?_ | refine wk_cond_f rfl ?_ | (refine wk_exit ?_; (repeat (refine blockK_other rfl ?_)); refine blockK_same ?_; try ((repeat ((fail_if_success (refine hK _ _ ?_)); clear hK K)); refine hK _ _ ?_; clear hK K)) | (refine a_bin ?_ ?_ <;> intro _ <;> try (exfalso; omega)) | refine a_ld hl ?_ | (refine a_st hl ?_; clear hl; intro _ hl) | refine a_ix (fun _ => ?_) | fail)
  all_goals refine wk_ret (retQ_tmp1 Tryz.results51 (by decide) rfl (by conv => lhs; whnf) ?_)
  all_goals first
    | exact ⟨by rw [named, decide_eq_true (by omega)], rfl⟩
    | exact ⟨by rw [named, decide_eq_false (by omega)], rfl⟩
theorem isMany_calls (z : Int) (w : World) : Calls Tryz.prog 53 #[.int .i64 z] w (fun e w' => ∃ v, e = .returned v ∧ v = .bool (many z) ∧ w' = w) := by
  refine calls_of Tryz.func53 rfl Tryz.ntmps53 rfl ?_
  repeat' (first | refine a_mov ?_ | refine a_asg ?_ | refine a_binN ?_ | refine a_notd ?_ | refine a_notb ?_ | refine a_nilc ?_ | refine a_fa ?_ | refine a_ext ?_ | refine a_lenv ?_ | refine a_lens ?_ | refine a_pick_t ?_ | refine a_pick_f ?_ | refine a_not ?_ | refine a_nilf ?_ | (refine o_nil (hK _ _ ?_); clear hK K) | refine wk_reg ?_ | refine wk_seq fun K hK => ?_ | (refine wk_skip (hK _ _ ?_); clear hK K) | (refine wk_label (hK _ _ ?_); clear hK K) | refine wk_scope ?_ | refine wk_block ?_ | refine wk_cond_t rfl ?_ | refine wk_cond_f rfl ?_ | (refine wk_exit ?_; (repeat (refine blockK_other rfl ?_)); refine blockK_same ?_; try ((repeat ((fail_if_success (refine hK _ _ ?_)); clear hK K)); refine hK _ _ ?_; clear hK K)) | (refine a_bin ?_ ?_ <;> intro _ <;> try (exfalso; omega)) | refine a_ld hl ?_ | (refine a_st hl ?_; clear hl; intro _ hl) | refine a_ix (fun _ => ?_) | fail)
  all_goals refine wk_ret (retQ_tmp1 Tryz.results53 (by decide) rfl (by conv => lhs; whnf) ?_)
  all_goals first
    | exact ⟨by rw [many, decide_eq_true (by omega)], rfl⟩
    | exact ⟨by rw [many, decide_eq_false (by omega)], rfl⟩
def okAt (t : Tx) (i : Nat) (h : i < t.length) : Prop := isLet t[i] = true ∨ (0 < i ∧ isDig t[i] = true)
theorem isLet_iff (c : UInt8) : isLet c = true ↔ (97 ≤ c.toNat ∧ c.toNat ≤ 122) ∨ (65 ≤ c.toNat ∧ c.toNat ≤ 90) := by
  unfold isLet
  simp only [Bool.or_eq_true, Bool.and_eq_true, decide_eq_true_eq, UInt8.le_iff_toNat_le]
  exact Iff.rfl
theorem isDig_iff (c : UInt8) : isDig c = true ↔ (48 ≤ c.toNat ∧ c.toNat ≤ 57) ∨ c.toNat = 95 := by
  unfold isDig
  simp only [Bool.or_eq_true, Bool.and_eq_true, decide_eq_true_eq, beq_iff_eq, UInt8.le_iff_toNat_le]
  exact ⟨fun h => h.imp id fun h => by rw [h]; rfl, fun h => h.imp id fun h => UInt8.toNat_inj.1 h⟩
theorem nameB_iff (t : Tx) : nameB t = true ↔ t ≠ [] ∧ t.length ≤ 24 ∧ ∀ i (h : i < t.length), okAt t i h := by
  cases t with
  | nil => simp [nameB]
  | cons c l =>
    simp only [nameB, Bool.and_eq_true, List.all_eq_true, decide_eq_true_eq, Bool.or_eq_true]
    constructor
    · rintro ⟨⟨h1, h2⟩, h3⟩
      refine ⟨by simp, h3, fun i h => ?_⟩
      cases i with
      | zero => exact .inl h1
      | succ i =>
        rcases h2 (l[i]'(by simpa using h)) (List.getElem_mem _) with h | h
        · exact .inl h
        · exact .inr ⟨by omega, h⟩
    · rintro ⟨-, h2, h3⟩
      refine ⟨⟨?_, fun x hx => ?_⟩, h2⟩
      · rcases h3 0 (by simp) with h | h
        · exact h
        · omega
      · obtain ⟨i, hi, rfl⟩ := List.mem_iff_getElem.1 hx
        rcases h3 (i + 1) (by simpa using hi) with h | h
        · exact .inl h
        · exact .inr h.2

set_option maxHeartbeats 4000000 in
theorem isName_calls (t : Tx) (ht : t.length ≤ 140737488351232) (w : World) : Calls Tryz.prog 52 #[str t] w (fun e w' => ∃ v, e = .returned v ∧ v = .bool (nameB t) ∧ w' = w) := by
  refine calls_of Tryz.func52 rfl Tryz.ntmps52 rfl ?_
  repeat' (first | refine a_mov ?_ | refine a_asg ?_ | refine a_binN ?_ | refine a_notd ?_ | refine a_notb ?_ | refine a_nilc ?_ | refine a_fa ?_ | refine a_ext ?_ | refine a_lenv ?_ | refine a_lens ?_ | refine a_pick_t ?_ | refine a_pick_f ?_ | refine a_not ?_ | refine a_nilf ?_ | (refine o_nil (hK _ _ ?_); clear hK K) | refine wk_reg ?_ | refine wk_seq fun K hK => ?_ | (refine wk_skip (hK _ _ ?_); clear hK K) | (refine wk_label (hK _ _ ?_); clear hK K) | refine wk_scope ?_ | refine wk_block ?_ | refine wk_cond_t rfl ?_ | refine wk_cond_f rfl ?_ | (refine wk_exit ?_; (repeat (refine blockK_other rfl ?_)); refine blockK_same ?_; try ((repeat ((fail_if_success (refine hK _ _ ?_)); clear hK K)); refine hK _ _ ?_; clear hK K)) | (refine a_bin ?_ ?_ <;> intro _ <;> try (exfalso; omega)) | refine a_ld hl ?_ | (refine a_st hl ?_; clear hl; intro _ hl) | refine a_ix (fun _ => ?_) | fail)
  refine wk_loopH [] rfl (fun i : Nat => [(0, str t), (8, .int .i64 (t.length : Int)), (9, .int .i64 (i : Int))]) (fun i w' => (i ≤ t.length ∧ ∀ j (h : j < t.length), j < i → okAt t j h) ∧ w' = w) (fun i => t.length - i) 0 ⟨rfl, rfl, rfl, trivial⟩ ⟨⟨Nat.zero_le _, fun j _ h => absurd h (Nat.not_lt_zero j)⟩, rfl⟩ ?_
  rintro i t1 w1 ⟨⟨hi, hpre⟩, rfl⟩
  by_cases hi1 : i < t.length
  · have hbad : ¬ okAt t i hi1 → nameB t = false := fun h => by
      rw [← Bool.not_eq_true, nameB_iff]
      exact fun hh => h (hh.2.2 i hi1)
    have hgo : okAt t i hi1 → ∀ j (h : j < t.length), j < i + 1 → okAt t j h := fun h j hj hji => by
      by_cases e : j = i
      · subst e; exact h
      · exact hpre j hj (by omega)
    have hdef : okAt t i hi1 ↔ ((97 ≤ t[i].toNat ∧ t[i].toNat ≤ 122) ∨ (65 ≤ t[i].toNat ∧ t[i].toNat ≤ 90)) ∨ (0 < i ∧ ((48 ≤ t[i].toNat ∧ t[i].toNat ≤ 57) ∨ t[i].toNat = 95)) := by
      unfold okAt
      rw [isLet_iff, isDig_iff]
    repeat' (first | refine a_mov ?_ | refine a_asg ?_ | refine a_binN ?_ | refine a_notd ?_ | refine a_notb ?_ | refine a_nilc ?_ | refine a_fa ?_ | refine a_ext ?_ | refine a_lenv ?_ | refine a_lens ?_ | refine a_pick_t ?_ | refine a_pick_f ?_ | refine a_not ?_ | refine a_nilf ?_ | (refine o_nil (hK _ _ ?_); clear hK K) | refine wk_reg ?_ | refine wk_seq fun K hK => ?_ | (refine wk_skip (hK _ _ ?_); clear hK K) | (refine wk_label (hK _ _ ?_); clear hK K) | refine wk_scope ?_ | refine wk_block ?_ | refine wk_cond_t rfl ?_ | refine wk_cond_f rfl ?_ | (refine wk_exit ?_; (repeat (refine blockK_other rfl ?_)); refine blockK_same ?_; try ((repeat ((fail_if_success (refine hK _ _ ?_)); clear hK K)); refine hK _ _ ?_; clear hK K)) | (refine a_bin ?_ ?_ <;> intro _ <;> try (exfalso; omega)) | refine a_ld hl ?_ | (refine a_st hl ?_; clear hl; intro _ hl) | refine a_ix (fun _ => ?_) | fail)
    all_goals first
      | exact o_nil ⟨i + 1, ⟨rfl, rfl, rfl, trivial⟩, rfl, ⟨⟨hi1, hgo (hdef.2 (by omega))⟩, rfl⟩, by omega⟩
      | (refine wk_ret (retQ_tmp1 Tryz.results52 (by decide) rfl (by conv => lhs; whnf) ?_)
         exact ⟨by rw [hbad fun h => by have := hdef.1 h; omega], rfl⟩)
  · have hall : ∀ j (h : j < t.length), okAt t j h := fun j h => hpre j h (by omega)
    have hiff : nameB t = true ↔ t ≠ [] ∧ t.length ≤ 24 := by
      rw [nameB_iff]
      exact ⟨fun h => ⟨h.1, h.2.1⟩, fun h => ⟨h.1, h.2, hall⟩⟩
    repeat' (first | refine a_mov ?_ | refine a_asg ?_ | refine a_binN ?_ | refine a_notd ?_ | refine a_notb ?_ | refine a_nilc ?_ | refine a_fa ?_ | refine a_ext ?_ | refine a_lenv ?_ | refine a_lens ?_ | refine a_pick_t ?_ | refine a_pick_f ?_ | refine a_not ?_ | refine a_nilf ?_ | (refine o_nil (hK _ _ ?_); clear hK K) | refine wk_reg ?_ | refine wk_seq fun K hK => ?_ | (refine wk_skip (hK _ _ ?_); clear hK K) | (refine wk_label (hK _ _ ?_); clear hK K) | refine wk_scope ?_ | refine wk_block ?_ | refine wk_cond_t rfl ?_ | refine wk_cond_f rfl ?_ | (refine wk_exit ?_; (repeat (refine blockK_other rfl ?_)); refine blockK_same ?_; try ((repeat ((fail_if_success (refine hK _ _ ?_)); clear hK K)); refine hK _ _ ?_; clear hK K)) | (refine a_bin ?_ ?_ <;> intro _ <;> try (exfalso; omega)) | refine a_ld hl ?_ | (refine a_st hl ?_; clear hl; intro _ hl) | refine a_ix (fun _ => ?_) | fail)
    refine o_nesT (a := t) (b := []) rfl rfl (by simp only [str_eq]; rfl) ?_ ?_ <;> intro hne
    all_goals repeat' (first | refine a_mov ?_ | refine a_asg ?_ | refine a_binN ?_ | refine a_notd ?_ | refine a_notb ?_ | refine a_nilc ?_ | refine a_fa ?_ | refine a_ext ?_ | refine a_lenv ?_ | refine a_lens ?_ | refine a_pick_t ?_ | refine a_pick_f ?_ | refine a_not ?_ | refine a_nilf ?_ | (refine o_nil (hK _ _ ?_); clear hK K) | refine wk_reg ?_ | refine wk_seq fun K hK => ?_ | (refine wk_skip (hK _ _ ?_); clear hK K) | (refine wk_label (hK _ _ ?_); clear hK K) | refine wk_scope ?_ | refine wk_block ?_ | refine wk_cond_t rfl ?_ | refine wk_cond_f rfl ?_ | (refine wk_exit ?_; (repeat (refine blockK_other rfl ?_)); refine blockK_same ?_; try ((repeat ((fail_if_success (refine hK _ _ ?_)); clear hK K)); refine hK _ _ ?_; clear hK K)) | (refine a_bin ?_ ?_ <;> intro _ <;> try (exfalso; omega)) | refine a_ld hl ?_ | (refine a_st hl ?_; clear hl; intro _ hl) | refine a_ix (fun _ => ?_) | fail)
    all_goals refine wk_ret (retQ_tmp1 Tryz.results52 (by decide) rfl (by conv => lhs; whnf) ?_)
    all_goals refine ⟨?_, rfl⟩
    all_goals first
      | rw [hiff.2 ⟨hne, by omega⟩]
      | rw [show nameB t = false from by rw [← Bool.not_eq_true, hiff]; exact fun h => by first | omega | exact h.1 hne]
end Go.Proofs

set_option linter.unusedVariables false
set_option linter.unusedSimpArgs false
set_option linter.unnecessarySimpa false
set_option maxRecDepth 10000
namespace Go.Sta
def PropL (l : List Sn) (d : Nat) (left : Int) : Prop := (cntL l : Int) ≤ left ∧ (∀ k ∈ l, dep k ≤ d) ∧ l.all okB = true
theorem cntL_app (l m : List Sn) : cntL (l ++ m) = cntL l + cntL m := by
  induction l with
  | nil => simp [cntL]
  | cons a l ih => simp only [List.cons_append, cntL, ih]; omega
theorem cntL_take_le (l : List Sn) (k : Nat) : cntL (l.take k) ≤ cntL l := by
  have := cntL_app (l.take k) (l.drop k)
  rw [List.take_append_drop] at this
  omega
theorem PropL.nil (d : Nat) {left : Int} (h : 0 ≤ left) : PropL [] d left := ⟨by simpa [cntL] using h, (fun _ h => nomatch h), rfl⟩
theorem PropL.step {l : List Sn} {d : Nat} {left : Int} {i : Nat} (hi : i < l.length) (h : PropL (l.take i) d left) (hk : Proper l[i] d (left - cntL (l.take i))) : PropL (l.take (i + 1)) d left := by
  obtain ⟨h1, h2, h3⟩ := h
  obtain ⟨k1, k2, k3⟩ := hk
  refine ⟨by rw [cntL_take_succ hi]; omega, ?_, ?_⟩
  · rw [List.take_succ_eq_append_getElem hi]
    intro k hk
    rcases List.mem_append.1 hk with hk | hk
    · exact h2 k hk
    · rw [List.mem_singleton.1 hk]; exact k2
  · rw [List.take_succ_eq_append_getElem hi, List.all_append, h3]
    simp [k3]
theorem PropL.stop {l : List Sn} {d : Nat} {left : Int} {i : Nat} (hi : i < l.length) (hk : ¬ Proper l[i] d (left - cntL (l.take i))) : ¬ PropL l d left := by
  rintro ⟨h1, h2, h3⟩
  refine hk ⟨?_, h2 _ (List.getElem_mem hi), List.all_eq_true.1 h3 _ (List.getElem_mem hi)⟩
  have h4 := cntL_take_le l (i + 1)
  have h5 := cntL_take_succ hi
  omega
theorem nodeB_iff (s : Sn) : nodeB s = true ↔ (1 ≤ s.op ∧ s.op ≤ 9) ∧ (if named s.op then nameB s.name else decide (s.name = [])) = true ∧ (s.day = 0 ∨ (s.op = 3 ∧ 0 < s.day ∧ s.day ≤ 1000000)) ∧ (if many s.op then decide (2 ≤ s.kids.length) else decide (s.kids = [])) = true := by
  unfold nodeB
  simp only [Bool.and_eq_true, decide_eq_true_eq, and_assoc]
theorem proper_iff (s : Sn) (d : Nat) (left : Int) : Proper s d left ↔ nodeB s = true ∧ 1 ≤ d ∧ 1 ≤ left ∧ PropL s.kids (d - 1) (left - 1) := by
  unfold Proper PropL
  rw [cnt_eq, dep_eq, okB_eq, okL_all, Bool.and_eq_true]
  have hd : depL s.kids + 1 ≤ d ↔ 1 ≤ d ∧ ∀ k ∈ s.kids, dep k ≤ d - 1 := by
    constructor
    · intro h
      refine ⟨by omega, fun k hk => ?_⟩
      have := dep_le_of_mem hk
      omega
    · rintro ⟨h1, h2⟩
      have := depL_le h2
      omega
  rw [hd]
  constructor
  · rintro ⟨h1, ⟨h2, h3⟩, h4, h5⟩
    exact ⟨h4, h2, by omega, by omega, h3, h5⟩
  · rintro ⟨h1, h2, h3, h4, h5, h6⟩
    exact ⟨by omega, ⟨h2, h5⟩, h1, h6⟩
mutual
def fitS : Sn → Prop
  | .node _ s _ ks => s.length ≤ 140737488351232 ∧ ks.length ≤ 140737488351232 ∧ fitL ks
def fitL : List Sn → Prop
  | [] => True
  | k :: ks => fitS k ∧ fitL ks
end
theorem fitL_mem {l : List Sn} (h : fitL l) : ∀ k ∈ l, fitS k := by
  induction l with
  | nil => intro k hk; cases hk
  | cons a l ih =>
    intro k hk
    rcases List.mem_cons.1 hk with rfl | hk
    · exact h.1
    · exact ih h.2 k hk
theorem fitS_eq (s : Sn) : fitS s ↔ s.name.length ≤ 140737488351232 ∧ s.kids.length ≤ 140737488351232 ∧ fitL s.kids := by
  cases s
  simp only [fitS]
  exact Iff.rfl
end Go.Sta
namespace Go.Proofs
open Go Go.Pd Go.Sta
attribute [local irreducible] OpsL W RetQ OpsQ OpsC
def leftB (lb : Nat) (x : Int) : Nat × Obj := (lb, .cells [.int .i64 x].toArray 3 (0, 0))
abbrev OneB (lb : Nat) : Nat → Prop := fun b => b ∈ [lb]
theorem KR.one {w w' : World} {lb : Nat} {ks : List Sn} {kv : Value} (h : KR w (fun b => b ≠ lb) ks kv) (e : Upd (OneB lb) w w') : KR w' (fun b => b ≠ lb) ks kv := h.upd e fun b hb hm => hb (by simpa [OneB] using hm)
def PropC (s : Sn) : Prop := ∀ (w : World) (kv : Value) (d lb : Nat) (left : Int), KR w (fun b => b ≠ lb) s.kids kv → LH w (OneB lb) w [leftB lb left] → fitS s → 0 ≤ left → left ≤ 1000000 → d ≤ 1000000 →
    Calls Tryz.prog 26 #[.agg (snL s kv).toArray, .int .i64 (d : Int), .pointer (some ⟨lb, 0, none⟩)] w (fun e w' => ∃ v, e = .returned v ∧ ∃ b left', v = .bool b ∧ LH w (OneB lb) w' [leftB lb left'] ∧ -1 ≤ left' ∧ left' ≤ left ∧ (b = true → Proper s d left ∧ left' = left - cnt s) ∧ (b = false → ¬ Proper s d left))
theorem proper1_calls {k : Sn} (hk : PropC k) {w : World} {kv : Value} {d lb bd bp : Nat} {left : Int} (hkr : KR w (fun b => b ≠ lb) k.kids kv) (hown : LH w (OneB lb) w [leftB lb left]) (hbd : Row w bd 0 [.int .i64 (d : Int)]) (hbp : Row w bp 0 [.pointer (some ⟨lb, 0, none⟩)]) (hfit : fitS k) (h0 : 0 ≤ left) (h1 : left ≤ 1000000) (hd : 1 ≤ d) (hd2 : d ≤ 1000000) :
    Calls Tryz.prog 55 #[.agg (snL k kv).toArray, .pointer (some ⟨bd, 0, none⟩), .pointer (some ⟨bp, 0, none⟩)] w (fun e w' => ∃ v, e = .returned v ∧ ∃ b left', v = .bool (!b) ∧ LH w (OneB lb) w' [leftB lb left'] ∧ -1 ≤ left' ∧ left' ≤ left ∧ (b = true → Proper k (d - 1) left ∧ left' = left - cnt k) ∧ (b = false → ¬ Proper k (d - 1) left)) := by
  refine calls_of Tryz.func55 rfl Tryz.ntmps55 rfl ?_
  refine wk_seq fun K hK => ?_
  refine wk_reg ?_
  refine o_box (LH.start w (fun _ => False)) (snL k kv) rfl rfl rfl ?_
  intro b3 w1 hb3 hl
  have hx1 := hl.done
  have hr3 : Row w1 b3 0 (snL k kv) := hl.rowL (vs := snL k kv) 0 0 4 rfl
  clear hl
  repeat' (first | refine a_mov ?_ | refine a_asg ?_ | refine a_binN ?_ | refine a_notd ?_ | refine a_notb ?_ | refine a_nilc ?_ | refine a_fa ?_ | refine a_ext ?_ | refine a_lenv ?_ | refine a_lens ?_ | refine a_pick_t ?_ | refine a_pick_f ?_ | refine a_not ?_ | refine a_nilf ?_ | (refine o_nil (hK _ _ ?_); clear hK K) | refine wk_reg ?_ | refine wk_seq fun K hK => ?_ | (refine wk_skip (hK _ _ ?_); clear hK K) | (refine wk_label (hK _ _ ?_); clear hK K) | refine wk_scope ?_ | refine wk_block ?_ | refine wk_cond_t rfl ?_ | refine wk_cond_f rfl ?_ | (refine wk_exit ?_; (repeat (refine blockK_other rfl ?_)); refine blockK_same ?_; try ((repeat ((fail_if_success (refine hK _ _ ?_)); clear hK K)); refine hK _ _ ?_; clear hK K)) | (refine a_bin ?_ ?_ <;> intro _ <;> try (exfalso; omega)) | refine a_ld hl ?_ | (refine a_st hl ?_; clear hl; intro _ hl) | refine a_ix (fun _ => ?_) | refine a_all hr3 ?_ | refine a_row (hbd.ext hx1) ?_ | refine a_row (hbp.ext hx1) ?_ | fail)
  have hd1 : (d : Int) - 1 = ((d - 1 : Nat) : Int) := by omega
  rw [hd1]
  refine a_fn (hk w1 kv (d - 1) lb left (hkr.ext hx1) (hown.ext hx1).rb hfit h0 h1 (by omega)) ?_
  rintro _ w2 ⟨b, left', rfl, hl2, h2, h3, h4, h5⟩
  repeat' (first | refine a_mov ?_ | refine a_asg ?_ | refine a_binN ?_ | refine a_notd ?_ | refine a_notb ?_ | refine a_nilc ?_ | refine a_fa ?_ | refine a_ext ?_ | refine a_lenv ?_ | refine a_lens ?_ | refine a_pick_t ?_ | refine a_pick_f ?_ | refine a_not ?_ | refine a_nilf ?_ | (refine o_nil (hK _ _ ?_); clear hK K) | refine wk_reg ?_ | refine wk_seq fun K hK => ?_ | (refine wk_skip (hK _ _ ?_); clear hK K) | (refine wk_label (hK _ _ ?_); clear hK K) | refine wk_scope ?_ | refine wk_block ?_ | refine wk_cond_t rfl ?_ | refine wk_cond_f rfl ?_ | (refine wk_exit ?_; (repeat (refine blockK_other rfl ?_)); refine blockK_same ?_; try ((repeat ((fail_if_success (refine hK _ _ ?_)); clear hK K)); refine hK _ _ ?_; clear hK K)) | (refine a_bin ?_ ?_ <;> intro _ <;> try (exfalso; omega)) | refine a_ld hl ?_ | (refine a_st hl ?_; clear hl; intro _ hl) | refine a_ix (fun _ => ?_) | fail)
  refine wk_ret (retQ_tmp1 Tryz.results55 (by decide) rfl (by conv => lhs; whnf) ?_)
  exact ⟨b, left', rfl, (hown.ext hx1).bk hl2, h2, h3, h4, h5⟩
theorem kidsIdx_calls {ks : List Sn} (hks : ∀ k ∈ ks, PropC k) {w : World} {kv : Value} {d lb bd bp : Nat} {left : Int} (hkr : KR w (fun b => b ≠ lb) ks kv) (hown : LH w (OneB lb) w [leftB lb left]) (hbd : Row w bd 0 [.int .i64 (d : Int)]) (hbp : Row w bp 0 [.pointer (some ⟨lb, 0, none⟩)]) (hnd : bd ≠ lb) (hnp : bp ≠ lb) (hfit : fitL ks) (hlen : ks.length ≤ 140737488351232) (h0 : 0 ≤ left) (h1 : left ≤ 1000000) (hd : 1 ≤ d) (hd2 : d ≤ 1000000) :
    Calls Tryz.prog 85 #[kv, .func (.func 55) #[] #[.pointer (some ⟨bd, 0, none⟩), .pointer (some ⟨bp, 0, none⟩)]] w (fun e w' => ∃ v, e = .returned v ∧ ∃ z left', v = .int .i64 z ∧ LH w (OneB lb) w' [leftB lb left'] ∧ -1 ≤ left' ∧ left' ≤ left ∧ (z = -1 → PropL ks (d - 1) left ∧ left' = left - cntL ks) ∧ (z ≠ -1 → 0 ≤ z ∧ ¬ PropL ks (d - 1) left)) := by
  obtain ⟨ka, kc, rfl, -⟩ := hkr.shape
  refine calls_of Tryz.func85 rfl Tryz.ntmps85 rfl ?_
  repeat' (first | refine a_mov ?_ | refine a_asg ?_ | refine a_binN ?_ | refine a_notd ?_ | refine a_notb ?_ | refine a_nilc ?_ | refine a_fa ?_ | refine a_ext ?_ | refine a_lenv ?_ | refine a_lens ?_ | refine a_pick_t ?_ | refine a_pick_f ?_ | refine a_not ?_ | refine a_nilf ?_ | (refine o_nil (hK _ _ ?_); clear hK K) | refine wk_reg ?_ | refine wk_seq fun K hK => ?_ | (refine wk_skip (hK _ _ ?_); clear hK K) | (refine wk_label (hK _ _ ?_); clear hK K) | refine wk_scope ?_ | refine wk_block ?_ | refine wk_cond_t rfl ?_ | refine wk_cond_f rfl ?_ | (refine wk_exit ?_; (repeat (refine blockK_other rfl ?_)); refine blockK_same ?_; try ((repeat ((fail_if_success (refine hK _ _ ?_)); clear hK K)); refine hK _ _ ?_; clear hK K)) | (refine a_bin ?_ ?_ <;> intro _ <;> try (exfalso; omega)) | refine a_ld hl ?_ | (refine a_st hl ?_; clear hl; intro _ hl) | refine a_ix (fun _ => ?_) | fail)
  refine wk_loopH [] rfl (fun i : Nat => [(0, .slice ka ks.length kc), (1, .func (.func 55) #[] #[.pointer (some ⟨bd, 0, none⟩), .pointer (some ⟨bp, 0, none⟩)]), (7, .int .i64 (ks.length : Int)), (8, .int .i64 (i : Int))])
    (fun i w' => (i ≤ ks.length ∧ PropL (ks.take i) (d - 1) left) ∧ LH w (OneB lb) w' [leftB lb (left - cntL (ks.take i))]) (fun i => ks.length - i) 0 ⟨rfl, rfl, rfl, rfl, trivial⟩ ⟨⟨Nat.zero_le _, PropL.nil _ h0⟩, by simpa [cntL] using hown⟩ ?_
  rintro i t1 w1 ⟨⟨hi, hpre⟩, hl1⟩
  by_cases hi1 : i < ks.length
  · obtain ⟨b, o, kv1, hpp, hr, hk1⟩ := (hkr.one hl1.upd).at hi1
    have hbd1 := hbd.upd hl1.upd (by simpa [OneB] using hnd)
    have hbp1 := hbp.upd hl1.upd (by simpa [OneB] using hnp)
    have hc := hpre.1
    have hmem := List.getElem_mem hi1
    repeat' (first | refine a_mov ?_ | refine a_asg ?_ | refine a_binN ?_ | refine a_notd ?_ | refine a_notb ?_ | refine a_nilc ?_ | refine a_fa ?_ | refine a_ext ?_ | refine a_lenv ?_ | refine a_lens ?_ | refine a_pick_t ?_ | refine a_pick_f ?_ | refine a_not ?_ | refine a_nilf ?_ | (refine o_nil (hK _ _ ?_); clear hK K) | refine wk_reg ?_ | refine wk_seq fun K hK => ?_ | (refine wk_skip (hK _ _ ?_); clear hK K) | (refine wk_label (hK _ _ ?_); clear hK K) | refine wk_scope ?_ | refine wk_block ?_ | refine wk_cond_t rfl ?_ | refine wk_cond_f rfl ?_ | (refine wk_exit ?_; (repeat (refine blockK_other rfl ?_)); refine blockK_same ?_; try ((repeat ((fail_if_success (refine hK _ _ ?_)); clear hK K)); refine hK _ _ ?_; clear hK K)) | (refine a_bin ?_ ?_ <;> intro _ <;> try (exfalso; omega)) | refine a_ld hl ?_ | (refine a_st hl ?_; clear hl; intro _ hl) | refine a_ix (fun _ => ?_) | refine a_idx (c := 4) i hpp ?_ | refine a_all hr ?_ | fail)
    refine a_fc #[.agg (snL ks[i] kv1).toArray] #[.pointer (some ⟨bd, 0, none⟩), .pointer (some ⟨bp, 0, none⟩)] _ rfl (proper1_calls (hks _ hmem) hk1 hl1.rb hbd1 hbp1 (fitL_mem hfit _ hmem) (by omega) (by omega) hd hd2) ?_
    rintro _ w2 ⟨c, left', rfl, hl2, h2, h3, h4, h5⟩
    have hl3 := hl1.bk hl2
    cases c
    · repeat' (first | refine a_mov ?_ | refine a_asg ?_ | refine a_binN ?_ | refine a_notd ?_ | refine a_notb ?_ | refine a_nilc ?_ | refine a_fa ?_ | refine a_ext ?_ | refine a_lenv ?_ | refine a_lens ?_ | refine a_pick_t ?_ | refine a_pick_f ?_ | refine a_not ?_ | refine a_nilf ?_ | (refine o_nil (hK _ _ ?_); clear hK K) | refine wk_reg ?_ | refine wk_seq fun K hK => ?_ | (refine wk_skip (hK _ _ ?_); clear hK K) | (refine wk_label (hK _ _ ?_); clear hK K) | refine wk_scope ?_ | refine wk_block ?_ | refine wk_cond_t rfl ?_ | refine wk_cond_f rfl ?_ | (refine wk_exit ?_; (repeat (refine blockK_other rfl ?_)); refine blockK_same ?_; try ((repeat ((fail_if_success (refine hK _ _ ?_)); clear hK K)); refine hK _ _ ?_; clear hK K)) | (refine a_bin ?_ ?_ <;> intro _ <;> try (exfalso; omega)) | refine a_ld hl ?_ | (refine a_st hl ?_; clear hl; intro _ hl) | refine a_ix (fun _ => ?_) | fail)
      refine wk_ret (retQ_tmp1 Tryz.results85 (by decide) rfl (by conv => lhs; whnf) ?_)
      exact ⟨(i : Int), left', rfl, hl3, h2, by omega, fun h => by omega, fun _ => ⟨by omega, PropL.stop hi1 (h5 rfl)⟩⟩
    · obtain ⟨h6, rfl⟩ := h4 rfl
      repeat' (first | refine a_mov ?_ | refine a_asg ?_ | refine a_binN ?_ | refine a_notd ?_ | refine a_notb ?_ | refine a_nilc ?_ | refine a_fa ?_ | refine a_ext ?_ | refine a_lenv ?_ | refine a_lens ?_ | refine a_pick_t ?_ | refine a_pick_f ?_ | refine a_not ?_ | refine a_nilf ?_ | (refine o_nil (hK _ _ ?_); clear hK K) | refine wk_reg ?_ | refine wk_seq fun K hK => ?_ | (refine wk_skip (hK _ _ ?_); clear hK K) | (refine wk_label (hK _ _ ?_); clear hK K) | refine wk_scope ?_ | refine wk_block ?_ | refine wk_cond_t rfl ?_ | refine wk_cond_f rfl ?_ | (refine wk_exit ?_; (repeat (refine blockK_other rfl ?_)); refine blockK_same ?_; try ((repeat ((fail_if_success (refine hK _ _ ?_)); clear hK K)); refine hK _ _ ?_; clear hK K)) | (refine a_bin ?_ ?_ <;> intro _ <;> try (exfalso; omega)) | refine a_ld hl ?_ | (refine a_st hl ?_; clear hl; intro _ hl) | refine a_ix (fun _ => ?_) | fail)
      refine o_nil ⟨i + 1, ⟨rfl, rfl, rfl, rfl, trivial⟩, rfl, ⟨⟨hi1, PropL.step hi1 hpre h6⟩, ?_⟩, by omega⟩
      rw [cntL_take_succ hi1]
      rw [show left - ((cntL (ks.take i) + cnt ks[i] : Nat) : Int) = left - (cntL (ks.take i) : Int) - (cnt ks[i] : Int) by omega]
      exact hl3
  · obtain rfl : i = ks.length := by omega
    rw [List.take_length] at hpre hl1
    repeat' (first | refine a_mov ?_ | refine a_asg ?_ | refine a_binN ?_ | refine a_notd ?_ | refine a_notb ?_ | refine a_nilc ?_ | refine a_fa ?_ | refine a_ext ?_ | refine a_lenv ?_ | refine a_lens ?_ | refine a_pick_t ?_ | refine a_pick_f ?_ | refine a_not ?_ | refine a_nilf ?_ | (refine o_nil (hK _ _ ?_); clear hK K) | refine wk_reg ?_ | refine wk_seq fun K hK => ?_ | (refine wk_skip (hK _ _ ?_); clear hK K) | (refine wk_label (hK _ _ ?_); clear hK K) | refine wk_scope ?_ | refine wk_block ?_ | refine wk_cond_t rfl ?_ | refine wk_cond_f rfl ?_ | (refine wk_exit ?_; (repeat (refine blockK_other rfl ?_)); refine blockK_same ?_; try ((repeat ((fail_if_success (refine hK _ _ ?_)); clear hK K)); refine hK _ _ ?_; clear hK K)) | (refine a_bin ?_ ?_ <;> intro _ <;> try (exfalso; omega)) | refine a_ld hl ?_ | (refine a_st hl ?_; clear hl; intro _ hl) | refine a_ix (fun _ => ?_) | fail)
    refine wk_ret (retQ_tmp1 Tryz.results85 (by decide) rfl (by conv => lhs; whnf) ?_)
    have hc := hpre.1
    exact ⟨-1, _, rfl, hl1, by omega, by omega, fun _ => ⟨hpre, rfl⟩, fun h => absurd rfl h⟩
theorem kidsAny_calls {ks : List Sn} (hks : ∀ k ∈ ks, PropC k) {w : World} {kv : Value} {d lb bd bp : Nat} {left : Int} (hkr : KR w (fun b => b ≠ lb) ks kv) (hown : LH w (OneB lb) w [leftB lb left]) (hbd : Row w bd 0 [.int .i64 (d : Int)]) (hbp : Row w bp 0 [.pointer (some ⟨lb, 0, none⟩)]) (hnd : bd ≠ lb) (hnp : bp ≠ lb) (hfit : fitL ks) (hlen : ks.length ≤ 140737488351232) (h0 : 0 ≤ left) (h1 : left ≤ 1000000) (hd : 1 ≤ d) (hd2 : d ≤ 1000000) :
    Calls Tryz.prog 54 #[kv, .func (.func 55) #[] #[.pointer (some ⟨bd, 0, none⟩), .pointer (some ⟨bp, 0, none⟩)]] w (fun e w' => ∃ v, e = .returned v ∧ ∃ c left', v = .bool c ∧ LH w (OneB lb) w' [leftB lb left'] ∧ -1 ≤ left' ∧ left' ≤ left ∧ (c = false → PropL ks (d - 1) left ∧ left' = left - cntL ks) ∧ (c = true → ¬ PropL ks (d - 1) left)) := by
  refine calls_of Tryz.func54 rfl Tryz.ntmps54 rfl ?_
  repeat' (first | refine a_mov ?_ | refine a_asg ?_ | refine a_binN ?_ | refine a_notd ?_ | refine a_notb ?_ | refine a_nilc ?_ | refine a_fa ?_ | refine a_ext ?_ | refine a_lenv ?_ | refine a_lens ?_ | refine a_pick_t ?_ | refine a_pick_f ?_ | refine a_not ?_ | refine a_nilf ?_ | (refine o_nil (hK _ _ ?_); clear hK K) | refine wk_reg ?_ | refine wk_seq fun K hK => ?_ | (refine wk_skip (hK _ _ ?_); clear hK K) | (refine wk_label (hK _ _ ?_); clear hK K) | refine wk_scope ?_ | refine wk_block ?_ | refine wk_cond_t rfl ?_ | refine wk_cond_f rfl ?_ | (refine wk_exit ?_; (repeat (refine blockK_other rfl ?_)); refine blockK_same ?_; try ((repeat ((fail_if_success (refine hK _ _ ?_)); clear hK K)); refine hK _ _ ?_; clear hK K)) | (refine a_bin ?_ ?_ <;> intro _ <;> try (exfalso; omega)) | refine a_ld hl ?_ | (refine a_st hl ?_; clear hl; intro _ hl) | refine a_ix (fun _ => ?_) | fail)
  refine a_fn (kidsIdx_calls hks hkr hown hbd hbp hnd hnp hfit hlen h0 h1 hd hd2) ?_
  rintro _ w2 ⟨z, left', rfl, hl2, h2, h3, h4, h5⟩
  by_cases hz : z = -1
  · subst hz
    repeat' (first | refine a_mov ?_ | refine a_asg ?_ | refine a_binN ?_ | refine a_notd ?_ | refine a_notb ?_ | refine a_nilc ?_ | refine a_fa ?_ | refine a_ext ?_ | refine a_lenv ?_ | refine a_lens ?_ | refine a_pick_t ?_ | refine a_pick_f ?_ | refine a_not ?_ | refine a_nilf ?_ | (refine o_nil (hK _ _ ?_); clear hK K) | refine wk_reg ?_ | refine wk_seq fun K hK => ?_ | (refine wk_skip (hK _ _ ?_); clear hK K) | (refine wk_label (hK _ _ ?_); clear hK K) | refine wk_scope ?_ | refine wk_block ?_ | refine wk_cond_t rfl ?_ | refine wk_cond_f rfl ?_ | (refine wk_exit ?_; (repeat (refine blockK_other rfl ?_)); refine blockK_same ?_; try ((repeat ((fail_if_success (refine hK _ _ ?_)); clear hK K)); refine hK _ _ ?_; clear hK K)) | (refine a_bin ?_ ?_ <;> intro _ <;> try (exfalso; omega)) | refine a_ld hl ?_ | (refine a_st hl ?_; clear hl; intro _ hl) | refine a_ix (fun _ => ?_) | fail)
    refine wk_ret (retQ_tmp1 Tryz.results54 (by decide) rfl (by conv => lhs; whnf) ?_)
    exact ⟨false, left', rfl, hl2, h2, h3, fun _ => h4 rfl, (fun h => nomatch h)⟩
  · obtain ⟨h6, h7⟩ := h5 hz
    repeat' (first | refine a_mov ?_ | refine a_asg ?_ | refine a_binN ?_ | refine a_notd ?_ | refine a_notb ?_ | refine a_nilc ?_ | refine a_fa ?_ | refine a_ext ?_ | refine a_lenv ?_ | refine a_lens ?_ | refine a_pick_t ?_ | refine a_pick_f ?_ | refine a_not ?_ | refine a_nilf ?_ | (refine o_nil (hK _ _ ?_); clear hK K) | refine wk_reg ?_ | refine wk_seq fun K hK => ?_ | (refine wk_skip (hK _ _ ?_); clear hK K) | (refine wk_label (hK _ _ ?_); clear hK K) | refine wk_scope ?_ | refine wk_block ?_ | refine wk_cond_t rfl ?_ | refine wk_cond_f rfl ?_ | (refine wk_exit ?_; (repeat (refine blockK_other rfl ?_)); refine blockK_same ?_; try ((repeat ((fail_if_success (refine hK _ _ ?_)); clear hK K)); refine hK _ _ ?_; clear hK K)) | (refine a_bin ?_ ?_ <;> intro _ <;> try (exfalso; omega)) | refine a_ld hl ?_ | (refine a_st hl ?_; clear hl; intro _ hl) | refine a_ix (fun _ => ?_) | fail)
    refine wk_ret (retQ_tmp1 Tryz.results54 (by decide) rfl (by conv => lhs; whnf) ?_)
    exact ⟨true, left', rfl, hl2, h2, h3, (fun h => nomatch h), fun _ => h7⟩
set_option maxHeartbeats 4000000 in
theorem proper_calls : ∀ s : Sn, PropC s := Sn.ind fun s ih => by
  intro w kv d lb left hkr hown hfit h0 h1 hd
  obtain ⟨ka, kc, rfl, -⟩ := hkr.shape
  obtain ⟨hf1, hf2, hf3⟩ := (fitS_eq s).1 hfit
  have hpi := proper_iff s d left
  refine calls_of Tryz.func26 rfl Tryz.ntmps26 rfl ?_
  refine wk_seq fun K hK => ?_
  refine wk_reg ?_
  refine o_box hown (snL s (.slice ka s.kids.length kc)) rfl rfl rfl ?_
  intro b3 w3 hb3 hl3
  refine o_box hl3 [.int .i64 (d : Int)] rfl rfl rfl ?_
  clear hl3
  intro b4 w4 hb4 hl4
  refine o_box hl4 [.pointer (some ⟨lb, 0, none⟩)] rfl rfl rfl ?_
  clear hl4
  intro b5 w5 hb5 hl
  repeat' (first | refine a_mov ?_ | refine a_asg ?_ | refine a_binN ?_ | refine a_notd ?_ | refine a_notb ?_ | refine a_nilc ?_ | refine a_fa ?_ | refine a_ext ?_ | refine a_lenv ?_ | refine a_lens ?_ | refine a_pick_t ?_ | refine a_pick_f ?_ | refine a_not ?_ | refine a_nilf ?_ | (refine a_bin ?_ ?_ <;> intro _ <;> try (exfalso; omega)) | refine a_ld hl ?_ | (refine a_st hl ?_; clear hl; intro _ hl) | refine a_ix (fun _ => ?_) | fail)
  refine o_nil (hK _ _ ?_)
  clear hK K
  refine wk_seq fun K hK => ?_
  refine wk_reg ?_
  repeat' (first | refine a_mov ?_ | refine a_asg ?_ | refine a_binN ?_ | refine a_notd ?_ | refine a_notb ?_ | refine a_nilc ?_ | refine a_fa ?_ | refine a_ext ?_ | refine a_lenv ?_ | refine a_lens ?_ | refine a_pick_t ?_ | refine a_pick_f ?_ | refine a_not ?_ | refine a_nilf ?_ | (refine a_bin ?_ ?_ <;> intro _ <;> try (exfalso; omega)) | refine a_ld hl ?_ | (refine a_st hl ?_; clear hl; intro _ hl) | refine a_ix (fun _ => ?_) | refine a_ld hl ?_ | fail)
  rename_i w6
  have hl : LH w (OneB lb) w6 [(b5, .cells [.pointer (some ⟨lb, 0, none⟩)].toArray 51 (0, 0)), (b4, .cells [.int .i64 (d : Int)].toArray 3 (0, 0)), (b3, .cells (snL s (.slice ka s.kids.length kc)).toArray 24 (0, 0)), leftB lb (left - 1)] := hl
  refine o_nil (hK _ _ ?_)
  clear hK K
  have hret : ∀ {w' : World}, LH w (OneB lb) w' [(b5, .cells [.pointer (some ⟨lb, 0, none⟩)].toArray 51 (0, 0)), (b4, .cells [.int .i64 (d : Int)].toArray 3 (0, 0)), (b3, .cells (snL s (.slice ka s.kids.length kc)).toArray 24 (0, 0)), leftB lb (left - 1)] → LH w (OneB lb) w' [leftB lb (left - 1)] := fun h => h.sub (by simp)
  by_cases hq : left < 1 ∨ d = 0 ∨ s.op < 1 ∨ 9 < s.op
  · repeat' (first | refine a_mov ?_ | refine a_asg ?_ | refine a_binN ?_ | refine a_notd ?_ | refine a_notb ?_ | refine a_nilc ?_ | refine a_fa ?_ | refine a_ext ?_ | refine a_lenv ?_ | refine a_lens ?_ | refine a_pick_t ?_ | refine a_pick_f ?_ | refine a_not ?_ | refine a_nilf ?_ | (refine o_nil (hK _ _ ?_); clear hK K) | refine wk_reg ?_ | refine wk_seq fun K hK => ?_ | (refine wk_skip (hK _ _ ?_); clear hK K) | (refine wk_label (hK _ _ ?_); clear hK K) | refine wk_scope ?_ | refine wk_block ?_ | refine wk_cond_t rfl ?_ | refine wk_cond_f rfl ?_ | (refine wk_exit ?_; (repeat (refine blockK_other rfl ?_)); refine blockK_same ?_; try ((repeat ((fail_if_success (refine hK _ _ ?_)); clear hK K)); refine hK _ _ ?_; clear hK K)) | (refine a_bin ?_ ?_ <;> intro _ <;> try (exfalso; omega)) | refine a_ld hl ?_ | (refine a_st hl ?_; clear hl; intro _ hl) | refine a_ix (fun _ => ?_) | fail)
    all_goals refine wk_ret (retQ_tmp1 Tryz.results26 (by decide) rfl (by conv => lhs; whnf) ?_)
    all_goals exact ⟨false, left - 1, rfl, hret hl, by omega, by omega, (fun h => nomatch h), fun _ hp => by
      obtain ⟨h2, h3, h4, -⟩ := hpi.1 hp
      have := ((nodeB_iff s).1 h2).1
      omega⟩
  have hsl : s.name.length ≤ 140737488351232 := hf1
  obtain ⟨nb, hnb⟩ : ∃ nb, nb = (if named s.op then nameB s.name else decide (s.name = [])) := ⟨_, rfl⟩
  obtain ⟨ke, hke⟩ : ∃ ke, ke = decide (s.kids = []) := ⟨_, rfl⟩
  obtain ⟨db, hdb⟩ : ∃ db, db = decide (s.day = 0 ∨ (s.op = 3 ∧ 0 < s.day ∧ s.day ≤ 1000000)) := ⟨_, rfl⟩
  obtain ⟨kb, hkb⟩ : ∃ kb, kb = (if many s.op then decide (2 ≤ s.kids.length) else decide (s.kids = [])) := ⟨_, rfl⟩
  repeat' (first | refine a_mov ?_ | refine a_asg ?_ | refine a_binN ?_ | refine a_notd ?_ | refine a_notb ?_ | refine a_nilc ?_ | refine a_fa ?_ | refine a_ext ?_ | refine a_lenv ?_ | refine a_lens ?_ | refine a_pick_t ?_ | refine a_pick_f ?_ | refine a_not ?_ | refine a_nilf ?_ | (refine o_nil (hK _ _ ?_); clear hK K) | refine wk_reg ?_ | refine wk_seq fun K hK => ?_ | (refine wk_skip (hK _ _ ?_); clear hK K) | (refine wk_label (hK _ _ ?_); clear hK K) | refine wk_scope ?_ | refine wk_block ?_ | refine wk_cond_t rfl ?_ | refine wk_cond_f rfl ?_ | (refine wk_exit ?_; (repeat (refine blockK_other rfl ?_)); refine blockK_same ?_; try ((repeat ((fail_if_success (refine hK _ _ ?_)); clear hK K)); refine hK _ _ ?_; clear hK K)) | (refine a_bin ?_ ?_ <;> intro _ <;> try (exfalso; omega)) | refine a_ld hl ?_ | (refine a_st hl ?_; clear hl; intro _ hl) | refine a_ix (fun _ => ?_) | fail)
  refine o_cut [] (fun _ : Unit => [(3, .pointer (some ⟨b3, 0, none⟩)), (4, .pointer (some ⟨b4, 0, none⟩)), (5, .pointer (some ⟨b5, 0, none⟩)), (7, .bool (decide (s.name = [])))]) (fun _ w' => LH w (OneB lb) w' [(b5, .cells [.pointer (some ⟨lb, 0, none⟩)].toArray 51 (0, 0)), (b4, .cells [.int .i64 (d : Int)].toArray 3 (0, 0)), (b3, .cells (snL s (.slice ka s.kids.length kc)).toArray 24 (0, 0)), leftB lb (left - 1)]) ?_ ?_
  · refine o_eqsT (a := s.name) (b := []) rfl rfl (by simp only [str_eq]; rfl) ?_ ?_ <;> intro hn
    · repeat' (first | refine a_mov ?_ | refine a_asg ?_ | refine a_binN ?_ | refine a_notd ?_ | refine a_notb ?_ | refine a_nilc ?_ | refine a_fa ?_ | refine a_ext ?_ | refine a_lenv ?_ | refine a_lens ?_ | refine a_pick_t ?_ | refine a_pick_f ?_ | refine a_not ?_ | refine a_nilf ?_ | (refine a_bin ?_ ?_ <;> intro _ <;> try (exfalso; omega)) | refine a_ld hl ?_ | (refine a_st hl ?_; clear hl; intro _ hl) | refine a_ix (fun _ => ?_) | fail)
      exact o_nil ⟨(), ⟨rfl, rfl, rfl, by rw [decide_eq_true hn]; rfl, trivial⟩, rfl, hl⟩
    · repeat' (first | refine a_mov ?_ | refine a_asg ?_ | refine a_binN ?_ | refine a_notd ?_ | refine a_notb ?_ | refine a_nilc ?_ | refine a_fa ?_ | refine a_ext ?_ | refine a_lenv ?_ | refine a_lens ?_ | refine a_pick_t ?_ | refine a_pick_f ?_ | refine a_not ?_ | refine a_nilf ?_ | (refine a_bin ?_ ?_ <;> intro _ <;> try (exfalso; omega)) | refine a_ld hl ?_ | (refine a_st hl ?_; clear hl; intro _ hl) | refine a_ix (fun _ => ?_) | fail)
      exact o_nil ⟨(), ⟨rfl, rfl, rfl, by rw [decide_eq_false hn]; rfl, trivial⟩, rfl, hl⟩
  clear hl
  rintro _ t7 w7 hl
  refine hK _ _ ?_
  clear hK K
  refine wk_seq fun K hK => ?_
  refine wk_cut [] (fun _ : Unit => [(3, .pointer (some ⟨b3, 0, none⟩)), (4, .pointer (some ⟨b4, 0, none⟩)), (5, .pointer (some ⟨b5, 0, none⟩)), (7, .bool nb)]) (fun _ w' => LH w (OneB lb) w' [(b5, .cells [.pointer (some ⟨lb, 0, none⟩)].toArray 51 (0, 0)), (b4, .cells [.int .i64 (d : Int)].toArray 3 (0, 0)), (b3, .cells (snL s (.slice ka s.kids.length kc)).toArray 24 (0, 0)), leftB lb (left - 1)]) ?_ ?_
  · clear hK K
    repeat' (first | refine a_mov ?_ | refine a_asg ?_ | refine a_binN ?_ | refine a_notd ?_ | refine a_notb ?_ | refine a_nilc ?_ | refine a_fa ?_ | refine a_ext ?_ | refine a_lenv ?_ | refine a_lens ?_ | refine a_pick_t ?_ | refine a_pick_f ?_ | refine a_not ?_ | refine a_nilf ?_ | (refine o_nil (hK _ _ ?_); clear hK K) | refine wk_reg ?_ | refine wk_seq fun K hK => ?_ | (refine wk_skip (hK _ _ ?_); clear hK K) | (refine wk_label (hK _ _ ?_); clear hK K) | refine wk_scope ?_ | refine wk_block ?_ | refine wk_cond_t rfl ?_ | refine wk_cond_f rfl ?_ | (refine wk_exit ?_; (repeat (refine blockK_other rfl ?_)); refine blockK_same ?_; try ((repeat ((fail_if_success (refine hK _ _ ?_)); clear hK K)); refine hK _ _ ?_; clear hK K)) | (refine a_bin ?_ ?_ <;> intro _ <;> try (exfalso; omega)) | refine a_ld hl ?_ | (refine a_st hl ?_; clear hl; intro _ hl) | refine a_ix (fun _ => ?_) | fail)
    refine a_fn (isNamed_calls s.op w7) ?_
    rintro _ w8 ⟨rfl, rfl⟩
    cases hnm : named s.op
    · rw [hnm, if_neg (by decide)] at hnb
      repeat' (first | refine a_mov ?_ | refine a_asg ?_ | refine a_binN ?_ | refine a_notd ?_ | refine a_notb ?_ | refine a_nilc ?_ | refine a_fa ?_ | refine a_ext ?_ | refine a_lenv ?_ | refine a_lens ?_ | refine a_pick_t ?_ | refine a_pick_f ?_ | refine a_not ?_ | refine a_nilf ?_ | (refine o_nil (hK _ _ ?_); clear hK K) | refine wk_reg ?_ | refine wk_seq fun K hK => ?_ | (refine wk_skip (hK _ _ ?_); clear hK K) | (refine wk_label (hK _ _ ?_); clear hK K) | refine wk_scope ?_ | refine wk_block ?_ | refine wk_cond_t rfl ?_ | refine wk_cond_f rfl ?_ | (refine wk_exit ?_; (repeat (refine blockK_other rfl ?_)); refine blockK_same ?_; try ((repeat ((fail_if_success (refine hK _ _ ?_)); clear hK K)); refine hK _ _ ?_; clear hK K)) | (refine a_bin ?_ ?_ <;> intro _ <;> try (exfalso; omega)) | refine a_ld hl ?_ | (refine a_st hl ?_; clear hl; intro _ hl) | refine a_ix (fun _ => ?_) | fail)
      exact wk_skip ⟨(), ⟨rfl, rfl, rfl, by rw [hnb]; rfl, trivial⟩, rfl, hl⟩
    · rw [hnm, if_pos rfl] at hnb
      repeat' (first | refine a_mov ?_ | refine a_asg ?_ | refine a_binN ?_ | refine a_notd ?_ | refine a_notb ?_ | refine a_nilc ?_ | refine a_fa ?_ | refine a_ext ?_ | refine a_lenv ?_ | refine a_lens ?_ | refine a_pick_t ?_ | refine a_pick_f ?_ | refine a_not ?_ | refine a_nilf ?_ | (refine o_nil (hK _ _ ?_); clear hK K) | refine wk_reg ?_ | refine wk_seq fun K hK => ?_ | (refine wk_skip (hK _ _ ?_); clear hK K) | (refine wk_label (hK _ _ ?_); clear hK K) | refine wk_scope ?_ | refine wk_block ?_ | refine wk_cond_t rfl ?_ | refine wk_cond_f rfl ?_ | (refine wk_exit ?_; (repeat (refine blockK_other rfl ?_)); refine blockK_same ?_; try ((repeat ((fail_if_success (refine hK _ _ ?_)); clear hK K)); refine hK _ _ ?_; clear hK K)) | (refine a_bin ?_ ?_ <;> intro _ <;> try (exfalso; omega)) | refine a_ld hl ?_ | (refine a_st hl ?_; clear hl; intro _ hl) | refine a_ix (fun _ => ?_) | fail)
      refine a_fn (isName_calls s.name hsl w8) ?_
      rintro _ w9 ⟨rfl, rfl⟩
      repeat' (first | refine a_mov ?_ | refine a_asg ?_ | refine a_binN ?_ | refine a_notd ?_ | refine a_notb ?_ | refine a_nilc ?_ | refine a_fa ?_ | refine a_ext ?_ | refine a_lenv ?_ | refine a_lens ?_ | refine a_pick_t ?_ | refine a_pick_f ?_ | refine a_not ?_ | refine a_nilf ?_ | (refine o_nil (hK _ _ ?_); clear hK K) | refine wk_reg ?_ | refine wk_seq fun K hK => ?_ | (refine wk_skip (hK _ _ ?_); clear hK K) | (refine wk_label (hK _ _ ?_); clear hK K) | refine wk_scope ?_ | refine wk_block ?_ | refine wk_cond_t rfl ?_ | refine wk_cond_f rfl ?_ | (refine wk_exit ?_; (repeat (refine blockK_other rfl ?_)); refine blockK_same ?_; try ((repeat ((fail_if_success (refine hK _ _ ?_)); clear hK K)); refine hK _ _ ?_; clear hK K)) | (refine a_bin ?_ ?_ <;> intro _ <;> try (exfalso; omega)) | refine a_ld hl ?_ | (refine a_st hl ?_; clear hl; intro _ hl) | refine a_ix (fun _ => ?_) | fail)
      exact o_nil ⟨(), ⟨rfl, rfl, rfl, by rw [hnb]; rfl, trivial⟩, rfl, hl⟩
  clear hl
  rintro _ t8 w8 hl
  refine hK _ _ ?_
  clear hK K
  refine wk_seq fun K hK => ?_
  refine wk_cut [] (fun _ : Unit => [(3, .pointer (some ⟨b3, 0, none⟩)), (4, .pointer (some ⟨b4, 0, none⟩)), (5, .pointer (some ⟨b5, 0, none⟩)), (7, .bool nb), (8, .bool db)]) (fun _ w' => LH w (OneB lb) w' [(b5, .cells [.pointer (some ⟨lb, 0, none⟩)].toArray 51 (0, 0)), (b4, .cells [.int .i64 (d : Int)].toArray 3 (0, 0)), (b3, .cells (snL s (.slice ka s.kids.length kc)).toArray 24 (0, 0)), leftB lb (left - 1)]) ?_ ?_
  · clear hK K
    repeat' (first | refine a_mov ?_ | refine a_asg ?_ | refine a_binN ?_ | refine a_notd ?_ | refine a_notb ?_ | refine a_nilc ?_ | refine a_fa ?_ | refine a_ext ?_ | refine a_lenv ?_ | refine a_lens ?_ | refine a_pick_t ?_ | refine a_pick_f ?_ | refine a_not ?_ | refine a_nilf ?_ | (refine o_nil (hK _ _ ?_); clear hK K) | refine wk_reg ?_ | refine wk_seq fun K hK => ?_ | (refine wk_skip (hK _ _ ?_); clear hK K) | (refine wk_label (hK _ _ ?_); clear hK K) | refine wk_scope ?_ | refine wk_block ?_ | refine wk_cond_t rfl ?_ | refine wk_cond_f rfl ?_ | (refine wk_exit ?_; (repeat (refine blockK_other rfl ?_)); refine blockK_same ?_; try ((repeat ((fail_if_success (refine hK _ _ ?_)); clear hK K)); refine hK _ _ ?_; clear hK K)) | (refine a_bin ?_ ?_ <;> intro _ <;> try (exfalso; omega)) | refine a_ld hl ?_ | (refine a_st hl ?_; clear hl; intro _ hl) | refine a_ix (fun _ => ?_) | fail)
    all_goals first
      | exact o_nil ⟨(), ⟨rfl, rfl, rfl, rfl, by rw [hdb, decide_eq_true (by omega)]; rfl, trivial⟩, rfl, hl⟩
      | exact o_nil ⟨(), ⟨rfl, rfl, rfl, rfl, by rw [hdb, decide_eq_false (by omega)]; rfl, trivial⟩, rfl, hl⟩
  clear hl
  rintro _ t9 w9 hl
  refine hK _ _ ?_
  clear hK K
  refine wk_seq fun K hK => ?_
  refine wk_cut [] (fun _ : Unit => [(3, .pointer (some ⟨b3, 0, none⟩)), (4, .pointer (some ⟨b4, 0, none⟩)), (5, .pointer (some ⟨b5, 0, none⟩)), (7, .bool nb), (8, .bool db), (9, .bool ke)]) (fun _ w' => LH w (OneB lb) w' [(b5, .cells [.pointer (some ⟨lb, 0, none⟩)].toArray 51 (0, 0)), (b4, .cells [.int .i64 (d : Int)].toArray 3 (0, 0)), (b3, .cells (snL s (.slice ka s.kids.length kc)).toArray 24 (0, 0)), leftB lb (left - 1)]) ?_ ?_
  · clear hK K
    have hk0 : s.kids = [] ↔ s.kids.length = 0 := List.length_eq_zero_iff.symm
    repeat' (first | refine a_mov ?_ | refine a_asg ?_ | refine a_binN ?_ | refine a_notd ?_ | refine a_notb ?_ | refine a_nilc ?_ | refine a_fa ?_ | refine a_ext ?_ | refine a_lenv ?_ | refine a_lens ?_ | refine a_pick_t ?_ | refine a_pick_f ?_ | refine a_not ?_ | refine a_nilf ?_ | (refine o_nil (hK _ _ ?_); clear hK K) | refine wk_reg ?_ | refine wk_seq fun K hK => ?_ | (refine wk_skip (hK _ _ ?_); clear hK K) | (refine wk_label (hK _ _ ?_); clear hK K) | refine wk_scope ?_ | refine wk_block ?_ | refine wk_cond_t rfl ?_ | refine wk_cond_f rfl ?_ | (refine wk_exit ?_; (repeat (refine blockK_other rfl ?_)); refine blockK_same ?_; try ((repeat ((fail_if_success (refine hK _ _ ?_)); clear hK K)); refine hK _ _ ?_; clear hK K)) | (refine a_bin ?_ ?_ <;> intro _ <;> try (exfalso; omega)) | refine a_ld hl ?_ | (refine a_st hl ?_; clear hl; intro _ hl) | refine a_ix (fun _ => ?_) | fail)
    · exact o_nil ⟨(), ⟨rfl, rfl, rfl, rfl, rfl, by rw [hke, decide_eq_true (hk0.2 (by omega))]; rfl, trivial⟩, rfl, hl⟩
    · exact o_nil ⟨(), ⟨rfl, rfl, rfl, rfl, rfl, by rw [hke, decide_eq_false (fun h => by have := hk0.1 h; omega)]; rfl, trivial⟩, rfl, hl⟩
  clear hl
  rintro _ t10 w10 hl
  refine hK _ _ ?_
  clear hK K
  refine wk_seq fun K hK => ?_
  refine wk_cut [] (fun _ : Unit => [(3, .pointer (some ⟨b3, 0, none⟩)), (4, .pointer (some ⟨b4, 0, none⟩)), (5, .pointer (some ⟨b5, 0, none⟩)), (7, .bool nb), (8, .bool db), (9, .bool kb)]) (fun _ w' => LH w (OneB lb) w' [(b5, .cells [.pointer (some ⟨lb, 0, none⟩)].toArray 51 (0, 0)), (b4, .cells [.int .i64 (d : Int)].toArray 3 (0, 0)), (b3, .cells (snL s (.slice ka s.kids.length kc)).toArray 24 (0, 0)), leftB lb (left - 1)]) ?_ ?_
  · clear hK K
    repeat' (first | refine a_mov ?_ | refine a_asg ?_ | refine a_binN ?_ | refine a_notd ?_ | refine a_notb ?_ | refine a_nilc ?_ | refine a_fa ?_ | refine a_ext ?_ | refine a_lenv ?_ | refine a_lens ?_ | refine a_pick_t ?_ | refine a_pick_f ?_ | refine a_not ?_ | refine a_nilf ?_ | (refine o_nil (hK _ _ ?_); clear hK K) | refine wk_reg ?_ | refine wk_seq fun K hK => ?_ | (refine wk_skip (hK _ _ ?_); clear hK K) | (refine wk_label (hK _ _ ?_); clear hK K) | refine wk_scope ?_ | refine wk_block ?_ | refine wk_cond_t rfl ?_ | refine wk_cond_f rfl ?_ | (refine wk_exit ?_; (repeat (refine blockK_other rfl ?_)); refine blockK_same ?_; try ((repeat ((fail_if_success (refine hK _ _ ?_)); clear hK K)); refine hK _ _ ?_; clear hK K)) | (refine a_bin ?_ ?_ <;> intro _ <;> try (exfalso; omega)) | refine a_ld hl ?_ | (refine a_st hl ?_; clear hl; intro _ hl) | refine a_ix (fun _ => ?_) | fail)
    refine a_fn (isMany_calls s.op w10) ?_
    rintro _ w11 ⟨rfl, rfl⟩
    cases hm : many s.op
    · rw [hm, if_neg (by decide), ← hke] at hkb
      repeat' (first | refine a_mov ?_ | refine a_asg ?_ | refine a_binN ?_ | refine a_notd ?_ | refine a_notb ?_ | refine a_nilc ?_ | refine a_fa ?_ | refine a_ext ?_ | refine a_lenv ?_ | refine a_lens ?_ | refine a_pick_t ?_ | refine a_pick_f ?_ | refine a_not ?_ | refine a_nilf ?_ | (refine o_nil (hK _ _ ?_); clear hK K) | refine wk_reg ?_ | refine wk_seq fun K hK => ?_ | (refine wk_skip (hK _ _ ?_); clear hK K) | (refine wk_label (hK _ _ ?_); clear hK K) | refine wk_scope ?_ | refine wk_block ?_ | refine wk_cond_t rfl ?_ | refine wk_cond_f rfl ?_ | (refine wk_exit ?_; (repeat (refine blockK_other rfl ?_)); refine blockK_same ?_; try ((repeat ((fail_if_success (refine hK _ _ ?_)); clear hK K)); refine hK _ _ ?_; clear hK K)) | (refine a_bin ?_ ?_ <;> intro _ <;> try (exfalso; omega)) | refine a_ld hl ?_ | (refine a_st hl ?_; clear hl; intro _ hl) | refine a_ix (fun _ => ?_) | fail)
      exact wk_skip ⟨(), ⟨rfl, rfl, rfl, rfl, rfl, by rw [hkb]; rfl, trivial⟩, rfl, hl⟩
    · rw [hm, if_pos rfl] at hkb
      repeat' (first | refine a_mov ?_ | refine a_asg ?_ | refine a_binN ?_ | refine a_notd ?_ | refine a_notb ?_ | refine a_nilc ?_ | refine a_fa ?_ | refine a_ext ?_ | refine a_lenv ?_ | refine a_lens ?_ | refine a_pick_t ?_ | refine a_pick_f ?_ | refine a_not ?_ | refine a_nilf ?_ | (refine o_nil (hK _ _ ?_); clear hK K) | refine wk_reg ?_ | refine wk_seq fun K hK => ?_ | (refine wk_skip (hK _ _ ?_); clear hK K) | (refine wk_label (hK _ _ ?_); clear hK K) | refine wk_scope ?_ | refine wk_block ?_ | refine wk_cond_t rfl ?_ | refine wk_cond_f rfl ?_ | (refine wk_exit ?_; (repeat (refine blockK_other rfl ?_)); refine blockK_same ?_; try ((repeat ((fail_if_success (refine hK _ _ ?_)); clear hK K)); refine hK _ _ ?_; clear hK K)) | (refine a_bin ?_ ?_ <;> intro _ <;> try (exfalso; omega)) | refine a_ld hl ?_ | (refine a_st hl ?_; clear hl; intro _ hl) | refine a_ix (fun _ => ?_) | fail)
      · exact o_nil ⟨(), ⟨rfl, rfl, rfl, rfl, rfl, by rw [hkb, decide_eq_true (by omega)]; rfl, trivial⟩, rfl, hl⟩
      · exact o_nil ⟨(), ⟨rfl, rfl, rfl, rfl, rfl, by rw [hkb, decide_eq_false (by omega)]; rfl, trivial⟩, rfl, hl⟩
  clear hl
  rintro _ t11 w11 hl
  refine hK _ _ ?_
  clear hK K
  have hdt : db = true ↔ (s.day = 0 ∨ (s.op = 3 ∧ 0 < s.day ∧ s.day ≤ 1000000)) := by rw [hdb, decide_eq_true_eq]
  have hbad : ¬ (nb = true ∧ db = true ∧ kb = true) → ¬ Proper s d left := fun h hp => by
    obtain ⟨h2, -⟩ := hpi.1 hp
    obtain ⟨-, h3, h4, h5⟩ := (nodeB_iff s).1 h2
    exact h ⟨hnb.trans h3, hdt.2 h4, hkb.trans h5⟩
  have hgood : nb = true → db = true → kb = true → nodeB s = true := fun h1 h2 h3 => (nodeB_iff s).2 ⟨by omega, hnb ▸ h1, hdt.1 h2, hkb ▸ h3⟩
  clear hdt hdb hnb hkb
  have hfalse : ∀ {w' : World}, LH w (OneB lb) w' [(b5, .cells [.pointer (some ⟨lb, 0, none⟩)].toArray 51 (0, 0)), (b4, .cells [.int .i64 (d : Int)].toArray 3 (0, 0)), (b3, .cells (snL s (.slice ka s.kids.length kc)).toArray 24 (0, 0)), leftB lb (left - 1)] → ¬ Proper s d left → ∃ b left', Value.bool false = .bool b ∧ LH w (OneB lb) w' [leftB lb left'] ∧ -1 ≤ left' ∧ left' ≤ left ∧ (b = true → Proper s d left ∧ left' = left - cnt s) ∧ (b = false → ¬ Proper s d left) := fun h hp => ⟨false, left - 1, rfl, hret h, by omega, by omega, (fun h => nomatch h), fun _ => hp⟩
  cases nb
  · repeat' (first | refine a_mov ?_ | refine a_asg ?_ | refine a_binN ?_ | refine a_notd ?_ | refine a_notb ?_ | refine a_nilc ?_ | refine a_fa ?_ | refine a_ext ?_ | refine a_lenv ?_ | refine a_lens ?_ | refine a_pick_t ?_ | refine a_pick_f ?_ | refine a_not ?_ | refine a_nilf ?_ | (refine o_nil (hK _ _ ?_); clear hK K) | refine wk_reg ?_ | refine wk_seq fun K hK => ?_ | (refine wk_skip (hK _ _ ?_); clear hK K) | (refine wk_label (hK _ _ ?_); clear hK K) | refine wk_scope ?_ | refine wk_block ?_ | refine wk_cond_t rfl ?_ | refine wk_cond_f rfl ?_ | (refine wk_exit ?_; (repeat (refine blockK_other rfl ?_)); refine blockK_same ?_; try ((repeat ((fail_if_success (refine hK _ _ ?_)); clear hK K)); refine hK _ _ ?_; clear hK K)) | (refine a_bin ?_ ?_ <;> intro _ <;> try (exfalso; omega)) | refine a_ld hl ?_ | (refine a_st hl ?_; clear hl; intro _ hl) | refine a_ix (fun _ => ?_) | fail)
    refine wk_ret (retQ_tmp1 Tryz.results26 (by decide) rfl (by conv => lhs; whnf) ?_)
    exact hfalse hl (hbad (by simp))
  cases db
  · repeat' (first | refine a_mov ?_ | refine a_asg ?_ | refine a_binN ?_ | refine a_notd ?_ | refine a_notb ?_ | refine a_nilc ?_ | refine a_fa ?_ | refine a_ext ?_ | refine a_lenv ?_ | refine a_lens ?_ | refine a_pick_t ?_ | refine a_pick_f ?_ | refine a_not ?_ | refine a_nilf ?_ | (refine o_nil (hK _ _ ?_); clear hK K) | refine wk_reg ?_ | refine wk_seq fun K hK => ?_ | (refine wk_skip (hK _ _ ?_); clear hK K) | (refine wk_label (hK _ _ ?_); clear hK K) | refine wk_scope ?_ | refine wk_block ?_ | refine wk_cond_t rfl ?_ | refine wk_cond_f rfl ?_ | (refine wk_exit ?_; (repeat (refine blockK_other rfl ?_)); refine blockK_same ?_; try ((repeat ((fail_if_success (refine hK _ _ ?_)); clear hK K)); refine hK _ _ ?_; clear hK K)) | (refine a_bin ?_ ?_ <;> intro _ <;> try (exfalso; omega)) | refine a_ld hl ?_ | (refine a_st hl ?_; clear hl; intro _ hl) | refine a_ix (fun _ => ?_) | fail)
    refine wk_ret (retQ_tmp1 Tryz.results26 (by decide) rfl (by conv => lhs; whnf) ?_)
    exact hfalse hl (hbad (by simp))
  cases kb
  · repeat' (first | refine a_mov ?_ | refine a_asg ?_ | refine a_binN ?_ | refine a_notd ?_ | refine a_notb ?_ | refine a_nilc ?_ | refine a_fa ?_ | refine a_ext ?_ | refine a_lenv ?_ | refine a_lens ?_ | refine a_pick_t ?_ | refine a_pick_f ?_ | refine a_not ?_ | refine a_nilf ?_ | (refine o_nil (hK _ _ ?_); clear hK K) | refine wk_reg ?_ | refine wk_seq fun K hK => ?_ | (refine wk_skip (hK _ _ ?_); clear hK K) | (refine wk_label (hK _ _ ?_); clear hK K) | refine wk_scope ?_ | refine wk_block ?_ | refine wk_cond_t rfl ?_ | refine wk_cond_f rfl ?_ | (refine wk_exit ?_; (repeat (refine blockK_other rfl ?_)); refine blockK_same ?_; try ((repeat ((fail_if_success (refine hK _ _ ?_)); clear hK K)); refine hK _ _ ?_; clear hK K)) | (refine a_bin ?_ ?_ <;> intro _ <;> try (exfalso; omega)) | refine a_ld hl ?_ | (refine a_st hl ?_; clear hl; intro _ hl) | refine a_ix (fun _ => ?_) | fail)
    refine wk_ret (retQ_tmp1 Tryz.results26 (by decide) rfl (by conv => lhs; whnf) ?_)
    exact hfalse hl (hbad (by simp))
  have hnode := hgood rfl rfl rfl
  repeat' (first | refine a_mov ?_ | refine a_asg ?_ | refine a_binN ?_ | refine a_notd ?_ | refine a_notb ?_ | refine a_nilc ?_ | refine a_fa ?_ | refine a_ext ?_ | refine a_lenv ?_ | refine a_lens ?_ | refine a_pick_t ?_ | refine a_pick_f ?_ | refine a_not ?_ | refine a_nilf ?_ | (refine o_nil (hK _ _ ?_); clear hK K) | refine wk_reg ?_ | refine wk_seq fun K hK => ?_ | (refine wk_skip (hK _ _ ?_); clear hK K) | (refine wk_label (hK _ _ ?_); clear hK K) | refine wk_scope ?_ | refine wk_block ?_ | refine wk_cond_t rfl ?_ | refine wk_cond_f rfl ?_ | (refine wk_exit ?_; (repeat (refine blockK_other rfl ?_)); refine blockK_same ?_; try ((repeat ((fail_if_success (refine hK _ _ ?_)); clear hK K)); refine hK _ _ ?_; clear hK K)) | (refine a_bin ?_ ?_ <;> intro _ <;> try (exfalso; omega)) | refine a_ld hl ?_ | (refine a_st hl ?_; clear hl; intro _ hl) | refine a_ix (fun _ => ?_) | fail)
  refine o_mf [] [.pointer (some ⟨b4, 0, none⟩), .pointer (some ⟨b5, 0, none⟩)] rfl rfl rfl ?_
  have h5n : b5 ≠ lb := fun e => by have := hl.nd; simp [leftB, e] at this
  have h4n : b4 ≠ lb := fun e => by have := hl.nd; simp [leftB, e] at this
  have hsub : LH w (OneB lb) w11 [leftB lb (left - 1)] := hret hl
  refine a_fn (kidsAny_calls (fun k hk => ih k hk) (hkr.one hl.upd) hsub.rb (hl.rowL (vs := [.int .i64 (d : Int)]) 1 0 1 rfl) (hl.rowL (vs := [.pointer (some ⟨lb, 0, none⟩)]) 0 0 1 rfl) h4n h5n hf3 hf2 (by omega) (by omega) (by omega) hd) ?_
  rintro _ w12 ⟨c, left', rfl, hl12, k1, k2, k3, k4⟩
  have hl13 := hsub.bk hl12
  cases c
  · obtain ⟨k5, k6⟩ := k3 rfl
    repeat' (first | refine a_mov ?_ | refine a_asg ?_ | refine a_binN ?_ | refine a_notd ?_ | refine a_notb ?_ | refine a_nilc ?_ | refine a_fa ?_ | refine a_ext ?_ | refine a_lenv ?_ | refine a_lens ?_ | refine a_pick_t ?_ | refine a_pick_f ?_ | refine a_not ?_ | refine a_nilf ?_ | (refine o_nil (hK _ _ ?_); clear hK K) | refine wk_reg ?_ | refine wk_seq fun K hK => ?_ | (refine wk_skip (hK _ _ ?_); clear hK K) | (refine wk_label (hK _ _ ?_); clear hK K) | refine wk_scope ?_ | refine wk_block ?_ | refine wk_cond_t rfl ?_ | refine wk_cond_f rfl ?_ | (refine wk_exit ?_; (repeat (refine blockK_other rfl ?_)); refine blockK_same ?_; try ((repeat ((fail_if_success (refine hK _ _ ?_)); clear hK K)); refine hK _ _ ?_; clear hK K)) | (refine a_bin ?_ ?_ <;> intro _ <;> try (exfalso; omega)) | refine a_ld hl ?_ | (refine a_st hl ?_; clear hl; intro _ hl) | refine a_ix (fun _ => ?_) | fail)
    refine wk_ret (retQ_tmp1 Tryz.results26 (by decide) rfl (by conv => lhs; whnf) ?_)
    exact ⟨true, left', rfl, hl13, k1, by omega, fun _ => ⟨hpi.2 ⟨hnode, by omega, by omega, k5⟩, by rw [k6, cnt_eq]; omega⟩, (fun h => nomatch h)⟩
  · repeat' (first | refine a_mov ?_ | refine a_asg ?_ | refine a_binN ?_ | refine a_notd ?_ | refine a_notb ?_ | refine a_nilc ?_ | refine a_fa ?_ | refine a_ext ?_ | refine a_lenv ?_ | refine a_lens ?_ | refine a_pick_t ?_ | refine a_pick_f ?_ | refine a_not ?_ | refine a_nilf ?_ | (refine o_nil (hK _ _ ?_); clear hK K) | refine wk_reg ?_ | refine wk_seq fun K hK => ?_ | (refine wk_skip (hK _ _ ?_); clear hK K) | (refine wk_label (hK _ _ ?_); clear hK K) | refine wk_scope ?_ | refine wk_block ?_ | refine wk_cond_t rfl ?_ | refine wk_cond_f rfl ?_ | (refine wk_exit ?_; (repeat (refine blockK_other rfl ?_)); refine blockK_same ?_; try ((repeat ((fail_if_success (refine hK _ _ ?_)); clear hK K)); refine hK _ _ ?_; clear hK K)) | (refine a_bin ?_ ?_ <;> intro _ <;> try (exfalso; omega)) | refine a_ld hl ?_ | (refine a_st hl ?_; clear hl; intro _ hl) | refine a_ix (fun _ => ?_) | fail)
    refine wk_ret (retQ_tmp1 Tryz.results26 (by decide) rfl (by conv => lhs; whnf) ?_)
    exact ⟨false, left', rfl, hl13, k1, by omega, (fun h => nomatch h), fun _ hp => k4 rfl (hpi.1 hp).2.2.2⟩
end Go.Proofs
