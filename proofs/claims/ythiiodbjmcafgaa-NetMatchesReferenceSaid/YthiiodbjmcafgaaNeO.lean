/-
  A network: what bounds it; a list that begins with another one.
-/
import Derived.Test.YthiiodbjmcafgaaNeK
set_option linter.unusedVariables false
set_option linter.unusedSimpArgs false
set_option linter.unnecessarySimpa false
set_option maxRecDepth 10000
namespace Go.Proofs
open Go Go.Pd Go.Ne
attribute [local irreducible] OpsL W RetQ OpsQ OpsC

theorem begins_calls {l f : List Tx} {v u : Value} {w : World} (hv : Sl w v 1 (strL l)) (hu : Sl w u 1 (strL f)) (hl : l.length ≤ 1000000) (hf : f.length ≤ 1000000) :
    Calls Try.prog 28 #[v, u] w (fun e w' => ∃ x, e = .returned x ∧ x = .bool (decide (f.length ≤ l.length ∧ l.take f.length = f)) ∧ Ext w w') := by
  obtain ⟨pa, ca, rfl, hca⟩ := hv.shape (strL_len l) (by omega)
  obtain ⟨pb, cb, rfl, -⟩ := hu.shape (strL_len f) (by omega)
  refine calls_of Try.func28 rfl Try.ntmps28 rfl ?_
  by_cases hle : f.length ≤ l.length
  · repeat' (first | refine a_mov ?_ | refine a_asg ?_ | refine a_binN ?_ | refine a_notd ?_ | refine a_notb ?_ | refine a_nilc ?_ | refine a_fa ?_ | refine a_ext ?_ | refine a_lenv ?_ | refine a_lens ?_ | refine a_pick_t ?_ | refine a_pick_f ?_ | refine a_not ?_ | refine a_nilf ?_ | (refine o_nil (hK _ _ ?_); clear hK K) | refine wk_reg ?_ | refine wk_seq fun K hK => ?_ | (refine wk_skip (hK _ _ ?_); clear hK K) | (refine wk_label (hK _ _ ?_); clear hK K) | refine wk_scope ?_ | refine wk_block ?_ | refine wk_cond_t rfl ?_ | refine wk_cond_f rfl ?_ | (refine wk_exit ?_; (repeat (refine blockK_other rfl ?_)); refine blockK_same ?_; try ((repeat ((fail_if_success (refine hK _ _ ?_)); clear hK K)); refine hK _ _ ?_; clear hK K)) | (refine a_bin ?_ ?_ <;> intro _ <;> try (exfalso; omega)) | refine a_ld hl ?_ | (refine a_st hl ?_; clear hl; intro _ hl) | refine a_ix (fun _ => ?_) | fail)
    refine o_cutvH (k := 1) f.length hv (strL_len l) hle (by omega) rfl rfl rfl rfl rfl rfl ?_
    intro v2 hv2 _
    rw [Nat.mul_one, strL, ← List.map_take] at hv2
    repeat' (first | refine a_mov ?_ | refine a_asg ?_ | refine a_binN ?_ | refine a_notd ?_ | refine a_notb ?_ | refine a_nilc ?_ | refine a_fa ?_ | refine a_ext ?_ | refine a_lenv ?_ | refine a_lens ?_ | refine a_pick_t ?_ | refine a_pick_f ?_ | refine a_not ?_ | refine a_nilf ?_ | (refine o_nil (hK _ _ ?_); clear hK K) | refine wk_reg ?_ | refine wk_seq fun K hK => ?_ | (refine wk_skip (hK _ _ ?_); clear hK K) | (refine wk_label (hK _ _ ?_); clear hK K) | refine wk_scope ?_ | refine wk_block ?_ | refine wk_cond_t rfl ?_ | refine wk_cond_f rfl ?_ | (refine wk_exit ?_; (repeat (refine blockK_other rfl ?_)); refine blockK_same ?_; try ((repeat ((fail_if_success (refine hK _ _ ?_)); clear hK K)); refine hK _ _ ?_; clear hK K)) | (refine a_bin ?_ ?_ <;> intro _ <;> try (exfalso; omega)) | refine a_ld hl ?_ | (refine a_st hl ?_; clear hl; intro _ hl) | refine a_ix (fun _ => ?_) | fail)
    refine a_fn (same_calls hv2 hu (by rw [List.length_take]; omega) (by omega)) ?_
    rintro _ w2 ⟨rfl, he⟩
    repeat' (first | refine a_mov ?_ | refine a_asg ?_ | refine a_binN ?_ | refine a_notd ?_ | refine a_notb ?_ | refine a_nilc ?_ | refine a_fa ?_ | refine a_ext ?_ | refine a_lenv ?_ | refine a_lens ?_ | refine a_pick_t ?_ | refine a_pick_f ?_ | refine a_not ?_ | refine a_nilf ?_ | (refine o_nil (hK _ _ ?_); clear hK K) | refine wk_reg ?_ | refine wk_seq fun K hK => ?_ | (refine wk_skip (hK _ _ ?_); clear hK K) | (refine wk_label (hK _ _ ?_); clear hK K) | refine wk_scope ?_ | refine wk_block ?_ | refine wk_cond_t rfl ?_ | refine wk_cond_f rfl ?_ | (refine wk_exit ?_; (repeat (refine blockK_other rfl ?_)); refine blockK_same ?_; try ((repeat ((fail_if_success (refine hK _ _ ?_)); clear hK K)); refine hK _ _ ?_; clear hK K)) | (refine a_bin ?_ ?_ <;> intro _ <;> try (exfalso; omega)) | refine a_ld hl ?_ | (refine a_st hl ?_; clear hl; intro _ hl) | refine a_ix (fun _ => ?_) | fail)
    refine wk_ret (retQ_tmp1 Try.results28 (by decide) rfl (by conv => lhs; whnf) ?_)
    exact ⟨congrArg Value.bool (decide_eq_decide.2 ⟨fun h => ⟨hle, h⟩, fun h => h.2⟩), he⟩
  · repeat' (first | refine a_mov ?_ | refine a_asg ?_ | refine a_binN ?_ | refine a_notd ?_ | refine a_notb ?_ | refine a_nilc ?_ | refine a_fa ?_ | refine a_ext ?_ | refine a_lenv ?_ | refine a_lens ?_ | refine a_pick_t ?_ | refine a_pick_f ?_ | refine a_not ?_ | refine a_nilf ?_ | (refine o_nil (hK _ _ ?_); clear hK K) | refine wk_reg ?_ | refine wk_seq fun K hK => ?_ | (refine wk_skip (hK _ _ ?_); clear hK K) | (refine wk_label (hK _ _ ?_); clear hK K) | refine wk_scope ?_ | refine wk_block ?_ | refine wk_cond_t rfl ?_ | refine wk_cond_f rfl ?_ | (refine wk_exit ?_; (repeat (refine blockK_other rfl ?_)); refine blockK_same ?_; try ((repeat ((fail_if_success (refine hK _ _ ?_)); clear hK K)); refine hK _ _ ?_; clear hK K)) | (refine a_bin ?_ ?_ <;> intro _ <;> try (exfalso; omega)) | refine a_ld hl ?_ | (refine a_st hl ?_; clear hl; intro _ hl) | refine a_ix (fun _ => ?_) | fail)
    refine wk_ret (retQ_tmp1 Try.results28 (by decide) rfl (by conv => lhs; whnf) ?_)
    exact ⟨by rw [decide_eq_false (fun h => hle h.1)], .refl _ _⟩
end Go.Proofs

namespace Go.Ne
/-! ### Bounds -/
structure Bd (s : Net) : Prop where
  inv : Inv s
  al : s.all.length ≤ 1000
  an : s.all.Nodup
  on : ∀ a, ∀ t ∈ texts s a, t ∈ s.all
  q : ∀ a b, (s.q a b).length ≤ 100
  m : ∀ a b, ∀ m ∈ s.q a b, m.texts.length ≤ 1000
theorem sub_len : ∀ {l m : List Tx}, l.Nodup → (∀ x ∈ l, x ∈ m) → l.length ≤ m.length
  | [], _, _, _ => Nat.zero_le _
  | x :: l, m, hn, hs => by
    rw [List.nodup_cons] at hn
    have hx : x ∈ m := hs x List.mem_cons_self
    have h1 := sub_len (l := l) (m := m.erase x) hn.2 fun y hy => (List.mem_erase_of_ne (show y ≠ x from fun e => hn.1 (e ▸ hy))).2 (hs y (List.mem_cons_of_mem _ hy))
    have h2 := List.length_erase_of_mem hx
    have h3 : 0 < m.length := List.length_pos_of_mem hx
    rw [List.length_cons]; omega
theorem Bd.len {s : Net} (h : Bd s) (a : Nat) : (texts s a).length ≤ 1000 := Nat.le_trans (sub_len (h.inv.nd a) (h.on a)) h.al
theorem Bd.new (n : Nat) : Bd (new n) := ⟨.new n, by simp [Ne.new], by simp [Ne.new], by simp [Ne.new, texts], by simp [Ne.new], by simp [Ne.new]⟩
theorem Bd.put {s : Net} (h : Bd s) (i : Nat) (t : Tx) : Bd (put s i t) := by
  refine ⟨h.inv.put i t, ?_, ?_, ?_, ?_, ?_⟩
  all_goals unfold Ne.put
  all_goals split
  all_goals (first | exact h.al | exact h.an | exact h.on | exact h.q | exact h.m | skip)
  all_goals rename_i hE
  · show (addT s.all t).length ≤ 1000
    unfold addT
    split
    · exact h.al
    · rename_i hn
      rw [List.length_append, List.length_singleton]
      have := h.al
      by_cases e : s.all.length = 1000
      · exfalso
        unfold putE at hE
        by_cases e1 : s.n ≤ i
        · rw [if_pos e1] at hE; omega
        · by_cases e2 : 20000 < t.length
          · rw [if_neg e1, if_pos e2] at hE; omega
          · rw [if_neg e1, if_neg e2, if_pos ⟨hn, e⟩] at hE; omega
      · omega
  · exact nodup_addT h.an
  · intro a x hx
    show x ∈ addT s.all t
    rw [mem_addT]
    unfold texts at hx
    by_cases e : a = i
    · subst e
      simp only [upd_same] at hx
      rcases mem_addT.1 hx with hx | hx
      · exact .inl (h.on a x hx)
      · exact .inr hx
    · simp only [upd_ne _ _ e] at hx
      exact .inl (h.on a x hx)
theorem Bd.send {s : Net} (h : Bd s) (a b : Nat) : Bd (send s a b) := by
  refine ⟨h.inv.send a b, ?_, ?_, ?_, ?_, ?_⟩
  all_goals unfold Ne.send
  all_goals split
  all_goals (first | exact h.al | exact h.an | exact h.on | exact h.q | exact h.m | skip)
  all_goals rename_i hE
  · intro x y
    show (upd2 s.q a b (s.q a b ++ [msg s a b]) x y).length ≤ 100
    by_cases e : x = a ∧ y = b
    · obtain ⟨rfl, rfl⟩ := e
      rw [upd2_same, List.length_append, List.length_singleton]
      have h1 := h.q x y
      by_cases e : (s.q x y).length = 100
      · exfalso
        unfold sendE at hE
        by_cases e1 : pair s x y = false
        · rw [if_pos e1] at hE; omega
        · by_cases e2 : cutA s x y = true
          · rw [if_neg e1, if_pos e2] at hE; omega
          · rw [if_neg e1, if_neg e2, if_pos e] at hE; omega
      · omega
    · rw [upd2_ne _ _ e]; exact h.q x y
  · intro x y m hm
    have hm : m ∈ upd2 s.q a b (s.q a b ++ [msg s a b]) x y := hm
    by_cases e : x = a ∧ y = b
    · obtain ⟨rfl, rfl⟩ := e
      rw [upd2_same] at hm
      rcases List.mem_append.1 hm with hm | hm
      · exact h.m x y m hm
      · obtain rfl : m = msg s x y := List.mem_singleton.1 hm
        exact Nat.le_trans (lacks_sub s x y).length_le (h.len x)
    · rw [upd2_ne _ _ e] at hm; exact h.m x y m hm
theorem Bd.setCut {s : Net} (h : Bd s) (a b : Nat) (off : Bool) : Bd (setCut s a b off) := by
  have hi := h.inv.setCut a b off
  unfold Ne.setCut at hi ⊢
  split
  · rename_i hp
    rw [if_pos hp] at hi
    exact ⟨hi, h.al, h.an, h.on, h.q, h.m⟩
  · exact h
theorem Bd.deliver {s : Net} (h : Bd s) (a b : Nat) (lost again : Bool) : Bd (deliver s a b lost again) := by
  have hi := h.inv.deliver a b lost again
  have ho : Only (Ne.deliver s a b lost again) (· ∈ s.all) := Only.deliver h.inv h.on a b lost again
  have hall : (Ne.deliver s a b lost again).all = s.all := by
    unfold Ne.deliver
    split
    · cases s.q a b with
      | nil => rfl
      | cons m ms => cases again <;> cases lost <;> rfl
    · rfl
  have hq : ∀ x y, (∀ m ∈ (Ne.deliver s a b lost again).q x y, m ∈ s.q x y) ∧ ((Ne.deliver s a b lost again).q x y).length ≤ (s.q x y).length := by
    intro x y
    unfold Ne.deliver
    split
    · cases hqq : s.q a b with
      | nil => exact ⟨fun _ h => h, Nat.le_refl _⟩
      | cons m ms =>
        have key : (∀ z ∈ upd2 s.q a b ms x y, z ∈ s.q x y) ∧ (upd2 s.q a b ms x y).length ≤ (s.q x y).length := by
          by_cases e : x = a ∧ y = b
          · obtain ⟨rfl, rfl⟩ := e
            rw [upd2_same, hqq]
            exact ⟨fun z hz => List.mem_cons_of_mem _ hz, by simp⟩
          · rw [upd2_ne _ _ e]; exact ⟨fun _ h => h, Nat.le_refl _⟩
        cases again <;> cases lost
        · exact key
        · exact key
        · exact ⟨fun _ h => h, Nat.le_refl _⟩
        · exact key
    · exact ⟨fun _ h => h, Nat.le_refl _⟩
  exact ⟨hi, by rw [hall]; exact h.al, by rw [hall]; exact h.an, fun x t ht => by rw [hall]; exact ho x t ht, fun x y => Nat.le_trans (hq x y).2 (h.q x y), fun x y m hm => h.m x y m ((hq x y).1 m hm)⟩
theorem Bd.doOp {s : Net} (h : Bd s) (o : Opn) : Bd (doOp s o) := by
  unfold Ne.doOp
  split
  · exact h.put _ _
  split
  · exact h.send _ _
  split
  · exact h.deliver _ _ _ _
  · exact h.setCut _ _ _
end Go.Ne
