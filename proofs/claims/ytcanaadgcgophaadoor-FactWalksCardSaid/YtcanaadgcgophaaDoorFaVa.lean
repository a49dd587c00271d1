/-
  Domains: fact.Valid.
-/
import Derived.Test.YtcanaadgcgophaaDoorFaDo
import Derived.Test.YtcanaadgcgophaaDoorFaIs
set_option linter.unusedVariables false
set_option linter.unusedSimpArgs false
set_option linter.unnecessarySimpa false
set_option maxRecDepth 10000
namespace Go.Fo
open Go.Lexs Go.Fin

theorem valid_bad {F : List Fact} {i : Nat} (hi : i < F.length) (h : factOk F[i] = false ∨ F[i].name ∈ (F.take i).map (·.name)) : validD F = false := by
  unfold validD
  rcases h with h | h
  · have : F.all factOk = false := List.all_eq_false.2 ⟨_, List.getElem_mem hi, by simp [h]⟩
    rw [this]; rfl
  · have : ¬ (F.map (·.name)).Nodup := fun hn => by
      have h1 : F.map (·.name) = (F.take i).map (·.name) ++ (F.drop i).map (·.name) := by rw [← List.map_append, List.take_append_drop]
      rw [h1, List.nodup_append] at hn
      exact hn.2.2 _ h _ (List.mem_map.2 ⟨F[i], by rw [List.drop_eq_getElem_cons hi]; exact List.mem_cons_self, rfl⟩) rfl
    rw [decide_eq_false this]
    simp

theorem valid_good {F : List Fact} (h : ∀ i (hi : i < F.length), factOk F[i] = true ∧ F[i].name ∉ (F.take i).map (·.name)) : validD F = decide (F.length ≤ 60) := by
  have h1 : F.all factOk = true := List.all_eq_true.2 fun f hf => by
    obtain ⟨i, hi, rfl⟩ := List.mem_iff_getElem.1 hf
    exact (h i hi).1
  have h2 : ∀ i, i ≤ F.length → ((F.take i).map (·.name)).Nodup := by
    intro i
    induction i with
    | zero => simp
    | succ i ih =>
      intro hi
      rw [List.take_succ_eq_append_getElem (by omega), List.map_append, List.nodup_append]
      refine ⟨ih (by omega), by simp, ?_⟩
      intro a ha b hb
      simp only [List.map_cons, List.map_nil, List.mem_singleton] at hb
      subst hb
      rintro rfl
      exact (h i (by omega)).2 ha
  have h3 := h2 F.length (Nat.le_refl _)
  rw [List.take_of_length_le (Nat.le_refl _)] at h3
  unfold validD
  rw [h1, decide_eq_true h3]
  rfl

def facA (f : Fact) : Prop := (f.kind = 1 ∧ f.lo = 0 ∧ f.hi = 1) ∨ ((f.kind = 2 ∨ f.kind = 3) ∧ 0 ≤ f.lo ∧ f.lo ≤ f.hi ∧ f.hi ≤ 1000000)
theorem factOk_iff (f : Fact) : factOk f = true ↔ ((f.kind = 1 ∧ f.lo = 0 ∧ f.hi = 1) ∨ ((f.kind = 2 ∨ f.kind = 3) ∧ 0 ≤ f.lo ∧ f.lo ≤ f.hi ∧ f.hi ≤ 1000000)) ∧ Nm f.name = true := by
  unfold factOk
  simp only [Bool.and_eq_true, Bool.or_eq_true, decide_eq_true_eq]
  constructor
  · rintro ⟨h | h, h2⟩
    · exact ⟨.inl ⟨h.1.1, h.1.2, h.2⟩, h2⟩
    · exact ⟨.inr ⟨h.1.1.1, h.1.1.2, h.1.2, h.2⟩, h2⟩
  · rintro ⟨h | h, h2⟩
    · exact ⟨.inl ⟨⟨h.1, h.2.1⟩, h.2.2⟩, h2⟩
    · exact ⟨.inr ⟨⟨⟨h.1, h.2.1⟩, h.2.2.1⟩, h.2.2.2⟩, h2⟩
theorem factOk_no {f : Fact} (h : ¬ ((f.kind = 1 ∧ f.lo = 0 ∧ f.hi = 1) ∨ ((f.kind = 2 ∨ f.kind = 3) ∧ 0 ≤ f.lo ∧ f.lo ≤ f.hi ∧ f.hi ≤ 1000000))) : factOk f = false := by
  cases hf : factOk f
  · rfl
  · exact absurd ((factOk_iff f).1 hf).1 h
theorem factOk_nm {f : Fact} (h : Nm f.name = false) : factOk f = false := by
  cases hf : factOk f
  · rfl
  · rw [((factOk_iff f).1 hf).2] at h; cases h
theorem factOk_yes {f : Fact} (h : (f.kind = 1 ∧ f.lo = 0 ∧ f.hi = 1) ∨ ((f.kind = 2 ∨ f.kind = 3) ∧ 0 ≤ f.lo ∧ f.lo ≤ f.hi ∧ f.hi ≤ 1000000)) (hn : Nm f.name = true) : factOk f = true := (factOk_iff f).2 ⟨h, hn⟩
end Go.Fo

namespace Go.Proofs
open Go Go.Pd Go.Lexs Go.Fin Go.Fo
attribute [local irreducible] OpsL W RetQ OpsQ OpsC

theorem get_step {F : List Fact} {k : Nat} (hk : k < F.length) {l : List (List UInt8 × Value)} (h : ∀ s, Pd.get l s = if s ∈ (F.take k).map (·.name) then some (.bool true) else none) :
    ∀ s, Pd.get (ins l F[k].name (.bool true)) s = if s ∈ (F.take (k + 1)).map (·.name) then some (.bool true) else none := fun s => by
  rw [get_ins, h s, List.take_succ_eq_append_getElem hk, List.map_append]
  by_cases h1 : s = F[k].name
  · rw [if_pos h1, if_pos]; simp [h1]
  · rw [if_neg h1]
    by_cases h2 : s ∈ (F.take k).map (·.name)
    · rw [if_pos h2, if_pos]; exact List.mem_append_left _ h2
    · rw [if_neg h2, if_neg]
      intro h3
      rcases List.mem_append.1 h3 with h3 | h3
      · exact h2 h3
      · simp at h3; exact h1 h3

theorem keyName : Key Tryd.prog 9 str := key_str rfl

set_option maxHeartbeats 4000000 in
theorem valid_calls {F : List Fact} {v : Value} {w : World} (hd : Sl w v 4 (factsL F)) (hF : F.length ≤ 9223372036854775806) (hn : ∀ f ∈ F, f.name.length ≤ 9223372036854775806) :
    Calls Tryd.prog 17 #[.agg #[v]] w (fun e w' => ∃ x, e = .returned x ∧ x = .bool (validD F) ∧ Ext w w') := by
  obtain ⟨pa, ca, rfl, -⟩ := hd.shape (factsL_len F) (by omega)
  refine calls_of Tryd.func17 rfl Tryd.ntmps17 rfl ?_
  refine wk_seq fun K hK => ?_
  refine wk_reg ?_
  refine o_box (LH.start w (fun _ => False)) [.slice pa F.length ca] rfl rfl rfl ?_
  intro b1 w1 hb1 hl
  repeat' (first | refine a_mov ?_ | refine a_asg ?_ | refine a_binN ?_ | refine a_notd ?_ | refine a_notb ?_ | refine a_nilc ?_ | refine a_fa ?_ | refine a_ext ?_ | refine a_lenv ?_ | refine a_lens ?_ | refine a_pick_t ?_ | refine a_pick_f ?_ | refine a_not ?_ | refine a_nilf ?_ | (refine o_nil (hK _ _ ?_); clear hK K) | refine wk_reg ?_ | refine wk_seq fun K hK => ?_ | (refine wk_skip (hK _ _ ?_); clear hK K) | (refine wk_label (hK _ _ ?_); clear hK K) | refine wk_scope ?_ | refine wk_block ?_ | refine wk_cond_t rfl ?_ | refine wk_cond_f rfl ?_ | (refine wk_exit ?_; (repeat (refine blockK_other rfl ?_)); refine blockK_same ?_; try ((repeat ((fail_if_success (refine hK _ _ ?_)); clear hK K)); refine hK _ _ ?_; clear hK K)) | (refine a_bin ?_ ?_ <;> intro _ <;> try (exfalso; omega)) | refine a_ld hl ?_ | (refine a_st hl ?_; clear hl; intro _ hl) | refine a_ix (fun _ => ?_) | fail)
  refine o_makeMap hl rfl ?_
  clear hl
  intro bm w2 hbm hl
  repeat' (first | refine a_mov ?_ | refine a_asg ?_ | refine a_binN ?_ | refine a_notd ?_ | refine a_notb ?_ | refine a_nilc ?_ | refine a_fa ?_ | refine a_ext ?_ | refine a_lenv ?_ | refine a_lens ?_ | refine a_pick_t ?_ | refine a_pick_f ?_ | refine a_not ?_ | refine a_nilf ?_ | (refine o_nil (hK _ _ ?_); clear hK K) | refine wk_reg ?_ | refine wk_seq fun K hK => ?_ | (refine wk_skip (hK _ _ ?_); clear hK K) | (refine wk_label (hK _ _ ?_); clear hK K) | refine wk_scope ?_ | refine wk_block ?_ | refine wk_cond_t rfl ?_ | refine wk_cond_f rfl ?_ | (refine wk_exit ?_; (repeat (refine blockK_other rfl ?_)); refine blockK_same ?_; try ((repeat ((fail_if_success (refine hK _ _ ?_)); clear hK K)); refine hK _ _ ?_; clear hK K)) | (refine a_bin ?_ ?_ <;> intro _ <;> try (exfalso; omega)) | refine a_ld hl ?_ | (refine a_st hl ?_; clear hl; intro _ hl) | refine a_ix (fun _ => ?_) | refine a_row (hl.rowL (vs := [.slice pa F.length ca]) 1 0 1 rfl) ?_)
  refine wk_loopH [] rfl (fun k : Nat => [(1, .pointer (some ⟨b1, 0, none⟩)), (3, .map (some bm)), (10, .slice pa F.length ca), (11, .int .i64 (F.length : Int)), (12, .int .i64 (k : Int))]) (fun k w' => (k ≤ F.length ∧ ∀ i (hi : i < F.length), i < k → factOk F[i] = true ∧ F[i].name ∉ (F.take i).map (·.name)) ∧ ∃ es c l, MapR str es l ∧ (∀ s, Pd.get l s = if s ∈ (F.take k).map (·.name) then some (.bool true) else none) ∧ LH w (fun _ => False) w' [(bm, Obj.map es c), (b1, Obj.cells #[.slice pa F.length ca] 24 (0, 0))]) (fun k => F.length - k) 0 ⟨rfl, rfl, rfl, rfl, rfl, trivial⟩ ⟨⟨by omega, fun i _ h => by omega⟩, _, _, [], .nil, fun s => by simp [Pd.get], hl⟩ ?_
  clear hl w2
  rintro k t w2 ⟨⟨hk, hok⟩, es, c, l, hm, hget, hl⟩
  have he := hl.done
  by_cases hk1 : k < F.length
  · obtain ⟨b2, o, hp, hr⟩ := Sl.fact (hd.ext he) rfl hk1
    have hbad := valid_bad hk1
    have hnm := hn F[k] (List.getElem_mem hk1)
    have hgk := hget F[k].name
    have hone := factL_one F[k]
    have hstep : factOk F[k] = true → F[k].name ∉ (F.take k).map (·.name) → ∀ i (hi : i < F.length), i < k + 1 → factOk F[i] = true ∧ F[i].name ∉ (F.take i).map (·.name) := fun h1 h2 i hi hik => by
      by_cases e : i = k
      · subst e; exact ⟨h1, h2⟩
      · exact hok i hi (by omega)
    have hgets := get_step hk1 (l := l)
    generalize F[k] = f at *
    clear hok
    repeat' (first | refine a_mov ?_ | refine a_asg ?_ | refine a_binN ?_ | refine a_notd ?_ | refine a_notb ?_ | refine a_nilc ?_ | refine a_fa ?_ | refine a_ext ?_ | refine a_lenv ?_ | refine a_lens ?_ | refine a_pick_t ?_ | refine a_pick_f ?_ | refine a_not ?_ | refine a_nilf ?_ | (refine o_nil (hK _ _ ?_); clear hK K) | refine wk_reg ?_ | refine wk_seq fun K hK => ?_ | (refine wk_skip (hK _ _ ?_); clear hK K) | (refine wk_label (hK _ _ ?_); clear hK K) | refine wk_scope ?_ | refine wk_block ?_ | refine wk_cond_t rfl ?_ | refine wk_cond_f rfl ?_ | (refine wk_exit ?_; (repeat (refine blockK_other rfl ?_)); refine blockK_same ?_; try ((repeat ((fail_if_success (refine hK _ _ ?_)); clear hK K)); refine hK _ _ ?_; clear hK K)) | (refine a_bin ?_ ?_ <;> intro _ <;> try (exfalso; omega)) | refine a_ld hl ?_ | (refine a_st hl ?_; clear hl; intro _ hl) | refine a_ix (fun _ => ?_) | refine a_idx (c := 4) k hp ?_ | refine a_all hr ?_)
    refine o_alloc hl [.string ⟨#[]⟩, .int .i64 0, .int .i64 0, .int .i64 0] rfl rfl ?_
    clear hl
    intro bf w3 hbf hl
    refine o_putN (us := [str f.name, .int .i64 f.kind, .int .i64 f.lo, .int .i64 f.hi]) hl rfl rfl rfl hone rfl (.all rfl rfl) ?_
    clear hl
    intro w4 hl
    have hA := factOk_iff f
    repeat' (first | refine a_mov ?_ | refine a_asg ?_ | refine a_binN ?_ | refine a_notd ?_ | refine a_notb ?_ | refine a_nilc ?_ | refine a_fa ?_ | refine a_ext ?_ | refine a_lenv ?_ | refine a_lens ?_ | refine a_pick_t ?_ | refine a_pick_f ?_ | refine a_not ?_ | refine a_nilf ?_ | (refine o_nil (hK _ _ ?_); clear hK K) | refine wk_reg ?_ | refine wk_seq fun K hK => ?_ | (refine wk_skip (hK _ _ ?_); clear hK K) | (refine wk_label (hK _ _ ?_); clear hK K) | refine wk_scope ?_ | refine wk_block ?_ | refine wk_cond_t rfl ?_ | refine wk_cond_f rfl ?_ | (refine wk_exit ?_; (repeat (refine blockK_other rfl ?_)); refine blockK_same ?_; try ((repeat ((fail_if_success (refine hK _ _ ?_)); clear hK K)); refine hK _ _ ?_; clear hK K)) | (refine a_bin ?_ ?_ <;> intro _ <;> try (exfalso; omega)) | refine a_ld hl ?_ | (refine a_st hl ?_; clear hl; intro _ hl) | refine a_ix (fun _ => ?_) | fail)
    all_goals first
      | (refine wk_ret (retQ_tmp1 Tryd.results17 (by decide) rfl (by conv => lhs; whnf) ?_)
         exact ⟨by rw [hbad (.inl (factOk_no (by omega)))], hl.done⟩)
      | (refine a_fn (isName_calls f.name hnm _) ?_
         rintro _ _ ⟨rfl, rfl⟩
         cases hN : Nm f.name
         · repeat' (first | refine a_mov ?_ | refine a_asg ?_ | refine a_binN ?_ | refine a_notd ?_ | refine a_notb ?_ | refine a_nilc ?_ | refine a_fa ?_ | refine a_ext ?_ | refine a_lenv ?_ | refine a_lens ?_ | refine a_pick_t ?_ | refine a_pick_f ?_ | refine a_not ?_ | refine a_nilf ?_ | (refine o_nil (hK _ _ ?_); clear hK K) | refine wk_reg ?_ | refine wk_seq fun K hK => ?_ | (refine wk_skip (hK _ _ ?_); clear hK K) | (refine wk_label (hK _ _ ?_); clear hK K) | refine wk_scope ?_ | refine wk_block ?_ | refine wk_cond_t rfl ?_ | refine wk_cond_f rfl ?_ | (refine wk_exit ?_; (repeat (refine blockK_other rfl ?_)); refine blockK_same ?_; try ((repeat ((fail_if_success (refine hK _ _ ?_)); clear hK K)); refine hK _ _ ?_; clear hK K)) | (refine a_bin ?_ ?_ <;> intro _ <;> try (exfalso; omega)) | refine a_ld hl ?_ | (refine a_st hl ?_; clear hl; intro _ hl) | refine a_ix (fun _ => ?_) | fail)
           refine wk_ret (retQ_tmp1 Tryd.results17 (by decide) rfl (by conv => lhs; whnf) ?_)
           exact ⟨by rw [hbad (.inl (factOk_nm hN))], hl.done⟩
         · by_cases hsn : f.name ∈ (F.take k).map (·.name)
           · rw [if_pos hsn] at hgk
             repeat' (first | refine a_mov ?_ | refine a_asg ?_ | refine a_binN ?_ | refine a_notd ?_ | refine a_notb ?_ | refine a_nilc ?_ | refine a_fa ?_ | refine a_ext ?_ | refine a_lenv ?_ | refine a_lens ?_ | refine a_pick_t ?_ | refine a_pick_f ?_ | refine a_not ?_ | refine a_nilf ?_ | (refine o_nil (hK _ _ ?_); clear hK K) | refine wk_reg ?_ | refine wk_seq fun K hK => ?_ | (refine wk_skip (hK _ _ ?_); clear hK K) | (refine wk_label (hK _ _ ?_); clear hK K) | refine wk_scope ?_ | refine wk_block ?_ | refine wk_cond_t rfl ?_ | refine wk_cond_f rfl ?_ | (refine wk_exit ?_; (repeat (refine blockK_other rfl ?_)); refine blockK_same ?_; try ((repeat ((fail_if_success (refine hK _ _ ?_)); clear hK K)); refine hK _ _ ?_; clear hK K)) | (refine a_bin ?_ ?_ <;> intro _ <;> try (exfalso; omega)) | refine a_ld hl ?_ | (refine a_st hl ?_; clear hl; intro _ hl) | refine a_ix (fun _ => ?_) | (refine o_lookup f.name hm (hl.get 1 rfl) keyName rfl rfl rfl rfl rfl ?_; rw [hgk]))
             refine wk_ret (retQ_tmp1 Tryd.results17 (by decide) rfl (by conv => lhs; whnf) ?_)
             exact ⟨by rw [hbad (.inr hsn)], hl.done⟩
           · rw [if_neg hsn] at hgk
             repeat' (first | refine a_mov ?_ | refine a_asg ?_ | refine a_binN ?_ | refine a_notd ?_ | refine a_notb ?_ | refine a_nilc ?_ | refine a_fa ?_ | refine a_ext ?_ | refine a_lenv ?_ | refine a_lens ?_ | refine a_pick_t ?_ | refine a_pick_f ?_ | refine a_not ?_ | refine a_nilf ?_ | (refine o_nil (hK _ _ ?_); clear hK K) | refine wk_reg ?_ | refine wk_seq fun K hK => ?_ | (refine wk_skip (hK _ _ ?_); clear hK K) | (refine wk_label (hK _ _ ?_); clear hK K) | refine wk_scope ?_ | refine wk_block ?_ | refine wk_cond_t rfl ?_ | refine wk_cond_f rfl ?_ | (refine wk_exit ?_; (repeat (refine blockK_other rfl ?_)); refine blockK_same ?_; try ((repeat ((fail_if_success (refine hK _ _ ?_)); clear hK K)); refine hK _ _ ?_; clear hK K)) | (refine a_bin ?_ ?_ <;> intro _ <;> try (exfalso; omega)) | refine a_ld hl ?_ | (refine a_st hl ?_; clear hl; intro _ hl) | refine a_ix (fun _ => ?_) | (refine o_lookup f.name hm (hl.get 1 rfl) keyName rfl rfl rfl rfl rfl ?_; rw [hgk]))
             refine o_mapUpdate f.name hl 1 rfl hm keyName rfl rfl rfl rfl rfl ?_
             clear hl
             intro w5 es' c' hm' hl
             repeat' (first | refine a_mov ?_ | refine a_asg ?_ | refine a_binN ?_ | refine a_notd ?_ | refine a_notb ?_ | refine a_nilc ?_ | refine a_fa ?_ | refine a_ext ?_ | refine a_lenv ?_ | refine a_lens ?_ | refine a_pick_t ?_ | refine a_pick_f ?_ | refine a_not ?_ | refine a_nilf ?_ | (refine o_nil (hK _ _ ?_); clear hK K) | refine wk_reg ?_ | refine wk_seq fun K hK => ?_ | (refine wk_skip (hK _ _ ?_); clear hK K) | (refine wk_label (hK _ _ ?_); clear hK K) | refine wk_scope ?_ | refine wk_block ?_ | refine wk_cond_t rfl ?_ | refine wk_cond_f rfl ?_ | (refine wk_exit ?_; (repeat (refine blockK_other rfl ?_)); refine blockK_same ?_; try ((repeat ((fail_if_success (refine hK _ _ ?_)); clear hK K)); refine hK _ _ ?_; clear hK K)) | (refine a_bin ?_ ?_ <;> intro _ <;> try (exfalso; omega)) | refine a_ld hl ?_ | (refine a_st hl ?_; clear hl; intro _ hl) | refine a_ix (fun _ => ?_) | fail)
             exact o_nil ⟨k + 1, ⟨rfl, rfl, rfl, rfl, rfl, trivial⟩, rfl, ⟨⟨hk1, hstep (factOk_yes (by omega) hN) hsn⟩, _, _, _, hm', hgets hget, hl.sub (List.sublist_cons_self _ _)⟩, by omega⟩)
  · have hke : k = F.length := by omega
    have hgood := valid_good (F := F) fun i hi => hok i hi (by omega)
    clear hok hget
    repeat' (first | refine a_mov ?_ | refine a_asg ?_ | refine a_binN ?_ | refine a_notd ?_ | refine a_notb ?_ | refine a_nilc ?_ | refine a_fa ?_ | refine a_ext ?_ | refine a_lenv ?_ | refine a_lens ?_ | refine a_pick_t ?_ | refine a_pick_f ?_ | refine a_not ?_ | refine a_nilf ?_ | (refine o_nil (hK _ _ ?_); clear hK K) | refine wk_reg ?_ | refine wk_seq fun K hK => ?_ | (refine wk_skip (hK _ _ ?_); clear hK K) | (refine wk_label (hK _ _ ?_); clear hK K) | refine wk_scope ?_ | refine wk_block ?_ | refine wk_cond_t rfl ?_ | refine wk_cond_f rfl ?_ | (refine wk_exit ?_; (repeat (refine blockK_other rfl ?_)); refine blockK_same ?_; try ((repeat ((fail_if_success (refine hK _ _ ?_)); clear hK K)); refine hK _ _ ?_; clear hK K)) | (refine a_bin ?_ ?_ <;> intro _ <;> try (exfalso; omega)) | refine a_ld hl ?_ | (refine a_st hl ?_; clear hl; intro _ hl) | refine a_ix (fun _ => ?_) | refine a_row (hl.rowL (vs := [.slice pa F.length ca]) 1 0 1 rfl) ?_)
    all_goals (refine wk_ret (retQ_tmp1 Tryd.results17 (by decide) rfl (by conv => lhs; whnf) ?_))
    all_goals refine ⟨?_, hl.done⟩
    all_goals rw [hgood]
    all_goals first | rfl | (rw [decide_eq_true]; omega) | (rw [decide_eq_false]; omega) | (congr 1; rw [decide_eq_decide]; omega)
end Go.Proofs
