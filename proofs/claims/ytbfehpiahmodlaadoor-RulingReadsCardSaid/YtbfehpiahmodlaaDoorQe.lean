/-
  Rulings: Count.
-/
import Derived.Test.YtbfehpiahmodlaaDoorQb
import Derived.Test.YtbfehpiahmodlaaDoorPr2
set_option linter.unusedVariables false
set_option linter.unusedSimpArgs false
set_option linter.unnecessarySimpa false
set_option maxRecDepth 10000
namespace Go.Rul
open Go.Lexs Go.Fin Go.Fo
/-- Different texts, in the order in which they come first. -/
structure Dist (ks ids : List (List UInt8)) : Prop where
  le : ks.length ≤ ids.length
  iff : ks.length = ids.length ↔ ids.Nodup
  mem : ∀ s, s ∈ ks ↔ s ∈ ids
theorem Dist.nil : Dist [] [] := ⟨Nat.le_refl _, by simp, fun _ => Iff.rfl⟩
theorem Dist.snoc {ks ks' ids : List (List UInt8)} (h : Dist ks ids) (a : List UInt8) (h1 : a ∈ ks → ks' = ks) (h2 : a ∉ ks → ks' = ks ++ [a]) : Dist ks' (ids ++ [a]) := by
  have hle := h.le
  by_cases ha : a ∈ ks
  · have ha' := (h.mem a).1 ha
    rw [h1 ha]
    refine ⟨by rw [List.length_append, List.length_singleton]; omega, ⟨fun e => ?_, fun hn => ?_⟩, fun s => ?_⟩
    · rw [List.length_append, List.length_singleton] at e; omega
    · rw [List.nodup_append] at hn; exact absurd rfl (hn.2.2 a ha' a (by simp))
    · rw [List.mem_append, h.mem, List.mem_singleton]
      exact ⟨.inl, fun h' => h'.elim id fun e => e ▸ ha'⟩
  · rw [h2 ha]
    have ha' : a ∉ ids := fun h' => ha ((h.mem a).2 h')
    refine ⟨by simp only [List.length_append, List.length_singleton]; omega, ?_, fun s => by simp [h.mem]⟩
    rw [List.nodup_append, List.length_append, List.length_append]
    constructor
    · intro e
      refine ⟨h.iff.1 (by omega), by simp, fun x hx y hy => ?_⟩
      rw [List.mem_singleton.1 hy]
      rintro rfl
      exact ha' hx
    · intro hn
      rw [h.iff.2 hn.1]
theorem finalB_step (l : List Rul) (known : Int) (r : Rul) (s : List UInt8) : finalB (l ++ [r]) known s = (finalB l known s || (decide (r.id = s) && (r.fin && decide (r.known ≤ known)))) := by
  unfold finalB; rw [List.any_append]; simp
theorem finalB_not {l : List Rul} {known : Int} {s : List UInt8} (h : s ∉ l.map (·.id)) : finalB l known s = false := by
  unfold finalB
  rw [List.any_eq_false]
  intro r hr
  have : r.id ≠ s := fun e => h (List.mem_map.2 ⟨r, hr, e⟩)
  simp [this]
end Go.Rul

namespace Go.Proofs
open Go Go.Pd Go.Lexs Go.Fin Go.Fo
attribute [local irreducible] OpsL W RetQ OpsQ OpsC

theorem keyId : Key Tryd.prog 9 str := key_str rfl

/-! ### Are all valid? -/
theorem ruBad_calls (r : Rul.Rul) (kv : Value) (w : World) (hk : KA w r.read.kids kv) (hc : cnt r.read ≤ 1000000) (hn : RuLen r) :
    Calls Tryd.prog 34 #[.agg (rulC r kv).toArray] w (fun e w' => ∃ x, e = .returned x ∧ x = .bool (!Rul.validB r) ∧ Ext w w') := by
  have hone := rulC_one hk
  refine calls_of Tryd.func34 rfl Tryd.ntmps34 rfl ?_
  refine wk_seq fun K hK => ?_
  refine wk_reg ?_
  refine o_box (LH.start w (fun _ => False)) [str (r).id, str (r).tgt, .int .i64 (r).kind, .int .i64 (r).fro, .int .i64 (r).til, .int .i64 (r).read.op, str (r).read.name, .int .i64 (r).read.cmp, .int .i64 (r).read.num, kv, .int .i64 (r).known, .bool (r).fin, str (r).lifts] rfl rfl rfl ?_
  intro b w1 hb hl
  repeat' (first | refine a_mov ?_ | refine a_asg ?_ | refine a_binN ?_ | refine a_notd ?_ | refine a_notb ?_ | refine a_nilc ?_ | refine a_fa ?_ | refine a_ext ?_ | refine a_lenv ?_ | refine a_lens ?_ | refine a_pick_t ?_ | refine a_pick_f ?_ | refine a_not ?_ | refine a_nilf ?_ | (refine o_nil (hK _ _ ?_); clear hK K) | refine wk_reg ?_ | refine wk_seq fun K hK => ?_ | (refine wk_skip (hK _ _ ?_); clear hK K) | (refine wk_label (hK _ _ ?_); clear hK K) | refine wk_scope ?_ | refine wk_block ?_ | refine wk_cond_t rfl ?_ | refine wk_cond_f rfl ?_ | (refine wk_exit ?_; (repeat (refine blockK_other rfl ?_)); refine blockK_same ?_; try ((repeat ((fail_if_success (refine hK _ _ ?_)); clear hK K)); refine hK _ _ ?_; clear hK K)) | (refine a_bin ?_ ?_ <;> intro _ <;> try (exfalso; omega)) | refine a_ld hl ?_ | (refine a_st hl ?_; clear hl; intro _ hl) | refine a_ix (fun _ => ?_) | refine a_all (hl.rowL (vs := [str (r).id, str (r).tgt, .int .i64 (r).kind, .int .i64 (r).fro, .int .i64 (r).til, .int .i64 (r).read.op, str (r).read.name, .int .i64 (r).read.cmp, .int .i64 (r).read.num, kv, .int .i64 (r).known, .bool (r).fin, str (r).lifts]) 0 0 13 rfl) ?_)
  refine a_fn (ruValid_calls r kv w1 (hk.ext hl.done) hc hn) ?_
  rintro _ w2 ⟨rfl, he⟩
  repeat' (first | refine a_mov ?_ | refine a_asg ?_ | refine a_binN ?_ | refine a_notd ?_ | refine a_notb ?_ | refine a_nilc ?_ | refine a_fa ?_ | refine a_ext ?_ | refine a_lenv ?_ | refine a_lens ?_ | refine a_pick_t ?_ | refine a_pick_f ?_ | refine a_not ?_ | refine a_nilf ?_ | (refine o_nil (hK _ _ ?_); clear hK K) | refine wk_reg ?_ | refine wk_seq fun K hK => ?_ | (refine wk_skip (hK _ _ ?_); clear hK K) | (refine wk_label (hK _ _ ?_); clear hK K) | refine wk_scope ?_ | refine wk_block ?_ | refine wk_cond_t rfl ?_ | refine wk_cond_f rfl ?_ | (refine wk_exit ?_; (repeat (refine blockK_other rfl ?_)); refine blockK_same ?_; try ((repeat ((fail_if_success (refine hK _ _ ?_)); clear hK K)); refine hK _ _ ?_; clear hK K)) | (refine a_bin ?_ ?_ <;> intro _ <;> try (exfalso; omega)) | refine a_ld hl ?_ | (refine a_st hl ?_; clear hl; intro _ hl) | refine a_ix (fun _ => ?_) | fail)
  refine wk_ret (retQ_tmp1 Tryd.results34 (by decide) rfl (by conv => lhs; whnf) ?_)
  exact ⟨rfl, hl.done.trans he⟩

theorem ruIdx_calls {l : List Rul.Rul} {v : Value} {w : World} (hL : RulsAt w l v) (hlen : l.length ≤ 1000000) (hok : ∀ r ∈ l, cnt r.read ≤ 1000000 ∧ RuLen r) :
    Calls Tryd.prog 33 #[v, .func (.func 34) #[] #[]] w (fun e w' => ∃ x, e = .returned x ∧ x = .bool (!l.all Rul.validB) ∧ Ext w w') := by
  obtain ⟨pa, ca, rfl, -⟩ := hL.shape
  have hc : Calls Tryd.prog 49 #[.slice pa l.length ca, .func (.func 34) #[] #[]] w (fun e w' => ∃ x, e = .returned x ∧ (∃ z : Int, x = .int .i64 z ∧ (0 ≤ z ↔ l.all Rul.validB = false)) ∧ Ext w w') := by
    refine calls_of Tryd.func49 rfl Tryd.ntmps49 rfl ?_
    repeat' (first | refine a_mov ?_ | refine a_asg ?_ | refine a_binN ?_ | refine a_notd ?_ | refine a_notb ?_ | refine a_nilc ?_ | refine a_fa ?_ | refine a_ext ?_ | refine a_lenv ?_ | refine a_lens ?_ | refine a_pick_t ?_ | refine a_pick_f ?_ | refine a_not ?_ | refine a_nilf ?_ | (refine o_nil (hK _ _ ?_); clear hK K) | refine wk_reg ?_ | refine wk_seq fun K hK => ?_ | (refine wk_skip (hK _ _ ?_); clear hK K) | (refine wk_label (hK _ _ ?_); clear hK K) | refine wk_scope ?_ | refine wk_block ?_ | refine wk_cond_t rfl ?_ | refine wk_cond_f rfl ?_ | (refine wk_exit ?_; (repeat (refine blockK_other rfl ?_)); refine blockK_same ?_; try ((repeat ((fail_if_success (refine hK _ _ ?_)); clear hK K)); refine hK _ _ ?_; clear hK K)) | (refine a_bin ?_ ?_ <;> intro _ <;> try (exfalso; omega)) | refine a_ld hl ?_ | (refine a_st hl ?_; clear hl; intro _ hl) | refine a_ix (fun _ => ?_) | fail)
    refine wk_loopH [] rfl (fun k : Nat => [(0, .slice pa l.length ca), (1, .func (.func 34) #[] #[]), (7, .int .i64 (l.length : Int)), (8, .int .i64 (k : Int))]) (fun k w' => (k ≤ l.length ∧ ∀ j (hj : j < l.length), j < k → Rul.validB l[j] = true) ∧ Ext w w') (fun k => l.length - k) 0 ⟨rfl, rfl, rfl, rfl, trivial⟩ ⟨⟨by omega, fun j hj h => by omega⟩, .refl _ _⟩ ?_
    rintro k t w1 ⟨⟨hk, hno⟩, he⟩
    by_cases hk1 : k < l.length
    · obtain ⟨b, o, kv, hp, hr, hkk⟩ := (hL.ext he).at hk1
      have hok1 := hok _ (List.getElem_mem hk1)
      repeat' (first | refine a_mov ?_ | refine a_asg ?_ | refine a_binN ?_ | refine a_notd ?_ | refine a_notb ?_ | refine a_nilc ?_ | refine a_fa ?_ | refine a_ext ?_ | refine a_lenv ?_ | refine a_lens ?_ | refine a_pick_t ?_ | refine a_pick_f ?_ | refine a_not ?_ | refine a_nilf ?_ | (refine o_nil (hK _ _ ?_); clear hK K) | refine wk_reg ?_ | refine wk_seq fun K hK => ?_ | (refine wk_skip (hK _ _ ?_); clear hK K) | (refine wk_label (hK _ _ ?_); clear hK K) | refine wk_scope ?_ | refine wk_block ?_ | refine wk_cond_t rfl ?_ | refine wk_cond_f rfl ?_ | (refine wk_exit ?_; (repeat (refine blockK_other rfl ?_)); refine blockK_same ?_; try ((repeat ((fail_if_success (refine hK _ _ ?_)); clear hK K)); refine hK _ _ ?_; clear hK K)) | (refine a_bin ?_ ?_ <;> intro _ <;> try (exfalso; omega)) | refine a_ld hl ?_ | (refine a_st hl ?_; clear hl; intro _ hl) | refine a_ix (fun _ => ?_) | refine a_idx (c := 13) k hp ?_ | refine a_all hr ?_)
      refine a_fv (ruBad_calls l[k] kv w1 hkk hok1.1 hok1.2) ?_
      rintro _ w3 ⟨rfl, he3⟩
      cases hd : Rul.validB l[k]
      · repeat' (first | refine a_mov ?_ | refine a_asg ?_ | refine a_binN ?_ | refine a_notd ?_ | refine a_notb ?_ | refine a_nilc ?_ | refine a_fa ?_ | refine a_ext ?_ | refine a_lenv ?_ | refine a_lens ?_ | refine a_pick_t ?_ | refine a_pick_f ?_ | refine a_not ?_ | refine a_nilf ?_ | (refine o_nil (hK _ _ ?_); clear hK K) | refine wk_reg ?_ | refine wk_seq fun K hK => ?_ | (refine wk_skip (hK _ _ ?_); clear hK K) | (refine wk_label (hK _ _ ?_); clear hK K) | refine wk_scope ?_ | refine wk_block ?_ | refine wk_cond_t rfl ?_ | refine wk_cond_f rfl ?_ | (refine wk_exit ?_; (repeat (refine blockK_other rfl ?_)); refine blockK_same ?_; try ((repeat ((fail_if_success (refine hK _ _ ?_)); clear hK K)); refine hK _ _ ?_; clear hK K)) | (refine a_bin ?_ ?_ <;> intro _ <;> try (exfalso; omega)) | refine a_ld hl ?_ | (refine a_st hl ?_; clear hl; intro _ hl) | refine a_ix (fun _ => ?_) | fail)
        refine wk_ret (retQ_tmp1 Tryd.results49 (by decide) rfl (by conv => lhs; whnf) ?_)
        refine ⟨⟨(k : Int), rfl, fun _ => ?_, fun _ => by omega⟩, he.trans he3⟩
        rw [List.all_eq_false]
        exact ⟨l[k], List.getElem_mem hk1, by rw [hd]; simp⟩
      · repeat' (first | refine a_mov ?_ | refine a_asg ?_ | refine a_binN ?_ | refine a_notd ?_ | refine a_notb ?_ | refine a_nilc ?_ | refine a_fa ?_ | refine a_ext ?_ | refine a_lenv ?_ | refine a_lens ?_ | refine a_pick_t ?_ | refine a_pick_f ?_ | refine a_not ?_ | refine a_nilf ?_ | (refine o_nil (hK _ _ ?_); clear hK K) | refine wk_reg ?_ | refine wk_seq fun K hK => ?_ | (refine wk_skip (hK _ _ ?_); clear hK K) | (refine wk_label (hK _ _ ?_); clear hK K) | refine wk_scope ?_ | refine wk_block ?_ | refine wk_cond_t rfl ?_ | refine wk_cond_f rfl ?_ | (refine wk_exit ?_; (repeat (refine blockK_other rfl ?_)); refine blockK_same ?_; try ((repeat ((fail_if_success (refine hK _ _ ?_)); clear hK K)); refine hK _ _ ?_; clear hK K)) | (refine a_bin ?_ ?_ <;> intro _ <;> try (exfalso; omega)) | refine a_ld hl ?_ | (refine a_st hl ?_; clear hl; intro _ hl) | refine a_ix (fun _ => ?_) | fail)
        exact o_nil ⟨k + 1, ⟨rfl, rfl, rfl, rfl, trivial⟩, rfl, ⟨⟨hk1, fun j hj hjk => by
          by_cases e : j = k
          · subst e; exact hd
          · exact hno j hj (by omega)⟩, he.trans he3⟩, by omega⟩
    · have hall : l.all Rul.validB = true := List.all_eq_true.2 fun x hx => by
        obtain ⟨j, hj, rfl⟩ := List.mem_iff_getElem.1 hx
        exact hno j hj (by omega)
      clear hno
      repeat' (first | refine a_mov ?_ | refine a_asg ?_ | refine a_binN ?_ | refine a_notd ?_ | refine a_notb ?_ | refine a_nilc ?_ | refine a_fa ?_ | refine a_ext ?_ | refine a_lenv ?_ | refine a_lens ?_ | refine a_pick_t ?_ | refine a_pick_f ?_ | refine a_not ?_ | refine a_nilf ?_ | (refine o_nil (hK _ _ ?_); clear hK K) | refine wk_reg ?_ | refine wk_seq fun K hK => ?_ | (refine wk_skip (hK _ _ ?_); clear hK K) | (refine wk_label (hK _ _ ?_); clear hK K) | refine wk_scope ?_ | refine wk_block ?_ | refine wk_cond_t rfl ?_ | refine wk_cond_f rfl ?_ | (refine wk_exit ?_; (repeat (refine blockK_other rfl ?_)); refine blockK_same ?_; try ((repeat ((fail_if_success (refine hK _ _ ?_)); clear hK K)); refine hK _ _ ?_; clear hK K)) | (refine a_bin ?_ ?_ <;> intro _ <;> try (exfalso; omega)) | refine a_ld hl ?_ | (refine a_st hl ?_; clear hl; intro _ hl) | refine a_ix (fun _ => ?_) | fail)
      refine wk_ret (retQ_tmp1 Tryd.results49 (by decide) rfl (by conv => lhs; whnf) ?_)
      exact ⟨⟨-1, rfl, by rw [hall]; simp⟩, he⟩
  refine calls_of Tryd.func33 rfl Tryd.ntmps33 rfl ?_
  repeat' (first | refine a_mov ?_ | refine a_asg ?_ | refine a_binN ?_ | refine a_notd ?_ | refine a_notb ?_ | refine a_nilc ?_ | refine a_fa ?_ | refine a_ext ?_ | refine a_lenv ?_ | refine a_lens ?_ | refine a_pick_t ?_ | refine a_pick_f ?_ | refine a_not ?_ | refine a_nilf ?_ | (refine o_nil (hK _ _ ?_); clear hK K) | refine wk_reg ?_ | refine wk_seq fun K hK => ?_ | (refine wk_skip (hK _ _ ?_); clear hK K) | (refine wk_label (hK _ _ ?_); clear hK K) | refine wk_scope ?_ | refine wk_block ?_ | refine wk_cond_t rfl ?_ | refine wk_cond_f rfl ?_ | (refine wk_exit ?_; (repeat (refine blockK_other rfl ?_)); refine blockK_same ?_; try ((repeat ((fail_if_success (refine hK _ _ ?_)); clear hK K)); refine hK _ _ ?_; clear hK K)) | (refine a_bin ?_ ?_ <;> intro _ <;> try (exfalso; omega)) | refine a_ld hl ?_ | (refine a_st hl ?_; clear hl; intro _ hl) | refine a_ix (fun _ => ?_) | fail)
  refine a_fn hc ?_
  rintro _ w2 ⟨⟨z, rfl, hz⟩, he⟩
  cases ha : l.all Rul.validB
  · have := hz.2 ha
    repeat' (first | refine a_mov ?_ | refine a_asg ?_ | refine a_binN ?_ | refine a_notd ?_ | refine a_notb ?_ | refine a_nilc ?_ | refine a_fa ?_ | refine a_ext ?_ | refine a_lenv ?_ | refine a_lens ?_ | refine a_pick_t ?_ | refine a_pick_f ?_ | refine a_not ?_ | refine a_nilf ?_ | (refine o_nil (hK _ _ ?_); clear hK K) | refine wk_reg ?_ | refine wk_seq fun K hK => ?_ | (refine wk_skip (hK _ _ ?_); clear hK K) | (refine wk_label (hK _ _ ?_); clear hK K) | refine wk_scope ?_ | refine wk_block ?_ | refine wk_cond_t rfl ?_ | refine wk_cond_f rfl ?_ | (refine wk_exit ?_; (repeat (refine blockK_other rfl ?_)); refine blockK_same ?_; try ((repeat ((fail_if_success (refine hK _ _ ?_)); clear hK K)); refine hK _ _ ?_; clear hK K)) | (refine a_bin ?_ ?_ <;> intro _ <;> try (exfalso; omega)) | refine a_ld hl ?_ | (refine a_st hl ?_; clear hl; intro _ hl) | refine a_ix (fun _ => ?_) | fail)
    refine wk_ret (retQ_tmp1 Tryd.results33 (by decide) rfl (by conv => lhs; whnf) ?_)
    exact ⟨by rw [ha]; rfl, he⟩
  · have : z < 0 := by
      rcases Int.lt_or_le z 0 with h | h
      · exact h
      · rw [hz.1 h] at ha; cases ha
    repeat' (first | refine a_mov ?_ | refine a_asg ?_ | refine a_binN ?_ | refine a_notd ?_ | refine a_notb ?_ | refine a_nilc ?_ | refine a_fa ?_ | refine a_ext ?_ | refine a_lenv ?_ | refine a_lens ?_ | refine a_pick_t ?_ | refine a_pick_f ?_ | refine a_not ?_ | refine a_nilf ?_ | (refine o_nil (hK _ _ ?_); clear hK K) | refine wk_reg ?_ | refine wk_seq fun K hK => ?_ | (refine wk_skip (hK _ _ ?_); clear hK K) | (refine wk_label (hK _ _ ?_); clear hK K) | refine wk_scope ?_ | refine wk_block ?_ | refine wk_cond_t rfl ?_ | refine wk_cond_f rfl ?_ | (refine wk_exit ?_; (repeat (refine blockK_other rfl ?_)); refine blockK_same ?_; try ((repeat ((fail_if_success (refine hK _ _ ?_)); clear hK K)); refine hK _ _ ?_; clear hK K)) | (refine a_bin ?_ ?_ <;> intro _ <;> try (exfalso; omega)) | refine a_ld hl ?_ | (refine a_st hl ?_; clear hl; intro _ hl) | refine a_ix (fun _ => ?_) | fail)
    refine wk_ret (retQ_tmp1 Tryd.results33 (by decide) rfl (by conv => lhs; whnf) ?_)
    exact ⟨by rw [ha]; rfl, he⟩

/-! ### Backward -/
set_option maxHeartbeats 2000000 in
theorem backward1_calls {l : List Rul.Rul} {lv fv : Value} {bs : Nat} {w0 : World} (J : Nat → World → Prop) (hlen : l.length ≤ 1000000) (hL : RulsAt w0 l lv) (hJ : ∀ i w, J i w → Ext w0 w ∧ w.cell? ⟨bs, 0, none⟩ = some lv)
    (hY : ∀ i w kv (hi : i < l.length), J (i + 1) w → KA w0 l[i].read.kids kv → CallV Tryd.prog fv #[.int .i64 (i : Int), .agg (rulC l[i] kv).toArray] w (fun v w2 => v = .bool true ∧ J i w2)) {w : World} (hj : J l.length w) :
    Calls Tryd.prog 58 #[fv, .pointer (some ⟨bs, 0, none⟩)] w (fun e w' => ∃ x, e = .returned x ∧ J 0 w') := by
  obtain ⟨-, hc⟩ := hJ _ _ hj
  obtain ⟨pa, ca, rfl, -⟩ := hL.shape
  refine calls_of Tryd.func58 rfl Tryd.ntmps58 rfl ?_
  repeat' (first | refine a_mov ?_ | refine a_asg ?_ | refine a_binN ?_ | refine a_notd ?_ | refine a_notb ?_ | refine a_nilc ?_ | refine a_fa ?_ | refine a_ext ?_ | refine a_lenv ?_ | refine a_lens ?_ | refine a_pick_t ?_ | refine a_pick_f ?_ | refine a_not ?_ | refine a_nilf ?_ | (refine o_nil (hK _ _ ?_); clear hK K) | refine wk_reg ?_ | refine wk_seq fun K hK => ?_ | (refine wk_skip (hK _ _ ?_); clear hK K) | (refine wk_label (hK _ _ ?_); clear hK K) | refine wk_scope ?_ | refine wk_block ?_ | refine wk_cond_t rfl ?_ | refine wk_cond_f rfl ?_ | (refine wk_exit ?_; (repeat (refine blockK_other rfl ?_)); refine blockK_same ?_; try ((repeat ((fail_if_success (refine hK _ _ ?_)); clear hK K)); refine hK _ _ ?_; clear hK K)) | (refine a_bin ?_ ?_ <;> intro _ <;> try (exfalso; omega)) | refine a_ld hl ?_ | (refine a_st hl ?_; clear hl; intro _ hl) | refine a_ix (fun _ => ?_) | refine o_load rfl rfl rfl hc ?_)
  clear hc
  refine wk_loopH [] rfl (fun k : Nat => [(0, fv), (1, .pointer (some ⟨bs, 0, none⟩)), (3, .int .i64 ((k : Int) - 1))]) (fun k w' => k ≤ l.length ∧ J k w') (fun k => k) l.length ⟨rfl, rfl, rfl, trivial⟩ ⟨Nat.le_refl _, hj⟩ ?_
  clear hj
  rintro k t w1 ⟨hk, hj⟩
  obtain ⟨he, hc⟩ := hJ _ _ hj
  cases k with
  | zero =>
    repeat' (first | refine a_mov ?_ | refine a_asg ?_ | refine a_binN ?_ | refine a_notd ?_ | refine a_notb ?_ | refine a_nilc ?_ | refine a_fa ?_ | refine a_ext ?_ | refine a_lenv ?_ | refine a_lens ?_ | refine a_pick_t ?_ | refine a_pick_f ?_ | refine a_not ?_ | refine a_nilf ?_ | (refine o_nil (hK _ _ ?_); clear hK K) | refine wk_reg ?_ | refine wk_seq fun K hK => ?_ | (refine wk_skip (hK _ _ ?_); clear hK K) | (refine wk_label (hK _ _ ?_); clear hK K) | refine wk_scope ?_ | refine wk_block ?_ | refine wk_cond_t rfl ?_ | refine wk_cond_f rfl ?_ | (refine wk_exit ?_; (repeat (refine blockK_other rfl ?_)); refine blockK_same ?_; try ((repeat ((fail_if_success (refine hK _ _ ?_)); clear hK K)); refine hK _ _ ?_; clear hK K)) | (refine a_bin ?_ ?_ <;> intro _ <;> try (exfalso; omega)) | refine a_ld hl ?_ | (refine a_st hl ?_; clear hl; intro _ hl) | refine a_ix (fun _ => ?_) | fail)
    exact retQ_tmp0 rfl rfl hj
  | succ i =>
    have hi : i < l.length := by omega
    obtain ⟨b, o, kv, hp, hr, hkk⟩ := hL.at hi
    have hii : ((i + 1 : Nat) : Int) - 1 = (i : Int) := by omega
    rw [hii]
    repeat' (first | refine a_mov ?_ | refine a_asg ?_ | refine a_binN ?_ | refine a_notd ?_ | refine a_notb ?_ | refine a_nilc ?_ | refine a_fa ?_ | refine a_ext ?_ | refine a_lenv ?_ | refine a_lens ?_ | refine a_pick_t ?_ | refine a_pick_f ?_ | refine a_not ?_ | refine a_nilf ?_ | (refine o_nil (hK _ _ ?_); clear hK K) | refine wk_reg ?_ | refine wk_seq fun K hK => ?_ | (refine wk_skip (hK _ _ ?_); clear hK K) | (refine wk_label (hK _ _ ?_); clear hK K) | refine wk_scope ?_ | refine wk_block ?_ | refine wk_cond_t rfl ?_ | refine wk_cond_f rfl ?_ | (refine wk_exit ?_; (repeat (refine blockK_other rfl ?_)); refine blockK_same ?_; try ((repeat ((fail_if_success (refine hK _ _ ?_)); clear hK K)); refine hK _ _ ?_; clear hK K)) | (refine a_bin ?_ ?_ <;> intro _ <;> try (exfalso; omega)) | refine a_ld hl ?_ | (refine a_st hl ?_; clear hl; intro _ hl) | refine a_ix (fun _ => ?_) | refine o_load rfl rfl rfl hc ?_ | refine a_idx (c := 13) i hp ?_ | refine a_all (hr.ext he) ?_)
    refine o_callv (fv := fv) (args := #[.int .i64 (i : Int), .agg (rulC l[i] kv).toArray]) rfl rfl rfl (hY i w1 kv hi hj hkk) ?_
    rintro _ w2 ⟨rfl, hj2⟩
    repeat' (first | refine a_mov ?_ | refine a_asg ?_ | refine a_binN ?_ | refine a_notd ?_ | refine a_notb ?_ | refine a_nilc ?_ | refine a_fa ?_ | refine a_ext ?_ | refine a_lenv ?_ | refine a_lens ?_ | refine a_pick_t ?_ | refine a_pick_f ?_ | refine a_not ?_ | refine a_nilf ?_ | (refine o_nil (hK _ _ ?_); clear hK K) | refine wk_reg ?_ | refine wk_seq fun K hK => ?_ | (refine wk_skip (hK _ _ ?_); clear hK K) | (refine wk_label (hK _ _ ?_); clear hK K) | refine wk_scope ?_ | refine wk_block ?_ | refine wk_cond_t rfl ?_ | refine wk_cond_f rfl ?_ | (refine wk_exit ?_; (repeat (refine blockK_other rfl ?_)); refine blockK_same ?_; try ((repeat ((fail_if_success (refine hK _ _ ?_)); clear hK K)); refine hK _ _ ?_; clear hK K)) | (refine a_bin ?_ ?_ <;> intro _ <;> try (exfalso; omega)) | refine a_ld hl ?_ | (refine a_st hl ?_; clear hl; intro _ hl) | refine a_ix (fun _ => ?_) | fail)
    exact o_nil ⟨i, ⟨rfl, rfl, rfl, trivial⟩, rfl, ⟨by omega, hj2⟩, by omega⟩

/-! ### Blocks of a consumer -/
/-- A later world, of which those blocks may be other ones. -/
def LatR (Fp Fp' : Nat → Prop) (w w' : World) : Prop := Upd Fp w w' ∧ ∀ b, Fp' b → Fp b ∨ w.heap.size ≤ b
theorem _root_.Go.Pd.LH.across {w0 w w2 : World} {M Fp Fp' : Nat → Prop} {l : List (Nat × Obj)} (h : LH w0 M w l) (e : LatR Fp Fp' w w2) (hn : ∀ p ∈ l, ¬ Fp p.1) (hM : ∀ b, Fp b → M b) : LH w0 M w2 l :=
  ⟨h.upd.trans e.1 fun k _ hk => hM k hk, fun p hp => (e.1.same p.1 (h.lt hp) (hn p hp)).trans (h.own p hp), h.fresh, h.nd⟩
theorem _root_.Go.Pd.LH.moreM {w0 w : World} {M M' : Nat → Prop} {l : List (Nat × Obj)} (h : LH w0 M w l) (hm : ∀ b, M b → M' b) : LH w0 M' w l :=
  ⟨h.upd.mono fun b _ hb => hm b hb, h.own, fun p hp => (h.fresh p hp).imp id (hm _), h.nd⟩
theorem _root_.Go.Pd.LH.bk2 {ws w w2 : World} {F0 Fp : Nat → Prop} {l l2 : List (Nat × Obj)} (h : LH ws F0 w l) (hg : ∀ p ∈ l, ws.heap.size ≤ p.1) (hF : ∀ b, Fp b → F0 b ∨ ws.heap.size ≤ b) (h2 : LH w (fun b => b ∈ l.map (·.1) ∨ Fp b) w2 l2) (hid : l2.map (·.1) = l.map (·.1)) : LH ws F0 w2 l2 := by
  refine ⟨h.upd.trans h2.upd fun k hk hm => ?_, h2.own, fun p hp => .inl ?_, h2.nd⟩
  · rcases hm with hm | hm
    · obtain ⟨p, hp, rfl⟩ := List.mem_map.1 hm
      have := hg p hp
      omega
    · rcases hF k hm with h' | h'
      · exact h'
      · omega
  · have hm : p.1 ∈ l.map (·.1) := hid ▸ List.mem_map.2 ⟨p, hp, rfl⟩
    obtain ⟨q, hq, he⟩ := List.mem_map.1 hm
    have := hg q hq
    omega

theorem upd_setAt {w w' : World} {L : Nat} {o : Obj} (h : SetAt w w' L o) : Upd (fun b => b = L) w w' := by
  obtain ⟨h1, h2, h3⟩ := h
  refine ⟨by rw [h1]; simp, fun b hb hn => ?_, h2, h3⟩
  rw [h1, Array.getElem?_setIfInBounds_ne (fun e => hn e.symm)]

theorem h0up {ws w w' : World} {F0 M : Nat → Prop} {l l' : List (Nat × Obj)} (h : LH ws F0 w l) (h' : LH w M w' l') (hM : ∀ b, M b → ws.heap.size ≤ b) : Upd F0 ws w' :=
  h.upd.trans h'.upd fun k hk hm => absurd (hM k hm) (by omega)
def FinMap (m : List (List UInt8 × Value)) (l : List Rul.Rul) (known : Int) : Prop := ∀ s, (Pd.get m s).getD (.bool false) = .bool (Rul.finalB l known s)
def LiftMap (m : List (List UInt8 × Value)) (S : List (List UInt8)) : Prop := ∀ s, (Pd.get m s).getD (.bool false) = .bool (decide (s ∈ S))
theorem FinMap.step {m : List (List UInt8 × Value)} {l : List Rul.Rul} {known : Int} (h : FinMap m l known) {r : Rul.Rul} (hr : r.id ∉ l.map (·.id)) : FinMap (ins m r.id (.bool (r.fin && decide (r.known ≤ known)))) (l ++ [r]) known := by
  intro s
  rw [get_ins, Rul.finalB_step]
  by_cases hs : s = r.id
  · subst hs
    rw [if_pos rfl, Rul.finalB_not hr, decide_eq_true rfl]
    rfl
  · rw [if_neg hs, h s, decide_eq_false (fun e => hs e.symm)]
    simp
theorem LiftMap.step {m : List (List UInt8 × Value)} {S : List (List UInt8)} (h : LiftMap m S) (a : List UInt8) : LiftMap (ins m a (.bool true)) (a :: S) := by
  intro s
  rw [get_ins]
  by_cases hs : s = a
  · rw [if_pos hs, decide_eq_true (hs ▸ List.mem_cons_self)]; rfl
  · rw [if_neg hs, h s]
    simp [hs]

/-! ### Which ones count -/
theorem backward_calls (lv : Value) (hlv : Cell1 lv) (w : World) : Calls Tryd.prog 51 #[lv] w (fun e w' => ∃ x, e = .returned x ∧ ∃ b, x = .func (.func 58) #[] #[.pointer (some ⟨b, 0, none⟩)] ∧ LH w (fun _ => False) w' [(b, .cells #[lv] 36 (0, 0))]) := by
  refine calls_of Tryd.func51 rfl Tryd.ntmps51 rfl ?_
  refine wk_seq fun K hK => ?_
  refine wk_reg ?_
  refine o_box (LH.start w (fun _ => False)) [lv] rfl rfl hlv.1 ?_
  intro b w1 hb hl
  repeat' (first | refine a_mov ?_ | refine a_asg ?_ | refine a_binN ?_ | refine a_notd ?_ | refine a_notb ?_ | refine a_nilc ?_ | refine a_fa ?_ | refine a_ext ?_ | refine a_lenv ?_ | refine a_lens ?_ | refine a_pick_t ?_ | refine a_pick_f ?_ | refine a_not ?_ | refine a_nilf ?_ | (refine o_nil (hK _ _ ?_); clear hK K) | refine wk_reg ?_ | refine wk_seq fun K hK => ?_ | (refine wk_skip (hK _ _ ?_); clear hK K) | (refine wk_label (hK _ _ ?_); clear hK K) | refine wk_scope ?_ | refine wk_block ?_ | refine wk_cond_t rfl ?_ | refine wk_cond_f rfl ?_ | (refine wk_exit ?_; (repeat (refine blockK_other rfl ?_)); refine blockK_same ?_; try ((repeat ((fail_if_success (refine hK _ _ ?_)); clear hK K)); refine hK _ _ ?_; clear hK K)) | (refine a_bin ?_ ?_ <;> intro _ <;> try (exfalso; omega)) | refine a_ld hl ?_ | (refine a_st hl ?_; clear hl; intro _ hl) | refine a_ix (fun _ => ?_) | fail)
  refine o_mf [] [.pointer (some ⟨b, 0, none⟩)] rfl rfl rfl ?_
  repeat' (first | refine a_mov ?_ | refine a_asg ?_ | refine a_binN ?_ | refine a_notd ?_ | refine a_notb ?_ | refine a_nilc ?_ | refine a_fa ?_ | refine a_ext ?_ | refine a_lenv ?_ | refine a_lens ?_ | refine a_pick_t ?_ | refine a_pick_f ?_ | refine a_not ?_ | refine a_nilf ?_ | (refine o_nil (hK _ _ ?_); clear hK K) | refine wk_reg ?_ | refine wk_seq fun K hK => ?_ | (refine wk_skip (hK _ _ ?_); clear hK K) | (refine wk_label (hK _ _ ?_); clear hK K) | refine wk_scope ?_ | refine wk_block ?_ | refine wk_cond_t rfl ?_ | refine wk_cond_f rfl ?_ | (refine wk_exit ?_; (repeat (refine blockK_other rfl ?_)); refine blockK_same ?_; try ((repeat ((fail_if_success (refine hK _ _ ?_)); clear hK K)); refine hK _ _ ?_; clear hK K)) | (refine a_bin ?_ ?_ <;> intro _ <;> try (exfalso; omega)) | refine a_ld hl ?_ | (refine a_st hl ?_; clear hl; intro _ hl) | refine a_ix (fun _ => ?_) | fail)
  refine wk_ret (retQ_tmp1 Tryd.results51 (by decide) rfl (by conv => lhs; whnf) ?_)
  exact ⟨b, rfl, hl⟩
theorem counting_calls (lv : Value) (hlv : Cell1 lv) (known : Int) (w : World) : Calls Tryd.prog 35 #[lv, .int .i64 known] w (fun e w' => ∃ x, e = .returned x ∧ ∃ b2 b3, x = .func (.func 50) #[] #[.pointer (some ⟨b2, 0, none⟩), .pointer (some ⟨b3, 0, none⟩)] ∧ LH w (fun _ => False) w' [(b3, .cells #[.int .i64 known] 3 (0, 0)), (b2, .cells #[lv] 36 (0, 0))]) := by
  refine calls_of Tryd.func35 rfl Tryd.ntmps35 rfl ?_
  refine wk_seq fun K hK => ?_
  refine wk_reg ?_
  refine o_box (LH.start w (fun _ => False)) [lv] rfl rfl hlv.1 ?_
  intro b w1 hb hl
  refine o_box hl [.int .i64 known] rfl rfl rfl ?_
  clear hl
  intro b3 w2 hb3 hl
  repeat' (first | refine a_mov ?_ | refine a_asg ?_ | refine a_binN ?_ | refine a_notd ?_ | refine a_notb ?_ | refine a_nilc ?_ | refine a_fa ?_ | refine a_ext ?_ | refine a_lenv ?_ | refine a_lens ?_ | refine a_pick_t ?_ | refine a_pick_f ?_ | refine a_not ?_ | refine a_nilf ?_ | (refine o_nil (hK _ _ ?_); clear hK K) | refine wk_reg ?_ | refine wk_seq fun K hK => ?_ | (refine wk_skip (hK _ _ ?_); clear hK K) | (refine wk_label (hK _ _ ?_); clear hK K) | refine wk_scope ?_ | refine wk_block ?_ | refine wk_cond_t rfl ?_ | refine wk_cond_f rfl ?_ | (refine wk_exit ?_; (repeat (refine blockK_other rfl ?_)); refine blockK_same ?_; try ((repeat ((fail_if_success (refine hK _ _ ?_)); clear hK K)); refine hK _ _ ?_; clear hK K)) | (refine a_bin ?_ ?_ <;> intro _ <;> try (exfalso; omega)) | refine a_ld hl ?_ | (refine a_st hl ?_; clear hl; intro _ hl) | refine a_ix (fun _ => ?_) | fail)
  refine o_mf [] [.pointer (some ⟨b, 0, none⟩), .pointer (some ⟨b3, 0, none⟩)] rfl rfl rfl ?_
  repeat' (first | refine a_mov ?_ | refine a_asg ?_ | refine a_binN ?_ | refine a_notd ?_ | refine a_notb ?_ | refine a_nilc ?_ | refine a_fa ?_ | refine a_ext ?_ | refine a_lenv ?_ | refine a_lens ?_ | refine a_pick_t ?_ | refine a_pick_f ?_ | refine a_not ?_ | refine a_nilf ?_ | (refine o_nil (hK _ _ ?_); clear hK K) | refine wk_reg ?_ | refine wk_seq fun K hK => ?_ | (refine wk_skip (hK _ _ ?_); clear hK K) | (refine wk_label (hK _ _ ?_); clear hK K) | refine wk_scope ?_ | refine wk_block ?_ | refine wk_cond_t rfl ?_ | refine wk_cond_f rfl ?_ | (refine wk_exit ?_; (repeat (refine blockK_other rfl ?_)); refine blockK_same ?_; try ((repeat ((fail_if_success (refine hK _ _ ?_)); clear hK K)); refine hK _ _ ?_; clear hK K)) | (refine a_bin ?_ ?_ <;> intro _ <;> try (exfalso; omega)) | refine a_ld hl ?_ | (refine a_st hl ?_; clear hl; intro _ hl) | refine a_ix (fun _ => ?_) | fail)
  refine wk_ret (retQ_tmp1 Tryd.results35 (by decide) rfl (by conv => lhs; whnf) ?_)
  exact ⟨b, b3, rfl, hl⟩

def cnL (fv lv : Value) (es4 : Array MapEntry) (c4 : Nat) (es5 : Array MapEntry) (c5 b3 b4 b5 m4 m5 bs D L : Nat) (rec : Loop) : List (Nat × Obj) :=
  [(L, .loop rec), (D, .deferred (some [])), (bs, .cells #[lv] 36 (0, 0)), (b5, .cells #[.map (some m5)] 67 (0, 0)), (b4, .cells #[.map (some m4)] 67 (0, 0)), (m5, .map es5 c5), (m4, .map es4 c4), (b3, .cells #[fv] 42 (0, 0))]

set_option maxHeartbeats 8000000 in
theorem counting1_calls {l : List Rul.Rul} {lv : Value} {known : Int} {w0 : World} (fv : Value) (hL : RulsAt w0 l lv) (hlen : l.length ≤ 1000000) (hn : (l.map (·.id)).Nodup) (b2 b3 : Nat)
    (J : List Rul.Rul → (Nat → Prop) → World → Prop) (ws : World) (hJ0 : ∀ p Fp w, J p Fp w → Ext w0 w ∧ ∀ b, Fp b → b < w.heap.size)
    (hX : ∀ p Fp M w w', J p Fp w → Upd M w w' → (∀ b, M b → ¬ Fp b ∧ ws.heap.size ≤ b) → J p Fp w')
    (hY : ∀ p r rest Fp w kv, Rul.counting l known = rest ++ r :: p → J p Fp w → KA w0 r.read.kids kv → CallV Tryd.prog fv #[.agg (rulC r kv).toArray] w (fun v w2 => v = .bool true ∧ ∃ Fp', J (r :: p) Fp' w2 ∧ LatR Fp Fp' w w2))
    (F0 : Nat → Prop) (hj : J [] F0 ws) (h2 : ws.cell? ⟨b2, 0, none⟩ = some lv) (h3 : ws.cell? ⟨b3, 0, none⟩ = some (.int .i64 known)) (n2 : ¬ F0 b2) (n3 : ¬ F0 b3) (hfv : Cell1 fv) :
    Calls Tryd.prog 50 #[fv, .pointer (some ⟨b2, 0, none⟩), .pointer (some ⟨b3, 0, none⟩)] ws (fun e w' => ∃ x, e = .returned x ∧ ∃ Fp', J (Rul.counting l known) Fp' w' ∧ LatR F0 Fp' ws w') := by
  obtain ⟨pa, pc, rfl, -⟩ := hL.shape
  have hF0lt := (hJ0 _ _ _ hj).2
  have hew0 := (hJ0 _ _ _ hj).1
  refine calls_of Tryd.func50 rfl Tryd.ntmps50 rfl ?_
  refine wk_seq fun K hK => ?_
  refine wk_reg ?_
  refine o_box (LH.start ws (fun _ => False)) [fv] rfl rfl hfv.1 ?_
  intro by_ w1 hby hl
  repeat' (first | refine a_mov ?_ | refine a_asg ?_ | refine a_binN ?_ | refine a_notd ?_ | refine a_notb ?_ | refine a_nilc ?_ | refine a_fa ?_ | refine a_ext ?_ | refine a_lenv ?_ | refine a_lens ?_ | refine a_pick_t ?_ | refine a_pick_f ?_ | refine a_not ?_ | refine a_nilf ?_ | (refine a_bin ?_ ?_ <;> intro _ <;> try (exfalso; omega)) | refine a_ld hl ?_ | (refine a_st hl ?_; clear hl; intro _ hl) | refine a_ix (fun _ => ?_) | fail)
  (refine o_nil (hK _ _ ?_); clear hK K; refine wk_seq fun K hK => ?_)
  refine wk_reg ?_
  refine o_makeMap hl rfl ?_
  clear hl
  intro m4 w2 hm4 hl
  refine o_makeMap hl rfl ?_
  clear hl
  intro m5 w3 hm5 hl
  refine o_alloc hl [.map none] rfl rfl ?_
  clear hl
  intro b4 w4 hb4 hl
  refine o_alloc hl [.map none] rfl rfl ?_
  clear hl
  intro b5 w5 hb5 hl
  repeat' (first | refine a_mov ?_ | refine a_asg ?_ | refine a_binN ?_ | refine a_notd ?_ | refine a_notb ?_ | refine a_nilc ?_ | refine a_fa ?_ | refine a_ext ?_ | refine a_lenv ?_ | refine a_lens ?_ | refine a_pick_t ?_ | refine a_pick_f ?_ | refine a_not ?_ | refine a_nilf ?_ | (refine o_nil (hK _ _ ?_); clear hK K) | refine wk_reg ?_ | refine wk_seq fun K hK => ?_ | (refine wk_skip (hK _ _ ?_); clear hK K) | (refine wk_label (hK _ _ ?_); clear hK K) | refine wk_scope ?_ | refine wk_block ?_ | refine wk_cond_t rfl ?_ | refine wk_cond_f rfl ?_ | (refine wk_exit ?_; (repeat (refine blockK_other rfl ?_)); refine blockK_same ?_; try ((repeat ((fail_if_success (refine hK _ _ ?_)); clear hK K)); refine hK _ _ ?_; clear hK K)) | (refine a_bin ?_ ?_ <;> intro _ <;> try (exfalso; omega)) | refine a_ld hl ?_ | (refine a_st hl ?_; clear hl; intro _ hl) | refine a_ix (fun _ => ?_) | refine o_load rfl rfl rfl (hl.done.cell (fun h => h) h2) ?_)
  refine wk_loopH [] rfl (fun q : Nat × Array MapEntry × Nat × List (List UInt8 × Value) => [(1, .pointer (some ⟨b2, 0, none⟩)), (2, .pointer (some ⟨b3, 0, none⟩)), (3, .pointer (some ⟨by_, 0, none⟩)), (4, .pointer (some ⟨b4, 0, none⟩)), (5, .pointer (some ⟨b5, 0, none⟩)), (13, .slice pa l.length pc), (14, .int .i64 (l.length : Int)), (15, .int .i64 (q.1 : Int))])
    (fun q w' => q.1 ≤ l.length ∧ LH ws (fun _ => False) w' [(b5, .cells #[.map (some m5)] 67 (0, 0)), (b4, .cells #[.map (some m4)] 67 (0, 0)), (m5, .map #[] 0), (m4, .map q.2.1 q.2.2.1), (by_, .cells #[fv] 42 (0, 0))] ∧ MapR str q.2.1 q.2.2.2 ∧ FinMap q.2.2.2 (l.take q.1) known) (fun q => l.length - q.1) (0, #[], 0, []) ⟨rfl, rfl, rfl, rfl, rfl, rfl, rfl, rfl, trivial⟩ ⟨Nat.zero_le _, hl, MapR.nil, fun s => rfl⟩ ?_
  clear hl
  rintro ⟨i, es4, c4, m⟩ t w6 ⟨hi, hl, hm, hfm⟩
  simp only at hi hl hm hfm
  by_cases hi1 : i < l.length
  · obtain ⟨bs, os, kv, hp, hrow, hkk⟩ := (hL.ext (hew0.trans hl.done)).at hi1
    have hone := rulC_one hkk
    have hnot : l[i].id ∉ (l.take i).map (·.id) := by
      intro hm
      obtain ⟨x, hx, he⟩ := List.mem_map.1 hm
      obtain ⟨j, hj, rfl⟩ := List.mem_iff_getElem.1 hx
      rw [List.length_take] at hj
      rw [List.getElem_take] at he
      have h1 : (l.map (·.id))[j]? = (l.map (·.id))[i]? := by simp [hi1, show j < l.length by omega, he]
      have := (List.getElem?_inj (by simp; omega) hn).1 h1
      omega
    have hstep := hfm.step hnot
    rw [← List.take_succ_eq_append_getElem hi1] at hstep
    generalize l[i] = r at *
    repeat' (first | refine a_mov ?_ | refine a_asg ?_ | refine a_binN ?_ | refine a_notd ?_ | refine a_notb ?_ | refine a_nilc ?_ | refine a_fa ?_ | refine a_ext ?_ | refine a_lenv ?_ | refine a_lens ?_ | refine a_pick_t ?_ | refine a_pick_f ?_ | refine a_not ?_ | refine a_nilf ?_ | (refine o_nil (hK _ _ ?_); clear hK K) | refine wk_reg ?_ | refine wk_seq fun K hK => ?_ | (refine wk_skip (hK _ _ ?_); clear hK K) | (refine wk_label (hK _ _ ?_); clear hK K) | refine wk_scope ?_ | refine wk_block ?_ | refine wk_cond_t rfl ?_ | refine wk_cond_f rfl ?_ | (refine wk_exit ?_; (repeat (refine blockK_other rfl ?_)); refine blockK_same ?_; try ((repeat ((fail_if_success (refine hK _ _ ?_)); clear hK K)); refine hK _ _ ?_; clear hK K)) | (refine a_bin ?_ ?_ <;> intro _ <;> try (exfalso; omega)) | refine a_ld hl ?_ | (refine a_st hl ?_; clear hl; intro _ hl) | refine a_ix (fun _ => ?_) | refine a_idx (c := 13) i hp ?_ | refine a_all (vs := [str (r).id, str (r).tgt, .int .i64 (r).kind, .int .i64 (r).fro, .int .i64 (r).til, .int .i64 (r).read.op, str (r).read.name, .int .i64 (r).read.cmp, .int .i64 (r).read.num, kv, .int .i64 (r).known, .bool (r).fin, str (r).lifts]) hrow ?_)
    refine o_alloc hl [.string ⟨#[]⟩, .string ⟨#[]⟩, .int .i64 0, .int .i64 0, .int .i64 0, .int .i64 0, .string ⟨#[]⟩, .int .i64 0, .int .i64 0, .slice none 0 0, .int .i64 0, .bool false, .string ⟨#[]⟩] rfl rfl ?_
    clear hl
    intro b7 w7 hb7 hl
    refine o_putN (us := [str (r).id, str (r).tgt, .int .i64 (r).kind, .int .i64 (r).fro, .int .i64 (r).til, .int .i64 (r).read.op, str (r).read.name, .int .i64 (r).read.cmp, .int .i64 (r).read.num, kv, .int .i64 (r).known, .bool (r).fin, str (r).lifts]) hl rfl rfl rfl hone rfl (.all rfl rfl) ?_
    clear hl
    intro w8 hl
    have go : ∀ (w' : World) (o7 : Obj) (es' : Array MapEntry) (c' : Nat), LH ws (fun _ => False) w' ((b7, o7) :: [(b5, .cells #[.map (some m5)] 67 (0, 0)), (b4, .cells #[.map (some m4)] 67 (0, 0)), (m5, .map #[] 0), (m4, .map es' c'), (by_, .cells #[fv] 42 (0, 0))]) → LH ws (fun _ => False) w' [(b5, .cells #[.map (some m5)] 67 (0, 0)), (b4, .cells #[.map (some m4)] 67 (0, 0)), (m5, .map #[] 0), (m4, .map es' c'), (by_, .cells #[fv] 42 (0, 0))] := fun w' o7 es' c' h => h.sub (List.sublist_cons_self _ _)
    cases hfin : r.fin
    all_goals simp only [hfin] at hl hstep
    all_goals repeat' (first | refine a_mov ?_ | refine a_asg ?_ | refine a_binN ?_ | refine a_notd ?_ | refine a_notb ?_ | refine a_nilc ?_ | refine a_fa ?_ | refine a_ext ?_ | refine a_lenv ?_ | refine a_lens ?_ | refine a_pick_t ?_ | refine a_pick_f ?_ | refine a_not ?_ | refine a_nilf ?_ | (refine o_nil (hK _ _ ?_); clear hK K) | refine wk_reg ?_ | refine wk_seq fun K hK => ?_ | (refine wk_skip (hK _ _ ?_); clear hK K) | (refine wk_label (hK _ _ ?_); clear hK K) | refine wk_scope ?_ | refine wk_block ?_ | refine wk_cond_t rfl ?_ | refine wk_cond_f rfl ?_ | (refine wk_exit ?_; (repeat (refine blockK_other rfl ?_)); refine blockK_same ?_; try ((repeat ((fail_if_success (refine hK _ _ ?_)); clear hK K)); refine hK _ _ ?_; clear hK K)) | (refine a_bin ?_ ?_ <;> intro _ <;> try (exfalso; omega)) | refine a_ld hl ?_ | (refine a_st hl ?_; clear hl; intro _ hl) | refine a_ix (fun _ => ?_) | refine o_load rfl rfl rfl (hl.done.cell (fun h => h) h3) ?_ | refine o_mapUpdate r.id hl 4 rfl hm keyId rfl rfl rfl rfl rfl ?_)
    all_goals (clear hl; intro w9 es' c' hm' hl)
    all_goals repeat' (first | refine a_mov ?_ | refine a_asg ?_ | refine a_binN ?_ | refine a_notd ?_ | refine a_notb ?_ | refine a_nilc ?_ | refine a_fa ?_ | refine a_ext ?_ | refine a_lenv ?_ | refine a_lens ?_ | refine a_pick_t ?_ | refine a_pick_f ?_ | refine a_not ?_ | refine a_nilf ?_ | (refine o_nil (hK _ _ ?_); clear hK K) | refine wk_reg ?_ | refine wk_seq fun K hK => ?_ | (refine wk_skip (hK _ _ ?_); clear hK K) | (refine wk_label (hK _ _ ?_); clear hK K) | refine wk_scope ?_ | refine wk_block ?_ | refine wk_cond_t rfl ?_ | refine wk_cond_f rfl ?_ | (refine wk_exit ?_; (repeat (refine blockK_other rfl ?_)); refine blockK_same ?_; try ((repeat ((fail_if_success (refine hK _ _ ?_)); clear hK K)); refine hK _ _ ?_; clear hK K)) | (refine a_bin ?_ ?_ <;> intro _ <;> try (exfalso; omega)) | refine a_ld hl ?_ | (refine a_st hl ?_; clear hl; intro _ hl) | refine a_ix (fun _ => ?_) | fail)
    all_goals first | rw [Bool.false_and] at hstep | rw [Bool.true_and, decide_eq_true (by assumption)] at hstep | rw [Bool.true_and, decide_eq_false (by assumption)] at hstep
    all_goals exact o_nil ⟨(i + 1, es', c', _), ⟨rfl, rfl, rfl, rfl, rfl, rfl, rfl, rfl, trivial⟩, rfl, ⟨hi1, go _ _ es' c' hl, hm', hstep⟩, by show l.length - (i + 1) < l.length - i; omega⟩
  · obtain rfl : i = l.length := by omega
    rw [List.take_of_length_le (Nat.le_refl _)] at hfm
    repeat' (first | refine a_mov ?_ | refine a_asg ?_ | refine a_binN ?_ | refine a_notd ?_ | refine a_notb ?_ | refine a_nilc ?_ | refine a_fa ?_ | refine a_ext ?_ | refine a_lenv ?_ | refine a_lens ?_ | refine a_pick_t ?_ | refine a_pick_f ?_ | refine a_not ?_ | refine a_nilf ?_ | (refine o_nil (hK _ _ ?_); clear hK K) | refine wk_reg ?_ | refine wk_seq fun K hK => ?_ | (refine wk_skip (hK _ _ ?_); clear hK K) | (refine wk_label (hK _ _ ?_); clear hK K) | refine wk_scope ?_ | refine wk_block ?_ | refine wk_cond_t rfl ?_ | refine wk_cond_f rfl ?_ | (refine wk_exit ?_; (repeat (refine blockK_other rfl ?_)); refine blockK_same ?_; try ((repeat ((fail_if_success (refine hK _ _ ?_)); clear hK K)); refine hK _ _ ?_; clear hK K)) | (refine a_bin ?_ ?_ <;> intro _ <;> try (exfalso; omega)) | refine a_ld hl ?_ | (refine a_st hl ?_; clear hl; intro _ hl) | refine a_ix (fun _ => ?_) | refine o_load rfl rfl rfl (hl.done.cell (fun h => h) h2) ?_)
    refine a_fn (backward_calls _ ⟨rfl, rfl⟩ _) ?_
    rintro _ w7 ⟨bs, rfl, hl7⟩
    replace hl := hl.join hl7
    clear hl7
    repeat' (first | refine a_mov ?_ | refine a_asg ?_ | refine a_binN ?_ | refine a_notd ?_ | refine a_notb ?_ | refine a_nilc ?_ | refine a_fa ?_ | refine a_ext ?_ | refine a_lenv ?_ | refine a_lens ?_ | refine a_pick_t ?_ | refine a_pick_f ?_ | refine a_not ?_ | refine a_nilf ?_ | (refine o_nil (hK _ _ ?_); clear hK K) | refine wk_reg ?_ | refine wk_seq fun K hK => ?_ | (refine wk_skip (hK _ _ ?_); clear hK K) | (refine wk_label (hK _ _ ?_); clear hK K) | refine wk_scope ?_ | refine wk_block ?_ | refine wk_cond_t rfl ?_ | refine wk_cond_f rfl ?_ | (refine wk_exit ?_; (repeat (refine blockK_other rfl ?_)); refine blockK_same ?_; try ((repeat ((fail_if_success (refine hK _ _ ?_)); clear hK K)); refine hK _ _ ?_; clear hK K)) | (refine a_bin ?_ ?_ <;> intro _ <;> try (exfalso; omega)) | refine a_ld hl ?_ | (refine a_st hl ?_; clear hl; intro _ hl) | refine a_ix (fun _ => ?_) | fail)
    refine wk_rangeFunc rfl (fun _ _ => rfl) ?_
    intro fn tm w8 hfits hheap
    generalize hD : w7.heap.size = D at hheap ⊢
    generalize hrec : Loop.mk _ _ _ _ _ _ _ _ = rec at hheap
    have hl8 : LH ws (fun _ => False) w8 (cnL fv (.slice pa l.length pc) es4 c4 #[] 0 by_ b4 b5 m4 m5 bs D (D + 1) rec) := by
      have h1 := ((hl.alloc (.deferred (some []))).alloc (.loop rec)).heap hheap
      simp only [Array.size_push] at h1
      rw [hD] at h1
      exact h1
    clear hl hheap
    have hge : ∀ b ∈ [D + 1, D, bs, b5, b4, m5, m4, by_], ws.heap.size ≤ b := fun b hb => by
      obtain ⟨p, hp, rfl⟩ := List.mem_map.1 (show b ∈ (cnL fv (.slice pa l.length pc) es4 c4 #[] 0 by_ b4 b5 m4 m5 bs D (D + 1) rec).map (·.1) from hb)
      exact (hl8.fresh p hp).resolve_right fun h => h
    have hready : rec.state = .ready := congrArg Loop.state hrec.symm
    have hpend : rec.pending = none := congrArg Loop.pending hrec.symm
    have hrr : ({ rec with state := .ready, pending := none } : Loop) = rec := by
      cases rec
      simp only at hready hpend
      rw [hready, hpend]
    refine Calls.mono (backward1_calls (fun i w' => ∃ (Fp : Nat → Prop) (es5 : Array MapEntry) (c5 : Nat) (m' : List (List UInt8 × Value)), J (Rul.back (Rul.finalB l known) known (l.drop i)).out Fp w' ∧ LH ws F0 w' (cnL fv (.slice pa l.length pc) es4 c4 es5 c5 by_ b4 b5 m4 m5 bs D (D + 1) rec) ∧
      (∀ b ∈ [D + 1, D, bs, b5, b4, m5, m4, by_], ¬ Fp b) ∧ (∀ b, Fp b → F0 b ∨ ws.heap.size ≤ b) ∧ MapR str es5 m' ∧ LiftMap m' (Rul.back (Rul.finalB l known) known (l.drop i)).lifted) hlen hL ?_ ?_ ?_) ?_
    · rintro i w' ⟨Fp, es5, c5, m', hJ1, hl, -⟩
      exact ⟨(hJ0 _ _ _ hJ1).1, hl.cell 2 rfl rfl⟩
    · rintro i w1 kv hi2 ⟨Fp, es5, c5, m', hJ1, h, hG, hF, hm5', hlf⟩ hkk
      have hone := rulC_one hkk
      have hb := h.rb
      have hdrop := Rul.drop_at hi2
      have hstep : Rul.back (Rul.finalB l known) known (l.drop i) = Rul.step (Rul.finalB l known) known l[i] (Rul.back (Rul.finalB l known) known (l.drop (i + 1))) := by rw [hdrop]; rfl
      have hrest := Rul.outs_back (fn := Rul.finalB l known) (known := known) (l := l) i (by omega)
      rw [hstep] at hrest ⊢
      generalize Rul.back (Rul.finalB l known) known (l.drop (i + 1)) = B at *
      generalize l[i] = r at *
      clear hdrop hstep hl8
      refine callV_round (n := 65) (hb.get 0 rfl) (congrArg Loop.params hrec.symm) (congrArg Loop.assign hrec.symm) (congrArg Loop.body hrec.symm) rfl (by rw [show rec.tmps = tm from congrArg Loop.tmps hrec.symm]; exact hfits) ?_
      clear hfits hrec
      dsimp only
      repeat' (first | refine a_mov ?_ | refine a_asg ?_ | refine a_binN ?_ | refine a_notd ?_ | refine a_notb ?_ | refine a_nilc ?_ | refine a_fa ?_ | refine a_ext ?_ | refine a_lenv ?_ | refine a_lens ?_ | refine a_pick_t ?_ | refine a_pick_f ?_ | refine a_not ?_ | refine a_nilf ?_ | (refine o_nil (hK _ _ ?_); clear hK K) | refine wk_reg ?_ | refine wk_seq fun K hK => ?_ | (refine wk_skip (hK _ _ ?_); clear hK K) | (refine wk_label (hK _ _ ?_); clear hK K) | refine wk_scope ?_ | refine wk_block ?_ | refine wk_cond_t rfl ?_ | refine wk_cond_f rfl ?_ | (refine wk_exit ?_; (repeat (refine blockK_other rfl ?_)); refine blockK_same ?_; try ((repeat ((fail_if_success (refine hK _ _ ?_)); clear hK K)); refine hK _ _ ?_; clear hK K)) | (refine a_bin ?_ ?_ <;> intro _ <;> try (exfalso; omega)) | refine a_ld hl ?_ | (refine a_st hl ?_; clear hl; intro _ hl) | refine a_ix (fun _ => ?_) | fail)
      refine o_alloc hb [.string ⟨#[]⟩, .string ⟨#[]⟩, .int .i64 0, .int .i64 0, .int .i64 0, .int .i64 0, .string ⟨#[]⟩, .int .i64 0, .int .i64 0, .slice none 0 0, .int .i64 0, .bool false, .string ⟨#[]⟩] rfl rfl ?_
      clear hb
      intro b9 w9 hb9 hl
      refine o_putN (us := [str (r).id, str (r).tgt, .int .i64 (r).kind, .int .i64 (r).fro, .int .i64 (r).til, .int .i64 (r).read.op, str (r).read.name, .int .i64 (r).read.cmp, .int .i64 (r).read.num, kv, .int .i64 (r).known, .bool (r).fin, str (r).lifts]) hl rfl rfl rfl hone rfl (.all rfl rfl) ?_
      clear hl
      intro w10 hl
      refine o_nil ⟨_, hl.get 1 rfl, hready, ?_⟩
      intro w11 hw11
      replace hl := hl.put 1 rfl hw11
      have hl : LH w1 (fun b => b ∈ [D + 1, D, bs, b5, b4, m5, m4, by_]) w11 ((b9, Obj.cells ([str (r).id, str (r).tgt, .int .i64 (r).kind, .int .i64 (r).fro, .int .i64 (r).til, .int .i64 (r).read.op, str (r).read.name, .int .i64 (r).read.cmp, .int .i64 (r).read.num, kv, .int .i64 (r).known, .bool (r).fin, str (r).lifts] : List Value).toArray 27 (0, 0)) :: cnL fv (.slice pa l.length pc) es4 c4 es5 c5 by_ b4 b5 m4 m5 bs D (D + 1) { rec with state := .busy }) := hl
      clear hw11
      have hgeP : ∀ p ∈ cnL fv (.slice pa l.length pc) es4 c4 es5 c5 by_ b4 b5 m4 m5 bs D (D + 1) rec, ws.heap.size ≤ p.1 := fun p hp => hge _ (List.mem_map.2 ⟨p, hp, rfl⟩)
      have k3 : ∀ (w' : World) (L : List (Nat × Obj)), LH w1 (fun b => b ∈ [D + 1, D, bs, b5, b4, m5, m4, by_]) w' L → w'.cell? ⟨b3, 0, none⟩ = some (.int .i64 known) := fun w' L h' =>
        h'.upd.cell (fun hm => by have h5 := hge b3 hm; have h6 := lt_of_cell h3; simp only at h6; omega) (h.upd.cell n3 h3)
      have jx : ∀ (w' : World) (L : List (Nat × Obj)), LH w1 (fun b => b ∈ [D + 1, D, bs, b5, b4, m5, m4, by_]) w' L → J B.out Fp w' := fun w' L h' => hX _ _ _ _ _ hJ1 h'.upd (fun b hb => ⟨hG b hb, hge b hb⟩)
      have skipE : ∀ (w' : World) (o9 : Obj), Rul.step (Rul.finalB l known) known r B = B → LH w1 (fun b => b ∈ [D + 1, D, bs, b5, b4, m5, m4, by_]) w' ((b9, o9) :: cnL fv (.slice pa l.length pc) es4 c4 es5 c5 by_ b4 b5 m4 m5 bs D (D + 1) { rec with state := .ready, pending := none }) →
          ∃ (Fp : Nat → Prop) (es5 : Array MapEntry) (c5 : Nat) (m' : List (List UInt8 × Value)), J (Rul.step (Rul.finalB l known) known r B).out Fp w' ∧ LH ws F0 w' (cnL fv (.slice pa l.length pc) es4 c4 es5 c5 by_ b4 b5 m4 m5 bs D (D + 1) rec) ∧
      (∀ b ∈ [D + 1, D, bs, b5, b4, m5, m4, by_], ¬ Fp b) ∧ (∀ b, Fp b → F0 b ∨ ws.heap.size ≤ b) ∧ MapR str es5 m' ∧ LiftMap m' (Rul.step (Rul.finalB l known) known r B).lifted := by
        intro w' o9 hst h'
        rw [hst]
        rw [hrr] at h'
        have h3' := h'.sub (List.sublist_cons_self _ _)
        exact ⟨Fp, es5, c5, m', jx _ _ h3', h.bk2 hgeP hF (h3'.moreM fun b hb => .inl hb) rfl, hG, hF, hm5', hlf⟩
      have goE : ∀ (w' w2 : World) (Fp' : Nat → Prop) (es' : Array MapEntry) (c' : Nat) (m'' : List (List UInt8 × Value)) (S' : List (List UInt8)), Rul.step (Rul.finalB l known) known r B = ⟨S', r :: B.out⟩ → LH w1 (fun b => b ∈ [D + 1, D, bs, b5, b4, m5, m4, by_]) w' (cnL fv (.slice pa l.length pc) es4 c4 es' c' by_ b4 b5 m4 m5 bs D (D + 1) { rec with state := .busy }) →
          J (r :: B.out) Fp' w2 → LatR Fp Fp' w' w2 → MapR str es' m'' → LiftMap m'' S' → w2.heap[D + 1]? = some (.loop { rec with state := .busy }) ∧ ∀ w3, SetAt w2 w3 (D + 1) (.loop { rec with state := .ready, pending := none }) →
          ∃ (Fp : Nat → Prop) (es5 : Array MapEntry) (c5 : Nat) (m' : List (List UInt8 × Value)), J (Rul.step (Rul.finalB l known) known r B).out Fp w3 ∧ LH ws F0 w3 (cnL fv (.slice pa l.length pc) es4 c4 es5 c5 by_ b4 b5 m4 m5 bs D (D + 1) rec) ∧
      (∀ b ∈ [D + 1, D, bs, b5, b4, m5, m4, by_], ¬ Fp b) ∧ (∀ b, Fp b → F0 b ∨ ws.heap.size ≤ b) ∧ MapR str es5 m' ∧ LiftMap m' (Rul.step (Rul.finalB l known) known r B).lifted := by
        intro w' w2 Fp' es' c' m'' S' hst h' hJ2 hlat hm'' hl''
        rw [hst]
        have h2' := (h'.moreM (M' := fun b => b ∈ [D + 1, D, bs, b5, b4, m5, m4, by_] ∨ Fp b) fun b hb => .inl hb).across hlat (fun p hp => hG _ (List.mem_map.2 ⟨p, hp, rfl⟩)) fun b hb => .inr hb
        have hG' : ∀ b ∈ [D + 1, D, bs, b5, b4, m5, m4, by_], ¬ Fp' b := fun b hb hFb => by
          rcases hlat.2 b hFb with h5 | h5
          · exact hG b hb h5
          · have := h'.idlt (b := b) hb
            omega
        refine ⟨h2'.get 0 rfl, fun w3 hw3 => ?_⟩
        have h3' : LH w1 _ w3 (cnL fv (.slice pa l.length pc) es4 c4 es' c' by_ b4 b5 m4 m5 bs D (D + 1) { rec with state := .ready, pending := none }) := h2'.put 0 rfl hw3
        rw [hrr] at h3'
        refine ⟨Fp', es', c', m'', hX _ _ _ _ _ hJ2 (upd_setAt hw3) (fun b hb => ?_), h.bk2 hgeP hF h3' rfl, hG', fun b hb => ?_, hm'', hl''⟩
        · subst hb
          exact ⟨hG' _ List.mem_cons_self, hge _ List.mem_cons_self⟩
        · rcases hlat.2 b hb with h5 | h5
          · exact hF b h5
          · exact .inr (Nat.le_trans (Nat.le_trans h.upd.size h'.upd.size) h5)
      have hsub : ∀ (w' : World) (o9 : Obj) (L : List (Nat × Obj)), LH w1 (fun b => b ∈ [D + 1, D, bs, b5, b4, m5, m4, by_]) w' ((b9, o9) :: L) → LH w1 (fun b => b ∈ [D + 1, D, bs, b5, b4, m5, m4, by_]) w' L := fun w' o9 L h' => h'.sub (List.sublist_cons_self _ _)
      unfold cnL at hl
      by_cases hk : known < r.known
      · have hst := Rul.step_no (fn := Rul.finalB l known) (known := known) (r := r) (g := B) (.inl hk)
        repeat' (first | refine a_mov ?_ | refine a_asg ?_ | refine a_binN ?_ | refine a_notd ?_ | refine a_notb ?_ | refine a_nilc ?_ | refine a_fa ?_ | refine a_ext ?_ | refine a_lenv ?_ | refine a_lens ?_ | refine a_pick_t ?_ | refine a_pick_f ?_ | refine a_not ?_ | refine a_nilf ?_ | (refine o_nil (hK _ _ ?_); clear hK K) | refine wk_reg ?_ | refine wk_seq fun K hK => ?_ | (refine wk_skip (hK _ _ ?_); clear hK K) | (refine wk_label (hK _ _ ?_); clear hK K) | refine wk_scope ?_ | refine wk_block ?_ | refine wk_cond_t rfl ?_ | refine wk_cond_f rfl ?_ | (refine wk_exit ?_; (repeat (refine blockK_other rfl ?_)); refine blockK_same ?_; try ((repeat ((fail_if_success (refine hK _ _ ?_)); clear hK K)); refine hK _ _ ?_; clear hK K)) | (refine a_bin ?_ ?_ <;> intro _ <;> try (exfalso; omega)) | refine a_ld hl ?_ | (refine a_st hl ?_; clear hl; intro _ hl) | refine a_ix (fun _ => ?_) | refine o_load rfl rfl rfl (k3 _ _ hl) ?_)
        all_goals exact ⟨_, hl.get 1 rfl, fun w' hw' => ⟨rfl, skipE w' _ hst (hl.put 1 rfl hw')⟩⟩
      have hlid := hlf r.id
      have hfl := hfm r.lifts
      by_cases hid : r.id ∈ B.lifted
      · rw [decide_eq_true hid] at hlid
        have hst := Rul.step_no (fn := Rul.finalB l known) (known := known) (r := r) (g := B) (.inr (.inr hid))
        clear goE
        by_cases h6 : r.kind = 6
        · cases hf : Rul.finalB l known r.lifts
          all_goals rw [hf] at hfl
          all_goals repeat' (first | refine a_mov ?_ | refine a_asg ?_ | refine a_binN ?_ | refine a_notd ?_ | refine a_notb ?_ | refine a_nilc ?_ | refine a_fa ?_ | refine a_ext ?_ | refine a_lenv ?_ | refine a_lens ?_ | refine a_pick_t ?_ | refine a_pick_f ?_ | refine a_not ?_ | refine a_nilf ?_ | (refine o_nil (hK _ _ ?_); clear hK K) | refine wk_reg ?_ | refine wk_seq fun K hK => ?_ | (refine wk_skip (hK _ _ ?_); clear hK K) | (refine wk_label (hK _ _ ?_); clear hK K) | refine wk_scope ?_ | refine wk_block ?_ | refine wk_cond_t rfl ?_ | refine wk_cond_f rfl ?_ | (refine wk_exit ?_; (repeat (refine blockK_other rfl ?_)); refine blockK_same ?_; try ((repeat ((fail_if_success (refine hK _ _ ?_)); clear hK K)); refine hK _ _ ?_; clear hK K)) | (refine a_bin ?_ ?_ <;> intro _ <;> try (exfalso; omega)) | refine a_ld hl ?_ | (refine a_st hl ?_; clear hl; intro _ hl) | refine a_ix (fun _ => ?_) | refine o_load rfl rfl rfl (k3 _ _ hl) ?_ | (refine o_lookup r.lifts hm (hl.get 7 rfl) keyId rfl rfl rfl rfl rfl ?_; rw [hfl]) | (refine o_lookup r.id hm5' (hl.get 6 rfl) keyId rfl rfl rfl rfl rfl ?_; rw [hlid]))
          all_goals exact ⟨_, hl.get 1 rfl, fun w' hw' => ⟨rfl, skipE w' _ hst (hl.put 1 rfl hw')⟩⟩
        · repeat' (first | refine a_mov ?_ | refine a_asg ?_ | refine a_binN ?_ | refine a_notd ?_ | refine a_notb ?_ | refine a_nilc ?_ | refine a_fa ?_ | refine a_ext ?_ | refine a_lenv ?_ | refine a_lens ?_ | refine a_pick_t ?_ | refine a_pick_f ?_ | refine a_not ?_ | refine a_nilf ?_ | (refine o_nil (hK _ _ ?_); clear hK K) | refine wk_reg ?_ | refine wk_seq fun K hK => ?_ | (refine wk_skip (hK _ _ ?_); clear hK K) | (refine wk_label (hK _ _ ?_); clear hK K) | refine wk_scope ?_ | refine wk_block ?_ | refine wk_cond_t rfl ?_ | refine wk_cond_f rfl ?_ | (refine wk_exit ?_; (repeat (refine blockK_other rfl ?_)); refine blockK_same ?_; try ((repeat ((fail_if_success (refine hK _ _ ?_)); clear hK K)); refine hK _ _ ?_; clear hK K)) | (refine a_bin ?_ ?_ <;> intro _ <;> try (exfalso; omega)) | refine a_ld hl ?_ | (refine a_st hl ?_; clear hl; intro _ hl) | refine a_ix (fun _ => ?_) | refine o_load rfl rfl rfl (k3 _ _ hl) ?_ | (refine o_lookup r.id hm5' (hl.get 6 rfl) keyId rfl rfl rfl rfl rfl ?_; rw [hlid]))
          all_goals exact ⟨_, hl.get 1 rfl, fun w' hw' => ⟨rfl, skipE w' _ hst (hl.put 1 rfl hw')⟩⟩
      rw [decide_eq_false hid] at hlid
      have hyes := Rul.step_yes (fn := Rul.finalB l known) (known := known) (r := r) (g := B)
      by_cases h6 : r.kind = 6
      · cases hf : Rul.finalB l known r.lifts
        · rw [hf] at hfl
          have hst := hyes (by rintro (h' | h' | h'); exact hk h'; (rw [hf] at h'; cases h'.2); exact hid h')
          rw [if_pos h6] at hst
          clear hyes skipE
          repeat' (first | refine a_mov ?_ | refine a_asg ?_ | refine a_binN ?_ | refine a_notd ?_ | refine a_notb ?_ | refine a_nilc ?_ | refine a_fa ?_ | refine a_ext ?_ | refine a_lenv ?_ | refine a_lens ?_ | refine a_pick_t ?_ | refine a_pick_f ?_ | refine a_not ?_ | refine a_nilf ?_ | (refine o_nil (hK _ _ ?_); clear hK K) | refine wk_reg ?_ | refine wk_seq fun K hK => ?_ | (refine wk_skip (hK _ _ ?_); clear hK K) | (refine wk_label (hK _ _ ?_); clear hK K) | refine wk_scope ?_ | refine wk_block ?_ | refine wk_cond_t rfl ?_ | refine wk_cond_f rfl ?_ | (refine wk_exit ?_; (repeat (refine blockK_other rfl ?_)); refine blockK_same ?_; try ((repeat ((fail_if_success (refine hK _ _ ?_)); clear hK K)); refine hK _ _ ?_; clear hK K)) | (refine a_bin ?_ ?_ <;> intro _ <;> try (exfalso; omega)) | refine a_ld hl ?_ | (refine a_st hl ?_; clear hl; intro _ hl) | refine a_ix (fun _ => ?_) | refine o_load rfl rfl rfl (k3 _ _ hl) ?_ | (refine o_lookup r.lifts hm (hl.get 7 rfl) keyId rfl rfl rfl rfl rfl ?_; rw [hfl]) | (refine o_lookup r.id hm5' (hl.get 6 rfl) keyId rfl rfl rfl rfl rfl ?_; rw [hlid]))
          refine o_mapUpdate r.lifts hl 6 rfl hm5' keyId rfl rfl rfl rfl rfl ?_
          clear hl
          intro w12 es' c' hm'' hl
          repeat' (first | refine a_mov ?_ | refine a_asg ?_ | refine a_binN ?_ | refine a_notd ?_ | refine a_notb ?_ | refine a_nilc ?_ | refine a_fa ?_ | refine a_ext ?_ | refine a_lenv ?_ | refine a_lens ?_ | refine a_pick_t ?_ | refine a_pick_f ?_ | refine a_not ?_ | refine a_nilf ?_ | (refine o_nil (hK _ _ ?_); clear hK K) | refine wk_reg ?_ | refine wk_seq fun K hK => ?_ | (refine wk_skip (hK _ _ ?_); clear hK K) | (refine wk_label (hK _ _ ?_); clear hK K) | refine wk_scope ?_ | refine wk_block ?_ | refine wk_cond_t rfl ?_ | refine wk_cond_f rfl ?_ | (refine wk_exit ?_; (repeat (refine blockK_other rfl ?_)); refine blockK_same ?_; try ((repeat ((fail_if_success (refine hK _ _ ?_)); clear hK K)); refine hK _ _ ?_; clear hK K)) | (refine a_bin ?_ ?_ <;> intro _ <;> try (exfalso; omega)) | refine a_ld hl ?_ | (refine a_st hl ?_; clear hl; intro _ hl) | refine a_ix (fun _ => ?_) | refine a_all (hl.rowL (vs := [str (r).id, str (r).tgt, .int .i64 (r).kind, .int .i64 (r).fro, .int .i64 (r).til, .int .i64 (r).read.op, str (r).read.name, .int .i64 (r).read.cmp, .int .i64 (r).read.num, kv, .int .i64 (r).known, .bool (r).fin, str (r).lifts]) 0 0 13 rfl) ?_)
          have hl1 := hsub _ _ _ hl
          refine o_callv (fv := fv) (args := #[.agg (rulC r kv).toArray]) rfl rfl rfl (hY B.out r (Rul.outs (Rul.finalB l known) known l i) Fp _ kv (by rw [hst] at hrest; exact hrest.symm) (jx _ _ hl1) hkk) ?_
          rintro _ w13 ⟨rfl, Fp', hJ2, hlat⟩
          obtain ⟨hget, hgo⟩ := goE _ w13 Fp' es' c' _ _ hst hl1 hJ2 hlat hm'' (hlf.step r.lifts)
          repeat' (first | refine a_mov ?_ | refine a_asg ?_ | refine a_binN ?_ | refine a_notd ?_ | refine a_notb ?_ | refine a_nilc ?_ | refine a_fa ?_ | refine a_ext ?_ | refine a_lenv ?_ | refine a_lens ?_ | refine a_pick_t ?_ | refine a_pick_f ?_ | refine a_not ?_ | refine a_nilf ?_ | (refine o_nil (hK _ _ ?_); clear hK K) | refine wk_reg ?_ | refine wk_seq fun K hK => ?_ | (refine wk_skip (hK _ _ ?_); clear hK K) | (refine wk_label (hK _ _ ?_); clear hK K) | refine wk_scope ?_ | refine wk_block ?_ | refine wk_cond_t rfl ?_ | refine wk_cond_f rfl ?_ | (refine wk_exit ?_; (repeat (refine blockK_other rfl ?_)); refine blockK_same ?_; try ((repeat ((fail_if_success (refine hK _ _ ?_)); clear hK K)); refine hK _ _ ?_; clear hK K)) | (refine a_bin ?_ ?_ <;> intro _ <;> try (exfalso; omega)) | refine a_ld hl ?_ | (refine a_st hl ?_; clear hl; intro _ hl) | refine a_ix (fun _ => ?_) | fail)
          exact wk_skip ⟨_, hget, fun w' hw' => ⟨rfl, hgo w' hw'⟩⟩
        · rw [hf] at hfl
          have hst := Rul.step_no (fn := Rul.finalB l known) (known := known) (r := r) (g := B) (.inr (.inl ⟨h6, hf⟩))
          clear goE
          repeat' (first | refine a_mov ?_ | refine a_asg ?_ | refine a_binN ?_ | refine a_notd ?_ | refine a_notb ?_ | refine a_nilc ?_ | refine a_fa ?_ | refine a_ext ?_ | refine a_lenv ?_ | refine a_lens ?_ | refine a_pick_t ?_ | refine a_pick_f ?_ | refine a_not ?_ | refine a_nilf ?_ | (refine o_nil (hK _ _ ?_); clear hK K) | refine wk_reg ?_ | refine wk_seq fun K hK => ?_ | (refine wk_skip (hK _ _ ?_); clear hK K) | (refine wk_label (hK _ _ ?_); clear hK K) | refine wk_scope ?_ | refine wk_block ?_ | refine wk_cond_t rfl ?_ | refine wk_cond_f rfl ?_ | (refine wk_exit ?_; (repeat (refine blockK_other rfl ?_)); refine blockK_same ?_; try ((repeat ((fail_if_success (refine hK _ _ ?_)); clear hK K)); refine hK _ _ ?_; clear hK K)) | (refine a_bin ?_ ?_ <;> intro _ <;> try (exfalso; omega)) | refine a_ld hl ?_ | (refine a_st hl ?_; clear hl; intro _ hl) | refine a_ix (fun _ => ?_) | refine o_load rfl rfl rfl (k3 _ _ hl) ?_ | (refine o_lookup r.lifts hm (hl.get 7 rfl) keyId rfl rfl rfl rfl rfl ?_; rw [hfl]) | (refine o_lookup r.id hm5' (hl.get 6 rfl) keyId rfl rfl rfl rfl rfl ?_; rw [hlid]))
          all_goals exact ⟨_, hl.get 1 rfl, fun w' hw' => ⟨rfl, skipE w' _ hst (hl.put 1 rfl hw')⟩⟩
      · have hst := hyes (by rintro (h' | h' | h'); exact hk h'; exact h6 h'.1; exact hid h')
        rw [if_neg h6] at hst
        clear hyes skipE
        repeat' (first | refine a_mov ?_ | refine a_asg ?_ | refine a_binN ?_ | refine a_notd ?_ | refine a_notb ?_ | refine a_nilc ?_ | refine a_fa ?_ | refine a_ext ?_ | refine a_lenv ?_ | refine a_lens ?_ | refine a_pick_t ?_ | refine a_pick_f ?_ | refine a_not ?_ | refine a_nilf ?_ | (refine o_nil (hK _ _ ?_); clear hK K) | refine wk_reg ?_ | refine wk_seq fun K hK => ?_ | (refine wk_skip (hK _ _ ?_); clear hK K) | (refine wk_label (hK _ _ ?_); clear hK K) | refine wk_scope ?_ | refine wk_block ?_ | refine wk_cond_t rfl ?_ | refine wk_cond_f rfl ?_ | (refine wk_exit ?_; (repeat (refine blockK_other rfl ?_)); refine blockK_same ?_; try ((repeat ((fail_if_success (refine hK _ _ ?_)); clear hK K)); refine hK _ _ ?_; clear hK K)) | (refine a_bin ?_ ?_ <;> intro _ <;> try (exfalso; omega)) | refine a_ld hl ?_ | (refine a_st hl ?_; clear hl; intro _ hl) | refine a_ix (fun _ => ?_) | refine o_load rfl rfl rfl (k3 _ _ hl) ?_ | (refine o_lookup r.id hm5' (hl.get 6 rfl) keyId rfl rfl rfl rfl rfl ?_; rw [hlid]) | refine a_all (hl.rowL (vs := [str (r).id, str (r).tgt, .int .i64 (r).kind, .int .i64 (r).fro, .int .i64 (r).til, .int .i64 (r).read.op, str (r).read.name, .int .i64 (r).read.cmp, .int .i64 (r).read.num, kv, .int .i64 (r).known, .bool (r).fin, str (r).lifts]) 0 0 13 rfl) ?_)
        have hl1 := hsub _ _ _ hl
        refine o_callv (fv := fv) (args := #[.agg (rulC r kv).toArray]) rfl rfl rfl (hY B.out r (Rul.outs (Rul.finalB l known) known l i) Fp _ kv (by rw [hst] at hrest; exact hrest.symm) (jx _ _ hl1) hkk) ?_
        rintro _ w13 ⟨rfl, Fp', hJ2, hlat⟩
        obtain ⟨hget, hgo⟩ := goE _ w13 Fp' es5 c5 _ _ hst hl1 hJ2 hlat hm5' hlf
        repeat' (first | refine a_mov ?_ | refine a_asg ?_ | refine a_binN ?_ | refine a_notd ?_ | refine a_notb ?_ | refine a_nilc ?_ | refine a_fa ?_ | refine a_ext ?_ | refine a_lenv ?_ | refine a_lens ?_ | refine a_pick_t ?_ | refine a_pick_f ?_ | refine a_not ?_ | refine a_nilf ?_ | (refine o_nil (hK _ _ ?_); clear hK K) | refine wk_reg ?_ | refine wk_seq fun K hK => ?_ | (refine wk_skip (hK _ _ ?_); clear hK K) | (refine wk_label (hK _ _ ?_); clear hK K) | refine wk_scope ?_ | refine wk_block ?_ | refine wk_cond_t rfl ?_ | refine wk_cond_f rfl ?_ | (refine wk_exit ?_; (repeat (refine blockK_other rfl ?_)); refine blockK_same ?_; try ((repeat ((fail_if_success (refine hK _ _ ?_)); clear hK K)); refine hK _ _ ?_; clear hK K)) | (refine a_bin ?_ ?_ <;> intro _ <;> try (exfalso; omega)) | refine a_ld hl ?_ | (refine a_st hl ?_; clear hl; intro _ hl) | refine a_ix (fun _ => ?_) | fail)
        exact wk_skip ⟨_, hget, fun w' hw' => ⟨rfl, hgo w' hw'⟩⟩
    · refine ⟨F0, #[], 0, [], ?_, hl8.moreM (fun _ h => h.elim), fun b hb hF => ?_, fun b hb => .inl hb, MapR.nil, fun s => ?_⟩
      · rw [List.drop_length]
        exact hX _ _ _ _ _ hj hl8.upd (fun _ h => h.elim)
      · have := hge b hb
        have := hF0lt b hF
        omega
      · rw [List.drop_length]; rfl
    · rintro e w9 ⟨v, rfl, Fp, es5, c5, m', hJ1, hl, hG, hF, -, -⟩
      refine ⟨v, rfl, rec, hl.get 0 rfl, by rw [hready]; exact fun h => (nomatch h), ?_⟩
      intro w10 hw10
      rw [hpend]
      dsimp only
      have hrb := hl.rb
      replace hrb := hrb.put 0 rfl hw10
      have hrb : LH w9 (fun b => b ∈ [D + 1, D, bs, b5, b4, m5, m4, by_]) w10 (cnL fv (.slice pa l.length pc) es4 c4 es5 c5 by_ b4 b5 m4 m5 bs D (D + 1) { rec with state := .exhausted }) := hrb
      repeat' (first | refine a_mov ?_ | refine a_asg ?_ | refine a_binN ?_ | refine a_notd ?_ | refine a_notb ?_ | refine a_nilc ?_ | refine a_fa ?_ | refine a_ext ?_ | refine a_lenv ?_ | refine a_lens ?_ | refine a_pick_t ?_ | refine a_pick_f ?_ | refine a_not ?_ | refine a_nilf ?_ | (refine o_nil (hK _ _ ?_); clear hK K) | refine wk_reg ?_ | refine wk_seq fun K hK => ?_ | (refine wk_skip (hK _ _ ?_); clear hK K) | (refine wk_label (hK _ _ ?_); clear hK K) | refine wk_scope ?_ | refine wk_block ?_ | refine wk_cond_t rfl ?_ | refine wk_cond_f rfl ?_ | (refine wk_exit ?_; (repeat (refine blockK_other rfl ?_)); refine blockK_same ?_; try ((repeat ((fail_if_success (refine hK _ _ ?_)); clear hK K)); refine hK _ _ ?_; clear hK K)) | (refine a_bin ?_ ?_ <;> intro _ <;> try (exfalso; omega)) | refine a_ld hl ?_ | (refine a_st hl ?_; clear hl; intro _ hl) | refine a_ix (fun _ => ?_) | fail)
      refine retQ_res1 [] rfl rfl (hrb.get 1 rfl) ?_
      intro w11 hw11
      replace hrb := hrb.put 1 rfl hw11
      have hup := (h0up hl hrb (fun b hb => hge b hb))
      refine ⟨trivial, Fp, hX _ _ _ _ _ hJ1 hrb.upd (fun b hb => ⟨hG b hb, hge b hb⟩), hup, hF⟩
end Go.Proofs
