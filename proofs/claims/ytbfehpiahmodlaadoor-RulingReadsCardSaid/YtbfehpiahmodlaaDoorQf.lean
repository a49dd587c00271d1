/-
  Rulings: Reverse, Count.
-/
import Derived.Test.YtbfehpiahmodlaaDoorQe
set_option linter.unusedVariables false
set_option linter.unusedSimpArgs false
set_option linter.unnecessarySimpa false
set_option maxRecDepth 10000
namespace Go.Proofs
open Go Go.Pd Go.Lexs Go.Fin Go.Fo
attribute [local irreducible] OpsL W RetQ OpsQ OpsC

/-- Turned round from both ends, so far. -/
structure RevTo {α : Type} (ps : List α) (i : Nat) (qs : List α) : Prop where
  len : qs.length = ps.length
  get : ∀ k, k < ps.length → qs[k]? = if k < i ∨ ps.length ≤ k + i then ps[ps.length - 1 - k]? else ps[k]?
theorem RevTo.start {α : Type} (ps : List α) : RevTo ps 0 ps := ⟨rfl, fun k hk => by rw [if_neg (by omega)]⟩
theorem RevTo.step {α : Type} {ps qs : List α} {i j : Nat} (h : RevTo ps i qs) (hij : i < j) (hm : i + j + 1 = ps.length) {x y : α} (hx : qs[i]? = some x) (hy : qs[j]? = some y) : RevTo ps (i + 1) ((qs.set i y).set j x) := by
  have hl := h.len
  have hx' : ps[i]? = some x := by rw [← hx, h.get i (by omega), if_neg (by omega)]
  have hy' : ps[j]? = some y := by rw [← hy, h.get j (by omega), if_neg (by omega)]
  refine ⟨by simp [hl], fun k hk => ?_⟩
  rw [List.getElem?_set, List.getElem?_set, List.length_set]
  by_cases h1 : j = k
  · subst h1
    rw [if_pos rfl, if_pos (by omega), if_pos (by omega), show ps.length - 1 - j = i by omega, hx']
  · rw [if_neg h1]
    by_cases h2 : i = k
    · subst h2
      rw [if_pos rfl, if_pos (by omega), if_pos (by omega), show ps.length - 1 - i = j by omega, hy']
    · rw [if_neg h2, h.get k hk]
      by_cases h3 : k < i ∨ ps.length ≤ k + i
      · rw [if_pos h3, if_pos (by omega)]
      · rw [if_neg h3, if_neg (by omega)]
theorem RevTo.done {α : Type} {ps qs : List α} {i : Nat} (h : RevTo ps i qs) (hi : ps.length ≤ 2 * i + 1) : qs = ps.reverse := by
  refine List.ext_getElem? fun k => ?_
  by_cases hk : k < ps.length
  · rw [h.get k hk, List.getElem?_reverse hk]
    split
    · rfl
    · have : ps.length - 1 - k = k := by omega
      rw [this]
  · rw [List.getElem?_eq_none (by rw [h.len]; omega), List.getElem?_eq_none (by simp; omega)]

set_option maxHeartbeats 4000000 in
theorem reverse_calls (ps : List (Rul.Rul × Value)) (v : Value) (acc : List (Nat × Obj)) (w : World) (hl0 : LH w (fun x => x ∈ acc.map (·.1)) w acc) (ha : Acc v 13 27 ps.length (ps.flatMap rulL) acc) (hm : ps.length ≤ 1000000) (hone : ∀ p ∈ ps, (rulL p).all Value.oneCell' = true) :
    Calls Tryd.prog 36 #[v] w (fun e w' => ∃ x, e = .returned x ∧ ∃ acc', LH w (fun x => x ∈ acc.map (·.1)) w' acc' ∧ Acc v 13 27 ps.length (ps.reverse.flatMap rulL) acc') := by
  rcases ha.2 with ⟨rfl, h0, rfl⟩ | ⟨b, cap, cur, rfl, rfl, h1, h2, h3, h4⟩
  · obtain rfl : ps = [] := List.eq_nil_of_length_eq_zero h0
    refine calls_of Tryd.func36 rfl Tryd.ntmps36 rfl ?_
    repeat' (first | refine a_mov ?_ | refine a_asg ?_ | refine a_binN ?_ | refine a_notd ?_ | refine a_notb ?_ | refine a_nilc ?_ | refine a_fa ?_ | refine a_ext ?_ | refine a_lenv ?_ | refine a_lens ?_ | refine a_pick_t ?_ | refine a_pick_f ?_ | refine a_not ?_ | refine a_nilf ?_ | (refine o_nil (hK _ _ ?_); clear hK K) | refine wk_reg ?_ | refine wk_seq fun K hK => ?_ | (refine wk_skip (hK _ _ ?_); clear hK K) | (refine wk_label (hK _ _ ?_); clear hK K) | refine wk_scope ?_ | refine wk_block ?_ | refine wk_cond_t rfl ?_ | refine wk_cond_f rfl ?_ | (refine wk_exit ?_; (repeat (refine blockK_other rfl ?_)); refine blockK_same ?_; try ((repeat ((fail_if_success (refine hK _ _ ?_)); clear hK K)); refine hK _ _ ?_; clear hK K)) | (refine a_bin ?_ ?_ <;> intro _ <;> try (exfalso; omega)) | refine a_ld hl ?_ | (refine a_st hl ?_; clear hl; intro _ hl) | refine a_ix (fun _ => ?_) | fail)
    refine wk_loopH [] rfl (fun _ : Unit => [(0, .slice none 0 0), (2, .int .i64 0), (3, .int .i64 (-1))]) (fun _ w' => w' = w) (fun _ => 0) () ⟨rfl, rfl, rfl, trivial⟩ rfl ?_
    rintro - t _ rfl
    repeat' (first | refine a_mov ?_ | refine a_asg ?_ | refine a_binN ?_ | refine a_notd ?_ | refine a_notb ?_ | refine a_nilc ?_ | refine a_fa ?_ | refine a_ext ?_ | refine a_lenv ?_ | refine a_lens ?_ | refine a_pick_t ?_ | refine a_pick_f ?_ | refine a_not ?_ | refine a_nilf ?_ | (refine o_nil (hK _ _ ?_); clear hK K) | refine wk_reg ?_ | refine wk_seq fun K hK => ?_ | (refine wk_skip (hK _ _ ?_); clear hK K) | (refine wk_label (hK _ _ ?_); clear hK K) | refine wk_scope ?_ | refine wk_block ?_ | refine wk_cond_t rfl ?_ | refine wk_cond_f rfl ?_ | (refine wk_exit ?_; (repeat (refine blockK_other rfl ?_)); refine blockK_same ?_; try ((repeat ((fail_if_success (refine hK _ _ ?_)); clear hK K)); refine hK _ _ ?_; clear hK K)) | (refine a_bin ?_ ?_ <;> intro _ <;> try (exfalso; omega)) | refine a_ld hl ?_ | (refine a_st hl ?_; clear hl; intro _ hl) | refine a_ix (fun _ => ?_) | fail)
    exact retQ_tmp0 rfl rfl ⟨[], hl0, ha⟩
  · generalize hj : cur.toList.drop (ps.length * 13) = junk
    have hcur : cur = (ps.flatMap rulL ++ junk).toArray := by
      rw [← h4, ← hj, List.take_append_drop]
    have hjl : junk.length = cap * 13 - ps.length * 13 := by rw [← hj, List.length_drop]; simp [h3]
    clear hj ha h4
    subst hcur
    generalize (fun x => x ∈ List.map (·.1) [(b, Obj.cells (ps.flatMap rulL ++ junk).toArray 27 (0, 0))]) = ids at *
    generalize hml : ps.length = m at *
    refine calls_of Tryd.func36 rfl Tryd.ntmps36 rfl ?_
    repeat' (first | refine a_mov ?_ | refine a_asg ?_ | refine a_binN ?_ | refine a_notd ?_ | refine a_notb ?_ | refine a_nilc ?_ | refine a_fa ?_ | refine a_ext ?_ | refine a_lenv ?_ | refine a_lens ?_ | refine a_pick_t ?_ | refine a_pick_f ?_ | refine a_not ?_ | refine a_nilf ?_ | (refine o_nil (hK _ _ ?_); clear hK K) | refine wk_reg ?_ | refine wk_seq fun K hK => ?_ | (refine wk_skip (hK _ _ ?_); clear hK K) | (refine wk_label (hK _ _ ?_); clear hK K) | refine wk_scope ?_ | refine wk_block ?_ | refine wk_cond_t rfl ?_ | refine wk_cond_f rfl ?_ | (refine wk_exit ?_; (repeat (refine blockK_other rfl ?_)); refine blockK_same ?_; try ((repeat ((fail_if_success (refine hK _ _ ?_)); clear hK K)); refine hK _ _ ?_; clear hK K)) | (refine a_bin ?_ ?_ <;> intro _ <;> try (exfalso; omega)) | refine a_ld hl ?_ | (refine a_st hl ?_; clear hl; intro _ hl) | refine a_ix (fun _ => ?_) | fail)
    refine wk_loopH [] rfl (fun q : Nat × List (Rul.Rul × Value) => [(0, .slice (some ⟨b, 0, none⟩) m cap), (2, .int .i64 (q.1 : Int)), (3, .int .i64 ((m : Int) - 1 - (q.1 : Int)))])
      (fun q w' => (q.1 ≤ m ∧ RevTo ps q.1 q.2 ∧ ∀ p ∈ q.2, (rulL p).all Value.oneCell' = true) ∧ LH w ids w' [(b, Obj.cells (q.2.flatMap rulL ++ junk).toArray 27 (0, 0))]) (fun q => m - q.1) (0, ps) ⟨rfl, rfl, by show Value.int .i64 ((m : Int) - 1) = Value.int .i64 ((m : Int) - 1 - ((0 : Nat) : Int)); congr 1; omega, trivial⟩ ⟨⟨Nat.zero_le _, .start ps, hone⟩, hl0⟩ ?_
    clear hone hl0
    rintro ⟨i, qs⟩ t w1 ⟨⟨hi, hrev, hone⟩, hl⟩
    simp only at hi hrev hone hl
    have hql := hrev.len
    by_cases hc : 2 * i + 1 < m
    · obtain ⟨j, hj⟩ : ∃ j : Nat, i + j + 1 = m := ⟨m - 1 - i, by omega⟩
      have hjz : (m : Int) - 1 - (i : Int) = (j : Int) := by omega
      have hx : qs[i]? = some qs[i] := List.getElem?_eq_getElem (by omega)
      have hy : qs[j]? = some qs[j] := List.getElem?_eq_getElem (by omega)
      have hxm : qs[i] ∈ qs := List.getElem_mem _
      have hym : qs[j] ∈ qs := List.getElem_mem _
      generalize qs[i] = x at hx hxm
      generalize qs[j] = y at hy hym
      have hrow : ∀ (w' : World), To w1 w' w1.heap → Row w' b 0 (qs.flatMap rulL) := fun w' hw' => Row.of_block ((hl.heap hw').get 0 rfl) fun k u hk => by
        rw [Nat.zero_add]
        have := List.getElem?_eq_some_iff.1 hk
        simp only [List.getElem?_toArray]
        rw [List.getElem?_append_left this.1]
        exact hk
      have rx : ∀ (w' : World), To w1 w' w1.heap → Row w' b (0 + i * 13) (rulL x) := fun w' hw' => (hrow w' hw').elem rulL_len hx
      have ry : ∀ (w' : World), To w1 w' w1.heap → Row w' b (0 + j * 13) (rulL y) := fun w' hw' => (hrow w' hw').elem rulL_len hy
      rw [hjz]
      repeat' (first | refine a_mov ?_ | refine a_asg ?_ | refine a_binN ?_ | refine a_notd ?_ | refine a_notb ?_ | refine a_nilc ?_ | refine a_fa ?_ | refine a_ext ?_ | refine a_lenv ?_ | refine a_lens ?_ | refine a_pick_t ?_ | refine a_pick_f ?_ | refine a_not ?_ | refine a_nilf ?_ | (refine o_nil (hK _ _ ?_); clear hK K) | refine wk_reg ?_ | refine wk_seq fun K hK => ?_ | (refine wk_skip (hK _ _ ?_); clear hK K) | (refine wk_label (hK _ _ ?_); clear hK K) | refine wk_scope ?_ | refine wk_block ?_ | refine wk_cond_t rfl ?_ | refine wk_cond_f rfl ?_ | (refine wk_exit ?_; (repeat (refine blockK_other rfl ?_)); refine blockK_same ?_; try ((repeat ((fail_if_success (refine hK _ _ ?_)); clear hK K)); refine hK _ _ ?_; clear hK K)) | (refine a_bin ?_ ?_ <;> intro _ <;> try (exfalso; omega)) | refine a_ld hl ?_ | (refine a_st hl ?_; clear hl; intro _ hl) | refine a_ix (fun _ => ?_) | fail)
      refine wk_draw [0, 1, 2, 3, 4, 5, 6, 7, 8, 9, 10, 11, 12, 14] [] [13, 15] (fun w' => To w1 w' w1.heap) (fun _ => True) rfl (by kernel_rfl) (fun _ _ _ _ h => by first | exact h | (simp only [BlockK, NoGoto, RetQ] at h)) (fun _ h => h) (fun _ _ => trivial) ?_
      repeat' (first | refine q_mov ?_ | refine q_asg ?_ | refine q_fa ?_ | refine q_ext ?_ | refine q_binN ?_ | refine q_notd ?_ | refine q_notb ?_ | refine q_pick_t ?_ | refine q_pick_f ?_ | refine q_nilc ?_ | refine q_skip ?_ | refine q_lens ?_ | refine q_lenv ?_ | refine q_nil ?_ | refine q_ix (fun _ => ?_) | (refine q_bin ?_ ?_ <;> intro _ <;> try (exfalso; omega)) | refine q_idx (c := 13) i rfl ?_ | refine q_idx (c := 13) j rfl ?_ | refine q_all (fun w_ hw_ => rx w_ hw_) ?_ | refine q_all (fun w_ hw_ => ry w_ hw_) ?_)
      intro w2 hw2
      replace hl := hl.heap hw2
      refine ops_tail rfl rfl ?_
      refine o_store hl 0 (rulL y) rfl rfl rfl rfl rfl (by rw [List.length_append, rulL_flat, rulL_len]; omega) (hone _ hym) ?_
      clear hl
      intro w3 hl
      refine o_nil ⟨trivial, ?_⟩
      rw [Nat.zero_add, putL_flat rulL_len y junk qs i (by omega)] at hl
      refine ops_tail rfl rfl ?_
      refine o_store hl 0 (rulL x) rfl rfl rfl rfl rfl (by rw [List.length_append, rulL_flat, rulL_len, List.length_set]; omega) (hone _ hxm) ?_
      clear hl
      intro w4 hl
      refine o_nil ⟨trivial, ?_⟩
      rw [Nat.zero_add, putL_flat rulL_len x junk _ j (by rw [List.length_set]; omega)] at hl
      refine ops_nil (hK _ _ ?_)
      clear hK K
      repeat' (first | refine a_mov ?_ | refine a_asg ?_ | refine a_binN ?_ | refine a_notd ?_ | refine a_notb ?_ | refine a_nilc ?_ | refine a_fa ?_ | refine a_ext ?_ | refine a_lenv ?_ | refine a_lens ?_ | refine a_pick_t ?_ | refine a_pick_f ?_ | refine a_not ?_ | refine a_nilf ?_ | (refine o_nil (hK _ _ ?_); clear hK K) | refine wk_reg ?_ | refine wk_seq fun K hK => ?_ | (refine wk_skip (hK _ _ ?_); clear hK K) | (refine wk_label (hK _ _ ?_); clear hK K) | refine wk_scope ?_ | refine wk_block ?_ | refine wk_cond_t rfl ?_ | refine wk_cond_f rfl ?_ | (refine wk_exit ?_; (repeat (refine blockK_other rfl ?_)); refine blockK_same ?_; try ((repeat ((fail_if_success (refine hK _ _ ?_)); clear hK K)); refine hK _ _ ?_; clear hK K)) | (refine a_bin ?_ ?_ <;> intro _ <;> try (exfalso; omega)) | refine a_ld hl ?_ | (refine a_st hl ?_; clear hl; intro _ hl) | refine a_ix (fun _ => ?_) | fail)
      refine o_nil ⟨(i + 1, (qs.set i y).set j x), ⟨rfl, rfl, ?_, trivial⟩, rfl, ⟨⟨by omega, hrev.step (by omega) (by omega) hx hy, fun p hp => ?_⟩, hl⟩, by show m - (i + 1) < m - i; omega⟩
      · show Value.int .i64 _ = Value.int .i64 _
        congr 1; omega
      · rcases List.mem_or_eq_of_mem_set hp with hp | rfl
        · rcases List.mem_or_eq_of_mem_set hp with hp | rfl
          · exact hone p hp
          · exact hone _ hym
        · exact hone _ hxm
    · have hd := hrev.done (by omega)
      subst hd
      repeat' (first | refine a_mov ?_ | refine a_asg ?_ | refine a_binN ?_ | refine a_notd ?_ | refine a_notb ?_ | refine a_nilc ?_ | refine a_fa ?_ | refine a_ext ?_ | refine a_lenv ?_ | refine a_lens ?_ | refine a_pick_t ?_ | refine a_pick_f ?_ | refine a_not ?_ | refine a_nilf ?_ | (refine o_nil (hK _ _ ?_); clear hK K) | refine wk_reg ?_ | refine wk_seq fun K hK => ?_ | (refine wk_skip (hK _ _ ?_); clear hK K) | (refine wk_label (hK _ _ ?_); clear hK K) | refine wk_scope ?_ | refine wk_block ?_ | refine wk_cond_t rfl ?_ | refine wk_cond_f rfl ?_ | (refine wk_exit ?_; (repeat (refine blockK_other rfl ?_)); refine blockK_same ?_; try ((repeat ((fail_if_success (refine hK _ _ ?_)); clear hK K)); refine hK _ _ ?_; clear hK K)) | (refine a_bin ?_ ?_ <;> intro _ <;> try (exfalso; omega)) | refine a_ld hl ?_ | (refine a_st hl ?_; clear hl; intro _ hl) | refine a_ix (fun _ => ?_) | fail)
      refine retQ_tmp0 rfl rfl ⟨_, hl, by rw [rulL_flat]; simp [hml], .inr ⟨b, cap, _, rfl, rfl, h1, h2, ?_, ?_⟩⟩
      · rw [List.size_toArray, List.length_append, rulL_flat, List.length_reverse, hjl, hml]; omega
      · simp only
        rw [List.take_append_of_le_length (by rw [rulL_flat]; simp [hml]), List.take_of_length_le (by rw [rulL_flat]; simp [hml])]

def ctL (out : Value) (b9 D L : Nat) (rec : Loop) : List (Nat × Obj) := [(L, .loop rec), (D, .deferred (some [])), (b9, .cells #[out] 36 (0, 0))]
def CtJ (w : World) (b9 D : Nat) (rec : Loop) (p : List Rul.Rul) (Fp : Nat → Prop) (w' : World) : Prop :=
  ∃ (out : Value) (acc : List (Nat × Obj)) (ps : List (Rul.Rul × Value)), Fp = (fun b => b ∈ (ctL out b9 D (D + 1) rec ++ acc).map (·.1)) ∧ LH w (fun _ => False) w' (ctL out b9 D (D + 1) rec ++ acc) ∧ ps.map (·.1) = p.reverse ∧ Acc out 13 27 p.length (ps.flatMap rulL) acc ∧ ∀ q ∈ ps, KA w q.1.read.kids q.2

set_option maxHeartbeats 8000000 in
theorem ruCount_calls (l : List Rul.Rul) (lv : Value) (known : Int) (w : World) (hL : RulsAt w l lv) (hlen : l.length ≤ 1000000) (hok : ∀ r ∈ l, cnt r.read ≤ 1000000 ∧ RuLen r) :
    Calls Tryd.prog 15 #[lv, .int .i64 known] w (fun e w' => ∃ x, e = .returned x ∧ (∃ v, x = .tuple #[v, .int .i64 ((Rul.countB l known).err : Int)] ∧ RulsAt w' (Rul.countB l known).out v) ∧ Ext w w') := by
  obtain ⟨pa, pc, rfl, -⟩ := hL.shape
  refine calls_of Tryd.func15 rfl Tryd.ntmps15 rfl ?_
  repeat' (first | refine a_mov ?_ | refine a_asg ?_ | refine a_binN ?_ | refine a_notd ?_ | refine a_notb ?_ | refine a_nilc ?_ | refine a_fa ?_ | refine a_ext ?_ | refine a_lenv ?_ | refine a_lens ?_ | refine a_pick_t ?_ | refine a_pick_f ?_ | refine a_not ?_ | refine a_nilf ?_ | (refine o_nil (hK _ _ ?_); clear hK K) | refine wk_reg ?_ | refine wk_seq fun K hK => ?_ | (refine wk_skip (hK _ _ ?_); clear hK K) | (refine wk_label (hK _ _ ?_); clear hK K) | refine wk_scope ?_ | refine wk_block ?_ | refine wk_cond_t rfl ?_ | refine wk_cond_f rfl ?_ | (refine wk_exit ?_; (repeat (refine blockK_other rfl ?_)); refine blockK_same ?_; try ((repeat ((fail_if_success (refine hK _ _ ?_)); clear hK K)); refine hK _ _ ?_; clear hK K)) | (refine a_bin ?_ ?_ <;> intro _ <;> try (exfalso; omega)) | refine a_ld hl ?_ | (refine a_st hl ?_; clear hl; intro _ hl) | refine a_ix (fun _ => ?_) | fail)
  refine o_makeMap (LH.start w (fun _ => False)) rfl ?_
  intro b6 w1 hb6 hl
  repeat' (first | refine a_mov ?_ | refine a_asg ?_ | refine a_binN ?_ | refine a_notd ?_ | refine a_notb ?_ | refine a_nilc ?_ | refine a_fa ?_ | refine a_ext ?_ | refine a_lenv ?_ | refine a_lens ?_ | refine a_pick_t ?_ | refine a_pick_f ?_ | refine a_not ?_ | refine a_nilf ?_ | (refine o_nil (hK _ _ ?_); clear hK K) | refine wk_reg ?_ | refine wk_seq fun K hK => ?_ | (refine wk_skip (hK _ _ ?_); clear hK K) | (refine wk_label (hK _ _ ?_); clear hK K) | refine wk_scope ?_ | refine wk_block ?_ | refine wk_cond_t rfl ?_ | refine wk_cond_f rfl ?_ | (refine wk_exit ?_; (repeat (refine blockK_other rfl ?_)); refine blockK_same ?_; try ((repeat ((fail_if_success (refine hK _ _ ?_)); clear hK K)); refine hK _ _ ?_; clear hK K)) | (refine a_bin ?_ ?_ <;> intro _ <;> try (exfalso; omega)) | refine a_ld hl ?_ | (refine a_st hl ?_; clear hl; intro _ hl) | refine a_ix (fun _ => ?_) | fail)
  refine wk_loopH [] rfl (fun q : Nat × Array MapEntry × Nat × List (List UInt8 × Value) => [(0, .slice pa l.length pc), (1, .int .i64 known), (6, .map (some b6)), (12, .slice pa l.length pc), (13, .int .i64 (l.length : Int)), (14, .int .i64 (q.1 : Int))])
    (fun q w' => q.1 ≤ l.length ∧ LH w (fun _ => False) w' [(b6, .map q.2.1 q.2.2.1)] ∧ MapR str q.2.1 q.2.2.2 ∧ Rul.Dist (q.2.2.2.map (·.1)) ((l.take q.1).map (·.id))) (fun q => l.length - q.1) (0, #[], 0, []) ⟨rfl, rfl, rfl, rfl, rfl, rfl, trivial⟩ ⟨Nat.zero_le _, hl, MapR.nil, Rul.Dist.nil⟩ ?_
  clear hl
  rintro ⟨i, es, c, m⟩ t w2 ⟨hi, hl, hm, hd⟩
  simp only at hi hl hm hd
  by_cases hi1 : i < l.length
  · obtain ⟨bs, os, kv, hp, hrow, hkk⟩ := (hL.ext hl.done).at hi1
    have hone := rulC_one hkk
    have hd' := hd.snoc (ks' := (ins m l[i].id (.bool true)).map (·.1)) l[i].id (fun h => by rw [keys_ins, if_pos h]) (fun h => by rw [keys_ins, if_neg h])
    rw [← List.map_singleton (f := fun r : Rul.Rul => r.id), ← List.map_append, ← List.take_succ_eq_append_getElem hi1] at hd'
    generalize l[i] = r at *
    repeat' (first | refine a_mov ?_ | refine a_asg ?_ | refine a_binN ?_ | refine a_notd ?_ | refine a_notb ?_ | refine a_nilc ?_ | refine a_fa ?_ | refine a_ext ?_ | refine a_lenv ?_ | refine a_lens ?_ | refine a_pick_t ?_ | refine a_pick_f ?_ | refine a_not ?_ | refine a_nilf ?_ | (refine o_nil (hK _ _ ?_); clear hK K) | refine wk_reg ?_ | refine wk_seq fun K hK => ?_ | (refine wk_skip (hK _ _ ?_); clear hK K) | (refine wk_label (hK _ _ ?_); clear hK K) | refine wk_scope ?_ | refine wk_block ?_ | refine wk_cond_t rfl ?_ | refine wk_cond_f rfl ?_ | (refine wk_exit ?_; (repeat (refine blockK_other rfl ?_)); refine blockK_same ?_; try ((repeat ((fail_if_success (refine hK _ _ ?_)); clear hK K)); refine hK _ _ ?_; clear hK K)) | (refine a_bin ?_ ?_ <;> intro _ <;> try (exfalso; omega)) | refine a_ld hl ?_ | (refine a_st hl ?_; clear hl; intro _ hl) | refine a_ix (fun _ => ?_) | refine a_idx (c := 13) i hp ?_ | refine a_all (vs := [str (r).id, str (r).tgt, .int .i64 (r).kind, .int .i64 (r).fro, .int .i64 (r).til, .int .i64 (r).read.op, str (r).read.name, .int .i64 (r).read.cmp, .int .i64 (r).read.num, kv, .int .i64 (r).known, .bool (r).fin, str (r).lifts]) hrow ?_)
    refine o_alloc hl [.string ⟨#[]⟩, .string ⟨#[]⟩, .int .i64 0, .int .i64 0, .int .i64 0, .int .i64 0, .string ⟨#[]⟩, .int .i64 0, .int .i64 0, .slice none 0 0, .int .i64 0, .bool false, .string ⟨#[]⟩] rfl rfl ?_
    clear hl
    intro b7 w7 hb7 hl
    refine o_putN (us := [str (r).id, str (r).tgt, .int .i64 (r).kind, .int .i64 (r).fro, .int .i64 (r).til, .int .i64 (r).read.op, str (r).read.name, .int .i64 (r).read.cmp, .int .i64 (r).read.num, kv, .int .i64 (r).known, .bool (r).fin, str (r).lifts]) hl rfl rfl rfl hone rfl (.all rfl rfl) ?_
    clear hl
    intro w8 hl
    repeat' (first | refine a_mov ?_ | refine a_asg ?_ | refine a_binN ?_ | refine a_notd ?_ | refine a_notb ?_ | refine a_nilc ?_ | refine a_fa ?_ | refine a_ext ?_ | refine a_lenv ?_ | refine a_lens ?_ | refine a_pick_t ?_ | refine a_pick_f ?_ | refine a_not ?_ | refine a_nilf ?_ | (refine o_nil (hK _ _ ?_); clear hK K) | refine wk_reg ?_ | refine wk_seq fun K hK => ?_ | (refine wk_skip (hK _ _ ?_); clear hK K) | (refine wk_label (hK _ _ ?_); clear hK K) | refine wk_scope ?_ | refine wk_block ?_ | refine wk_cond_t rfl ?_ | refine wk_cond_f rfl ?_ | (refine wk_exit ?_; (repeat (refine blockK_other rfl ?_)); refine blockK_same ?_; try ((repeat ((fail_if_success (refine hK _ _ ?_)); clear hK K)); refine hK _ _ ?_; clear hK K)) | (refine a_bin ?_ ?_ <;> intro _ <;> try (exfalso; omega)) | refine a_ld hl ?_ | (refine a_st hl ?_; clear hl; intro _ hl) | refine a_ix (fun _ => ?_) | refine o_mapUpdate r.id hl 1 rfl hm keyId rfl rfl rfl rfl rfl ?_)
    clear hl
    intro w9 es' c' hm' hl
    repeat' (first | refine a_mov ?_ | refine a_asg ?_ | refine a_binN ?_ | refine a_notd ?_ | refine a_notb ?_ | refine a_nilc ?_ | refine a_fa ?_ | refine a_ext ?_ | refine a_lenv ?_ | refine a_lens ?_ | refine a_pick_t ?_ | refine a_pick_f ?_ | refine a_not ?_ | refine a_nilf ?_ | (refine o_nil (hK _ _ ?_); clear hK K) | refine wk_reg ?_ | refine wk_seq fun K hK => ?_ | (refine wk_skip (hK _ _ ?_); clear hK K) | (refine wk_label (hK _ _ ?_); clear hK K) | refine wk_scope ?_ | refine wk_block ?_ | refine wk_cond_t rfl ?_ | refine wk_cond_f rfl ?_ | (refine wk_exit ?_; (repeat (refine blockK_other rfl ?_)); refine blockK_same ?_; try ((repeat ((fail_if_success (refine hK _ _ ?_)); clear hK K)); refine hK _ _ ?_; clear hK K)) | (refine a_bin ?_ ?_ <;> intro _ <;> try (exfalso; omega)) | refine a_ld hl ?_ | (refine a_st hl ?_; clear hl; intro _ hl) | refine a_ix (fun _ => ?_) | fail)
    exact o_nil ⟨(i + 1, es', c', _), ⟨rfl, rfl, rfl, rfl, rfl, rfl, trivial⟩, rfl, ⟨hi1, hl.sub (List.sublist_cons_self _ _), hm', hd'⟩, by show l.length - (i + 1) < l.length - i; omega⟩
  obtain rfl : i = l.length := by omega
  rw [List.take_of_length_le (Nat.le_refl _)] at hd
  have hcount : Rul.countB l known = if Rul.dayB known = false then ⟨[], 1⟩ else if 200 < l.length then ⟨[], 2⟩ else if l.all Rul.validB = false then ⟨[], 1⟩ else if Rul.idsNodup l = false then ⟨[], 9⟩ else ⟨Rul.counting l known, 0⟩ := rfl
  repeat' (first | refine a_mov ?_ | refine a_asg ?_ | refine a_binN ?_ | refine a_notd ?_ | refine a_notb ?_ | refine a_nilc ?_ | refine a_fa ?_ | refine a_ext ?_ | refine a_lenv ?_ | refine a_lens ?_ | refine a_pick_t ?_ | refine a_pick_f ?_ | refine a_not ?_ | refine a_nilf ?_ | (refine o_nil (hK _ _ ?_); clear hK K) | refine wk_reg ?_ | refine wk_seq fun K hK => ?_ | (refine wk_skip (hK _ _ ?_); clear hK K) | (refine wk_label (hK _ _ ?_); clear hK K) | refine wk_scope ?_ | refine wk_block ?_ | refine wk_cond_t rfl ?_ | refine wk_cond_f rfl ?_ | (refine wk_exit ?_; (repeat (refine blockK_other rfl ?_)); refine blockK_same ?_; try ((repeat ((fail_if_success (refine hK _ _ ?_)); clear hK K)); refine hK _ _ ?_; clear hK K)) | (refine a_bin ?_ ?_ <;> intro _ <;> try (exfalso; omega)) | refine a_ld hl ?_ | (refine a_st hl ?_; clear hl; intro _ hl) | refine a_ix (fun _ => ?_) | fail)
  refine o_buildSlice hl [.int .i64 known] rfl rfl (by kernel_rfl) ?_
  clear hl
  intro b7 w3 hb7 hl
  refine a_fn (days_calls (l := [known]) (Sl.mk rfl (Nat.le_refl _) (hl.rowL (vs := [.int .i64 known]) 0 0 1 rfl)) (by show (1:Nat) ≤ _; omega)) ?_
  rintro _ _ ⟨rfl, rfl⟩
  rw [show [known].all Rul.dayB = Rul.dayB known by simp]
  cases hday : Rul.dayB known
  · rw [hday, if_pos rfl] at hcount
    repeat' (first | refine a_mov ?_ | refine a_asg ?_ | refine a_binN ?_ | refine a_notd ?_ | refine a_notb ?_ | refine a_nilc ?_ | refine a_fa ?_ | refine a_ext ?_ | refine a_lenv ?_ | refine a_lens ?_ | refine a_pick_t ?_ | refine a_pick_f ?_ | refine a_not ?_ | refine a_nilf ?_ | (refine o_nil (hK _ _ ?_); clear hK K) | refine wk_reg ?_ | refine wk_seq fun K hK => ?_ | (refine wk_skip (hK _ _ ?_); clear hK K) | (refine wk_label (hK _ _ ?_); clear hK K) | refine wk_scope ?_ | refine wk_block ?_ | refine wk_cond_t rfl ?_ | refine wk_cond_f rfl ?_ | (refine wk_exit ?_; (repeat (refine blockK_other rfl ?_)); refine blockK_same ?_; try ((repeat ((fail_if_success (refine hK _ _ ?_)); clear hK K)); refine hK _ _ ?_; clear hK K)) | (refine a_bin ?_ ?_ <;> intro _ <;> try (exfalso; omega)) | refine a_ld hl ?_ | (refine a_st hl ?_; clear hl; intro _ hl) | refine a_ix (fun _ => ?_) | fail)
    refine wk_ret (retQ_tmp2 Tryd.results15 (by decide) (by decide) rfl (by conv => lhs; whnf) (by conv => lhs; whnf) ?_)
    rw [hcount]
    exact ⟨⟨_, rfl, .nil _⟩, hl.done⟩
  rw [hday, if_neg (by decide)] at hcount
  by_cases hlg : 200 < l.length
  · rw [if_pos hlg] at hcount
    repeat' (first | refine a_mov ?_ | refine a_asg ?_ | refine a_binN ?_ | refine a_notd ?_ | refine a_notb ?_ | refine a_nilc ?_ | refine a_fa ?_ | refine a_ext ?_ | refine a_lenv ?_ | refine a_lens ?_ | refine a_pick_t ?_ | refine a_pick_f ?_ | refine a_not ?_ | refine a_nilf ?_ | (refine o_nil (hK _ _ ?_); clear hK K) | refine wk_reg ?_ | refine wk_seq fun K hK => ?_ | (refine wk_skip (hK _ _ ?_); clear hK K) | (refine wk_label (hK _ _ ?_); clear hK K) | refine wk_scope ?_ | refine wk_block ?_ | refine wk_cond_t rfl ?_ | refine wk_cond_f rfl ?_ | (refine wk_exit ?_; (repeat (refine blockK_other rfl ?_)); refine blockK_same ?_; try ((repeat ((fail_if_success (refine hK _ _ ?_)); clear hK K)); refine hK _ _ ?_; clear hK K)) | (refine a_bin ?_ ?_ <;> intro _ <;> try (exfalso; omega)) | refine a_ld hl ?_ | (refine a_st hl ?_; clear hl; intro _ hl) | refine a_ix (fun _ => ?_) | fail)
    refine wk_ret (retQ_tmp2 Tryd.results15 (by decide) (by decide) rfl (by conv => lhs; whnf) (by conv => lhs; whnf) ?_)
    rw [hcount]
    exact ⟨⟨_, rfl, .nil _⟩, hl.done⟩
  rw [if_neg hlg] at hcount
  repeat' (first | refine a_mov ?_ | refine a_asg ?_ | refine a_binN ?_ | refine a_notd ?_ | refine a_notb ?_ | refine a_nilc ?_ | refine a_fa ?_ | refine a_ext ?_ | refine a_lenv ?_ | refine a_lens ?_ | refine a_pick_t ?_ | refine a_pick_f ?_ | refine a_not ?_ | refine a_nilf ?_ | (refine o_nil (hK _ _ ?_); clear hK K) | refine wk_reg ?_ | refine wk_seq fun K hK => ?_ | (refine wk_skip (hK _ _ ?_); clear hK K) | (refine wk_label (hK _ _ ?_); clear hK K) | refine wk_scope ?_ | refine wk_block ?_ | refine wk_cond_t rfl ?_ | refine wk_cond_f rfl ?_ | (refine wk_exit ?_; (repeat (refine blockK_other rfl ?_)); refine blockK_same ?_; try ((repeat ((fail_if_success (refine hK _ _ ?_)); clear hK K)); refine hK _ _ ?_; clear hK K)) | (refine a_bin ?_ ?_ <;> intro _ <;> try (exfalso; omega)) | refine a_ld hl ?_ | (refine a_st hl ?_; clear hl; intro _ hl) | refine a_ix (fun _ => ?_) | fail)
  refine a_fn (ruIdx_calls (hL.ext hl.done) hlen hok) ?_
  rintro _ w4 ⟨rfl, he4⟩
  replace hl := hl.ext he4
  clear he4
  cases hall : l.all Rul.validB
  · rw [hall, if_pos rfl] at hcount
    repeat' (first | refine a_mov ?_ | refine a_asg ?_ | refine a_binN ?_ | refine a_notd ?_ | refine a_notb ?_ | refine a_nilc ?_ | refine a_fa ?_ | refine a_ext ?_ | refine a_lenv ?_ | refine a_lens ?_ | refine a_pick_t ?_ | refine a_pick_f ?_ | refine a_not ?_ | refine a_nilf ?_ | (refine o_nil (hK _ _ ?_); clear hK K) | refine wk_reg ?_ | refine wk_seq fun K hK => ?_ | (refine wk_skip (hK _ _ ?_); clear hK K) | (refine wk_label (hK _ _ ?_); clear hK K) | refine wk_scope ?_ | refine wk_block ?_ | refine wk_cond_t rfl ?_ | refine wk_cond_f rfl ?_ | (refine wk_exit ?_; (repeat (refine blockK_other rfl ?_)); refine blockK_same ?_; try ((repeat ((fail_if_success (refine hK _ _ ?_)); clear hK K)); refine hK _ _ ?_; clear hK K)) | (refine a_bin ?_ ?_ <;> intro _ <;> try (exfalso; omega)) | refine a_ld hl ?_ | (refine a_st hl ?_; clear hl; intro _ hl) | refine a_ix (fun _ => ?_) | fail)
    refine wk_ret (retQ_tmp2 Tryd.results15 (by decide) (by decide) rfl (by conv => lhs; whnf) (by conv => lhs; whnf) ?_)
    rw [hcount]
    exact ⟨⟨_, rfl, .nil _⟩, hl.done⟩
  rw [hall, if_neg (by decide)] at hcount
  have hml : m.length < l.length ↔ ¬ (l.map (·.id)).Nodup := by
    have h1 := hd.le
    have h2 := hd.iff
    rw [List.length_map, List.length_map] at h1 h2
    rw [← h2]; omega
  repeat' (first | refine a_mov ?_ | refine a_asg ?_ | refine a_binN ?_ | refine a_notd ?_ | refine a_notb ?_ | refine a_nilc ?_ | refine a_fa ?_ | refine a_ext ?_ | refine a_lenv ?_ | refine a_lens ?_ | refine a_pick_t ?_ | refine a_pick_f ?_ | refine a_not ?_ | refine a_nilf ?_ | (refine o_nil (hK _ _ ?_); clear hK K) | refine wk_reg ?_ | refine wk_seq fun K hK => ?_ | (refine wk_skip (hK _ _ ?_); clear hK K) | (refine wk_label (hK _ _ ?_); clear hK K) | refine wk_scope ?_ | refine wk_block ?_ | refine wk_cond_t rfl ?_ | refine wk_cond_f rfl ?_ | (refine wk_exit ?_; (repeat (refine blockK_other rfl ?_)); refine blockK_same ?_; try ((repeat ((fail_if_success (refine hK _ _ ?_)); clear hK K)); refine hK _ _ ?_; clear hK K)) | (refine a_bin ?_ ?_ <;> intro _ <;> try (exfalso; omega)) | refine a_ld hl ?_ | (refine a_st hl ?_; clear hl; intro _ hl) | refine a_ix (fun _ => ?_) | refine o_lenm hm (hl.get 1 rfl) rfl rfl rfl ?_)
  · have hno : Rul.idsNodup l = false := decide_eq_false (hml.1 (by omega))
    rw [hno, if_pos rfl] at hcount
    repeat' (first | refine a_mov ?_ | refine a_asg ?_ | refine a_binN ?_ | refine a_notd ?_ | refine a_notb ?_ | refine a_nilc ?_ | refine a_fa ?_ | refine a_ext ?_ | refine a_lenv ?_ | refine a_lens ?_ | refine a_pick_t ?_ | refine a_pick_f ?_ | refine a_not ?_ | refine a_nilf ?_ | (refine o_nil (hK _ _ ?_); clear hK K) | refine wk_reg ?_ | refine wk_seq fun K hK => ?_ | (refine wk_skip (hK _ _ ?_); clear hK K) | (refine wk_label (hK _ _ ?_); clear hK K) | refine wk_scope ?_ | refine wk_block ?_ | refine wk_cond_t rfl ?_ | refine wk_cond_f rfl ?_ | (refine wk_exit ?_; (repeat (refine blockK_other rfl ?_)); refine blockK_same ?_; try ((repeat ((fail_if_success (refine hK _ _ ?_)); clear hK K)); refine hK _ _ ?_; clear hK K)) | (refine a_bin ?_ ?_ <;> intro _ <;> try (exfalso; omega)) | refine a_ld hl ?_ | (refine a_st hl ?_; clear hl; intro _ hl) | refine a_ix (fun _ => ?_) | fail)
    refine wk_ret (retQ_tmp2 Tryd.results15 (by decide) (by decide) rfl (by conv => lhs; whnf) (by conv => lhs; whnf) ?_)
    rw [hcount]
    exact ⟨⟨_, rfl, .nil _⟩, hl.done⟩
  have hnd : (l.map (·.id)).Nodup := Decidable.not_not.1 fun h => by have := hml.2 h; omega
  have hno : Rul.idsNodup l = true := decide_eq_true hnd
  rw [hno, if_neg (by decide)] at hcount
  clear hml hd
  refine o_alloc hl [.slice none 0 0] rfl rfl ?_
  clear hl
  intro b9 w5 hb9 hl
  replace hl : LH w (fun _ => False) w5 [(b9, Obj.cells #[.slice none 0 0] 36 (0, 0))] := hl.sub (.cons_cons _ (List.nil_sublist _))
  repeat' (first | refine a_mov ?_ | refine a_asg ?_ | refine a_binN ?_ | refine a_notd ?_ | refine a_notb ?_ | refine a_nilc ?_ | refine a_fa ?_ | refine a_ext ?_ | refine a_lenv ?_ | refine a_lens ?_ | refine a_pick_t ?_ | refine a_pick_f ?_ | refine a_not ?_ | refine a_nilf ?_ | (refine o_nil (hK _ _ ?_); clear hK K) | refine wk_reg ?_ | refine wk_seq fun K hK => ?_ | (refine wk_skip (hK _ _ ?_); clear hK K) | (refine wk_label (hK _ _ ?_); clear hK K) | refine wk_scope ?_ | refine wk_block ?_ | refine wk_cond_t rfl ?_ | refine wk_cond_f rfl ?_ | (refine wk_exit ?_; (repeat (refine blockK_other rfl ?_)); refine blockK_same ?_; try ((repeat ((fail_if_success (refine hK _ _ ?_)); clear hK K)); refine hK _ _ ?_; clear hK K)) | (refine a_bin ?_ ?_ <;> intro _ <;> try (exfalso; omega)) | refine a_ld hl ?_ | (refine a_st hl ?_; clear hl; intro _ hl) | refine a_ix (fun _ => ?_) | fail)
  refine a_fn (counting_calls _ ⟨rfl, rfl⟩ known _) ?_
  rintro _ w6 ⟨b2, b3, rfl, hl6⟩
  replace hl := hl.join hl6
  clear hl6
  repeat' (first | refine a_mov ?_ | refine a_asg ?_ | refine a_binN ?_ | refine a_notd ?_ | refine a_notb ?_ | refine a_nilc ?_ | refine a_fa ?_ | refine a_ext ?_ | refine a_lenv ?_ | refine a_lens ?_ | refine a_pick_t ?_ | refine a_pick_f ?_ | refine a_not ?_ | refine a_nilf ?_ | (refine o_nil (hK _ _ ?_); clear hK K) | refine wk_reg ?_ | refine wk_seq fun K hK => ?_ | (refine wk_skip (hK _ _ ?_); clear hK K) | (refine wk_label (hK _ _ ?_); clear hK K) | refine wk_scope ?_ | refine wk_block ?_ | refine wk_cond_t rfl ?_ | refine wk_cond_f rfl ?_ | (refine wk_exit ?_; (repeat (refine blockK_other rfl ?_)); refine blockK_same ?_; try ((repeat ((fail_if_success (refine hK _ _ ?_)); clear hK K)); refine hK _ _ ?_; clear hK K)) | (refine a_bin ?_ ?_ <;> intro _ <;> try (exfalso; omega)) | refine a_ld hl ?_ | (refine a_st hl ?_; clear hl; intro _ hl) | refine a_ix (fun _ => ?_) | fail)
  refine wk_rangeFunc rfl (fun _ _ => rfl) ?_
  intro fn tm w8 hfits hheap
  generalize hD : w6.heap.size = D at hheap ⊢
  generalize hrec : Loop.mk _ _ _ _ _ _ _ _ = rec at hheap
  have hl8 : LH w (fun _ => False) w8 [(D + 1, .loop rec), (D, .deferred (some [])), (b3, .cells #[.int .i64 known] 3 (0, 0)), (b2, .cells #[.slice pa l.length pc] 36 (0, 0)), (b9, .cells #[.slice none 0 0] 36 (0, 0))] := by
    have h1 := ((hl.alloc (.deferred (some []))).alloc (.loop rec)).heap hheap
    simp only [Array.size_push] at h1
    rw [hD] at h1
    exact h1
  clear hl hheap
  have hct : LH w (fun _ => False) w8 (ctL (.slice none 0 0) b9 D (D + 1) rec ++ []) := hl8.sub (.cons_cons _ (.cons_cons _ (.cons _ (.cons _ (.refl _)))))
  have hnd8 := hl8.nd
  simp only [List.map_cons, List.map_nil, List.nodup_cons, List.mem_cons, not_or] at hnd8
  have hsz8 := hl8.upd.size
  refine Calls.mono (counting1_calls (w0 := w) (.func (.yield (D + 1)) #[] #[]) hL hlen hnd b2 b3 (CtJ w b9 D rec) w8 ?_ ?_ ?_ _ ⟨_, [], [], rfl, hct, rfl, Acc.nil _ _, fun _ h => nomatch h⟩ (hl8.cell 3 rfl rfl) (hl8.cell 2 rfl rfl) ?_ ?_ ⟨rfl, rfl⟩) ?_
  · rintro p Fp w' ⟨out, acc, ps, rfl, h, -⟩
    exact ⟨h.done, fun b hb => h.idlt hb⟩
  · rintro p Fp M w1 w2 ⟨out, acc, ps, rfl, h, h1, h2, h3⟩ hu hM
    refine ⟨out, acc, ps, rfl, ⟨h.upd.trans hu (fun k hk hm => ?_), fun q hq => (hu.same q.1 (h.lt hq) (fun hm => (hM _ hm).1 (List.mem_map.2 ⟨q, hq, rfl⟩))).trans (h.own q hq), h.fresh, h.nd⟩, h1, h2, h3⟩
    have := (hM k hm).2
    omega
  · rintro p r rest Fp w1 kv hrest ⟨out, acc, ps, rfl, h, h1, h2, h3⟩ hkk
    have hone := rulC_one hkk
    have hb := h.rb
    have hbound : p.length + 1 ≤ 1000000 := by
      have h4 := (Rul.counting_sub l known).length_le
      rw [hrest, List.length_append, List.length_cons] at h4
      omega
    refine callV_round (n := 51) (hb.get 0 rfl) (congrArg Loop.params hrec.symm) (congrArg Loop.assign hrec.symm) (congrArg Loop.body hrec.symm) rfl (by rw [show rec.tmps = tm from congrArg Loop.tmps hrec.symm]; exact hfits) ?_
    have hready : rec.state = .ready := congrArg Loop.state hrec.symm
    have hpend : rec.pending = none := congrArg Loop.pending hrec.symm
    have hrr : ({ rec with state := .ready, pending := none } : Loop) = rec := by
      cases rec
      simp only at hready hpend
      rw [hready, hpend]
    clear hl8 hfits hrec hct
    obtain ⟨oa, oc, rfl⟩ := h2.shape
    dsimp only
    repeat' (first | refine a_mov ?_ | refine a_asg ?_ | refine a_binN ?_ | refine a_notd ?_ | refine a_notb ?_ | refine a_nilc ?_ | refine a_fa ?_ | refine a_ext ?_ | refine a_lenv ?_ | refine a_lens ?_ | refine a_pick_t ?_ | refine a_pick_f ?_ | refine a_not ?_ | refine a_nilf ?_ | (refine o_nil (hK _ _ ?_); clear hK K) | refine wk_reg ?_ | refine wk_seq fun K hK => ?_ | (refine wk_skip (hK _ _ ?_); clear hK K) | (refine wk_label (hK _ _ ?_); clear hK K) | refine wk_scope ?_ | refine wk_block ?_ | refine wk_cond_t rfl ?_ | refine wk_cond_f rfl ?_ | (refine wk_exit ?_; (repeat (refine blockK_other rfl ?_)); refine blockK_same ?_; try ((repeat ((fail_if_success (refine hK _ _ ?_)); clear hK K)); refine hK _ _ ?_; clear hK K)) | (refine a_bin ?_ ?_ <;> intro _ <;> try (exfalso; omega)) | refine a_ld hl ?_ | (refine a_st hl ?_; clear hl; intro _ hl) | refine a_ix (fun _ => ?_) | fail)
    refine o_alloc hb [.string ⟨#[]⟩, .string ⟨#[]⟩, .int .i64 0, .int .i64 0, .int .i64 0, .int .i64 0, .string ⟨#[]⟩, .int .i64 0, .int .i64 0, .slice none 0 0, .int .i64 0, .bool false, .string ⟨#[]⟩] rfl rfl ?_
    clear hb
    intro b10 w9 hb10 hl
    refine o_putN (us := [str (r).id, str (r).tgt, .int .i64 (r).kind, .int .i64 (r).fro, .int .i64 (r).til, .int .i64 (r).read.op, str (r).read.name, .int .i64 (r).read.cmp, .int .i64 (r).read.num, kv, .int .i64 (r).known, .bool (r).fin, str (r).lifts]) hl rfl rfl rfl hone rfl (.all rfl rfl) ?_
    clear hl
    intro w10 hl
    refine o_nil ⟨_, hl.get 1 rfl, hready, ?_⟩
    intro w11 hw11
    replace hl := hl.put 1 rfl hw11
    clear hw11
    have hl : LH w1 _ w11 (((b10, .cells ([str (r).id, str (r).tgt, .int .i64 (r).kind, .int .i64 (r).fro, .int .i64 (r).til, .int .i64 (r).read.op, str (r).read.name, .int .i64 (r).read.cmp, .int .i64 (r).read.num, kv, .int .i64 (r).known, .bool (r).fin, str (r).lifts] : List Value).toArray 27 (0, 0)) :: ctL (.slice oa p.length oc) b9 D (D + 1) { rec with state := .busy }) ++ acc) := hl
    have go : ∀ (w' : World) (out' : Value) (acc' : List (Nat × Obj)), LH w1 (fun b => b ∈ (ctL (.slice oa p.length oc) b9 D (D + 1) rec ++ acc).map (·.1)) w' (ctL out' b9 D (D + 1) { rec with state := .ready, pending := none } ++ acc') → Acc out' 13 27 (p.length + 1) (ps.flatMap rulL ++ [str (r).id, str (r).tgt, .int .i64 (r).kind, .int .i64 (r).fro, .int .i64 (r).til, .int .i64 (r).read.op, str (r).read.name, .int .i64 (r).read.cmp, .int .i64 (r).read.num, kv, .int .i64 (r).known, .bool (r).fin, str (r).lifts]) acc' →
        ∃ Fp', CtJ w b9 D rec (r :: p) Fp' w' ∧ LatR (fun b => b ∈ (ctL (.slice oa p.length oc) b9 D (D + 1) rec ++ acc).map (·.1)) Fp' w1 w' := by
      intro w' out' acc' h' ha'
      rw [hrr] at h'
      refine ⟨_, ⟨out', acc', ps ++ [(r, kv)], rfl, h.bk h', ?_, ?_, ?_⟩, h'.upd, fun b hb => ?_⟩
      · rw [List.map_append, h1, List.reverse_cons]; rfl
      · rw [List.flatMap_append, List.length_cons]
        have e : [(r, kv)].flatMap rulL = [str (r).id, str (r).tgt, .int .i64 (r).kind, .int .i64 (r).fro, .int .i64 (r).til, .int .i64 (r).read.op, str (r).read.name, .int .i64 (r).read.cmp, .int .i64 (r).read.num, kv, .int .i64 (r).known, .bool (r).fin, str (r).lifts] := by simp [rulL, rulC]
        rw [e]; exact ha'
      · intro q hq
        rcases List.mem_append.1 hq with hq | hq
        · exact h3 q hq
        · rw [List.mem_singleton.1 hq]; exact hkk
      · obtain ⟨q, hq, rfl⟩ := List.mem_map.1 hb
        exact (h'.fresh q hq).symm
    unfold ctL at hl
    repeat' (first | refine a_mov ?_ | refine a_asg ?_ | refine a_binN ?_ | refine a_notd ?_ | refine a_notb ?_ | refine a_nilc ?_ | refine a_fa ?_ | refine a_ext ?_ | refine a_lenv ?_ | refine a_lens ?_ | refine a_pick_t ?_ | refine a_pick_f ?_ | refine a_not ?_ | refine a_nilf ?_ | (refine o_nil (hK _ _ ?_); clear hK K) | refine wk_reg ?_ | refine wk_seq fun K hK => ?_ | (refine wk_skip (hK _ _ ?_); clear hK K) | (refine wk_label (hK _ _ ?_); clear hK K) | refine wk_scope ?_ | refine wk_block ?_ | refine wk_cond_t rfl ?_ | refine wk_cond_f rfl ?_ | (refine wk_exit ?_; (repeat (refine blockK_other rfl ?_)); refine blockK_same ?_; try ((repeat ((fail_if_success (refine hK _ _ ?_)); clear hK K)); refine hK _ _ ?_; clear hK K)) | (refine a_bin ?_ ?_ <;> intro _ <;> try (exfalso; omega)) | refine a_ld hl ?_ | (refine a_st hl ?_; clear hl; intro _ hl) | refine a_ix (fun _ => ?_) | refine o_load rfl rfl rfl (hl.cell 3 rfl rfl) ?_ | refine a_all (hl.rowL (vs := [str (r).id, str (r).tgt, .int .i64 (r).kind, .int .i64 (r).fro, .int .i64 (r).til, .int .i64 (r).read.op, str (r).read.name, .int .i64 (r).read.cmp, .int .i64 (r).read.num, kv, .int .i64 (r).known, .bool (r).fin, str (r).lifts]) 0 0 13 rfl) ?_)
    refine o_buildSlice hl [str (r).id, str (r).tgt, .int .i64 (r).kind, .int .i64 (r).fro, .int .i64 (r).til, .int .i64 (r).read.op, str (r).read.name, .int .i64 (r).read.cmp, .int .i64 (r).read.num, kv, .int .i64 (r).known, .bool (r).fin, str (r).lifts] rfl rfl (by kernel_rfl) ?_
    clear hl
    intro b11 w12 hb11 hl
    have hl : LH w1 _ w12 ([_, _, _, _, _] ++ acc) := hl
    refine o_append (bl' := [_, _, _, _, _]) (k := 13) (bytes := 152) (m := p.length) (q := 1) (us := [str (r).id, str (r).tgt, .int .i64 (r).kind, .int .i64 (r).fro, .int .i64 (r).til, .int .i64 (r).read.op, str (r).read.name, .int .i64 (r).read.cmp, .int .i64 (r).read.num, kv, .int .i64 (r).known, .bool (r).fin, str (r).lifts]) hl h2 (hl.rowL (vs := [str (r).id, str (r).tgt, .int .i64 (r).kind, .int .i64 (r).fro, .int .i64 (r).til, .int .i64 (r).read.op, str (r).read.name, .int .i64 (r).read.cmp, .int .i64 (r).read.num, kv, .int .i64 (r).known, .bool (r).fin, str (r).lifts]) 0 0 13 rfl) rfl hone (by omega) (by omega) (by omega) rfl rfl rfl rfl rfl ?_
    clear hl
    intro v' w13 acc' hl ha'
    obtain ⟨pa', pc', rfl⟩ := ha'.shape
    have hl : LH w1 _ w13 ([_, _, _, _, _] ++ acc') := hl
    refine o_store hl 4 [.slice pa' (p.length + 1) pc'] rfl rfl rfl rfl rfl (by simp) rfl ?_
    clear hl
    intro w14 hl
    refine o_nil ⟨_, hl.get 2 rfl, fun w' hw' => ⟨rfl, go w' (.slice pa' (p.length + 1) pc') acc' ((hl.put 2 rfl hw').sub ((List.sublist_cons_self _ _).trans (List.sublist_cons_self _ _))) ha'⟩⟩
  · obtain ⟨⟨-, x1, x2, x3, -⟩, ⟨y1, y2, y3, -⟩, ⟨z1, z2, -⟩, ⟨u1, -⟩, -⟩ := hnd8
    simp only [ctL, List.append_nil, List.map_cons, List.map_nil, List.mem_cons, List.not_mem_nil, or_false, not_or]
    exact ⟨fun e => x2 e.symm, fun e => y2 e.symm, u1⟩
  · obtain ⟨⟨-, x1, x2, x3, -⟩, ⟨y1, y2, y3, -⟩, ⟨z1, z2, -⟩, ⟨u1, -⟩, -⟩ := hnd8
    simp only [ctL, List.append_nil, List.map_cons, List.map_nil, List.mem_cons, List.not_mem_nil, or_false, not_or]
    exact ⟨fun e => x1 e.symm, fun e => y1 e.symm, z2⟩
  · rintro e w9 ⟨v, rfl, Fp', ⟨out, acc, ps, rfl, h, h1, h2, h3⟩, -⟩
    refine ⟨v, rfl, rec, h.get 0 rfl, by rw [← hrec]; exact fun h => (nomatch h), ?_⟩
    intro w10 hw10
    have hp : rec.pending = none := by rw [← hrec]
    rw [hp]
    dsimp only
    refine hK _ _ ?_
    clear hK K
    have hl := h.put 0 rfl hw10
    have hl : LH w (fun _ => False) w10 (ctL out b9 D (D + 1) { rec with state := .exhausted } ++ acc) := hl
    have hpl : ps.length = (Rul.counting l known).length := by
      have := congrArg List.length h1
      simpa using this
    have hcl := (Rul.counting_sub l known).length_le
    rw [← hpl] at h2
    unfold ctL at hl
    repeat' (first | refine a_mov ?_ | refine a_asg ?_ | refine a_binN ?_ | refine a_notd ?_ | refine a_notb ?_ | refine a_nilc ?_ | refine a_fa ?_ | refine a_ext ?_ | refine a_lenv ?_ | refine a_lens ?_ | refine a_pick_t ?_ | refine a_pick_f ?_ | refine a_not ?_ | refine a_nilf ?_ | (refine o_nil (hK _ _ ?_); clear hK K) | refine wk_reg ?_ | refine wk_seq fun K hK => ?_ | (refine wk_skip (hK _ _ ?_); clear hK K) | (refine wk_label (hK _ _ ?_); clear hK K) | refine wk_scope ?_ | refine wk_block ?_ | refine wk_cond_t rfl ?_ | refine wk_cond_f rfl ?_ | (refine wk_exit ?_; (repeat (refine blockK_other rfl ?_)); refine blockK_same ?_; try ((repeat ((fail_if_success (refine hK _ _ ?_)); clear hK K)); refine hK _ _ ?_; clear hK K)) | (refine a_bin ?_ ?_ <;> intro _ <;> try (exfalso; omega)) | refine a_ld hl ?_ | (refine a_st hl ?_; clear hl; intro _ hl) | refine a_ix (fun _ => ?_) | refine o_load rfl rfl rfl (hl.cell 2 rfl rfl) ?_)
    refine a_fn (reverse_calls ps out acc w10 (hl.sub (List.sublist_append_right _ _)).rb h2 (by omega) (fun p hp => rulC_one (h3 p hp))) ?_
    rintro _ w11 ⟨acc', h7, ha7⟩
    replace hl := LH.frame2 (A := [_, _, _]) hl h7
    repeat' (first | refine a_mov ?_ | refine a_asg ?_ | refine a_binN ?_ | refine a_notd ?_ | refine a_notb ?_ | refine a_nilc ?_ | refine a_fa ?_ | refine a_ext ?_ | refine a_lenv ?_ | refine a_lens ?_ | refine a_pick_t ?_ | refine a_pick_f ?_ | refine a_not ?_ | refine a_nilf ?_ | (refine o_nil (hK _ _ ?_); clear hK K) | refine wk_reg ?_ | refine wk_seq fun K hK => ?_ | (refine wk_skip (hK _ _ ?_); clear hK K) | (refine wk_label (hK _ _ ?_); clear hK K) | refine wk_scope ?_ | refine wk_block ?_ | refine wk_cond_t rfl ?_ | refine wk_cond_f rfl ?_ | (refine wk_exit ?_; (repeat (refine blockK_other rfl ?_)); refine blockK_same ?_; try ((repeat ((fail_if_success (refine hK _ _ ?_)); clear hK K)); refine hK _ _ ?_; clear hK K)) | (refine a_bin ?_ ?_ <;> intro _ <;> try (exfalso; omega)) | refine a_ld hl ?_ | (refine a_st hl ?_; clear hl; intro _ hl) | refine a_ix (fun _ => ?_) | refine o_load rfl rfl rfl (hl.cell 2 rfl rfl) ?_)
    refine wk_ret (retQ_res1 [out, .int .i64 0] rfl rfl (hl.get 1 rfl) ?_)
    intro w12 hw12
    replace hl := hl.put 1 rfl hw12
    refine ⟨⟨by decide, rfl, by decide, rfl, trivial⟩, ?_⟩
    rw [hcount]
    refine ⟨⟨out, rfl, ps.reverse, ?_, ?_, fun p hp => (h3 p (List.mem_reverse.1 hp)).ext hl.done⟩, hl.done⟩
    · rw [List.map_reverse, h1, List.reverse_reverse]
    · have hl : LH w (fun _ => False) w12 ([_, _, _] ++ acc') := hl
      exact hl.acc_sl ha7
end Go.Proofs
