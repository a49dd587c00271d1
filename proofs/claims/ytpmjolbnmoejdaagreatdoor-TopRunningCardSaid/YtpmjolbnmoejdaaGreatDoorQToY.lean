/-
  Migrations: new names of rights; two lists of terms behind one another.
-/
import Derived.Test.YtpmjolbnmoejdaaGreatDoorQToX
import Derived.Test.YtpmjolbnmoejdaaGreatDoorQLays
set_option linter.unusedVariables false
set_option linter.unusedSimpArgs false
set_option linter.unnecessarySimpa false
set_option maxRecDepth 10000
namespace Go.Top
open Go Go.Pd
def NamI (l : List Pair) (m : List (Tx × Value)) : Prop := ∀ k, get m k = (find l k).map str
theorem namI_nil : NamI [] [] := fun _ => rfl
theorem find_snoc (l : List Pair) (q : Pair) (k : Tx) : find (l ++ [q]) k = if k = q.x then some q.y else find l k := by
  unfold find
  rw [List.reverse_append, List.reverse_singleton, List.singleton_append, List.find?_cons]
  by_cases h : q.x = k
  · simp [h]
  · rw [if_neg (fun e => h e.symm)]
    simp [h]
theorem namI_snoc {l : List Pair} {m : List (Tx × Value)} (h : NamI l m) (q : Pair) : NamI (l ++ [q]) (ins m q.x (str q.y)) := fun k => by
  rw [get_ins, find_snoc, h]
  split <;> rfl
end Go.Top
namespace Go.Proofs
open Go Go.Pd Go.Top
attribute [local irreducible] OpsL W RetQ OpsQ OpsC
set_option maxHeartbeats 4000000 in
theorem named_calls {g : Mig} {x : GV} {w : World} (h : MigIn w g x) : Calls Tryz.prog 20 #[.agg (migL g x).toArray] w (fun e w' => ∃ v, e = .returned v ∧ ∃ b es c m, v = .map (some b) ∧ MapR str es m ∧ NamI g.rights m ∧ LH w (fun _ => False) w' [(b, .map es c)]) := by
  obtain ⟨sa, sc, ra, rc, ta, tc, rfl⟩ := gv_shape h
  obtain ⟨-, ⟨hr, hrl⟩, -⟩ := h
  simp only at hr
  obtain ⟨ra', rc', hreq, hp⟩ := sl_each pairL_len (by decide) hr
  cases hreq
  have hky := key_str (P := Tryz.prog) (kt := 9) rfl
  refine calls_of Tryz.func20 rfl Tryz.ntmps20 rfl ?_
  repeat' (first | refine a_mov ?_ | refine a_asg ?_ | refine a_binN ?_ | refine a_fa ?_ | refine a_lenv ?_ | (refine o_nil (hK _ _ ?_); clear hK K) | refine wk_reg ?_ | refine wk_seq fun K hK => ?_ | (refine wk_skip (hK _ _ ?_); clear hK K) | refine wk_block ?_ | refine wk_cond_t rfl ?_ | refine wk_cond_f rfl ?_ | (refine wk_exit ?_; (repeat (refine blockK_other rfl ?_)); refine blockK_same ?_; try ((repeat ((fail_if_success (refine hK _ _ ?_)); clear hK K)); refine hK _ _ ?_; clear hK K)) | (refine a_bin ?_ ?_ <;> intro _ <;> try (exfalso; omega)) | fail)
  refine o_box (LH.start w (fun _ => False)) (migL g ⟨.slice sa g.stages.length sc, .slice ra g.rights.length rc, .slice ta g.terms.length tc⟩) (by rfl) rfl rfl ?_
  intro b1 w1 hb1 hl
  have hrow : Row w1 b1 0 [str g.src, str g.dst, .slice sa g.stages.length sc, .slice ra g.rights.length rc, .slice ta g.terms.length tc] := hl.rowL (vs := migL g ⟨.slice sa g.stages.length sc, .slice ra g.rights.length rc, .slice ta g.terms.length tc⟩) 0 0 5 rfl
  have e1 : Ext w w1 := hl.done
  repeat' (first | refine a_mov ?_ | refine a_asg ?_ | refine a_binN ?_ | refine a_fa ?_ | refine a_lenv ?_ | (refine o_nil (hK _ _ ?_); clear hK K) | refine wk_reg ?_ | refine wk_seq fun K hK => ?_ | (refine wk_skip (hK _ _ ?_); clear hK K) | refine wk_block ?_ | refine wk_cond_t rfl ?_ | refine wk_cond_f rfl ?_ | (refine wk_exit ?_; (repeat (refine blockK_other rfl ?_)); refine blockK_same ?_; try ((repeat ((fail_if_success (refine hK _ _ ?_)); clear hK K)); refine hK _ _ ?_; clear hK K)) | (refine a_bin ?_ ?_ <;> intro _ <;> try (exfalso; omega)) | fail)
  refine o_makeMap hl rfl ?_
  clear hl
  intro b7 w2 hb7 hl
  have hrow : Row w2 b1 0 [str g.src, str g.dst, .slice sa g.stages.length sc, .slice ra g.rights.length rc, .slice ta g.terms.length tc] := hl.rowL (vs := migL g ⟨.slice sa g.stages.length sc, .slice ra g.rights.length rc, .slice ta g.terms.length tc⟩) 1 0 5 rfl
  repeat' (first | refine a_row hrow ?_ | refine a_mov ?_ | refine a_asg ?_ | refine a_binN ?_ | refine a_fa ?_ | refine a_lenv ?_ | (refine o_nil (hK _ _ ?_); clear hK K) | refine wk_reg ?_ | refine wk_seq fun K hK => ?_ | (refine wk_skip (hK _ _ ?_); clear hK K) | refine wk_block ?_ | refine wk_cond_t rfl ?_ | refine wk_cond_f rfl ?_ | (refine wk_exit ?_; (repeat (refine blockK_other rfl ?_)); refine blockK_same ?_; try ((repeat ((fail_if_success (refine hK _ _ ?_)); clear hK K)); refine hK _ _ ?_; clear hK K)) | (refine a_bin ?_ ?_ <;> intro _ <;> try (exfalso; omega)) | fail)
  refine wk_loopH [] rfl (fun i : Nat => [(3, .map (some b7)), (8, .slice ra g.rights.length rc), (9, .int .i64 (g.rights.length : Int)), (10, .int .i64 (i : Int))])
    (fun i w' => i ≤ g.rights.length ∧ ∃ es c m, MapR str es m ∧ NamI (g.rights.take i) m ∧ LH w (fun _ => False) w' [(b7, .map es c)]) (fun i => g.rights.length - i) 0 ⟨rfl, rfl, rfl, rfl, trivial⟩ ⟨Nat.zero_le _, #[], 0, [], MapR.nil, namI_nil, hl.sub (List.sublist_append_left [_] _)⟩ ?_
  clear hl hrow e1
  rintro i t1 w3 ⟨hi, es, c, m, hm, hn, hl⟩
  by_cases hlt : i < g.rights.length
  · obtain ⟨b, o, hpp, hrr⟩ := hp i hlt
    have hrr := hrr w3 hl.done
    have hta : g.rights.take (i + 1) = g.rights.take i ++ [g.rights[i]] := List.take_succ_eq_append_getElem hlt
    generalize g.rights[i] = q at *
    repeat' (first | refine a_mov ?_ | refine a_asg ?_ | refine a_binN ?_ | refine a_fa ?_ | refine a_lenv ?_ | (refine o_nil (hK _ _ ?_); clear hK K) | refine wk_reg ?_ | refine wk_seq fun K hK => ?_ | (refine wk_skip (hK _ _ ?_); clear hK K) | refine wk_block ?_ | refine wk_cond_t rfl ?_ | refine wk_cond_f rfl ?_ | (refine wk_exit ?_; (repeat (refine blockK_other rfl ?_)); refine blockK_same ?_; try ((repeat ((fail_if_success (refine hK _ _ ?_)); clear hK K)); refine hK _ _ ?_; clear hK K)) | (refine a_bin ?_ ?_ <;> intro _ <;> try (exfalso; omega)) | refine a_idx (c := 2) i hpp ?_ | refine a_all hrr ?_ | fail)
    refine o_alloc hl [.string ⟨#[]⟩, .string ⟨#[]⟩] rfl rfl ?_
    clear hl
    intro b5 w4 hb5 hl
    refine o_store hl 0 (pairL q) rfl rfl rfl (by rfl) rfl (by simp [pairL]) (pair_one q) ?_
    clear hl
    intro w5 hl
    have hl : LH w (fun _ => False) w5 [(b5, .cells (pairL q).toArray 57 (0, 0)), (b7, .map es c)] := hl
    have hr5 : Row w5 b5 0 [str q.x, str q.y] := hl.rowL (vs := pairL q) 0 0 2 rfl
    repeat' (first | refine o_indexArr (k := 1) 0 (by omega) rfl rfl rfl rfl rfl (by omega) ?_ | refine o_indexArr (k := 1) 1 (by omega) rfl rfl rfl rfl rfl (by omega) ?_ | refine a_row hr5 ?_ | refine a_mov ?_ | refine a_asg ?_ | refine a_binN ?_ | refine a_fa ?_ | refine a_lenv ?_ | (refine o_nil (hK _ _ ?_); clear hK K) | refine wk_reg ?_ | refine wk_seq fun K hK => ?_ | (refine wk_skip (hK _ _ ?_); clear hK K) | refine wk_block ?_ | refine wk_cond_t rfl ?_ | refine wk_cond_f rfl ?_ | (refine wk_exit ?_; (repeat (refine blockK_other rfl ?_)); refine blockK_same ?_; try ((repeat ((fail_if_success (refine hK _ _ ?_)); clear hK K)); refine hK _ _ ?_; clear hK K)) | (refine a_bin ?_ ?_ <;> intro _ <;> try (exfalso; omega)) | fail)
    refine o_mapUpdate (v := str q.y) q.x hl 1 rfl hm hky rfl rfl rfl rfl rfl ?_
    clear hl hm
    intro w6 es' c' hm hl
    have hn := namI_snoc hn q
    rw [← hta] at hn
    repeat' (first | refine a_mov ?_ | refine a_asg ?_ | refine a_binN ?_ | refine a_fa ?_ | refine a_lenv ?_ | (refine o_nil (hK _ _ ?_); clear hK K) | refine wk_reg ?_ | refine wk_seq fun K hK => ?_ | (refine wk_skip (hK _ _ ?_); clear hK K) | refine wk_block ?_ | refine wk_cond_t rfl ?_ | refine wk_cond_f rfl ?_ | (refine wk_exit ?_; (repeat (refine blockK_other rfl ?_)); refine blockK_same ?_; try ((repeat ((fail_if_success (refine hK _ _ ?_)); clear hK K)); refine hK _ _ ?_; clear hK K)) | (refine a_bin ?_ ?_ <;> intro _ <;> try (exfalso; omega)) | fail)
    exact o_nil ⟨i + 1, ⟨rfl, rfl, rfl, rfl, trivial⟩, rfl, ⟨hlt, es', c', _, hm, hn, hl.sub (List.sublist_cons_self _ _)⟩, by omega⟩
  · obtain rfl : i = g.rights.length := by omega
    rw [List.take_length] at hn
    repeat' (first | refine a_mov ?_ | refine a_asg ?_ | refine a_binN ?_ | refine a_fa ?_ | refine a_lenv ?_ | (refine o_nil (hK _ _ ?_); clear hK K) | refine wk_reg ?_ | refine wk_seq fun K hK => ?_ | (refine wk_skip (hK _ _ ?_); clear hK K) | refine wk_block ?_ | refine wk_cond_t rfl ?_ | refine wk_cond_f rfl ?_ | (refine wk_exit ?_; (repeat (refine blockK_other rfl ?_)); refine blockK_same ?_; try ((repeat ((fail_if_success (refine hK _ _ ?_)); clear hK K)); refine hK _ _ ?_; clear hK K)) | (refine a_bin ?_ ?_ <;> intro _ <;> try (exfalso; omega)) | fail)
    refine wk_ret (retQ_tmp1 Tryz.results20 (by decide) rfl (by conv => lhs; whnf) ?_)
    exact ⟨b7, es, c, m, rfl, hm, hn, hl⟩
theorem renamed_calls {l : List Pair} {b c : Nat} {es : Array MapEntry} {m : List (Tx × Value)} {w : World} (hm : MapR str es m) (hn : NamI l m) (hb : w.heap[b]? = some (.map es c)) (n : Tx) : Calls Tryz.prog 21 #[.map (some b), str n] w (fun e w' => ∃ v, e = .returned v ∧ v = str (renB l n) ∧ Ext w w') := by
  have hky := key_str (P := Tryz.prog) (kt := 9) rfl
  have hg := hn n
  refine calls_of Tryz.func21 rfl Tryz.ntmps21 rfl ?_
  repeat' (first | refine a_mov ?_ | refine a_asg ?_ | refine a_ext ?_ | (refine o_nil (hK _ _ ?_); clear hK K) | refine wk_reg ?_ | refine wk_seq fun K hK => ?_ | (refine wk_skip (hK _ _ ?_); clear hK K) | refine wk_cond_t rfl ?_ | refine wk_cond_f rfl ?_ | fail)
  refine o_lookup n hm hb hky rfl rfl rfl rfl rfl ?_
  rw [if_pos rfl, hg]
  cases hf : find l n with
  | none =>
    repeat' (first | refine a_mov ?_ | refine a_asg ?_ | refine a_ext ?_ | (refine o_nil (hK _ _ ?_); clear hK K) | refine wk_reg ?_ | refine wk_seq fun K hK => ?_ | (refine wk_skip (hK _ _ ?_); clear hK K) | refine wk_cond_t rfl ?_ | refine wk_cond_f rfl ?_ | fail)
    refine wk_ret (retQ_tmp1 Tryz.results21 (by decide) rfl (by conv => lhs; whnf) ?_)
    exact ⟨by unfold renB; rw [hf]; rfl, .refl _ _⟩
  | some y =>
    repeat' (first | refine a_mov ?_ | refine a_asg ?_ | refine a_ext ?_ | (refine o_nil (hK _ _ ?_); clear hK K) | refine wk_reg ?_ | refine wk_seq fun K hK => ?_ | (refine wk_skip (hK _ _ ?_); clear hK K) | refine wk_cond_t rfl ?_ | refine wk_cond_f rfl ?_ | fail)
    refine wk_ret (retQ_tmp1 Tryz.results21 (by decide) rfl (by conv => lhs; whnf) ?_)
    exact ⟨by unfold renB; rw [hf]; rfl, .refl _ _⟩
/-! ### slices.Concat at terms -/
def limZ : List Value := [.string ⟨#[]⟩, .int .i64 0, .int .i64 0, .int .i64 0, .slice none 0 0]
theorem acc_zeros {b c : Nat} {os : Array Value} (h1 : os.size = c * 5) (h2 : c ≤ maxLen) : Acc (.slice (some ⟨b, 0, none⟩) 0 c) 5 56 0 [] [(b, .cells os 56 (0, 0))] :=
  ⟨rfl, .inr ⟨b, c, _, rfl, rfl, Nat.zero_le _, h2, h1, by simp⟩⟩
theorem growl_calls {k : Nat} {w : World} (hk : k ≤ 1000) : Calls Tryz.prog 61 #[.slice none 0 0, .int .i64 (k : Int)] w (fun e w' => ∃ v, e = .returned v ∧ ∃ acc, LH w (fun _ => False) w' acc ∧ Acc v 5 56 0 [] acc) := by
  by_cases h0 : k = 0
  · subst h0
    refine (Any8.slices_Grow_room Tryz.growL none 0 0 0 w (Nat.le_refl _) (by decide) (by decide) (Nat.le_refl _)).mono ?_
    rintro e w' ⟨rfl, rfl⟩
    exact ⟨_, rfl, [], LH.start w' _, Acc.nil _ _⟩
  · obtain ⟨inf, z, hi1, hz, hs1, hs2, hs3⟩ := infoT_some (P := Tryz.prog) (E := 56) (k := 5) (bytes := 64) (zs := 5) (by kernel_rfl)
    refine (Any8.slices_Grow_grow Tryz.growL inf z hi1 hz (by omega) none 0 0 k [] w (Nat.le_refl _) (by omega) (by rw [hs2]; omega) (by omega) (by simp) (fun _ => rfl) (fun a h => nomatch h)).mono ?_
    rintro e w' ⟨rfl, rfl⟩
    rw [Nat.zero_add]
    have hge := grownCap_ge w k 0 56
    have hle := grownCap_le_maxLen w k 0 56 (by unfold maxLen; omega)
    refine ⟨_, rfl, [(w.heap.size, _)], ((LH.start w (fun _ => False)).heap (w' := w.drew) ⟨rfl, rfl, rfl⟩).alloc _, acc_zeros ?_ hle⟩
    have ht25 : Tryz.growL_ren.t 25 = 56 := rfl
    simp only [Array.size_append, List.size_toArray, size_zeroCells, hs3, List.length_nil, ht25]
    omega
set_option maxHeartbeats 8000000 in
theorem concat_calls {v1 v2 : Value} {l1 l2 : List (Lim × Value)} {b : Nat} {w : World} (hr : Row w b 0 [v1, v2]) (h1 : Sl w v1 5 (l1.flatMap limL)) (h2 : Sl w v2 5 (l2.flatMap limL)) (o1 : ∀ p ∈ l1, LimIn w p) (o2 : ∀ p ∈ l2, LimIn w p) (n1 : l1.length ≤ 100) (n2 : l2.length ≤ 100) :
    Calls Tryz.prog 27 #[.slice (some ⟨b, 0, none⟩) 2 2] w (fun e w' => ∃ v, e = .returned v ∧ ∃ acc, LH w (fun _ => False) w' acc ∧ Acc v 5 56 (l1 ++ l2).length ((l1 ++ l2).flatMap limL) acc) := by
  have f1 : (l1.flatMap limL).all Value.oneCell' = true := by
    rw [List.all_eq_true]
    intro v hv
    obtain ⟨p, hp, hv⟩ := List.mem_flatMap.1 hv
    exact List.all_eq_true.1 (lim_one (o1 p hp)) v hv
  have f2 : (l2.flatMap limL).all Value.oneCell' = true := by
    rw [List.all_eq_true]
    intro v hv
    obtain ⟨p, hp, hv⟩ := List.mem_flatMap.1 hv
    exact List.all_eq_true.1 (lim_one (o2 p hp)) v hv
  obtain ⟨a1, c1, rfl, -⟩ := h1.shape (flat_length limL_len l1) (by decide)
  obtain ⟨a2, c2, rfl, -⟩ := h2.shape (flat_length limL_len l2) (by decide)
  refine calls_of Tryz.func27 rfl Tryz.ntmps27 rfl ?_
  repeat' (first | refine a_mov ?_ | refine a_asg ?_ | refine a_binN ?_ | refine a_lenv ?_ | (refine o_nil (hK _ _ ?_); clear hK K) | refine wk_reg ?_ | refine wk_seq fun K hK => ?_ | (refine wk_skip (hK _ _ ?_); clear hK K) | refine wk_block ?_ | refine wk_cond_t rfl ?_ | refine wk_cond_f rfl ?_ | (refine wk_exit ?_; (repeat (refine blockK_other rfl ?_)); refine blockK_same ?_; try ((repeat ((fail_if_success (refine hK _ _ ?_)); clear hK K)); refine hK _ _ ?_; clear hK K)) | (refine a_bin ?_ ?_ <;> intro _ <;> try (exfalso; omega)) | fail)
  refine wk_loopH [] rfl (fun i : Nat => [(0, .slice (some ⟨b, 0, none⟩) 2 2), (3, .int .i64 ((if i = 0 then 0 else if i = 1 then l1.length else l1.length + l2.length : Nat) : Int)), (9, .slice (some ⟨b, 0, none⟩) 2 2), (10, .int .i64 2), (11, .int .i64 (i : Int))]) (fun i w' => i ≤ 2 ∧ w' = w) (fun i => 2 - i) 0 ⟨rfl, rfl, rfl, rfl, rfl, trivial⟩ ⟨Nat.zero_le _, rfl⟩ ?_
  rintro i t w0 ⟨hi, rfl⟩
  obtain rfl | rfl | rfl : i = 0 ∨ i = 1 ∨ i = 2 := by omega
  · rw [if_pos rfl]
    repeat' (first | refine a_mov ?_ | refine a_asg ?_ | refine a_binN ?_ | refine a_lenv ?_ | (refine o_nil (hK _ _ ?_); clear hK K) | refine wk_reg ?_ | refine wk_seq fun K hK => ?_ | (refine wk_skip (hK _ _ ?_); clear hK K) | refine wk_block ?_ | refine wk_cond_t rfl ?_ | refine wk_cond_f rfl ?_ | (refine wk_exit ?_; (repeat (refine blockK_other rfl ?_)); refine blockK_same ?_; try ((repeat ((fail_if_success (refine hK _ _ ?_)); clear hK K)); refine hK _ _ ?_; clear hK K)) | (refine a_bin ?_ ?_ <;> intro _ <;> try (exfalso; omega)) | refine a_idx (c := 1) 0 rfl ?_ | refine a_row hr ?_ | fail)
    exact o_nil ⟨1, ⟨rfl, congrArg (Value.int .i64) (by simp), rfl, rfl, rfl, trivial⟩, rfl, ⟨by decide, rfl⟩, by decide⟩
  · rw [if_neg (by decide), if_pos rfl]
    repeat' (first | refine a_mov ?_ | refine a_asg ?_ | refine a_binN ?_ | refine a_lenv ?_ | (refine o_nil (hK _ _ ?_); clear hK K) | refine wk_reg ?_ | refine wk_seq fun K hK => ?_ | (refine wk_skip (hK _ _ ?_); clear hK K) | refine wk_block ?_ | refine wk_cond_t rfl ?_ | refine wk_cond_f rfl ?_ | (refine wk_exit ?_; (repeat (refine blockK_other rfl ?_)); refine blockK_same ?_; try ((repeat ((fail_if_success (refine hK _ _ ?_)); clear hK K)); refine hK _ _ ?_; clear hK K)) | (refine a_bin ?_ ?_ <;> intro _ <;> try (exfalso; omega)) | refine a_idx (c := 1) 1 rfl ?_ | refine a_row hr ?_ | fail)
    exact o_nil ⟨2, ⟨rfl, congrArg (Value.int .i64) (by simp), rfl, rfl, rfl, trivial⟩, rfl, ⟨by decide, rfl⟩, by decide⟩
  · rw [if_neg (by decide), if_neg (by decide)]
    repeat' (first | refine a_mov ?_ | refine a_asg ?_ | refine a_binN ?_ | refine a_lenv ?_ | (refine o_nil (hK _ _ ?_); clear hK K) | refine wk_reg ?_ | refine wk_seq fun K hK => ?_ | (refine wk_skip (hK _ _ ?_); clear hK K) | refine wk_block ?_ | refine wk_cond_t rfl ?_ | refine wk_cond_f rfl ?_ | (refine wk_exit ?_; (repeat (refine blockK_other rfl ?_)); refine blockK_same ?_; try ((repeat ((fail_if_success (refine hK _ _ ?_)); clear hK K)); refine hK _ _ ?_; clear hK K)) | (refine a_bin ?_ ?_ <;> intro _ <;> try (exfalso; omega)) | fail)
    refine a_fn (growl_calls (k := l1.length + l2.length) (by omega)) ?_
    rintro v w1 ⟨acc, hl, hacc⟩
    repeat' (first | refine a_mov ?_ | refine a_asg ?_ | refine a_binN ?_ | refine a_lenv ?_ | (refine o_nil (hK _ _ ?_); clear hK K) | refine wk_reg ?_ | refine wk_seq fun K hK => ?_ | (refine wk_skip (hK _ _ ?_); clear hK K) | refine wk_block ?_ | refine wk_cond_t rfl ?_ | refine wk_cond_f rfl ?_ | (refine wk_exit ?_; (repeat (refine blockK_other rfl ?_)); refine blockK_same ?_; try ((repeat ((fail_if_success (refine hK _ _ ?_)); clear hK K)); refine hK _ _ ?_; clear hK K)) | (refine a_bin ?_ ?_ <;> intro _ <;> try (exfalso; omega)) | fail)
    refine wk_loopH [] rfl (fun x : Nat × Value => [(6, x.2), (25, .slice (some ⟨b, 0, none⟩) 2 2), (26, .int .i64 2), (27, .int .i64 (x.1 : Int))]) (fun x w' => x.1 ≤ 2 ∧ ∃ acc, LH w0 (fun _ => False) w' acc ∧ Acc x.2 5 56 (if x.1 = 0 then [] else if x.1 = 1 then l1 else l1 ++ l2).length ((if x.1 = 0 then [] else if x.1 = 1 then l1 else l1 ++ l2).flatMap limL) acc) (fun x => 2 - x.1) (0, v) ⟨rfl, rfl, rfl, rfl, trivial⟩ ⟨Nat.zero_le _, acc, hl, hacc⟩ ?_
    clear hl hacc w1 v acc
    rintro ⟨i, v⟩ t2 w1 ⟨hi, acc, hl, hacc⟩
    simp only at hi hacc ⊢
    have hr := hr.ext hl.done
    have hl : LH w0 (fun _ => False) w1 ([] ++ acc) := hl
    obtain rfl | rfl | rfl : i = 0 ∨ i = 1 ∨ i = 2 := by omega
    · rw [if_pos rfl] at hacc
      repeat' (first | refine a_mov ?_ | refine a_asg ?_ | refine a_binN ?_ | refine a_lenv ?_ | (refine o_nil (hK _ _ ?_); clear hK K) | refine wk_reg ?_ | refine wk_seq fun K hK => ?_ | (refine wk_skip (hK _ _ ?_); clear hK K) | refine wk_block ?_ | refine wk_cond_t rfl ?_ | refine wk_cond_f rfl ?_ | (refine wk_exit ?_; (repeat (refine blockK_other rfl ?_)); refine blockK_same ?_; try ((repeat ((fail_if_success (refine hK _ _ ?_)); clear hK K)); refine hK _ _ ?_; clear hK K)) | (refine a_bin ?_ ?_ <;> intro _ <;> try (exfalso; omega)) | refine a_idx (c := 1) 0 rfl ?_ | refine a_row hr ?_ | fail)
      refine o_appendS (bl' := []) (k := 5) (bytes := 64) (q := l1.length) (us := l1.flatMap limL) hl hacc (h1.ext hl.done) (flat_length limL_len l1) (by decide) f1 (by simp; omega) (by simp; omega) rfl rfl (by kernel_rfl) rfl rfl rfl ?_
      clear hl hacc
      intro v2 w2 acc2 hl hacc
      repeat' (first | refine a_mov ?_ | refine a_asg ?_ | refine a_binN ?_ | refine a_lenv ?_ | (refine o_nil (hK _ _ ?_); clear hK K) | refine wk_reg ?_ | refine wk_seq fun K hK => ?_ | (refine wk_skip (hK _ _ ?_); clear hK K) | refine wk_block ?_ | refine wk_cond_t rfl ?_ | refine wk_cond_f rfl ?_ | (refine wk_exit ?_; (repeat (refine blockK_other rfl ?_)); refine blockK_same ?_; try ((repeat ((fail_if_success (refine hK _ _ ?_)); clear hK K)); refine hK _ _ ?_; clear hK K)) | (refine a_bin ?_ ?_ <;> intro _ <;> try (exfalso; omega)) | fail)
      refine o_nil ⟨(1, v2), ⟨rfl, rfl, rfl, rfl, trivial⟩, rfl, ⟨by simp only; omega, acc2, hl, ?_⟩, by simp only; omega⟩
      simp only
      rw [if_neg (by decide), if_pos trivial]
      rw [List.length_nil, Nat.zero_add, List.flatMap_nil, List.nil_append] at hacc
      exact hacc
    · rw [if_neg (by decide), if_pos rfl] at hacc
      repeat' (first | refine a_mov ?_ | refine a_asg ?_ | refine a_binN ?_ | refine a_lenv ?_ | (refine o_nil (hK _ _ ?_); clear hK K) | refine wk_reg ?_ | refine wk_seq fun K hK => ?_ | (refine wk_skip (hK _ _ ?_); clear hK K) | refine wk_block ?_ | refine wk_cond_t rfl ?_ | refine wk_cond_f rfl ?_ | (refine wk_exit ?_; (repeat (refine blockK_other rfl ?_)); refine blockK_same ?_; try ((repeat ((fail_if_success (refine hK _ _ ?_)); clear hK K)); refine hK _ _ ?_; clear hK K)) | (refine a_bin ?_ ?_ <;> intro _ <;> try (exfalso; omega)) | refine a_idx (c := 1) 1 rfl ?_ | refine a_row hr ?_ | fail)
      refine o_appendS (bl' := []) (k := 5) (bytes := 64) (q := l2.length) (us := l2.flatMap limL) hl hacc (h2.ext hl.done) (flat_length limL_len l2) (by decide) f2 (by omega) (by omega) rfl rfl (by kernel_rfl) rfl rfl rfl ?_
      clear hl hacc
      intro v2 w2 acc2 hl hacc
      repeat' (first | refine a_mov ?_ | refine a_asg ?_ | refine a_binN ?_ | refine a_lenv ?_ | (refine o_nil (hK _ _ ?_); clear hK K) | refine wk_reg ?_ | refine wk_seq fun K hK => ?_ | (refine wk_skip (hK _ _ ?_); clear hK K) | refine wk_block ?_ | refine wk_cond_t rfl ?_ | refine wk_cond_f rfl ?_ | (refine wk_exit ?_; (repeat (refine blockK_other rfl ?_)); refine blockK_same ?_; try ((repeat ((fail_if_success (refine hK _ _ ?_)); clear hK K)); refine hK _ _ ?_; clear hK K)) | (refine a_bin ?_ ?_ <;> intro _ <;> try (exfalso; omega)) | fail)
      refine o_nil ⟨(2, v2), ⟨rfl, rfl, rfl, rfl, trivial⟩, rfl, ⟨by simp only; omega, acc2, hl, ?_⟩, by simp only; omega⟩
      simp only
      rw [if_neg (by decide), if_neg (by decide), List.length_append, List.flatMap_append]
      exact hacc
    · rw [if_neg (by decide), if_neg (by decide)] at hacc
      repeat' (first | refine a_mov ?_ | refine a_asg ?_ | refine a_binN ?_ | refine a_lenv ?_ | (refine o_nil (hK _ _ ?_); clear hK K) | refine wk_reg ?_ | refine wk_seq fun K hK => ?_ | (refine wk_skip (hK _ _ ?_); clear hK K) | refine wk_block ?_ | refine wk_cond_t rfl ?_ | refine wk_cond_f rfl ?_ | (refine wk_exit ?_; (repeat (refine blockK_other rfl ?_)); refine blockK_same ?_; try ((repeat ((fail_if_success (refine hK _ _ ?_)); clear hK K)); refine hK _ _ ?_; clear hK K)) | (refine a_bin ?_ ?_ <;> intro _ <;> try (exfalso; omega)) | fail)
      refine wk_ret (retQ_tmp1 Tryz.results27 (by decide) rfl (by conv => lhs; whnf) ?_)
      exact ⟨acc, hl, hacc⟩
end Go.Proofs
