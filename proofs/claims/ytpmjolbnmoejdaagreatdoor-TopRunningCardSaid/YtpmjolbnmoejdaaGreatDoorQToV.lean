/-
  Migrations: is a text a name, is a limit a new term, are keys all different.
-/
import Derived.Test.YtpmjolbnmoejdaaGreatDoorQToTx
set_option linter.unusedVariables false
set_option linter.unusedSimpArgs false
set_option linter.unnecessarySimpa false
set_option maxRecDepth 10000
namespace Go.Top
open Go Go.Pd
open Go.Fin (Nm)
def SeenI {α κ : Type} [DecidableEq κ] (key : α → κ) (l : List α) (m : List (κ × Value)) : Prop := (∀ k, k ∈ m.map (·.1) ↔ k ∈ l.map key) ∧ m.length ≤ l.length ∧ (m.length = l.length ↔ (l.map key).Nodup)
theorem seenI_nil {α κ : Type} [DecidableEq κ] (key : α → κ) : SeenI key [] [] := ⟨fun k => by simp, Nat.le_refl _, by simp⟩
theorem seenI_snoc {α κ : Type} [DecidableEq κ] {key : α → κ} {l : List α} {m : List (κ × Value)} (h : SeenI key l m) (x : α) (v : Value) : SeenI key (l ++ [x]) (ins m (key x) v) := by
  obtain ⟨h1, h2, h3⟩ := h
  have hk := keys_ins m (key x) v
  have hlen : (ins m (key x) v).length = ((ins m (key x) v).map (·.1)).length := by rw [List.length_map]
  by_cases hin : key x ∈ l.map key
  · rw [if_pos ((h1 _).2 hin)] at hk
    rw [hk, List.length_map] at hlen
    refine ⟨fun k => ?_, ?_, ?_⟩
    · rw [hk, h1, List.map_append, List.mem_append]
      constructor
      · exact .inl
      · rintro (h | h)
        · exact h
        · simp only [List.map_cons, List.map_nil, List.mem_singleton] at h
          rw [h]; exact hin
    · rw [hlen, List.length_append]; omega
    · rw [hlen, List.length_append, List.map_append, List.nodup_append]
      constructor
      · intro h; simp only [List.length_singleton] at h; omega
      · intro h
        exact absurd rfl (h.2.2 _ hin _ (by simp))
  · rw [if_neg (fun h => hin ((h1 _).1 h))] at hk
    rw [hk, List.length_append, List.length_map] at hlen
    refine ⟨fun k => ?_, ?_, ?_⟩
    · rw [hk, List.map_append, List.mem_append, List.mem_append, h1]
      simp
    · rw [hlen, List.length_append]; simp only [List.length_singleton]; omega
    · rw [hlen, List.length_append, List.map_append, List.nodup_append]
      simp only [List.length_singleton]
      constructor
      · intro h
        refine ⟨h3.1 (by omega), by simp, fun a ha b hb => ?_⟩
        simp only [List.map_cons, List.map_nil, List.mem_singleton] at hb
        subst hb
        exact fun e => hin (e ▸ ha)
      · intro h
        have := h3.2 h.1
        omega
theorem pause_zero (l : Lim) : (Go.Proofs.pauseE l ⟨0, 0⟩ = 0 ∧ l.st.length = 0) ↔ termL l = true := by
  have h : stopB ⟨0, 0⟩ = true := by decide
  unfold Go.Proofs.pauseE termL
  rw [h, Bool.and_true, Bool.and_eq_true, decide_eq_true_iff]
  cases properB l
  · simp
  · cases hs : l.st with
    | nil => simp
    | cons a r => simp
theorem form_name (s : Tx) : formB { id := s, opened := 0, cas := [], proc := [112], stage := 0, moved := [], rights := [], limits := [] } = Nm s := by
  have h : Nm [112] = true := by decide
  unfold formB
  simp only
  rw [h]
  cases Nm s
  · rfl
  · rfl
end Go.Top
namespace Go.Proofs
open Go Go.Pd Go.Top
open Go.Fin (Nm)
attribute [local irreducible] OpsL W RetQ OpsQ OpsC
def noMV : MV := ⟨.slice none 0 0, .slice none 0 0, .slice none 0 0, .slice none 0 0⟩
def namM (s : Tx) : Mat := { id := s, opened := 0, cas := [], proc := [112], stage := 0, moved := [], rights := [], limits := [] }
theorem namM_in (s : Tx) (w : World) : MatIn w (namM s) noMV :=
  ⟨⟨Sl.nil w 1, Nat.zero_le _⟩, ⟨Sl.nil w 1, Nat.zero_le _⟩, ⟨Sl.nil w 2, Nat.zero_le _⟩, ⟨[], rfl, Sl.nil w 5, fun _ h => nomatch h⟩, Nat.zero_le _⟩
theorem gname_calls (s : Tx) {w : World} (ht : Tabs w) : Calls Tryz.prog 52 #[str s] w (fun e w' => ∃ v, e = .returned v ∧ v = .bool (Nm s) ∧ Ext w w') := by
  refine calls_of Tryz.func52 rfl Tryz.ntmps52 rfl ?_
  repeat' (first | refine a_mov ?_ | refine a_asg ?_ | refine a_ext ?_ | (refine o_nil (hK _ _ ?_); clear hK K) | refine wk_reg ?_ | refine wk_seq fun K hK => ?_ | (refine a_bin ?_ ?_ <;> intro _ <;> try (exfalso; omega)) | fail)
  refine o_build (matL (namM s) noMV) rfl (by simp only [matL, namM, noMV, str_eq]; kernel_rfl) ?_
  refine a_fn (text_calls (namM_in s w) ht) ?_
  rintro v w1 ⟨⟨t, rfl⟩, e1⟩
  rw [show formB (namM s) = Nm s from form_name s]
  cases hn : Nm s
  · rw [if_neg (by decide)]
    repeat' (first | refine a_mov ?_ | refine a_asg ?_ | refine a_ext ?_ | (refine o_nil (hK _ _ ?_); clear hK K) | refine wk_reg ?_ | refine wk_seq fun K hK => ?_ | (refine a_bin ?_ ?_ <;> intro _ <;> try (exfalso; omega)) | fail)
    refine wk_ret (retQ_tmp1 Tryz.results52 (by decide) rfl (by conv => lhs; whnf) ?_)
    exact ⟨by rw [hn], e1⟩
  · rw [if_pos rfl]
    repeat' (first | refine a_mov ?_ | refine a_asg ?_ | refine a_ext ?_ | (refine o_nil (hK _ _ ?_); clear hK K) | refine wk_reg ?_ | refine wk_seq fun K hK => ?_ | (refine a_bin ?_ ?_ <;> intro _ <;> try (exfalso; omega)) | fail)
    refine wk_ret (retQ_tmp1 Tryz.results52 (by decide) rfl (by conv => lhs; whnf) ?_)
    exact ⟨by rw [hn], e1⟩
theorem term_calls {p : Lim × Value} {w : World} (h : LimIn w p) : Calls Tryz.prog 54 #[.agg (limL p).toArray] w (fun e w' => ∃ v, e = .returned v ∧ v = .bool (termL p.1) ∧ Ext w w') := by
  obtain ⟨l, sv⟩ := p
  obtain ⟨sa, sc, hsv⟩ := lim_shape h
  simp only at hsv
  subst hsv
  refine calls_of Tryz.func54 rfl Tryz.ntmps54 rfl ?_
  repeat' (first | refine a_mov ?_ | refine a_asg ?_ | refine a_fa ?_ | refine a_ext ?_ | refine a_lenv ?_ | refine a_pick_t ?_ | refine a_pick_f ?_ | refine a_not ?_ | (refine o_nil (hK _ _ ?_); clear hK K) | refine wk_reg ?_ | refine wk_seq fun K hK => ?_ | (refine a_bin ?_ ?_ <;> intro _ <;> try (exfalso; omega)) | fail)
  refine o_box (LH.start w (fun _ => False)) (limL (l, .slice sa l.st.length sc)) (by rfl) rfl rfl ?_
  intro b1 w1 hb1 hl
  repeat' (first | refine a_mov ?_ | refine a_asg ?_ | refine a_fa ?_ | refine a_ext ?_ | refine a_lenv ?_ | refine a_pick_t ?_ | refine a_pick_f ?_ | refine a_not ?_ | (refine o_nil (hK _ _ ?_); clear hK K) | refine wk_reg ?_ | refine wk_seq fun K hK => ?_ | (refine a_bin ?_ ?_ <;> intro _ <;> try (exfalso; omega)) | fail)
  refine a_all (vs := limL (l, .slice sa l.st.length sc)) (hl.rowL 0 0 5 rfl) ?_
  refine o_build (stopL ⟨0, 0⟩) rfl (by kernel_rfl) ?_
  refine a_fn (pause_calls (h.ext hl.done) ⟨0, 0⟩) ?_
  rintro v w2 ⟨⟨vs, hv1, hv2, rfl⟩, e2⟩
  replace hl := hl.ext e2
  repeat' (first | refine a_mov ?_ | refine a_asg ?_ | refine a_fa ?_ | refine a_ext ?_ | refine a_lenv ?_ | refine a_pick_t ?_ | refine a_pick_f ?_ | refine a_not ?_ | (refine a_bin ?_ ?_ <;> intro _ <;> try (exfalso; omega)) | fail)
  refine o_alloc hl zeroL rfl (by kernel_rfl) ?_
  clear hl
  intro b3 w3 hb3 hl
  repeat' (first | refine a_mov ?_ | refine a_asg ?_ | refine a_fa ?_ | refine a_ext ?_ | refine a_lenv ?_ | refine a_pick_t ?_ | refine a_pick_f ?_ | refine a_not ?_ | (refine a_bin ?_ ?_ <;> intro _ <;> try (exfalso; omega)) | fail)
  refine o_store hl 0 vs rfl rfl rfl rfl (congrArg some hv1.symm) (by rw [hv1]; decide) hv2 ?_
  clear hl
  intro w4 hl
  have hr1 : Row w4 b1 0 [str l.id, .int .i64 l.n, .int .i64 l.u, .int .i64 l.f, .slice sa l.st.length sc] := hl.rowL (vs := limL (l, .slice sa l.st.length sc)) 1 0 5 rfl
  have e4 : Ext w w4 := hl.done
  clear hl
  have hpe := pause_zero l
  simp only
  generalize pauseE l ⟨0, 0⟩ = e at *
  by_cases he : e = 0 ∧ l.st.length = 0
  · obtain ⟨h1, h2⟩ := he
    have hp := hpe.1 ⟨h1, h2⟩
    repeat' (first | refine a_row hr1 ?_ | refine a_mov ?_ | refine a_asg ?_ | refine a_fa ?_ | refine a_ext ?_ | refine a_lenv ?_ | refine a_pick_t ?_ | refine a_pick_f ?_ | refine a_not ?_ | (refine o_nil (hK _ _ ?_); clear hK K) | refine wk_reg ?_ | refine wk_seq fun K hK => ?_ | (refine a_bin ?_ ?_ <;> intro _ <;> try (exfalso; omega)) | fail)
    refine wk_ret (retQ_tmp1 Tryz.results54 (by decide) rfl (by conv => lhs; whnf) ?_)
    exact ⟨by rw [hp], e4⟩
  · have hp : termL l = false := by
      cases hh : termL l
      · rfl
      · exact absurd (hpe.2 hh) he
    repeat' (first | refine a_row hr1 ?_ | refine a_mov ?_ | refine a_asg ?_ | refine a_fa ?_ | refine a_ext ?_ | refine a_lenv ?_ | refine a_pick_t ?_ | refine a_pick_f ?_ | refine a_not ?_ | (refine o_nil (hK _ _ ?_); clear hK K) | refine wk_reg ?_ | refine wk_seq fun K hK => ?_ | (refine a_bin ?_ ?_ <;> intro _ <;> try (exfalso; omega)) | fail)
    all_goals (refine wk_ret (retQ_tmp1 Tryz.results54 (by decide) rfl (by conv => lhs; whnf) ?_))
    all_goals exact ⟨by rw [hp], e4⟩
set_option maxHeartbeats 4000000 in
theorem limitOnce_calls {α : Type} {l : List α} {f : α → List Value} {key : α → Tx} {kv hv : Value} {w : World} (hk : ∀ x, (f x).length = 5) (hone : ∀ x ∈ l, (f x).all Value.oneCell' = true) (hH : Sl w hv 5 (l.flatMap f)) (hlen : l.length ≤ 140737488351232)
    (hkey : ∀ x ∈ l, ∀ w1, Ext w w1 → CallF Tryz.prog kv #[.agg (f x).toArray] w1 (fun v w2 => v = str (key x) ∧ Ext w1 w2)) :
    Calls Tryz.prog 28 #[hv, kv] w (fun e w' => ∃ v, e = .returned v ∧ v = .bool (decide (l.map key).Nodup) ∧ Ext w w') := by
  obtain ⟨ka, kc, rfl, hp⟩ := sl_each hk (by decide) hH
  have hky := key_str (P := Tryz.prog) (kt := 9) rfl
  refine calls_of Tryz.func28 rfl Tryz.ntmps28 rfl ?_
  repeat' (first | refine a_mov ?_ | refine a_asg ?_ | refine a_binN ?_ | refine a_lenv ?_ | (refine o_nil (hK _ _ ?_); clear hK K) | refine wk_reg ?_ | refine wk_seq fun K hK => ?_ | (refine wk_skip (hK _ _ ?_); clear hK K) | refine wk_block ?_ | refine wk_cond_t rfl ?_ | refine wk_cond_f rfl ?_ | (refine wk_exit ?_; (repeat (refine blockK_other rfl ?_)); refine blockK_same ?_; try ((repeat ((fail_if_success (refine hK _ _ ?_)); clear hK K)); refine hK _ _ ?_; clear hK K)) | (refine a_bin ?_ ?_ <;> intro _ <;> try (exfalso; omega)) | fail)
  refine o_makeMap (LH.start w (fun _ => False)) rfl ?_
  intro b7 w1 hb7 hl
  repeat' (first | refine a_mov ?_ | refine a_asg ?_ | refine a_binN ?_ | refine a_lenv ?_ | (refine o_nil (hK _ _ ?_); clear hK K) | refine wk_reg ?_ | refine wk_seq fun K hK => ?_ | (refine wk_skip (hK _ _ ?_); clear hK K) | refine wk_block ?_ | refine wk_cond_t rfl ?_ | refine wk_cond_f rfl ?_ | (refine wk_exit ?_; (repeat (refine blockK_other rfl ?_)); refine blockK_same ?_; try ((repeat ((fail_if_success (refine hK _ _ ?_)); clear hK K)); refine hK _ _ ?_; clear hK K)) | (refine a_bin ?_ ?_ <;> intro _ <;> try (exfalso; omega)) | fail)
  refine wk_loopH [] rfl (fun i : Nat => [(0, .slice ka l.length kc), (1, kv), (5, .map (some b7)), (9, .slice ka l.length kc), (10, .int .i64 (l.length : Int)), (11, .int .i64 (i : Int))])
    (fun i w' => i ≤ l.length ∧ ∃ es c m, MapR str es m ∧ SeenI key (l.take i) m ∧ LH w (fun _ => False) w' [(b7, .map es c)]) (fun i => l.length - i) 0 ⟨rfl, rfl, rfl, rfl, rfl, rfl, trivial⟩ ⟨Nat.zero_le _, #[], 0, [], MapR.nil, seenI_nil key, hl⟩ ?_
  clear hl
  rintro i t1 w2 ⟨hi, es, c, m, hm, hsn, hl⟩
  by_cases hi1 : i < l.length
  · obtain ⟨b, o, hpp, hr⟩ := hp i hi1
    have hr := hr w2 hl.done
    have hmem := List.getElem_mem hi1
    have hta := List.take_succ_eq_append_getElem hi1
    repeat' (first | refine a_mov ?_ | refine a_asg ?_ | refine a_binN ?_ | refine a_lenv ?_ | (refine o_nil (hK _ _ ?_); clear hK K) | refine wk_reg ?_ | refine wk_seq fun K hK => ?_ | (refine wk_skip (hK _ _ ?_); clear hK K) | refine wk_block ?_ | refine wk_cond_t rfl ?_ | refine wk_cond_f rfl ?_ | (refine wk_exit ?_; (repeat (refine blockK_other rfl ?_)); refine blockK_same ?_; try ((repeat ((fail_if_success (refine hK _ _ ?_)); clear hK K)); refine hK _ _ ?_; clear hK K)) | (refine a_bin ?_ ?_ <;> intro _ <;> try (exfalso; omega)) | refine a_idx (c := 5) i hpp ?_ | refine a_all hr ?_ (hs := congrArg some (hk _).symm) | fail)
    refine o_alloc hl [.string ⟨#[]⟩, .int .i64 0, .int .i64 0, .int .i64 0, .slice none 0 0] rfl (by kernel_rfl) ?_
    clear hl
    intro b9 w3 hb9 hl
    refine o_store hl 0 (f l[i]) rfl rfl rfl rfl (congrArg some (hk _).symm) (by rw [hk]; decide) (hone _ hmem) ?_
    clear hl
    intro w4 hl
    rw [putL_all _ _ _ (by rw [hk]; rfl), List.take_zero, List.nil_append] at hl
    have hl : LH w (fun _ => False) w4 [(b9, .cells (f l[i]).toArray 56 (0, 0)), (b7, .map es c)] := hl
    have hr9 : Row w4 b9 0 (f l[i]) := by
      have h9 := hl.rowL (vs := f l[i]) 0 0 5 rfl
      rwa [List.drop_zero, List.take_of_length_le (by rw [hk]; exact Nat.le_refl _)] at h9
    repeat' (first | refine a_mov ?_ | refine a_asg ?_ | refine a_binN ?_ | refine a_lenv ?_ | (refine o_nil (hK _ _ ?_); clear hK K) | refine wk_reg ?_ | refine wk_seq fun K hK => ?_ | (refine wk_skip (hK _ _ ?_); clear hK K) | refine wk_block ?_ | refine wk_cond_t rfl ?_ | refine wk_cond_f rfl ?_ | (refine wk_exit ?_; (repeat (refine blockK_other rfl ?_)); refine blockK_same ?_; try ((repeat ((fail_if_success (refine hK _ _ ?_)); clear hK K)); refine hK _ _ ?_; clear hK K)) | (refine a_bin ?_ ?_ <;> intro _ <;> try (exfalso; omega)) | refine a_all hr9 ?_ (hs := congrArg some (hk _).symm) | fail)
    refine a_fw (hkey _ hmem w4 hl.done) ?_
    rintro v w7 ⟨rfl, e7⟩
    have hl := hl.ext e7
    refine o_mapUpdate (v := .bool true) (key l[i]) hl 1 rfl hm hky rfl rfl rfl rfl rfl ?_
    clear hl hm
    intro w8 es' c' hm hl
    have hsn := seenI_snoc hsn l[i] (.bool true)
    rw [← hta] at hsn
    repeat' (first | refine a_mov ?_ | refine a_asg ?_ | refine a_binN ?_ | refine a_lenv ?_ | (refine o_nil (hK _ _ ?_); clear hK K) | refine wk_reg ?_ | refine wk_seq fun K hK => ?_ | (refine wk_skip (hK _ _ ?_); clear hK K) | refine wk_block ?_ | refine wk_cond_t rfl ?_ | refine wk_cond_f rfl ?_ | (refine wk_exit ?_; (repeat (refine blockK_other rfl ?_)); refine blockK_same ?_; try ((repeat ((fail_if_success (refine hK _ _ ?_)); clear hK K)); refine hK _ _ ?_; clear hK K)) | (refine a_bin ?_ ?_ <;> intro _ <;> try (exfalso; omega)) | fail)
    exact o_nil ⟨i + 1, ⟨rfl, rfl, rfl, rfl, rfl, rfl, trivial⟩, rfl, ⟨by omega, es', c', _, hm, hsn, hl.sub (List.sublist_cons_self _ _)⟩, by omega⟩
  · obtain rfl : i = l.length := by omega
    rw [List.take_length] at hsn
    obtain ⟨-, h2, h3⟩ := hsn
    repeat' (first | refine a_mov ?_ | refine a_asg ?_ | refine a_binN ?_ | refine a_lenv ?_ | (refine o_nil (hK _ _ ?_); clear hK K) | refine wk_reg ?_ | refine wk_seq fun K hK => ?_ | (refine wk_skip (hK _ _ ?_); clear hK K) | refine wk_block ?_ | refine wk_cond_t rfl ?_ | refine wk_cond_f rfl ?_ | (refine wk_exit ?_; (repeat (refine blockK_other rfl ?_)); refine blockK_same ?_; try ((repeat ((fail_if_success (refine hK _ _ ?_)); clear hK K)); refine hK _ _ ?_; clear hK K)) | (refine a_bin ?_ ?_ <;> intro _ <;> try (exfalso; omega)) | fail)
    refine o_lenm hm (hl.get 0 rfl) rfl rfl rfl ?_
    by_cases hnd : (l.map key).Nodup
    · have := h3.2 hnd
      repeat' (first | refine a_mov ?_ | refine a_asg ?_ | refine a_binN ?_ | refine a_lenv ?_ | (refine o_nil (hK _ _ ?_); clear hK K) | refine wk_reg ?_ | refine wk_seq fun K hK => ?_ | (refine wk_skip (hK _ _ ?_); clear hK K) | refine wk_block ?_ | refine wk_cond_t rfl ?_ | refine wk_cond_f rfl ?_ | (refine wk_exit ?_; (repeat (refine blockK_other rfl ?_)); refine blockK_same ?_; try ((repeat ((fail_if_success (refine hK _ _ ?_)); clear hK K)); refine hK _ _ ?_; clear hK K)) | (refine a_bin ?_ ?_ <;> intro _ <;> try (exfalso; omega)) | fail)
      refine wk_ret (retQ_tmp1 Tryz.results28 (by decide) rfl (by conv => lhs; whnf) ?_)
      exact ⟨by rw [decide_eq_true hnd], hl.done⟩
    · have : ¬ m.length = l.length := fun h => hnd (h3.1 h)
      repeat' (first | refine a_mov ?_ | refine a_asg ?_ | refine a_binN ?_ | refine a_lenv ?_ | (refine o_nil (hK _ _ ?_); clear hK K) | refine wk_reg ?_ | refine wk_seq fun K hK => ?_ | (refine wk_skip (hK _ _ ?_); clear hK K) | refine wk_block ?_ | refine wk_cond_t rfl ?_ | refine wk_cond_f rfl ?_ | (refine wk_exit ?_; (repeat (refine blockK_other rfl ?_)); refine blockK_same ?_; try ((repeat ((fail_if_success (refine hK _ _ ?_)); clear hK K)); refine hK _ _ ?_; clear hK K)) | (refine a_bin ?_ ?_ <;> intro _ <;> try (exfalso; omega)) | fail)
      refine wk_ret (retQ_tmp1 Tryz.results28 (by decide) rfl (by conv => lhs; whnf) ?_)
      exact ⟨by rw [decide_eq_false hnd], hl.done⟩
set_option maxHeartbeats 4000000 in
theorem pairOnce_calls {α : Type} {l : List α} {f : α → List Value} {key : α → Tx} {kv hv : Value} {w : World} (hk : ∀ x, (f x).length = 2) (hone : ∀ x ∈ l, (f x).all Value.oneCell' = true) (hH : Sl w hv 2 (l.flatMap f)) (hlen : l.length ≤ 140737488351232)
    (hkey : ∀ x ∈ l, ∀ w1, Ext w w1 → CallF Tryz.prog kv #[.agg (f x).toArray] w1 (fun v w2 => v = str (key x) ∧ Ext w1 w2)) :
    Calls Tryz.prog 58 #[hv, kv] w (fun e w' => ∃ v, e = .returned v ∧ v = .bool (decide (l.map key).Nodup) ∧ Ext w w') := by
  obtain ⟨ka, kc, rfl, hp⟩ := sl_each hk (by decide) hH
  have hky := key_str (P := Tryz.prog) (kt := 9) rfl
  refine calls_of Tryz.func58 rfl Tryz.ntmps58 rfl ?_
  repeat' (first | refine a_mov ?_ | refine a_asg ?_ | refine a_binN ?_ | refine a_lenv ?_ | (refine o_nil (hK _ _ ?_); clear hK K) | refine wk_reg ?_ | refine wk_seq fun K hK => ?_ | (refine wk_skip (hK _ _ ?_); clear hK K) | refine wk_block ?_ | refine wk_cond_t rfl ?_ | refine wk_cond_f rfl ?_ | (refine wk_exit ?_; (repeat (refine blockK_other rfl ?_)); refine blockK_same ?_; try ((repeat ((fail_if_success (refine hK _ _ ?_)); clear hK K)); refine hK _ _ ?_; clear hK K)) | (refine a_bin ?_ ?_ <;> intro _ <;> try (exfalso; omega)) | fail)
  refine o_makeMap (LH.start w (fun _ => False)) rfl ?_
  intro b7 w1 hb7 hl
  repeat' (first | refine a_mov ?_ | refine a_asg ?_ | refine a_binN ?_ | refine a_lenv ?_ | (refine o_nil (hK _ _ ?_); clear hK K) | refine wk_reg ?_ | refine wk_seq fun K hK => ?_ | (refine wk_skip (hK _ _ ?_); clear hK K) | refine wk_block ?_ | refine wk_cond_t rfl ?_ | refine wk_cond_f rfl ?_ | (refine wk_exit ?_; (repeat (refine blockK_other rfl ?_)); refine blockK_same ?_; try ((repeat ((fail_if_success (refine hK _ _ ?_)); clear hK K)); refine hK _ _ ?_; clear hK K)) | (refine a_bin ?_ ?_ <;> intro _ <;> try (exfalso; omega)) | fail)
  refine wk_loopH [] rfl (fun i : Nat => [(0, .slice ka l.length kc), (1, kv), (5, .map (some b7)), (9, .slice ka l.length kc), (10, .int .i64 (l.length : Int)), (11, .int .i64 (i : Int))])
    (fun i w' => i ≤ l.length ∧ ∃ es c m, MapR str es m ∧ SeenI key (l.take i) m ∧ LH w (fun _ => False) w' [(b7, .map es c)]) (fun i => l.length - i) 0 ⟨rfl, rfl, rfl, rfl, rfl, rfl, trivial⟩ ⟨Nat.zero_le _, #[], 0, [], MapR.nil, seenI_nil key, hl⟩ ?_
  clear hl
  rintro i t1 w2 ⟨hi, es, c, m, hm, hsn, hl⟩
  by_cases hi1 : i < l.length
  · obtain ⟨b, o, hpp, hr⟩ := hp i hi1
    have hr := hr w2 hl.done
    have hmem := List.getElem_mem hi1
    have hta := List.take_succ_eq_append_getElem hi1
    repeat' (first | refine a_mov ?_ | refine a_asg ?_ | refine a_binN ?_ | refine a_lenv ?_ | (refine o_nil (hK _ _ ?_); clear hK K) | refine wk_reg ?_ | refine wk_seq fun K hK => ?_ | (refine wk_skip (hK _ _ ?_); clear hK K) | refine wk_block ?_ | refine wk_cond_t rfl ?_ | refine wk_cond_f rfl ?_ | (refine wk_exit ?_; (repeat (refine blockK_other rfl ?_)); refine blockK_same ?_; try ((repeat ((fail_if_success (refine hK _ _ ?_)); clear hK K)); refine hK _ _ ?_; clear hK K)) | (refine a_bin ?_ ?_ <;> intro _ <;> try (exfalso; omega)) | refine a_idx (c := 2) i hpp ?_ | refine a_all hr ?_ (hs := congrArg some (hk _).symm) | fail)
    refine o_alloc hl [.string ⟨#[]⟩, .string ⟨#[]⟩] rfl (by kernel_rfl) ?_
    clear hl
    intro b9 w3 hb9 hl
    refine o_store hl 0 (f l[i]) rfl rfl rfl rfl (congrArg some (hk _).symm) (by rw [hk]; decide) (hone _ hmem) ?_
    clear hl
    intro w4 hl
    rw [putL_all _ _ _ (by rw [hk]; rfl), List.take_zero, List.nil_append] at hl
    have hl : LH w (fun _ => False) w4 [(b9, .cells (f l[i]).toArray 57 (0, 0)), (b7, .map es c)] := hl
    have hr9 : Row w4 b9 0 (f l[i]) := by
      have h9 := hl.rowL (vs := f l[i]) 0 0 2 rfl
      rwa [List.drop_zero, List.take_of_length_le (by rw [hk]; exact Nat.le_refl _)] at h9
    repeat' (first | refine a_mov ?_ | refine a_asg ?_ | refine a_binN ?_ | refine a_lenv ?_ | (refine o_nil (hK _ _ ?_); clear hK K) | refine wk_reg ?_ | refine wk_seq fun K hK => ?_ | (refine wk_skip (hK _ _ ?_); clear hK K) | refine wk_block ?_ | refine wk_cond_t rfl ?_ | refine wk_cond_f rfl ?_ | (refine wk_exit ?_; (repeat (refine blockK_other rfl ?_)); refine blockK_same ?_; try ((repeat ((fail_if_success (refine hK _ _ ?_)); clear hK K)); refine hK _ _ ?_; clear hK K)) | (refine a_bin ?_ ?_ <;> intro _ <;> try (exfalso; omega)) | refine a_all hr9 ?_ (hs := congrArg some (hk _).symm) | fail)
    refine a_fw (hkey _ hmem w4 hl.done) ?_
    rintro v w7 ⟨rfl, e7⟩
    have hl := hl.ext e7
    refine o_mapUpdate (v := .bool true) (key l[i]) hl 1 rfl hm hky rfl rfl rfl rfl rfl ?_
    clear hl hm
    intro w8 es' c' hm hl
    have hsn := seenI_snoc hsn l[i] (.bool true)
    rw [← hta] at hsn
    repeat' (first | refine a_mov ?_ | refine a_asg ?_ | refine a_binN ?_ | refine a_lenv ?_ | (refine o_nil (hK _ _ ?_); clear hK K) | refine wk_reg ?_ | refine wk_seq fun K hK => ?_ | (refine wk_skip (hK _ _ ?_); clear hK K) | refine wk_block ?_ | refine wk_cond_t rfl ?_ | refine wk_cond_f rfl ?_ | (refine wk_exit ?_; (repeat (refine blockK_other rfl ?_)); refine blockK_same ?_; try ((repeat ((fail_if_success (refine hK _ _ ?_)); clear hK K)); refine hK _ _ ?_; clear hK K)) | (refine a_bin ?_ ?_ <;> intro _ <;> try (exfalso; omega)) | fail)
    exact o_nil ⟨i + 1, ⟨rfl, rfl, rfl, rfl, rfl, rfl, trivial⟩, rfl, ⟨by omega, es', c', _, hm, hsn, hl.sub (List.sublist_cons_self _ _)⟩, by omega⟩
  · obtain rfl : i = l.length := by omega
    rw [List.take_length] at hsn
    obtain ⟨-, h2, h3⟩ := hsn
    repeat' (first | refine a_mov ?_ | refine a_asg ?_ | refine a_binN ?_ | refine a_lenv ?_ | (refine o_nil (hK _ _ ?_); clear hK K) | refine wk_reg ?_ | refine wk_seq fun K hK => ?_ | (refine wk_skip (hK _ _ ?_); clear hK K) | refine wk_block ?_ | refine wk_cond_t rfl ?_ | refine wk_cond_f rfl ?_ | (refine wk_exit ?_; (repeat (refine blockK_other rfl ?_)); refine blockK_same ?_; try ((repeat ((fail_if_success (refine hK _ _ ?_)); clear hK K)); refine hK _ _ ?_; clear hK K)) | (refine a_bin ?_ ?_ <;> intro _ <;> try (exfalso; omega)) | fail)
    refine o_lenm hm (hl.get 0 rfl) rfl rfl rfl ?_
    by_cases hnd : (l.map key).Nodup
    · have := h3.2 hnd
      repeat' (first | refine a_mov ?_ | refine a_asg ?_ | refine a_binN ?_ | refine a_lenv ?_ | (refine o_nil (hK _ _ ?_); clear hK K) | refine wk_reg ?_ | refine wk_seq fun K hK => ?_ | (refine wk_skip (hK _ _ ?_); clear hK K) | refine wk_block ?_ | refine wk_cond_t rfl ?_ | refine wk_cond_f rfl ?_ | (refine wk_exit ?_; (repeat (refine blockK_other rfl ?_)); refine blockK_same ?_; try ((repeat ((fail_if_success (refine hK _ _ ?_)); clear hK K)); refine hK _ _ ?_; clear hK K)) | (refine a_bin ?_ ?_ <;> intro _ <;> try (exfalso; omega)) | fail)
      refine wk_ret (retQ_tmp1 Tryz.results58 (by decide) rfl (by conv => lhs; whnf) ?_)
      exact ⟨by rw [decide_eq_true hnd], hl.done⟩
    · have : ¬ m.length = l.length := fun h => hnd (h3.1 h)
      repeat' (first | refine a_mov ?_ | refine a_asg ?_ | refine a_binN ?_ | refine a_lenv ?_ | (refine o_nil (hK _ _ ?_); clear hK K) | refine wk_reg ?_ | refine wk_seq fun K hK => ?_ | (refine wk_skip (hK _ _ ?_); clear hK K) | refine wk_block ?_ | refine wk_cond_t rfl ?_ | refine wk_cond_f rfl ?_ | (refine wk_exit ?_; (repeat (refine blockK_other rfl ?_)); refine blockK_same ?_; try ((repeat ((fail_if_success (refine hK _ _ ?_)); clear hK K)); refine hK _ _ ?_; clear hK K)) | (refine a_bin ?_ ?_ <;> intro _ <;> try (exfalso; omega)) | fail)
      refine wk_ret (retQ_tmp1 Tryz.results58 (by decide) rfl (by conv => lhs; whnf) ?_)
      exact ⟨by rw [decide_eq_false hnd], hl.done⟩
end Go.Proofs
