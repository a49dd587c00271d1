/-
  Limits: the clock of a limit.
-/
import Derived.Test.YtpmjolbnmoejdaaGreatDoorQToSo
import Derived.Shelf.SlSortCmp.NoneTotal
set_option linter.unusedVariables false
set_option linter.unusedSimpArgs false
set_option linter.unnecessarySimpa false
set_option maxRecDepth 10000
namespace Go.Top
theorem effS_succ (f : Int) (st : List Stop) {k : Nat} (h : k < st.length) : effS f (st.take (k + 1)) = effS f (st.take k) ++ (if max st[k].a (f + 1) < st[k].b then [{ a := max st[k].a (f + 1), b := st[k].b }] else []) := by
  unfold effS
  rw [List.take_succ_eq_append_getElem h, List.map_append, List.filter_append]
  congr 1
  simp only [List.map_cons, List.map_nil]
  split
  · rename_i h2; rw [List.filter_cons, if_pos (by simpa using h2)]; rfl
  · rename_i h2; rw [List.filter_cons, if_neg (by simpa using h2)]; rfl
theorem effS_len (f : Int) (st : List Stop) : (effS f st).length ≤ st.length := Nat.le_trans (List.length_filter_le _ _) (by simp)
end Go.Top
namespace Go.Proofs
open Go Go.Pd Go.Top
attribute [local irreducible] OpsL W RetQ OpsQ OpsC
def cmpV : Value := .func (.func 73) #[] #[]
theorem sort_calls {w0 w : World} {M : Nat → Prop} {bl acc : List (Nat × Obj)} {sv : Value} {l : List Stop} (hl : LH w0 M w (bl ++ acc)) (ha : Acc sv 2 93 l.length (l.flatMap stopL) acc) (hb : ∀ x ∈ l, 0 ≤ x.a ∧ x.a ≤ 1000000) (hlen : l.length ≤ 100) :
    Calls Tryz.prog 72 #[sv, cmpV] w (fun e w' => ∃ v, e = .returned v ∧ ∃ l' acc', l'.Perm l ∧ sortedS l' ∧ LH w0 M w' (bl ++ acc') ∧ Acc sv 2 93 l'.length (l'.flatMap stopL) acc') := by
  rcases ha.2 with ⟨rfl, h0, rfl⟩ | ⟨b, cap, cur, rfl, rfl, k1, k2, k3, k4⟩
  · have hl0 : l = [] := List.eq_nil_of_length_eq_zero h0
    subst hl0
    have hcon := AnyF.slices_SortFunc_none Tryz.sortStop none 0 cmpV w
    change Calls Tryz.prog 72 _ _ _ at hcon
    refine hcon.mono ?_
    rintro e w' ⟨rfl, rfl⟩
    exact ⟨_, rfl, [], [], .refl _, List.Pairwise.nil, hl, ha⟩
  · have hcur : cur = (l.flatMap stopL ++ cur.toList.drop (l.length * 2)).toArray := by rw [← k4, List.take_append_drop]
    generalize hjk : cur.toList.drop (l.length * 2) = junk at hcur
    have hjl : junk.length = (cap - l.length) * 2 := by
      rw [← hjk, List.length_drop]
      simp only [Array.length_toList, k3]
      omega
    clear hjk
    rw [hcur] at hl
    refine (sort_calls_some (cap := cap) hl hb hlen).mono ?_
    rintro e w' ⟨v, rfl, l', hp, hs, hl'⟩
    have hll := hp.length_eq
    refine ⟨v, rfl, l', _, hp, hs, hl', ?_, .inr ⟨b, cap, _, by rw [hll], rfl, by rw [hll]; exact k1, k2, ?_, ?_⟩⟩
    · rw [stopsL_len]
    · simp only [List.size_toArray, List.length_append]
      rw [stopsL_len, hjl, hll]
      omega
    · rw [List.take_left' (by rw [stopsL_len])]
set_option maxHeartbeats 4000000 in
theorem start_calls {p : Lim × Value} {w : World} (h : LimIn w p) (hp : properB p.1 = true) : Calls Tryz.prog 33 #[.agg (limL p).toArray] w (fun e w' => ∃ v, e = .returned v ∧ ∃ b, v = .pointer (some ⟨b, 0, none⟩) ∧ ClockIn w' b p.1.f (clockL p.1.f p.1.st) ∧ Ext w w') := by
  obtain ⟨l, sv⟩ := p
  obtain ⟨sa, sc, hsv⟩ := lim_shape h
  simp only at hsv hp
  subst hsv
  simp only [properB, isD, Bool.and_eq_true, decide_eq_true_eq] at hp
  obtain ⟨⟨⟨⟨-, hf⟩, -⟩, hlen⟩, hst⟩ := hp
  refine calls_of Tryz.func33 rfl Tryz.ntmps33 rfl ?_
  repeat' (first | refine a_mov ?_ | refine a_asg ?_ | refine a_binN ?_ | refine a_fa ?_ | refine a_lenv ?_ | (refine o_nil (hK _ _ ?_); clear hK K) | refine wk_reg ?_ | refine wk_seq fun K hK => ?_ | (refine wk_skip (hK _ _ ?_); clear hK K) | refine wk_block ?_ | refine wk_cond_t rfl ?_ | refine wk_cond_f rfl ?_ | (refine wk_exit ?_; (repeat (refine blockK_other rfl ?_)); refine blockK_same ?_; try ((repeat ((fail_if_success (refine hK _ _ ?_)); clear hK K)); refine hK _ _ ?_; clear hK K)) | (refine a_bin ?_ ?_ <;> intro _ <;> try (exfalso; omega)) | refine a_ld hl ?_ | (refine a_st hl ?_; clear hl; intro _ hl) | fail)
  refine o_box (LH.start w (fun _ => False)) (limL (l, .slice sa l.st.length sc)) rfl rfl rfl ?_
  intro b1 w1 hb1 hl
  have h1 := h.ext hl.done
  have e1 : Ext w w1 := hl.done
  have hr : Row w1 b1 0 (limL (l, .slice sa l.st.length sc)) := hl.rowL 0 0 5 rfl
  unfold limL at hr
  simp only at hr
  clear hl
  obtain ⟨a', c', he, hp⟩ := sl_each stopL_len (by decide) h1.1
  obtain ⟨h2, -, -⟩ := Value.slice.inj he
  subst h2
  repeat' (first | refine a_row hr ?_ | refine a_mov ?_ | refine a_asg ?_ | refine a_binN ?_ | refine a_fa ?_ | refine a_lenv ?_ | (refine o_nil (hK _ _ ?_); clear hK K) | refine wk_reg ?_ | refine wk_seq fun K hK => ?_ | (refine wk_skip (hK _ _ ?_); clear hK K) | refine wk_block ?_ | refine wk_cond_t rfl ?_ | refine wk_cond_f rfl ?_ | (refine wk_exit ?_; (repeat (refine blockK_other rfl ?_)); refine blockK_same ?_; try ((repeat ((fail_if_success (refine hK _ _ ?_)); clear hK K)); refine hK _ _ ?_; clear hK K)) | (refine a_bin ?_ ?_ <;> intro _ <;> try (exfalso; omega)) | refine a_ld hl ?_ | (refine a_st hl ?_; clear hl; intro _ hl) | fail)
  refine o_build [.int .i64 l.f, .slice none 0 0] rfl (by kernel_rfl) ?_
  refine o_box (LH.start w1 (fun _ => False)) [.int .i64 l.f, .slice none 0 0] rfl rfl rfl ?_
  intro b13 w2 hb13 hl
  refine o_alloc hl [.pointer none] rfl rfl ?_
  clear hl
  intro b3 w3 hb3 hl
  refine a_st hl ?_
  clear hl
  intro w4 hl
  have hl : LH w1 (fun _ => False) w4 (startB b3 b13 l.f (.slice none 0 0) ++ []) := hl
  have hr4 := hr.ext hl.done
  repeat' (first | refine a_row hr4 ?_ | refine a_mov ?_ | refine a_asg ?_ | refine a_binN ?_ | refine a_fa ?_ | refine a_lenv ?_ | (refine o_nil (hK _ _ ?_); clear hK K) | refine wk_reg ?_ | refine wk_seq fun K hK => ?_ | (refine wk_skip (hK _ _ ?_); clear hK K) | refine wk_block ?_ | refine wk_cond_t rfl ?_ | refine wk_cond_f rfl ?_ | (refine wk_exit ?_; (repeat (refine blockK_other rfl ?_)); refine blockK_same ?_; try ((repeat ((fail_if_success (refine hK _ _ ?_)); clear hK K)); refine hK _ _ ?_; clear hK K)) | (refine a_bin ?_ ?_ <;> intro _ <;> try (exfalso; omega)) | refine a_ld hl ?_ | (refine a_st hl ?_; clear hl; intro _ hl) | fail)
  refine wk_loopH [] rfl (fun q : Nat × Value × List (Nat × Obj) => [(1, .pointer (some ⟨b1, 0, none⟩)), (3, .pointer (some ⟨b3, 0, none⟩)), (4, q.2.1), (15, .slice sa l.st.length sc), (16, .int .i64 (l.st.length : Int)), (17, .int .i64 (q.1 : Int))])
    (fun q w' => q.1 ≤ l.st.length ∧ LH w1 (fun _ => False) w' (startB b3 b13 l.f (.slice none 0 0) ++ q.2.2) ∧ Acc q.2.1 2 93 (effS l.f (l.st.take q.1)).length ((effS l.f (l.st.take q.1)).flatMap stopL) q.2.2) (fun q => l.st.length - q.1) (0, .slice none 0 0, []) ⟨rfl, rfl, rfl, rfl, rfl, rfl, trivial⟩ ⟨Nat.zero_le _, hl, Acc.nil 2 _⟩ ?_
  clear hl hr4
  rintro ⟨k, v4, acc⟩ t w5 ⟨hk, hl, ha⟩
  simp only at hk hl ha
  change WK _ _ _ _ _ _ ((⟨t, []⟩ : St).with [(1, .pointer (some ⟨b1, 0, none⟩)), (3, .pointer (some ⟨b3, 0, none⟩)), (4, v4), (15, .slice sa l.st.length sc), (16, .int .i64 (l.st.length : Int)), (17, .int .i64 (k : Int))]) w5
  by_cases hlt : k < l.st.length
  · obtain ⟨bb, oo, hpp, hrow⟩ := hp k hlt
    have hrow := hrow w5 hl.done
    have hsb := List.all_eq_true.1 hst _ (List.getElem_mem hlt)
    have hnext := effS_succ l.f l.st hlt
    have hel := effS_len l.f (l.st.take k)
    rw [List.length_take] at hel
    simp only [stopB, decide_eq_true_eq] at hsb
    generalize l.st[k] = s at *
    obtain ⟨sA, sB⟩ := s
    simp only at hsb hnext
    have hrow : Row w5 bb (oo + k * 2) [.int .i64 sA, .int .i64 sB] := hrow
    have hr5 := hr.ext hl.done
    repeat' (first | refine a_idx (c := 2) k hpp ?_ | refine a_all hrow ?_ | refine a_mov ?_ | refine a_asg ?_ | refine a_binN ?_ | refine a_fa ?_ | refine a_lenv ?_ | (refine o_nil (hK _ _ ?_); clear hK K) | refine wk_reg ?_ | refine wk_seq fun K hK => ?_ | (refine wk_skip (hK _ _ ?_); clear hK K) | refine wk_block ?_ | refine wk_cond_t rfl ?_ | refine wk_cond_f rfl ?_ | (refine wk_exit ?_; (repeat (refine blockK_other rfl ?_)); refine blockK_same ?_; try ((repeat ((fail_if_success (refine hK _ _ ?_)); clear hK K)); refine hK _ _ ?_; clear hK K)) | (refine a_bin ?_ ?_ <;> intro _ <;> try (exfalso; omega)) | refine a_ld hl ?_ | (refine a_st hl ?_; clear hl; intro _ hl) | fail)
    refine o_alloc hl [.int .i64 0, .int .i64 0] rfl rfl ?_
    clear hl
    intro b6 w6 hb6 hl
    refine o_store hl 0 [.int .i64 sA, .int .i64 sB] rfl rfl rfl rfl rfl (by simp) rfl ?_
    clear hl
    intro w7 hl
    have hl : LH w1 (fun _ => False) w7 ((b6, .cells [.int .i64 sA, .int .i64 sB].toArray 93 (0, 0)) :: (startB b3 b13 l.f (.slice none 0 0) ++ acc)) := hl
    have hr7 := hr.ext hl.done
    repeat' (first | refine a_row hr7 ?_ | refine o_max rfl rfl rfl ?_ | refine a_mov ?_ | refine a_asg ?_ | refine a_binN ?_ | refine a_fa ?_ | refine a_lenv ?_ | (refine o_nil (hK _ _ ?_); clear hK K) | refine wk_reg ?_ | refine wk_seq fun K hK => ?_ | (refine wk_skip (hK _ _ ?_); clear hK K) | refine wk_block ?_ | refine wk_cond_t rfl ?_ | refine wk_cond_f rfl ?_ | (refine wk_exit ?_; (repeat (refine blockK_other rfl ?_)); refine blockK_same ?_; try ((repeat ((fail_if_success (refine hK _ _ ?_)); clear hK K)); refine hK _ _ ?_; clear hK K)) | (refine a_bin ?_ ?_ <;> intro _ <;> try (exfalso; omega)) | refine a_ld hl ?_ | (refine a_st hl ?_; clear hl; intro _ hl) | fail)
    · have hl : LH w1 (fun _ => False) _ ((b6, .cells [.int .i64 (max sA (l.f + 1)), .int .i64 sB].toArray 93 (0, 0)) :: (startB b3 b13 l.f (.slice none 0 0) ++ acc)) := hl
      rw [if_pos (by omega)] at hnext
      refine a_all (vs := [.int .i64 (max sA (l.f + 1)), .int .i64 sB]) (hl.rowL 0 0 2 rfl) ?_
      refine o_buildSlice hl [.int .i64 (max sA (l.f + 1)), .int .i64 sB] rfl rfl (by kernel_rfl) ?_
      clear hl
      intro bt w9 hbt hl
      refine o_append (us := [.int .i64 (max sA (l.f + 1)), .int .i64 sB]) (bl' := [(bt, _), (b6, _), (b3, _), (b13, _)]) (bytes := 16) (q := 1) hl ha (hl.rowL (vs := [.int .i64 (max sA (l.f + 1)), .int .i64 sB]) 0 0 2 rfl) rfl rfl (by decide) (by omega) (by omega) rfl rfl (by kernel_rfl) rfl rfl ?_
      clear hl
      intro v' w10 acc' hl ha'
      have hl : LH w1 (fun _ => False) w10 (startB b3 b13 l.f (.slice none 0 0) ++ acc') := (hl.sub (List.sublist_cons_self _ _)).sub (List.sublist_cons_self _ _)
      repeat' (first | refine a_mov ?_ | refine a_asg ?_ | refine a_binN ?_ | refine a_fa ?_ | refine a_lenv ?_ | (refine o_nil (hK _ _ ?_); clear hK K) | refine wk_reg ?_ | refine wk_seq fun K hK => ?_ | (refine wk_skip (hK _ _ ?_); clear hK K) | refine wk_block ?_ | refine wk_cond_t rfl ?_ | refine wk_cond_f rfl ?_ | (refine wk_exit ?_; (repeat (refine blockK_other rfl ?_)); refine blockK_same ?_; try ((repeat ((fail_if_success (refine hK _ _ ?_)); clear hK K)); refine hK _ _ ?_; clear hK K)) | (refine a_bin ?_ ?_ <;> intro _ <;> try (exfalso; omega)) | refine a_ld hl ?_ | (refine a_st hl ?_; clear hl; intro _ hl) | fail)
      refine o_nil ⟨(k + 1, v', acc'), ⟨rfl, rfl, rfl, rfl, rfl, rfl, trivial⟩, rfl, ⟨by simp only; omega, hl, ?_⟩, by simp only; omega⟩
      simp only
      rw [hnext, List.flatMap_append, List.length_append]
      exact ha'
    · have hl : LH w1 (fun _ => False) _ (startB b3 b13 l.f (.slice none 0 0) ++ acc) := hl.sub (List.sublist_cons_self _ _)
      rw [if_neg (by omega), List.append_nil] at hnext
      refine o_nil ⟨(k + 1, v4, acc), ⟨rfl, rfl, rfl, rfl, rfl, rfl, trivial⟩, rfl, ⟨by simp only; omega, hl, ?_⟩, by simp only; omega⟩
      simp only
      rw [hnext]
      exact ha
  · obtain rfl : k = l.st.length := by omega
    rw [List.take_length] at ha
    have hok := effS_ok (f := l.f) hst
    have hel := effS_len l.f l.st
    repeat' (first | refine a_mov ?_ | refine a_asg ?_ | refine a_binN ?_ | refine a_fa ?_ | refine a_lenv ?_ | (refine o_nil (hK _ _ ?_); clear hK K) | refine wk_reg ?_ | refine wk_seq fun K hK => ?_ | (refine wk_skip (hK _ _ ?_); clear hK K) | refine wk_block ?_ | refine wk_cond_t rfl ?_ | refine wk_cond_f rfl ?_ | (refine wk_exit ?_; (repeat (refine blockK_other rfl ?_)); refine blockK_same ?_; try ((repeat ((fail_if_success (refine hK _ _ ?_)); clear hK K)); refine hK _ _ ?_; clear hK K)) | (refine a_bin ?_ ?_ <;> intro _ <;> try (exfalso; omega)) | refine a_ld hl ?_ | (refine a_st hl ?_; clear hl; intro _ hl) | fail)
    refine a_fn (sort_calls (bl := startB b3 b13 l.f (.slice none 0 0)) hl ha (fun x hx => by have := hok x hx; omega) (by omega)) ?_
    clear hl ha
    rintro v w8 ⟨l', acc', hperm, hsort, hl, ha⟩
    have hll : l'.length ≤ 60 := by rw [hperm.length_eq]; omega
    have hclk := clockL_of hperm hsort
    have hs : Sl w8 v4 2 (l'.flatMap stopL) := LH.acc_sl hl ha
    have hoff : Off (fun b => b ∈ (startB b3 b13 l.f (.slice none 0 0)).map (·.1)) v4 := by
      rcases ha.2 with ⟨rfl, -, -⟩ | ⟨b, cap, cur, rfl, rfl, -⟩
      · trivial
      · intro hm
        have hnd := hl.nd
        rw [List.map_append, List.nodup_append] at hnd
        exact hnd.2.2 _ hm _ List.mem_cons_self rfl
    have hl : LH w1 (fun _ => False) w8 (startB b3 b13 l.f (.slice none 0 0)) := hl.sub (List.sublist_append_left _ _)
    have hb := hl.rebase (.refl _ _)
    obtain ⟨a4, c4, rfl, hp4⟩ := sl_each stopL_len (by decide) hs
    repeat' (first | refine a_mov ?_ | refine a_asg ?_ | refine a_binN ?_ | refine a_fa ?_ | refine a_lenv ?_ | (refine o_nil (hK _ _ ?_); clear hK K) | refine wk_reg ?_ | refine wk_seq fun K hK => ?_ | (refine wk_skip (hK _ _ ?_); clear hK K) | refine wk_block ?_ | refine wk_cond_t rfl ?_ | refine wk_cond_f rfl ?_ | (refine wk_exit ?_; (repeat (refine blockK_other rfl ?_)); refine blockK_same ?_; try ((repeat ((fail_if_success (refine hK _ _ ?_)); clear hK K)); refine hK _ _ ?_; clear hK K)) | (refine a_bin ?_ ?_ <;> intro _ <;> try (exfalso; omega)) | refine a_ld hl ?_ | (refine a_st hl ?_; clear hl; intro _ hl) | fail)
    refine o_mf [] [.pointer (some ⟨b3, 0, none⟩)] rfl rfl rfl ?_
    repeat' (first | refine a_mov ?_ | refine a_asg ?_ | refine a_binN ?_ | refine a_fa ?_ | refine a_lenv ?_ | (refine o_nil (hK _ _ ?_); clear hK K) | refine wk_reg ?_ | refine wk_seq fun K hK => ?_ | (refine wk_skip (hK _ _ ?_); clear hK K) | refine wk_block ?_ | refine wk_cond_t rfl ?_ | refine wk_cond_f rfl ?_ | (refine wk_exit ?_; (repeat (refine blockK_other rfl ?_)); refine blockK_same ?_; try ((repeat ((fail_if_success (refine hK _ _ ?_)); clear hK K)); refine hK _ _ ?_; clear hK K)) | (refine a_bin ?_ ?_ <;> intro _ <;> try (exfalso; omega)) | refine a_ld hl ?_ | (refine a_st hl ?_; clear hl; intro _ hl) | fail)
    refine wk_loopH [] rfl (fun q : Nat × Value × List (Nat × Obj) => [(3, .pointer (some ⟨b3, 0, none⟩)), (7, .func (.func 74) #[] #[.pointer (some ⟨b3, 0, none⟩)]), (41, .slice a4 l'.length c4), (42, .int .i64 (l'.length : Int)), (43, .int .i64 (q.1 : Int))])
      (fun q w' => q.1 ≤ l'.length ∧ LH w8 (fun b => b ∈ (startB b3 b13 l.f (.slice none 0 0)).map (·.1)) w' (startB b3 b13 l.f q.2.1 ++ q.2.2) ∧ Acc q.2.1 2 93 ((l'.take q.1).foldl joinS []).length (((l'.take q.1).foldl joinS []).reverse.flatMap stopL) q.2.2) (fun q => l'.length - q.1) (0, .slice none 0 0, []) ⟨rfl, rfl, rfl, rfl, rfl, trivial⟩ ⟨Nat.zero_le _, hb, Acc.nil 2 _⟩ ?_
    clear hb hp4 ha
    rintro ⟨j, cv, acc⟩ t w9 ⟨hj, hlj, ha⟩
    simp only at hj hlj ha
    change WK _ _ _ _ _ _ ((⟨t, []⟩ : St).with [(3, .pointer (some ⟨b3, 0, none⟩)), (7, .func (.func 74) #[] #[.pointer (some ⟨b3, 0, none⟩)]), (41, .slice a4 l'.length c4), (42, .int .i64 (l'.length : Int)), (43, .int .i64 (j : Int))]) w9
    by_cases hlt : j < l'.length
    · obtain ⟨a5, c5, he, hp5⟩ := sl_each stopL_len (by decide) (hs.upd hlj.upd hoff)
      obtain ⟨h3, -, -⟩ := Value.slice.inj he
      subst h3
      obtain ⟨bb, oo, hpp, hrow⟩ := hp5 j hlt
      have hrow := hrow w9 (.refl _ _)
      have hnext : (l'.take (j + 1)).foldl joinS [] = joinS ((l'.take j).foldl joinS []) l'[j] := by
        rw [List.take_succ_eq_append_getElem hlt, List.foldl_append]
        rfl
      have hfl := fold_len (l'.take j) []
      rw [List.length_take, List.length_nil] at hfl
      generalize l'[j] = s at *
      generalize (l'.take j).foldl joinS [] = rs at *
      repeat' (first | refine a_idx (c := 2) j hpp ?_ | refine a_all hrow ?_ | refine a_mov ?_ | refine a_asg ?_ | refine a_binN ?_ | refine a_fa ?_ | refine a_lenv ?_ | (refine o_nil (hK _ _ ?_); clear hK K) | refine wk_reg ?_ | refine wk_seq fun K hK => ?_ | (refine wk_skip (hK _ _ ?_); clear hK K) | refine wk_block ?_ | refine wk_cond_t rfl ?_ | refine wk_cond_f rfl ?_ | (refine wk_exit ?_; (repeat (refine blockK_other rfl ?_)); refine blockK_same ?_; try ((repeat ((fail_if_success (refine hK _ _ ?_)); clear hK K)); refine hK _ _ ?_; clear hK K)) | (refine a_bin ?_ ?_ <;> intro _ <;> try (exfalso; omega)) | refine a_ld hl ?_ | (refine a_st hl ?_; clear hl; intro _ hl) | fail)
      refine o_alloc hlj [.int .i64 0, .int .i64 0] rfl rfl ?_
      clear hlj hrow hp5
      intro b9 w10 hb9 hlj
      refine o_store hlj 0 (stopL s) rfl rfl rfl rfl rfl (by rw [stopL_len]; simp) rfl ?_
      clear hlj
      intro w11 hlj
      have hlj : LH w8 _ w11 ((b9, .cells (stopL s).toArray 93 (0, 0)) :: (startB b3 b13 l.f cv ++ acc)) := hlj
      have hr9 : Row w11 b9 0 (stopL s) := hlj.rowL 0 0 2 rfl
      have hlj := hlj.sub (List.sublist_cons_self _ _)
      refine o_nil (hK _ _ ?_)
      clear hK K
      repeat' (first | refine a_all hr9 ?_ | refine a_mov ?_ | refine a_asg ?_ | refine a_binN ?_ | refine a_fa ?_ | refine a_lenv ?_ | (refine o_nil (hK _ _ ?_); clear hK K) | refine wk_reg ?_ | refine wk_seq fun K hK => ?_ | (refine wk_skip (hK _ _ ?_); clear hK K) | refine wk_block ?_ | refine wk_cond_t rfl ?_ | refine wk_cond_f rfl ?_ | (refine wk_exit ?_; (repeat (refine blockK_other rfl ?_)); refine blockK_same ?_; try ((repeat ((fail_if_success (refine hK _ _ ?_)); clear hK K)); refine hK _ _ ?_; clear hK K)) | (refine a_bin ?_ ?_ <;> intro _ <;> try (exfalso; omega)) | refine a_ld hl ?_ | (refine a_st hl ?_; clear hl; intro _ hl) | fail)
      refine a_fc #[.agg (stopL s).toArray] #[.pointer (some ⟨b3, 0, none⟩)] #[.agg (stopL s).toArray, .pointer (some ⟨b3, 0, none⟩)] rfl (join_calls s hlj ha (by omega)) ?_
      clear hlj ha
      rintro v w12 ⟨cv', acc2, hlj, ha⟩
      repeat' (first | refine a_mov ?_ | refine a_asg ?_ | refine a_binN ?_ | refine a_fa ?_ | refine a_lenv ?_ | (refine o_nil (hK _ _ ?_); clear hK K) | refine wk_reg ?_ | refine wk_seq fun K hK => ?_ | (refine wk_skip (hK _ _ ?_); clear hK K) | refine wk_block ?_ | refine wk_cond_t rfl ?_ | refine wk_cond_f rfl ?_ | (refine wk_exit ?_; (repeat (refine blockK_other rfl ?_)); refine blockK_same ?_; try ((repeat ((fail_if_success (refine hK _ _ ?_)); clear hK K)); refine hK _ _ ?_; clear hK K)) | (refine a_bin ?_ ?_ <;> intro _ <;> try (exfalso; omega)) | refine a_ld hl ?_ | (refine a_st hl ?_; clear hl; intro _ hl) | fail)
      exact o_nil ⟨(j + 1, cv', acc2), ⟨rfl, rfl, rfl, rfl, rfl, trivial⟩, rfl, ⟨by simp only; omega, hlj, by simp only; rw [hnext]; exact ha⟩, by simp only; omega⟩
    · obtain rfl : j = l'.length := by omega
      rw [List.take_length] at ha
      have hr3 : Row w9 b3 0 [.pointer (some ⟨b13, 0, none⟩)] := hlj.rowL (vs := [.pointer (some ⟨b13, 0, none⟩)]) 0 0 1 rfl
      have hr13 : Row w9 b13 0 [.int .i64 l.f, cv] := hlj.rowL (vs := [.int .i64 l.f, cv]) 1 0 2 rfl
      have hsl : Sl w9 cv 2 ((l'.foldl joinS []).reverse.flatMap stopL) := LH.acc_sl hlj ha
      rw [hclk] at hsl
      have hback := (hl.back (.refl _ _) hlj).done
      repeat' (first | refine a_row hr3 ?_ | refine a_mov ?_ | refine a_asg ?_ | refine a_binN ?_ | refine a_fa ?_ | refine a_lenv ?_ | (refine o_nil (hK _ _ ?_); clear hK K) | refine wk_reg ?_ | refine wk_seq fun K hK => ?_ | (refine wk_skip (hK _ _ ?_); clear hK K) | refine wk_block ?_ | refine wk_cond_t rfl ?_ | refine wk_cond_f rfl ?_ | (refine wk_exit ?_; (repeat (refine blockK_other rfl ?_)); refine blockK_same ?_; try ((repeat ((fail_if_success (refine hK _ _ ?_)); clear hK K)); refine hK _ _ ?_; clear hK K)) | (refine a_bin ?_ ?_ <;> intro _ <;> try (exfalso; omega)) | refine a_ld hl ?_ | (refine a_st hl ?_; clear hl; intro _ hl) | fail)
      refine wk_ret (retQ_tmp1 Tryz.results33 (by decide) rfl (by conv => lhs; whnf) ?_)
      exact ⟨b13, rfl, ⟨cv, hr13, hsl⟩, e1.trans hback⟩
end Go.Proofs
