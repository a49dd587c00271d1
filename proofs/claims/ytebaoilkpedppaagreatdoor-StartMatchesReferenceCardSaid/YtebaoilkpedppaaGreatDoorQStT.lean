/-
  Conditions of commencement: the canonical text.
-/
import Derived.Test.YtebaoilkpedppaaGreatDoorQStS
import Derived.Test.YtebaoilkpedppaaGreatDoorQSC
set_option linter.unusedVariables false
set_option linter.unusedSimpArgs false
set_option linter.unnecessarySimpa false
set_option maxRecDepth 10000
namespace Go.Proofs
open Go Go.Pd Go.Sta
open Go.Lexs (isWord)
attribute [local irreducible] OpsL W RetQ OpsQ OpsC
def TextC (s : Sn) : Prop := ∀ (inner : Bool) (w : World) (kv : Value), KA w s.kids kv → okB s = true → cnt s ≤ 1000 → Tabs w → Calls Tryz.prog 25 #[.agg (snL s kv).toArray, .bool inner] w (fun e w' => ∃ v, e = .returned v ∧ v = str (wr inner s) ∧ Ext w w')
theorem word_of {p : Tx × Int} (hp : p ∈ wordL) : p.1 = wordS p.2 ∧ 1 ≤ p.2 ∧ p.2 ≤ 7 := by
  have : ∀ p ∈ wordL, p.1 = wordS p.2 ∧ 1 ≤ p.2 ∧ p.2 ≤ 7 := by decide
  exact this p hp
set_option maxHeartbeats 4000000 in
theorem text_calls : ∀ s : Sn, TextC s := Sn.ind fun s ih => by
  intro inner w kv hk hok hcnt ht
  obtain ⟨ka, kc, rfl, hcap⟩ := hk.shape
  have hnode := node_cases hok
  refine calls_of Tryz.func25 rfl Tryz.ntmps25 rfl ?_
  refine wk_seq fun K hK => ?_
  refine wk_reg ?_
  refine o_box (LH.start w (fun _ => False)) (snL s (.slice ka s.kids.length kc)) rfl rfl rfl ?_
  intro b2 w1 hb2 hl
  refine a_asg ?_
  refine o_nil (hK _ _ ?_)
  clear hK K
  refine wk_seq fun K hK => ?_
  refine wk_seq fun K2 hK2 => ?_
  refine wk_reg ?_
  refine a_fn (words_calls w1) ?_
  rintro _ w2 ⟨bm, es, c, rfl, hlm, hm⟩
  replace hl := hl.join hlm
  clear hlm
  refine o_range hl (hl.get 0 rfl) rfl rfl rfl ?_
  clear hl
  intro q w3 hq hl hbm
  refine o_nil (hK2 _ _ ?_)
  clear hK2 K2 hq hbm
  replace hl := hl.perm (l' := [(b2, .cells (snL s (.slice ka s.kids.length kc)).toArray 24 (0, 0)), (bm, .map es c), (q, .mapIter (some bm) c #[] c)]) (List.reverse_perm _).symm
  refine wk_block ?_
  refine wk_loopH [] rfl (fun seen : Array Nat => [(1, .bool inner), (2, .pointer (some ⟨b2, 0, none⟩)), (12, .pointer (some ⟨q, 0, none⟩))])
    (fun seen w' => (∀ e ∈ es.toList, seen.contains e.born = true → ∀ p ∈ wordL, e.key = str p.1 → p.2 ≠ s.op) ∧ LH w (fun _ => False) w' [(b2, .cells (snL s (.slice ka s.kids.length kc)).toArray 24 (0, 0)), (bm, .map es c), (q, .mapIter (some bm) c seen c)]) (fun seen => leftN es seen) #[] ⟨rfl, rfl, rfl, trivial⟩ ⟨(fun e he hs => by simp at hs), hl⟩ ?_
  clear hl
  rintro seen t w4 ⟨hseen, hl⟩
  refine wk_seq fun K1 hK1 => ?_
  refine wk_reg ?_
  refine o_next hl (i := 2) rfl (hl.get 1 rfl) hm.old (Nat.le_refl _) rfl rfl ?_ ?_
  · intro hall
    refine a_ext ?_
    refine o_nil (hK1 _ _ ?_)
    clear hK1 K1
    refine wk_seq fun K1 hK1 => ?_
    refine wk_cond_f rfl ?_
    refine wk_exit ?_
    refine blockK_same ?_
    refine hK _ _ ?_
    clear hK1 K1
    clear hK K
    have hop : s.op = 8 ∨ s.op = 9 := by
      have hno : ∀ p ∈ wordL, p.2 ≠ s.op := fun p hp => by
        obtain ⟨e, he, h1, h2⟩ := hm.mem (q := (p.1, .int .i64 p.2)) (List.mem_map_of_mem (f := fun p : Tx × Int => (p.1, Value.int .i64 p.2)) hp)
        exact hseen e he (hall e he) p hp h1
      have hno7 : ∀ o : Int, 1 ≤ o → o ≤ 7 → o ≠ s.op := fun o h1 h2 => by
        have : ∃ p ∈ wordL, p.2 = o := by
          have : o = 1 ∨ o = 2 ∨ o = 3 ∨ o = 4 ∨ o = 5 ∨ o = 6 ∨ o = 7 := by omega
          rcases this with rfl | rfl | rfl | rfl | rfl | rfl | rfl <;> decide
        obtain ⟨p, hp, rfl⟩ := this
        exact hno p hp
      rcases hnode with ⟨h1, -⟩ | ⟨h1, h2, h3, -⟩ | ⟨h1, h2, -⟩ | ⟨h1, -⟩
      · exact absurd rfl (hno7 _ (by omega) (by omega))
      · exact absurd rfl (hno7 _ (by omega) (by omega))
      · exact absurd rfl (hno7 _ (by omega) (by omega))
      · exact h1
    clear hnode hall hseen hm
    have hx4 := hl.done
    have hr4 : Row w4 b2 0 (snL s (.slice ka s.kids.length kc)) := hl.rowL (vs := snL s (.slice ka s.kids.length kc)) 0 0 4 rfl
    clear hl
    have hk4 := hk.ext hx4
    have hokk : ∀ k ∈ s.kids, okB k = true := by
      rw [okB_eq, Bool.and_eq_true] at hok
      exact okL_mem hok.2
    have hcl : cntL s.kids ≤ 1000 := by have := cnt_eq s; omega
    have hkl := len_le_cntL s.kids
    refine wk_seq fun K hK => ?_
    refine wk_reg ?_
    refine a_asg ?_
    refine o_nil (hK _ _ ?_)
    clear hK K
    refine wk_seq fun K hK => ?_
    refine wk_seq fun K2 hK2 => ?_
    refine wk_reg ?_
    refine a_fa ?_
    refine a_row hr4 ?_
    repeat' (first | refine a_mov ?_ | refine a_asg ?_ | refine a_binN ?_ | refine a_notd ?_ | refine a_notb ?_ | refine a_nilc ?_ | refine a_fa ?_ | refine a_ext ?_ | refine a_lenv ?_ | refine a_lens ?_ | refine a_pick_t ?_ | refine a_pick_f ?_ | refine a_not ?_ | refine a_nilf ?_ | (refine a_bin ?_ ?_ <;> intro _ <;> try (exfalso; omega)) | refine a_ld hl ?_ | (refine a_st hl ?_; clear hl; intro _ hl) | refine a_ix (fun _ => ?_) | fail)
    refine o_nil (hK2 _ _ ?_)
    clear hK2 K2
    refine wk_block ?_
    refine wk_loopH [] rfl (fun q : Nat × Value × List (Nat × Obj) => [(1, .bool inner), (2, .pointer (some ⟨b2, 0, none⟩)), (7, q.2.1), (39, .slice ka s.kids.length kc), (40, .int .i64 (s.kids.length : Int)), (41, .int .i64 (q.1 : Int))])
      (fun q w' => q.1 ≤ s.kids.length ∧ LH w4 (fun _ => False) w' q.2.2 ∧ Acc q.2.1 1 9 q.1 ((s.kids.take q.1).map fun k => str (wr true k)) q.2.2) (fun q => s.kids.length - q.1) (0, .slice none 0 0, []) ⟨rfl, rfl, rfl, rfl, rfl, rfl, trivial⟩ ⟨Nat.zero_le _, LH.start w4 _, Acc.nil _ _⟩ ?_
    rintro ⟨i, v, acc⟩ t w5 ⟨hi, hl, ha⟩
    simp only at hi hl ha
    refine wk_seq fun K1 hK1 => ?_
    refine wk_reg ?_
    by_cases hi1 : i < s.kids.length
    · obtain ⟨b, o, kv1, hpp, hr0, hk1⟩ := hk4.at hi1
      have hr := hr0.ext hl.done
      have hmem := List.getElem_mem hi1
      repeat' (first | refine a_mov ?_ | refine a_asg ?_ | refine a_binN ?_ | refine a_notd ?_ | refine a_notb ?_ | refine a_nilc ?_ | refine a_fa ?_ | refine a_ext ?_ | refine a_lenv ?_ | refine a_lens ?_ | refine a_pick_t ?_ | refine a_pick_f ?_ | refine a_not ?_ | refine a_nilf ?_ | (refine a_bin ?_ ?_ <;> intro _ <;> try (exfalso; omega)) | refine a_ld hl ?_ | (refine a_st hl ?_; clear hl; intro _ hl) | refine a_ix (fun _ => ?_) | fail)
      refine o_nil (hK1 _ _ ?_)
      clear hK1 K1
      refine wk_seq fun K1 hK1 => ?_
      refine wk_cond_t rfl ?_
      refine wk_skip (hK1 _ _ ?_)
      clear hK1 K1
      refine wk_seq fun K1 hK1 => ?_
      refine wk_block ?_
      refine wk_seq fun K3 hK3 => ?_
      refine wk_reg ?_
      refine a_idx (c := 4) i hpp ?_
      refine a_all hr ?_
      have hone := snL_one hk1
      refine o_alloc hl [.int .i64 0, .string "".toByteArray, .int .i64 0, .slice none 0 0] (by kernel_rfl) rfl ?_
      clear hl
      intro b9 w6 hb9 hl
      refine o_putN (us := snL s.kids[i] kv1) hl rfl rfl rfl hone rfl (.here rfl rfl) ?_
      clear hl
      intro w7 hl
      refine o_nil (hK3 _ _ ?_)
      clear hK3 K3
      refine wk_reg ?_
      refine a_mov ?_
      refine a_all (hl.rowL (vs := snL s.kids[i] kv1) 0 0 4 rfl) ?_
      have hck := cnt_le_of_mem hmem
      refine a_fn (ih s.kids[i] hmem true w7 kv1 (KA.ext hk1 hl.done) (hokk _ hmem) (by omega) ((ht.ext hx4).ext hl.done)) ?_
      rintro _ w8 ⟨rfl, hx8⟩
      replace hl := hl.ext hx8
      refine o_buildSlice hl [str (wr true s.kids[i])] rfl rfl (by kernel_rfl) ?_
      clear hl
      intro bq w9 hbq hl
      refine o_append (bl' := [(bq, _), (b9, _)]) (bytes := 16) (q := 1) hl ha (hl.rowL (vs := [str (wr true s.kids[i])]) 0 0 1 rfl) rfl (by simp [oneCell_str]) (by decide) (by omega) (by omega) rfl rfl (by kernel_rfl) rfl rfl ?_
      clear hl
      intro v' w10 acc' hl ha'
      refine a_asg ?_
      refine o_nil (hK1 _ _ ?_)
      clear hK1 K1
      refine wk_reg ?_
      repeat' (first | refine a_mov ?_ | refine a_asg ?_ | refine a_binN ?_ | refine a_notd ?_ | refine a_notb ?_ | refine a_nilc ?_ | refine a_fa ?_ | refine a_ext ?_ | refine a_lenv ?_ | refine a_lens ?_ | refine a_pick_t ?_ | refine a_pick_f ?_ | refine a_not ?_ | refine a_nilf ?_ | (refine a_bin ?_ ?_ <;> intro _ <;> try (exfalso; omega)) | refine a_ld hl ?_ | (refine a_st hl ?_; clear hl; intro _ hl) | refine a_ix (fun _ => ?_) | fail)
      refine o_nil ⟨(i + 1, v', acc'), ⟨rfl, rfl, rfl, rfl, rfl, rfl, trivial⟩, rfl, ⟨hi1, hl.sub ((List.sublist_cons_self _ _).trans (List.sublist_cons_self _ _)), ?_⟩, by simp only; omega⟩
      simp only
      rw [List.take_succ_eq_append_getElem hi1, List.map_append]
      exact ha'
    · obtain rfl : i = s.kids.length := by omega
      rw [List.take_length] at ha
      repeat' (first | refine a_mov ?_ | refine a_asg ?_ | refine a_binN ?_ | refine a_notd ?_ | refine a_notb ?_ | refine a_nilc ?_ | refine a_fa ?_ | refine a_ext ?_ | refine a_lenv ?_ | refine a_lens ?_ | refine a_pick_t ?_ | refine a_pick_f ?_ | refine a_not ?_ | refine a_nilf ?_ | (refine a_bin ?_ ?_ <;> intro _ <;> try (exfalso; omega)) | refine a_ld hl ?_ | (refine a_st hl ?_; clear hl; intro _ hl) | refine a_ix (fun _ => ?_) | fail)
      refine o_nil (hK1 _ _ ?_)
      clear hK1 K1
      refine wk_seq fun K1 hK1 => ?_
      refine wk_cond_f rfl ?_
      refine wk_exit ?_
      refine blockK_same ?_
      refine hK _ _ ?_
      clear hK1 K1
      clear hK K
      have hjs : Sl w5 v 1 ((s.kids.map (wr true)).map str) := by
        rw [List.map_map]
        exact LH.acc_sl (l := []) hl ha
      obtain ⟨va, vc, rfl⟩ := ha.shape
      have hx5 := hl.done
      clear hl ha
      have hwl := wrL_len s.op s.kids fun k hk => wr_len k (hokk k hk)
      rw [wrL_join] at hwl
      have hwr := wr_eq inner s
      rw [if_neg (by omega), if_neg (by omega), if_neg (by omega), wrL_join] at hwr
      refine wk_seq fun K hK => ?_
      refine wk_reg ?_
      refine a_mov ?_
      refine o_makeMap (LH.start w5 (fun _ => False)) rfl ?_
      intro bs w6 hbs hl
      refine o_insertB (a := (8 : Int)) (v := str (32 :: kAnd ++ [32])) hl 0 rfl (MapB.nil 0) (by decide) (key_i64 rfl) rfl rfl rfl rfl (by simp only [kAnd, str_eq]; rfl) ?_
      clear hl
      intro w7 es1 m1 hl
      refine o_insertB (a := (9 : Int)) (v := str (32 :: kOr ++ [32])) hl 0 rfl m1 (by decide) (key_i64 rfl) rfl rfl rfl rfl (by simp only [kOr, str_eq]; rfl) ?_
      clear hl
      intro w8 es2 m2 hl
      have hx8 := hl.done
      refine a_mov ?_
      refine a_fa ?_
      refine a_row ((hr4.ext hx5).ext hx8) ?_
      refine o_lookup (z := .string ⟨#[]⟩) s.op m2.r (hl.get 0 rfl) (key_i64 rfl) rfl rfl (by kernel_rfl) rfl rfl ?_
      have hget : (if false = true then Value.tuple #[(get ([] ++ [((8 : Int), str (32 :: kAnd ++ [32]))] ++ [((9 : Int), str (32 :: kOr ++ [32]))]) s.op).getD (.string ⟨#[]⟩), .bool (get ([] ++ [((8 : Int), str (32 :: kAnd ++ [32]))] ++ [((9 : Int), str (32 :: kOr ++ [32]))]) s.op).isSome] else (get ([] ++ [((8 : Int), str (32 :: kAnd ++ [32]))] ++ [((9 : Int), str (32 :: kOr ++ [32]))]) s.op).getD (.string ⟨#[]⟩)) = str (32 :: sepS s.op ++ [32]) := by
        rcases hop with h | h <;> rw [h] <;> rfl
      rw [hget]
      clear hget
      refine a_fn (join_calls (xs := s.kids.map (wr true)) (sep := 32 :: sepS s.op ++ [32]) (hjs.ext hx8) (by rw [List.length_map]; omega) (by omega)) ?_
      rintro _ w9 ⟨rfl, hx9⟩
      have hxx : Ext w w9 := (hx4.trans hx5).trans (hx8.trans hx9)
      generalize Lib.join (s.kids.map (wr true)) (32 :: sepS s.op ++ [32]) = J at hwl hwr
      refine a_asg ?_
      refine o_nil (hK _ _ ?_)
      clear hK K
      refine wk_seq fun K hK => ?_
      refine wk_seq fun K2 hK2 => ?_
      refine wk_reg ?_
      refine a_mov ?_
      refine o_nil (hK2 _ _ ?_)
      clear hK2 K2
      cases inner
      · refine wk_cond_f rfl ?_
        refine wk_skip (hK _ _ ?_)
        clear hK K
        refine wk_seq fun K hK => ?_
        refine wk_reg ?_
        refine a_mov ?_
        refine a_asg ?_
        refine o_nil (hK _ _ ?_)
        clear hK K
        refine wk_ret (retQ_tmp1 Tryz.results25 (by decide) rfl (by conv => lhs; whnf) ?_)
        exact ⟨by rw [hwr]; rfl, hxx⟩
      · refine wk_cond_t rfl ?_
        refine wk_reg ?_
        refine a_mov ?_
        refine o_cat (a := [40]) (b := J) (by simp; omega) rfl (by simp only [str_eq]; rfl) rfl ?_
        refine o_cat (a := [40] ++ J) (b := [41]) (by simp; omega) rfl rfl (by simp only [str_eq]; rfl) ?_
        refine a_asg ?_
        refine o_nil (hK _ _ ?_)
        clear hK K
        refine wk_seq fun K hK => ?_
        refine wk_reg ?_
        refine a_mov ?_
        refine a_asg ?_
        refine o_nil (hK _ _ ?_)
        clear hK K
        refine wk_ret (retQ_tmp1 Tryz.results25 (by decide) rfl (by conv => lhs; whnf) ?_)
        exact ⟨by rw [hwr]; rfl, hxx⟩
  · intro e w5 he hns hl5 hbm5
    replace hl : LH w (fun _ => False) w5 [(b2, .cells (snL s (.slice ka s.kids.length kc)).toArray 24 (0, 0)), (bm, .map es c), (q, .mapIter (some bm) c (seen.push e.born) c)] := hl5
    clear hl5 hbm5
    have hlt := leftN_push he hns
    obtain ⟨p, hp, hkey, hval⟩ : ∃ p ∈ wordL, e.key = str p.1 ∧ e.val = .int .i64 p.2 := by
      obtain ⟨r, hr, h1, h2⟩ := hm.entry he
      obtain ⟨p, hp, rfl⟩ := List.mem_map.1 hr
      exact ⟨p, hp, h1, h2⟩
    refine a_ext ?_
    refine o_nil (hK1 _ _ ?_)
    clear hK1 K1
    refine wk_seq fun K1 hK1 => ?_
    refine wk_cond_t rfl ?_
    refine wk_skip (hK1 _ _ ?_)
    clear hK1 K1
    refine wk_block ?_
    refine wk_seq fun K1 hK1 => ?_
    refine wk_reg ?_
    refine o_entry (hl.get 2 rfl) (hl.get 1 rfl) he hm.bornNd rfl rfl ?_
    rw [hkey, hval]
    refine a_ext ?_
    refine a_ext ?_
    refine a_asg ?_
    refine a_asg ?_
    refine o_nil (hK1 _ _ ?_)
    clear hK1 K1
    refine wk_block ?_
    refine wk_seq fun K1 hK1 => ?_
    refine wk_reg ?_
    have hr2 : Row w5 b2 0 (snL s (.slice ka s.kids.length kc)) := hl.rowL (vs := snL s (.slice ka s.kids.length kc)) 0 0 4 rfl
    refine a_mov ?_
    refine a_fa ?_
    refine a_row hr2 ?_
    obtain ⟨hw, hp1, hp7⟩ := word_of hp
    have hwl := (wordS_ok p.2).2.2
    have hwa := (wordS_ok p.2).1
    have hwn : wordS p.2 ≠ [] := fun h => by
      have := (wordS_ok p.2).2.1
      rw [h] at this
      cases this
    by_cases hsame : p.2 = s.op
    · repeat' (first | refine a_mov ?_ | refine a_asg ?_ | refine a_binN ?_ | refine a_notd ?_ | refine a_notb ?_ | refine a_nilc ?_ | refine a_fa ?_ | refine a_ext ?_ | refine a_lenv ?_ | refine a_lens ?_ | refine a_pick_t ?_ | refine a_pick_f ?_ | refine a_not ?_ | refine a_nilf ?_ | (refine a_bin ?_ ?_ <;> intro _ <;> try (exfalso; omega)) | refine a_ld hl ?_ | (refine a_st hl ?_; clear hl; intro _ hl) | refine a_ix (fun _ => ?_) | fail)
      refine o_nil (hK1 _ _ ?_)
      clear hK1 K1
      refine wk_cond_f rfl ?_
      refine wk_seq fun K1 hK1 => ?_
      refine wk_reg ?_
      have hwr := wr_eq inner s
      rcases hnode with ⟨h1, h2, h3, h4, h5⟩ | ⟨h1, h2, h3, h4, h5, h6⟩ | ⟨h1, h2, h3, h4, h5⟩ | ⟨h1, -⟩
      · repeat' (first | refine a_mov ?_ | refine a_asg ?_ | refine a_binN ?_ | refine a_notd ?_ | refine a_notb ?_ | refine a_nilc ?_ | refine a_fa ?_ | refine a_ext ?_ | refine a_lenv ?_ | refine a_lens ?_ | refine a_pick_t ?_ | refine a_pick_f ?_ | refine a_not ?_ | refine a_nilf ?_ | (refine a_bin ?_ ?_ <;> intro _ <;> try (exfalso; omega)) | refine a_ld hl ?_ | (refine a_st hl ?_; clear hl; intro _ hl) | refine a_ix (fun _ => ?_) | fail)
        refine o_nil (hK1 _ _ ?_)
        clear hK1 K1
        refine wk_cond_t rfl ?_
        refine wk_seq fun K1 hK1 => ?_
        refine wk_reg ?_
        refine a_mov ?_
        refine o_cat (a := p.1) (b := [32]) (by rw [hw]; simp; omega) rfl rfl (by simp only [str_eq]; rfl) ?_
        refine a_fa ?_
        refine a_row hr2 ?_
        refine a_fn (itoa_calls h4 h5 (ht.ext hl.done)) ?_
        rintro _ w6 ⟨rfl, hx6⟩
        have hdl := decS_len 6 s.day.toNat (by omega)
        refine o_cat (a := p.1 ++ [32]) (b := decS s.day.toNat) (by rw [hw]; simp; omega) rfl rfl rfl ?_
        refine a_asg ?_
        refine o_nil (hK1 _ _ ?_)
        clear hK1 K1
        refine wk_ret (retQ_tmp1 Tryz.results25 (by decide) rfl (by conv => lhs; whnf) ?_)
        refine ⟨?_, hl.done.trans hx6⟩
        rw [hwr, if_pos h1, hw, hsame, h1]
        simp
      · repeat' (first | refine a_mov ?_ | refine a_asg ?_ | refine a_binN ?_ | refine a_notd ?_ | refine a_notb ?_ | refine a_nilc ?_ | refine a_fa ?_ | refine a_ext ?_ | refine a_lenv ?_ | refine a_lens ?_ | refine a_pick_t ?_ | refine a_pick_f ?_ | refine a_not ?_ | refine a_nilf ?_ | (refine a_bin ?_ ?_ <;> intro _ <;> try (exfalso; omega)) | refine a_ld hl ?_ | (refine a_st hl ?_; clear hl; intro _ hl) | refine a_ix (fun _ => ?_) | fail)
        refine o_nil (hK1 _ _ ?_)
        clear hK1 K1
        refine wk_cond_f rfl ?_
        refine wk_seq fun K1 hK1 => ?_
        refine wk_reg ?_
        refine a_mov ?_
        refine o_cat (a := p.1) (b := [32]) (by rw [hw]; simp; omega) rfl rfl (by simp only [str_eq]; rfl) ?_
        refine a_fa ?_
        refine a_row hr2 ?_
        refine o_cat (a := p.1 ++ [32]) (b := s.name) (by rw [hw, h4]; simp; omega) rfl rfl rfl ?_
        refine a_fn (trim_calls (s := p.1 ++ [32] ++ s.name) (by rw [hw, h4]; simp; omega) (fun c hc => ?_) (ht.ext hl.done)) ?_
        · rw [hw, h4, List.append_nil] at hc
          rcases List.mem_append.1 hc with hc | hc
          · exact ascii_word (List.all_eq_true.1 hwa c hc)
          · rw [List.mem_singleton.1 hc]; decide
        rintro _ w6 ⟨rfl, hx6⟩
        refine a_asg ?_
        refine o_nil (hK1 _ _ ?_)
        clear hK1 K1
        refine wk_ret (retQ_tmp1 Tryz.results25 (by decide) rfl (by conv => lhs; whnf) ?_)
        refine ⟨?_, hl.done.trans hx6⟩
        rw [hwr, if_neg h1, if_pos h3, h4, List.append_nil, hw, trim_one hwa hwn, hsame]
      · obtain ⟨n1, n2, n3⟩ := nameB_ok h3
        have hnn : s.name ≠ [] := fun h => by rw [h] at n2; cases n2
        repeat' (first | refine a_mov ?_ | refine a_asg ?_ | refine a_binN ?_ | refine a_notd ?_ | refine a_notb ?_ | refine a_nilc ?_ | refine a_fa ?_ | refine a_ext ?_ | refine a_lenv ?_ | refine a_lens ?_ | refine a_pick_t ?_ | refine a_pick_f ?_ | refine a_not ?_ | refine a_nilf ?_ | (refine a_bin ?_ ?_ <;> intro _ <;> try (exfalso; omega)) | refine a_ld hl ?_ | (refine a_st hl ?_; clear hl; intro _ hl) | refine a_ix (fun _ => ?_) | fail)
        refine o_nil (hK1 _ _ ?_)
        clear hK1 K1
        refine wk_cond_f rfl ?_
        refine wk_seq fun K1 hK1 => ?_
        refine wk_reg ?_
        refine a_mov ?_
        refine o_cat (a := p.1) (b := [32]) (by rw [hw]; simp; omega) rfl rfl (by simp only [str_eq]; rfl) ?_
        refine a_fa ?_
        refine a_row hr2 ?_
        refine o_cat (a := p.1 ++ [32]) (b := s.name) (by rw [hw]; simp; omega) rfl rfl rfl ?_
        refine a_fn (trim_calls (s := p.1 ++ [32] ++ s.name) (by rw [hw]; simp; omega) (fun c hc => ?_) (ht.ext hl.done)) ?_
        · rw [hw] at hc
          rcases List.mem_append.1 hc with hc | hc
          · rcases List.mem_append.1 hc with hc | hc
            · exact ascii_word (List.all_eq_true.1 hwa c hc)
            · rw [List.mem_singleton.1 hc]; decide
          · exact ascii_word (List.all_eq_true.1 n1 c hc)
        rintro _ w6 ⟨rfl, hx6⟩
        refine a_asg ?_
        refine o_nil (hK1 _ _ ?_)
        clear hK1 K1
        refine wk_ret (retQ_tmp1 Tryz.results25 (by decide) rfl (by conv => lhs; whnf) ?_)
        refine ⟨?_, hl.done.trans hx6⟩
        have e : wordS p.2 ++ [32] ++ s.name = wordS p.2 ++ 32 :: s.name := by simp
        rw [hwr, if_neg (by omega), if_neg (by omega), if_pos h2, hw, e, trim_two hwa hwn n1 hnn, hsame]
      · omega
    · repeat' (first | refine a_mov ?_ | refine a_asg ?_ | refine a_binN ?_ | refine a_notd ?_ | refine a_notb ?_ | refine a_nilc ?_ | refine a_fa ?_ | refine a_ext ?_ | refine a_lenv ?_ | refine a_lens ?_ | refine a_pick_t ?_ | refine a_pick_f ?_ | refine a_not ?_ | refine a_nilf ?_ | (refine a_bin ?_ ?_ <;> intro _ <;> try (exfalso; omega)) | refine a_ld hl ?_ | (refine a_st hl ?_; clear hl; intro _ hl) | refine a_ix (fun _ => ?_) | fail)
      refine o_nil (hK1 _ _ ?_)
      clear hK1 K1
      refine wk_cond_t rfl ?_
      refine wk_skip ?_
      refine ⟨seen.push e.born, ⟨rfl, rfl, rfl, trivial⟩, rfl, ⟨fun e2 he2 hs2 p2 hp2 hk2 => ?_, hl⟩, hlt⟩
      rw [Array.contains_push, Bool.or_eq_true, beq_iff_eq] at hs2
      have hcase : seen.contains e2.born = true ∨ e2.born = e.born := by
        rcases hs2 with h | h
        · first | exact .inl h | exact .inr h
        · first | exact .inr h | exact .inr h.symm | exact .inl h
      rcases hcase with h | h
      · exact hseen e2 he2 h p2 hp2 hk2
      · have e12 : e2 = e := by
          obtain ⟨i1, h1, rfl⟩ := List.mem_iff_getElem.1 he2
          obtain ⟨i2, h2, rfl⟩ := List.mem_iff_getElem.1 he
          have := hm.nd i1 i2 _ _ (by rw [← Array.getElem?_toList, List.getElem?_eq_getElem h1]) (by rw [← Array.getElem?_toList, List.getElem?_eq_getElem h2]) h
          subst this
          rfl
        rw [e12, hkey] at hk2
        have hpp : p.1 = p2.1 := str_inj hk2
        have hnd : ∀ p ∈ wordL, ∀ q ∈ wordL, p.1 = q.1 → p = q := by decide
        rw [← hnd p hp p2 hp2 hpp]
        exact hsame
end Go.Proofs
