/-
  Conditions of commencement: one condition is read.
-/
import Derived.Test.YtebaoilkpedppaaGreatDoorQSK
import Derived.Test.YtebaoilkpedppaaGreatDoorQO
set_option linter.unusedVariables false
set_option linter.unusedSimpArgs false
set_option linter.unnecessarySimpa false
set_option maxRecDepth 10000
namespace Go.Sta
open Go.Lexs (Tok)
theorem pOne_paren {en : Int} {f : Nat} {ts : List Tok} (h : isT kOpen ts = true) : pOne en (f + 1) ts = match pStart en f ts.tail with | .bad e a => .bad e a | .ok s r => if isT kShut r then .ok s r.tail else failR en r := by
  rw [pOne, h, if_pos rfl]
  unfold pStart pAll
  cases sev kOr 9 (sev kAnd 8 (pOne en f)) ts.tail <;> rfl
theorem pOne_none {en : Int} {f : Nat} {ts : List Tok} (h : isT kOpen ts = false) (hw : ∀ p ∈ wordL, isT p.1 ts = false) : pOne en (f + 1) ts = failR en ts := by
  rw [pOne, h, if_neg (by decide)]
  have : wordL.find? (fun p => isT p.1 ts) = none := by
    rw [List.find?_eq_none]
    intro p hp
    rw [hw p hp]
    decide
  rw [this]
theorem isT_text {w : Tx} {ts : List Tok} (h : isT w ts = true) : ∃ t r, ts = t :: r ∧ t.text = w := by
  obtain ⟨t, r, rfl⟩ := isT_ne h
  simp only [isT, Bool.and_eq_true, decide_eq_true_eq] at h
  exact ⟨t, r, rfl, h.2⟩
theorem pOne_word {en : Int} {f : Nat} {ts : List Tok} {p : Tx × Int} (h : isT kOpen ts = false) (hp : p ∈ wordL) (ht : isT p.1 ts = true) : pOne en (f + 1) ts = wordR en p.2 ts.tail := by
  rw [pOne, h, if_neg (by decide)]
  have : wordL.find? (fun p => isT p.1 ts) = some p := by
    have h1 : (wordL.find? (fun p => isT p.1 ts)).isSome = true := by
      rw [List.find?_isSome]; exact ⟨p, hp, ht⟩
    obtain ⟨q, hq⟩ := Option.isSome_iff_exists.1 h1
    rw [hq]
    have hq1 := List.mem_of_find?_eq_some hq
    have hq2 := List.find?_some hq
    obtain ⟨t, r, rfl, e1⟩ := isT_text ht
    obtain ⟨t2, r2, e0, e2⟩ := isT_text hq2
    cases e0
    have hpq : p.1 = q.1 := e1.symm.trans e2
    have hnd : ∀ p ∈ wordL, ∀ q ∈ wordL, p.1 = q.1 → p = q := by decide
    rw [hnd p hp q hq1 hpq]
  rw [this]
theorem takeT_ok {en : Int} {k j : Nat} {ts : List Tok} (h : j < ts.length) (hk : ts[j].kind = k) : takeT en k (ts.drop j) = .ok ts[j] (ts.drop (j + 1)) := by
  rw [List.drop_eq_getElem_cons h]
  simp only [takeT]
  rw [if_pos hk]
theorem takeT_bad {en : Int} {k j : Nat} {ts : List Tok} (hk : ∀ h : j < ts.length, ts[j].kind ≠ k) : takeT en k (ts.drop j) = failR en (ts.drop j) := by
  by_cases h : j < ts.length
  · rw [List.drop_eq_getElem_cons h]
    simp only [takeT]
    rw [if_neg (hk h)]
  · rw [List.drop_eq_nil_of_le (by omega)]
    rfl
end Go.Sta
namespace Go.Proofs
open Go Go.Pd Go.Sta
open Go.Lexs (Tok)
attribute [local irreducible] OpsL W RetQ OpsQ OpsC
theorem rdv_leaf {w w' : World} {pb i j : Nat} {tv : Value} {ts : List Tok} {en op day : Int} {name : Tx} {read : List Tok → Rd Sn} (hr : read (ts.drop i) = .ok (.node op name day []) (ts.drop j)) (hij : i ≤ j) (hj : j ≤ ts.length) (hl : LH w (OneB pb) w' [psB pb tv j en]) : RdV w pb tv ts en i read (.agg (snL (.node op name day []) (.slice none 0 0)).toArray) w' :=
  ⟨_, _, j, rfl, hr, hij, hj, hl, KR.nil _ _⟩
set_option maxHeartbeats 4000000 in
theorem one_calls : ∀ n, OneC n := by
  intro n
  induction n using Nat.strongRecOn with
  | _ n ih =>
  intro w0 pb tv ts en hT0 w i hu hl hi hn
  refine ⟨_, #[.pointer (some ⟨pb, 0, none⟩)], #[], rfl, fun _ => rfl, ?_⟩
  show Calls Tryz.prog _ #[.pointer (some ⟨pb, 0, none⟩)] w _
  have hT := hT0.upd hu
  clear hT0 hu w0
  refine calls_ofP Tryz.func59 rfl Tryz.ntmps59 rfl ?_
  refine wk_seq fun K hK => ?_
  refine wk_reg ?_
  refine o_alloc hl [.int .i64 0, .string "".toByteArray, .int .i64 0, .slice none 0 0] (by kernel_rfl) rfl ?_
  clear hl
  intro b2 w1 hb2 hl
  replace hl := hl.perm (List.Perm.swap _ _ [])
  refine o_nil (hK _ _ ?_)
  clear hK K
  refine wk_seq fun K hK => ?_
  refine wk_seq fun K2 hK2 => ?_
  refine wk_reg ?_
  refine a_mov ?_
  refine a_fn (is_calls (wd := kOpen) (hT.upd hl.upd) hl.one hi) ?_ rfl (fun _ => rfl) (by simp only [kOpen, str_eq]; rfl)
  rintro _ w2 ⟨rfl, hl2⟩
  replace hl := hl.swap hl2
  clear hl2
  refine o_nil (hK2 _ _ ?_)
  clear hK2 K2
  cases hb : isT kOpen (ts.drop i)
  · rw [hb, if_neg (by decide)] at hl
    refine wk_cond_f rfl ?_
    refine wk_skip (hK _ _ ?_)
    clear hK K
    refine wk_seq fun K hK => ?_
    refine wk_seq fun K2 hK2 => ?_
    refine wk_reg ?_
    refine a_fn (words_calls w2) ?_
    rintro _ w3 ⟨bm, es, c, rfl, hlm, hm⟩
    replace hl := hl.join hlm
    clear hlm
    refine o_range hl (hl.get 0 rfl) rfl rfl rfl ?_
    clear hl
    intro q w4 hq hl hbm
    refine o_nil (hK2 _ _ ?_)
    clear hK2 K2
    replace hl := hl.perm (l' := [psB pb tv i en, (b2, Obj.cells #[.int .i64 0, .string "".toByteArray, .int .i64 0, .slice none 0 0] 24 (0, 0)), (bm, .map es c), (q, .mapIter (some bm) c #[] c)]) (by
      exact (List.Perm.swap _ _ _).trans ((List.Perm.cons _ (List.Perm.swap _ _ _)).trans ((List.Perm.swap _ _ _).trans ((List.Perm.cons _ (List.Perm.cons _ (List.Perm.swap _ _ _))).trans (List.Perm.cons _ (List.Perm.swap _ _ _ |>.trans (List.Perm.cons _ (List.Perm.refl _))))))))
    clear hq
    have hu4 := hl.upd
    refine wk_block ?_
    refine wk_loopH [] rfl (fun seen : Array Nat => [(0, .pointer (some ⟨pb, 0, none⟩)), (2, .pointer (some ⟨b2, 0, none⟩)), (19, .pointer (some ⟨q, 0, none⟩))])
      (fun seen w' => (∀ e ∈ es.toList, seen.contains e.born = true → ∀ p ∈ wordL, e.key = str p.1 → isT p.1 (ts.drop i) = false) ∧ LH w (OneB pb) w' [psB pb tv i en, (b2, Obj.cells #[.int .i64 0, .string "".toByteArray, .int .i64 0, .slice none 0 0] 24 (0, 0)), (bm, .map es c), (q, .mapIter (some bm) c seen c)]) (fun seen => leftN es seen) #[] ⟨rfl, rfl, rfl, trivial⟩ ⟨(fun e he hs => by simp at hs), hl⟩ ?_
    clear hl hbm hu4
    rintro seen t w5 ⟨hseen, hl⟩
    refine wk_seq fun K1 hK1 => ?_
    refine wk_reg ?_
    refine o_next hl (i := 3) rfl (hl.get 2 rfl) hm.old (Nat.le_refl _) rfl rfl ?_ ?_
    · intro hall
      refine a_ext ?_
      refine o_nil (hK1 _ _ ?_)
      clear hK1 K1
      refine wk_seq fun K1 hK1 => ?_
      refine wk_cond_f rfl ?_
      refine wk_exit ?_
      refine blockK_same ?_
      refine hK _ _ ?_
      clear hK1 K1
      clear hK K
      have hfail : pOne en (n + 1) (ts.drop i) = failR en (ts.drop i) := pOne_none hb fun p hp => by
        obtain ⟨e, he, h1, h2⟩ := hm.mem (q := (p.1, .int .i64 p.2)) (List.mem_map_of_mem (f := fun p : Tx × Int => (p.1, Value.int .i64 p.2)) hp)
        exact hseen e he (hall e he) p hp h1
      refine wk_seq fun K hK => ?_
      refine wk_reg ?_
      refine a_mov ?_
      refine a_fnP (fail_calls (hT.upd hl.upd) (hl.rowL (vs := psL tv i en) 0 0 3 rfl) hi) (fun v w' h => h.elim) (fun ch w' hz => retP_panic rfl ⟨_, _, hfail, hz.1, (hl.ext hz.2).upd⟩)
    · intro e w6 he hns hl6 hbm6
      replace hl : LH w (OneB pb) w6 [psB pb tv i en, (b2, Obj.cells #[.int .i64 0, .string "".toByteArray, .int .i64 0, .slice none 0 0] 24 (0, 0)), (bm, .map es c), (q, .mapIter (some bm) c (seen.push e.born) c)] := hl6
      clear hl6 hbm6
      have hlt := leftN_push he hns
      obtain ⟨p, hp, hkey, hval⟩ : ∃ p ∈ wordL, e.key = str p.1 ∧ e.val = .int .i64 p.2 := by
        obtain ⟨r, hr, h1, h2⟩ := hm.entry he
        obtain ⟨p, hp, rfl⟩ := List.mem_map.1 hr
        exact ⟨p, hp, h1, h2⟩
      refine a_ext ?_
      refine o_nil (hK1 _ _ ?_)
      clear hK1 K1
      refine wk_seq fun K1 hK1 => ?_
      refine wk_cond_t rfl ?_
      refine wk_skip (hK1 _ _ ?_)
      clear hK1 K1
      refine wk_block ?_
      refine wk_seq fun K1 hK1 => ?_
      refine wk_reg ?_
      refine o_entry (hl.get 3 rfl) (hl.get 2 rfl) he hm.bornNd rfl rfl ?_
      rw [hkey, hval]
      refine a_ext ?_
      refine a_ext ?_
      refine a_asg ?_
      refine a_asg ?_
      refine o_nil (hK1 _ _ ?_)
      clear hK1 K1
      refine wk_seq fun K1 hK1 => ?_
      refine wk_seq fun K2 hK2 => ?_
      refine wk_reg ?_
      refine a_mov ?_
      refine a_mov ?_
      refine a_fn (is_calls (wd := p.1) (hT.upd hl.upd) hl.one hi) ?_
      rintro _ w7 ⟨rfl, hl7⟩
      replace hl := hl.swap hl7
      clear hl7
      refine a_notb ?_
      refine o_nil (hK2 _ _ ?_)
      clear hK2 K2
      cases hbp : isT p.1 (ts.drop i)
      · rw [hbp, if_neg (by decide)] at hl
        refine wk_cond_t rfl ?_
        refine wk_exit ?_
        refine blockK_same ?_
        refine ⟨seen.push e.born, ⟨rfl, rfl, rfl, trivial⟩, rfl, ⟨fun e2 he2 hs2 p2 hp2 hk2 => ?_, hl⟩, hlt⟩
        rw [Array.contains_push, Bool.or_eq_true, beq_iff_eq] at hs2
        have hcase : seen.contains e2.born = true ∨ e2.born = e.born := by
          rcases hs2 with h | h
          · first | exact .inl h | exact .inr h
          · first | exact .inr h | exact .inr h.symm | exact .inl h
        rcases hcase with h | h
        · exact hseen e2 he2 h p2 hp2 hk2
        · have e12 : e2 = e := by
            obtain ⟨i1, h1, rfl⟩ := List.mem_iff_getElem.1 he2
            obtain ⟨i2, h2, rfl⟩ := List.mem_iff_getElem.1 he
            have := hm.nd i1 i2 _ _ (by rw [← Array.getElem?_toList, List.getElem?_eq_getElem h1]) (by rw [← Array.getElem?_toList, List.getElem?_eq_getElem h2]) h
            subst this
            rfl
          rw [e12, hkey] at hk2
          rw [← str_inj hk2]
          exact hbp
      · rw [hbp, if_pos rfl] at hl
        have hspec : pOne en (n + 1) (ts.drop i) = wordR en p.2 (ts.drop (i + 1)) := by rw [pOne_word hb hp hbp, drop_tail]
        have hlti : i < ts.length := by
          obtain ⟨t0, r0, h1⟩ := isT_ne hbp
          have := congrArg List.length h1
          simp at this
          omega
        clear hseen hlt hns hbp hb hkey hval he
        refine wk_cond_f rfl ?_
        refine wk_skip (hK1 _ _ ?_)
        clear hK1 K1
        have hl : LH w (OneB pb) w7 [psB pb tv (i + 1 : Nat) en, (b2, Obj.cells #[.int .i64 0, .string "".toByteArray, .int .i64 0, .slice none 0 0] 24 (0, 0))] := hl.sub (List.cons_sublist_cons.2 (List.cons_sublist_cons.2 (List.nil_sublist _)))
        have hp2 : p.2 = 1 ∨ p.2 = 2 ∨ p.2 = 3 ∨ p.2 = 4 ∨ p.2 = 5 ∨ p.2 = 6 ∨ p.2 = 7 := by
          have : ∀ p ∈ wordL, p.2 = 1 ∨ p.2 = 2 ∨ p.2 = 3 ∨ p.2 = 4 ∨ p.2 = 5 ∨ p.2 = 6 ∨ p.2 = 7 := by decide
          exact this p hp
        generalize hop : p.2 = op at hspec hp2 ⊢
        clear hop hp
        refine wk_seq fun K5 hK5 => ?_
        refine wk_reg ?_
        refine a_mov ?_
        refine o_build [.int .i64 op, .string ⟨#[]⟩, .int .i64 0, .slice none 0 0] rfl (by kernel_rfl) ?_
        refine o_alloc hl [.int .i64 0, .string "".toByteArray, .int .i64 0, .slice none 0 0] (by kernel_rfl) rfl ?_
        clear hl
        intro b6 w8 hb6 hl
        refine o_putN (us := [.int .i64 op, .string ⟨#[]⟩, .int .i64 0, .slice none 0 0]) hl rfl rfl rfl rfl rfl (.here rfl rfl) ?_
        clear hl
        intro w9 hl
        have hl : LH w (OneB pb) w9 ((b6, Obj.cells #[.int .i64 op, .string ⟨#[]⟩, .int .i64 0, .slice none 0 0] 24 (0, 0)) :: psB pb tv (i + 1 : Nat) en :: [(b2, Obj.cells #[.int .i64 0, .string "".toByteArray, .int .i64 0, .slice none 0 0] 24 (0, 0))]) := hl
        replace hl := hl.perm (List.Perm.swap _ _ _)
        refine o_nil (hK5 _ _ ?_)
        clear hK5 K5
        refine wk_seq fun K5 hK5 => ?_
        have hT9 := hT.upd hl.upd
        refine wk_cut [] (fun _ : Tx × Int × Nat => [(2, .pointer (some ⟨b2, 0, none⟩)), (6, .pointer (some ⟨b6, 0, none⟩))])
          (fun x w' => (wordR en op (ts.drop (i + 1)) = .ok (.node op x.1 x.2.1 []) (ts.drop x.2.2) ∧ i ≤ x.2.2 ∧ x.2.2 ≤ ts.length) ∧ LH w (OneB pb) w' [psB pb tv x.2.2 en, (b6, Obj.cells #[.int .i64 op, str x.1, .int .i64 x.2.1, .slice none 0 0] 24 (0, 0)), (b2, Obj.cells #[.int .i64 0, .string "".toByteArray, .int .i64 0, .slice none 0 0] 24 (0, 0))]) ?_ ?_
        rotate_left
        · rintro ⟨nm, dy, j⟩ t w10 ⟨⟨hw, hij, hj⟩, hl⟩
          simp only at hw hij hj hl
          refine hK5 _ _ ?_
          clear hK5 K5
          refine wk_seq fun K5 hK5 => ?_
          refine wk_reg ?_
          refine a_all (hl.rowL (vs := [.int .i64 op, str nm, .int .i64 dy, .slice none 0 0]) 1 0 4 rfl) ?_
          refine o_putN (us := [.int .i64 op, str nm, .int .i64 dy, .slice none 0 0]) hl rfl rfl rfl (by simp only [List.all_cons, List.all_nil, oneCell_str]; rfl) rfl (.there (.there (.here rfl rfl))) ?_
          clear hl
          intro w11 hl
          refine o_nil (hK5 _ _ ?_)
          clear hK5 K5
          refine wk_ret ?_
          show RetP Tryz.prog Tryz.f59 57 (RdV w pb tv ts en i (pOne en (n + 1))) (RdZ w pb ts i (pOne en (n + 1))) .ret _ _
          exact retP_of (retQ_res [.agg (snL (.node op nm dy []) (.slice none 0 0)).toArray] rfl rfl ⟨by decide, ⟨⟨b2, 0, none⟩, rfl, run_loadVarN rfl rfl (hl.rowL (vs := [.int .i64 op, str nm, .int .i64 dy, .slice none 0 0]) 2 0 4 rfl)⟩, trivial⟩ (rdv_leaf (hspec.trans hw) hij hj (hl.sub (List.cons_sublist_cons.2 (List.nil_sublist _))))) rfl
        refine wk_block ?_
        refine wk_seq fun K6 hK6 => ?_
        refine wk_reg ?_
        repeat' (first | refine a_mov ?_ | refine a_asg ?_ | refine a_binN ?_ | refine a_notd ?_ | refine a_notb ?_ | refine a_nilc ?_ | refine a_fa ?_ | refine a_ext ?_ | refine a_lenv ?_ | refine a_lens ?_ | refine a_pick_t ?_ | refine a_pick_f ?_ | refine a_not ?_ | refine a_nilf ?_ | (refine a_bin ?_ ?_ <;> intro _ <;> try (exfalso; omega)) | refine a_ld hl ?_ | (refine a_st hl ?_; clear hl; intro _ hl) | refine a_ix (fun _ => ?_) | fail)
        · rename_i h3
          have h3 : op = 3 := h3
          refine o_nil (hK6 _ _ ?_)
          clear hK6 K6
          refine wk_cond_t rfl ?_
          refine wk_seq fun K6 hK6 => ?_
          refine wk_reg ?_
          refine a_mov ?_
          refine a_fnP (take_calls (k := 2) hT9 hl.one hlti) ?_ ?_
          rotate_left
          · rintro ch w10 ⟨hk, hz1, hz2⟩
            refine retP_panic rfl ⟨_, _, ?_, hz1, hl.upd.trans hz2 fun k hk hM => hM⟩
            rw [hspec]
            unfold wordR
            rw [if_pos h3, takeT_bad hk]
            rfl
          rintro _ w10 ⟨hj, hk, rfl, hl10⟩
          replace hl := hl.swap hl10
          clear hl10
          have htk := takeT_ok (en := en) hj hk
          generalize ts[i + 1] = tk at htk hk
          refine o_alloc hl [.int .i64 0, .string "".toByteArray, .int .i64 0, .int .i64 0] (by kernel_rfl) rfl ?_
          clear hl
          intro b7 w11 hb7 hl
          refine o_putN (us := tokL tk) hl rfl rfl rfl (by simp only [tokL, List.all_cons, List.all_nil, oneCell_str]; rfl) rfl (.here rfl rfl) ?_
          clear hl
          intro w12 hl
          have hrt : Row w12 b7 0 (tokL tk) := hl.rowL (vs := tokL tk) 0 0 4 rfl
          refine o_nil (hK6 _ _ ?_)
          clear hK6 K6
          refine wk_seq fun K6 hK6 => ?_
          refine wk_seq fun K7 hK7 => ?_
          refine wk_reg ?_
          refine a_fa ?_
          refine a_row hrt ?_
          by_cases hbig : 1000000 < tk.num
          · repeat' (first | refine a_mov ?_ | refine a_asg ?_ | refine a_binN ?_ | refine a_notd ?_ | refine a_notb ?_ | refine a_nilc ?_ | refine a_fa ?_ | refine a_ext ?_ | refine a_lenv ?_ | refine a_lens ?_ | refine a_pick_t ?_ | refine a_pick_f ?_ | refine a_not ?_ | refine a_nilf ?_ | (refine a_bin ?_ ?_ <;> intro _ <;> try (exfalso; omega)) | refine a_ld hl ?_ | (refine a_st hl ?_; clear hl; intro _ hl) | refine a_ix (fun _ => ?_) | fail)
            refine o_nil (hK7 _ _ ?_)
            clear hK7 K7
            refine wk_cond_t rfl ?_
            refine wk_reg ?_
            refine a_fa ?_
            refine a_row hrt ?_
            refine o_build [.int .i64 10, .int .i64 (tk.pos : Int)] rfl rfl ?_
            refine a_mif (v := .agg #[.int .i64 10, .int .i64 (tk.pos : Int)]) ?_
            refine a_panic (v := faultV 10 (tk.pos : Int)) (retP_panic rfl ⟨10, tk.pos, ?_, rfl, hl.upd⟩)
            rw [hspec]
            unfold wordR
            rw [if_pos h3, htk]
            simp only
            rw [if_pos hbig]
          · repeat' (first | refine a_mov ?_ | refine a_asg ?_ | refine a_binN ?_ | refine a_notd ?_ | refine a_notb ?_ | refine a_nilc ?_ | refine a_fa ?_ | refine a_ext ?_ | refine a_lenv ?_ | refine a_lens ?_ | refine a_pick_t ?_ | refine a_pick_f ?_ | refine a_not ?_ | refine a_nilf ?_ | (refine a_bin ?_ ?_ <;> intro _ <;> try (exfalso; omega)) | refine a_ld hl ?_ | (refine a_st hl ?_; clear hl; intro _ hl) | refine a_ix (fun _ => ?_) | fail)
            refine o_nil (hK7 _ _ ?_)
            clear hK7 K7
            refine wk_cond_f rfl ?_
            refine wk_skip (hK6 _ _ ?_)
            clear hK6 K6
            refine wk_reg ?_
            refine a_fa ?_
            refine a_row hrt ?_
            repeat' (first | refine a_mov ?_ | refine a_asg ?_ | refine a_binN ?_ | refine a_notd ?_ | refine a_notb ?_ | refine a_nilc ?_ | refine a_fa ?_ | refine a_ext ?_ | refine a_lenv ?_ | refine a_lens ?_ | refine a_pick_t ?_ | refine a_pick_f ?_ | refine a_not ?_ | refine a_nilf ?_ | (refine a_bin ?_ ?_ <;> intro _ <;> try (exfalso; omega)) | refine a_ld hl ?_ | (refine a_st hl ?_; clear hl; intro _ hl) | refine a_ix (fun _ => ?_) | fail)
            refine o_nil ⟨([], (tk.num : Int), i + 1 + 1), ⟨rfl, rfl, trivial⟩, rfl, ⟨?_, by simp only; omega, hj⟩, ?_⟩
            · unfold wordR
              rw [if_pos h3, htk]
              simp only
              rw [if_neg hbig, h3]
            · rw [str_nil]
              exact hl.sub (List.sublist_cons_self _ _)
        · rename_i h3
          have h3 : op ≠ 3 := h3
          refine o_nil (hK6 _ _ ?_)
          clear hK6 K6
          refine wk_cond_f rfl ?_
          refine wk_seq fun K6 hK6 => ?_
          refine wk_reg ?_
          refine a_mov ?_
          refine a_fn (isNamed_calls op w9) ?_
          rintro _ w10 ⟨rfl, rfl⟩
          refine a_asg ?_
          refine o_nil (hK6 _ _ ?_)
          clear hK6 K6
          cases hnm : named op
          · refine wk_cond_f rfl ?_
            refine wk_skip ⟨([], 0, i + 1), ⟨rfl, rfl, trivial⟩, rfl, ⟨?_, by simp only; omega, hlti⟩, ?_⟩
            · unfold wordR
              rw [if_neg h3, hnm, if_neg (by decide)]
            · rw [str_nil]
              exact hl
          · refine wk_cond_t rfl ?_
            refine wk_reg ?_
            refine a_mov ?_
            refine a_fnP (take_calls (k := 1) hT9 hl.one hlti) ?_ ?_
            rotate_left
            · rintro ch w11 ⟨hk, hz1, hz2⟩
              refine retP_panic rfl ⟨_, _, ?_, hz1, hl.upd.trans hz2 fun k hk hM => hM⟩
              rw [hspec]
              unfold wordR
              rw [if_neg h3, hnm, if_pos rfl, takeT_bad hk]
              rfl
            rintro _ w11 ⟨hj, hk, rfl, hl10⟩
            replace hl := hl.swap hl10
            clear hl10
            have htk := takeT_ok (en := en) hj hk
            generalize ts[i + 1] = tk at htk hk
            refine a_fld ?_
            repeat' (first | refine a_mov ?_ | refine a_asg ?_ | refine a_binN ?_ | refine a_notd ?_ | refine a_notb ?_ | refine a_nilc ?_ | refine a_fa ?_ | refine a_ext ?_ | refine a_lenv ?_ | refine a_lens ?_ | refine a_pick_t ?_ | refine a_pick_f ?_ | refine a_not ?_ | refine a_nilf ?_ | (refine a_bin ?_ ?_ <;> intro _ <;> try (exfalso; omega)) | refine a_ld hl ?_ | (refine a_st hl ?_; clear hl; intro _ hl) | refine a_ix (fun _ => ?_) | fail)
            refine o_nil ⟨(tk.text, 0, i + 1 + 1), ⟨rfl, rfl, trivial⟩, rfl, ⟨?_, by simp only; omega, hj⟩, ?_⟩
            · unfold wordR
              rw [if_neg h3, hnm, if_pos rfl, htk]
            · exact hl
  · rw [hb, if_pos rfl] at hl
    have hlti : i < ts.length := by
      obtain ⟨t0, r0, h1⟩ := isT_ne hb
      have := congrArg List.length h1
      simp at this
      omega
    obtain ⟨m, rfl⟩ : ∃ m, n = m + 1 := ⟨n - 1, by omega⟩
    have hspec := pOne_paren (en := en) (f := m + 1) hb
    rw [drop_tail] at hspec
    refine wk_cond_t rfl ?_
    refine wk_seq fun K3 hK3 => ?_
    refine wk_reg ?_
    refine a_mov ?_
    refine a_fnP (start_calls (ih m (by omega)) (hT.upd hl.upd) hl.one hlti (by omega)) ?_ ?_
    rotate_left
    · rintro ch w3 ⟨e, a, hr, rfl, hu2⟩
      refine retP_panic rfl ⟨e, a, ?_, rfl, hl.upd.trans hu2 fun k hk hM => hM⟩
      rw [hspec, hr]
    rintro _ w3 ⟨s0, kv0, j, rfl, hr0, hj, hj2, hl3, hk0⟩
    rw [hr0] at hspec
    simp only at hspec
    have hl0 := hl
    replace hl := hl.swap hl3
    have hk3 : KR w3 (FrN w w3 [psB pb tv j en, (b2, Obj.cells #[.int .i64 0, .string "".toByteArray, .int .i64 0, .slice none 0 0] 24 (0, 0))]) s0.kids kv0 := KR.newN hl0 hl0.upd.size rfl hk0
    clear hl3 hl0
    refine o_alloc hl.rb [.int .i64 0, .string "".toByteArray, .int .i64 0, .slice none 0 0] (by kernel_rfl) rfl ?_
    intro b3 w4 hb3 hl4
    replace hl4 := hl4.perm (List.Perm.swap _ _ _)
    have hk4 := KR.grow (l6 := [psB pb tv j en, (b2, Obj.cells #[.int .i64 0, .string "".toByteArray, .int .i64 0, .slice none 0 0] 24 (0, 0))]) hl4 hk3
    replace hl := hl.bk hl4
    refine o_putN (us := snL s0 kv0) hl.rb rfl rfl rfl (snL_one hk0) rfl (.there (.here rfl rfl)) ?_
    intro w5 hl5
    have hk5 := KR.grow (l6 := [psB pb tv j en, (b3, Obj.cells #[.int .i64 0, .string "".toByteArray, .int .i64 0, .slice none 0 0] 24 (0, 0)), (b2, Obj.cells #[.int .i64 0, .string "".toByteArray, .int .i64 0, .slice none 0 0] 24 (0, 0))]) hl5 hk4
    replace hl := hl.bk hl5
    clear hl4 hl5 hk3 hk4
    refine o_nil (hK3 _ _ ?_)
    clear hK3 K3
    refine wk_seq fun K3 hK3 => ?_
    refine wk_seq fun K4 hK4 => ?_
    refine wk_reg ?_
    refine a_mov ?_
    refine a_fn (is_calls (wd := kShut) (hT.upd hl.upd) hl.one hj2) ?_ rfl (fun _ => rfl) (by simp only [kShut, str_eq]; rfl)
    rintro _ w6 ⟨rfl, hl6⟩
    have hk6 := KR.grow (hl.rb.swap hl6) hk5
    replace hl := hl.swap hl6
    clear hl6 hk5
    refine a_notb ?_
    refine o_nil (hK4 _ _ ?_)
    clear hK4 K4
    cases hb2 : isT kShut (ts.drop j)
    · rw [hb2, if_neg (by decide)] at hl hspec
      refine wk_cond_t rfl ?_
      refine wk_reg ?_
      refine a_mov ?_
      refine a_fnP (fail_calls (hT.upd hl.upd) (hl.rowL (vs := psL tv j en) 0 0 3 rfl) hj2) (fun v w' h => h.elim) (fun ch w' hz => retP_panic rfl ⟨_, _, hspec, hz.1, (hl.ext hz.2).upd⟩)
    · rw [hb2, if_pos rfl] at hl hspec hk6
      have hltj : j < ts.length := by
        obtain ⟨t0, r0, h1⟩ := isT_ne hb2
        have := congrArg List.length h1
        simp at this
        omega
      rw [drop_tail] at hspec
      refine wk_cond_f rfl ?_
      refine wk_skip (hK3 _ _ ?_)
      clear hK3 K3
      refine wk_seq fun K3 hK3 => ?_
      refine wk_reg ?_
      refine a_all (hl.rowL (vs := snL s0 kv0) 1 0 4 rfl) ?_
      refine o_putN (us := snL s0 kv0) hl.rb rfl rfl rfl (snL_one hk0) rfl (.there (.there (.here rfl rfl))) ?_
      intro w7 hl7
      have hk7 := KR.grow (l6 := [psB pb tv (j + 1 : Nat) en, (b3, _), (b2, Obj.cells #[.int .i64 0, .string "".toByteArray, .int .i64 0, .slice none 0 0] 24 (0, 0))]) hl7 hk6
      replace hl := hl.bk hl7
      refine o_nil (hK3 _ _ ?_)
      clear hK3 K3
      refine wk_ret (retP_of (retQ_res [.agg (snL s0 kv0).toArray] rfl rfl ⟨by decide, ⟨⟨b2, 0, none⟩, rfl, run_loadVarN rfl rfl (hl.rowL (vs := snL s0 kv0) 2 0 4 rfl)⟩, trivial⟩ ?_) rfl)
      exact ⟨s0, kv0, j + 1, rfl, hspec, by omega, hltj, hl.sub (List.cons_sublist_cons.2 (List.nil_sublist _)), hk7.mono fun b hb => ⟨hb.1, hb.2.1⟩⟩
end Go.Proofs

set_option linter.unusedVariables false
set_option linter.unusedSimpArgs false
set_option linter.unnecessarySimpa false
set_option maxRecDepth 10000
namespace Go.Proofs
open Go Go.Pd Go.Sta
open Go.Lexs (Tok lex)
attribute [local irreducible] OpsL W RetQ OpsQ OpsC
def resB (b2 b3 b4 : Nat) (s : Sn) (kv : Value) (e a : Int) : List (Nat × Obj) := [(b4, .cells [.int .i64 a].toArray 3 (0, 0)), (b3, .cells [.int .i64 e].toArray 27 (0, 0)), (b2, .cells (snL s kv).toArray 24 (0, 0))]
def nilS : Sn := .node 0 [] 0 []
abbrev resK (b2 b3 b4 : Nat) : Nat → Prop := fun b => b ∈ [b4, b3, b2]
theorem rec_calm {w : World} {b2 b3 b4 : Nat} : CallsDIn (FR none) 0 Tryz.prog 28 #[.pointer (some ⟨b2, 0, none⟩), .pointer (some ⟨b3, 0, none⟩), .pointer (some ⟨b4, 0, none⟩)] .returning w (fun e u' w' => (∃ x, e = .returned x) ∧ u' = .returning ∧ Ext w w') := by
  refine callsD_rec (v := .nilIface) (R := fun w' => Ext w w') Tryz.func28 rfl (Nat.le_of_ble_eq_true rfl) rfl (by decide) (fun c₀ cs hc => .inr ⟨?_, rfl, rfl⟩) ?_
  · simp [recoverD, hc]
  refine wk_w ?_
  refine wk_seq fun K hK => ?_
  refine wk_reg ?_
  refine a_mov ?_
  refine o_neqnil rfl rfl rfl ?_
  refine o_nil (hK _ _ ?_)
  refine wk_cond_f rfl ?_
  exact wk_skip ⟨rfl, .refl _ _⟩
theorem rec_fault {w : World} {b2 b3 b4 : Nat} {s : Sn} {kv : Value} {e0 a0 e a : Int} (hl : LH w (resK b2 b3 b4) w (resB b2 b3 b4 s kv e0 a0)) : CallsDIn (FR none) 0 Tryz.prog 28 #[.pointer (some ⟨b2, 0, none⟩), .pointer (some ⟨b3, 0, none⟩), .pointer (some ⟨b4, 0, none⟩)] (.panicking (faultC e a)) w (fun x u' w' => (∃ y, x = .returned y) ∧ u' = .panicking [{ v := faultV e a, recovered := true }] ∧ LH w (resK b2 b3 b4) w' (resB b2 b3 b4 nilS (.slice none 0 0) e a)) := by
  refine callsD_rec (v := faultV e a) (R := fun w' => LH w (resK b2 b3 b4) w' (resB b2 b3 b4 nilS (.slice none 0 0) e a)) Tryz.func28 rfl (Nat.le_of_ble_eq_true rfl) rfl (by decide) (fun c₀ cs hc => .inl ?_) ?_
  · simp [recoverD, hc, faultC]
  refine wk_w ?_
  refine wk_seq fun K hK => ?_
  refine wk_reg ?_
  refine a_mov ?_
  refine o_neqiface ?_ rfl rfl
  refine o_nil (hK _ _ ?_)
  clear hK K
  refine wk_cond_t rfl ?_
  refine wk_seq fun K hK => ?_
  refine wk_reg ?_
  refine a_mov ?_
  refine a_tas ?_ rfl
  refine o_alloc hl [.int .i64 0, .int .i64 0] (by kernel_rfl) rfl ?_
  clear hl
  intro b5 w1 hb5 hl
  refine o_putN (us := [.int .i64 e, .int .i64 a]) hl rfl rfl rfl rfl rfl (.here rfl rfl) ?_
  clear hl
  intro w2 hl
  refine o_nil (hK _ _ ?_)
  clear hK K
  have hr : Row w2 b5 0 [.int .i64 e, .int .i64 a] := hl.rowL (vs := [.int .i64 e, .int .i64 a]) 0 0 2 rfl
  refine wk_draw (List.range 5) [2, 4] [5, 6, 7] (fun w' => To w2 w' w2.heap) (fun w' => w'.heap[b5]? = some (Obj.cells [.int .i64 e, .int .i64 a].toArray 56 (0, 0))) rfl (by kernel_rfl) (by intro _ _ _ _ h; exact h) (fun _ h => h) (fun w' h => by rw [h.1]; exact hl.get 0 rfl) ?_
  refine q_build [.int .i64 0, .string ⟨#[]⟩, .int .i64 0, .slice none 0 0] rfl rfl (by kernel_rfl) ?_
  repeat' (first | refine q_mov ?_ | refine q_asg ?_ | refine q_fa ?_ | refine q_ext ?_ | refine q_binN ?_ | refine q_notd ?_ | refine q_notb ?_ | refine q_pick_t ?_ | refine q_pick_f ?_ | refine q_nilc ?_ | refine q_skip ?_ | refine q_lens ?_ | refine q_lenv ?_ | refine q_nil ?_ | refine q_ix (fun _ => ?_) | (refine q_bin ?_ ?_ <;> intro _ <;> try (exfalso; omega)) | refine q_late rfl rfl rfl rfl (fun w' hw' => r_load rfl rfl (cell_of_block hw' rfl)) ?_)
  intro w3 hw3
  replace hl := hl.heap hw3
  have hl : LH w (resK b2 b3 b4) w3 ((b5, _) :: resB b2 b3 b4 s kv e0 a0) := hl
  refine ops_tail rfl rfl ?_
  refine o_putN (us := [.int .i64 0, .string ⟨#[]⟩, .int .i64 0, .slice none 0 0]) hl rfl rfl rfl rfl rfl (.there (.there (.there (.here rfl rfl)))) ?_
  clear hl
  intro w4 hl
  refine o_nil ⟨hl.get 0 rfl, ?_⟩
  refine ops_tail rfl rfl ?_
  refine o_put1 (b := b3) (o := 0) (v := .int .i64 e) hl rfl rfl rfl ⟨rfl, rfl⟩ rfl (.there (.there (.here rfl rfl))) ?_
  clear hl
  intro w5 hl
  refine o_nil ⟨hl.get 0 rfl, ?_⟩
  refine ops_tail rfl rfl ?_
  refine o_put1 (b := b4) (o := 0) (v := .int .i64 a) hl rfl rfl rfl ⟨rfl, rfl⟩ rfl (.there (.here rfl rfl)) ?_
  clear hl
  intro w6 hl
  refine o_nil ⟨hl.get 0 rfl, ?_⟩
  refine ops_nil ⟨rfl, ?_⟩
  have h := hl.sub (List.sublist_cons_self _ _)
  show LH w (resK b2 b3 b4) w6 [_, _, (b2, .cells (snL nilS (.slice none 0 0)).toArray 24 (0, 0))]
  simp only [nilS, snL, Sn.op, Sn.name, Sn.day, str_nil]
  exact h
end Go.Proofs
