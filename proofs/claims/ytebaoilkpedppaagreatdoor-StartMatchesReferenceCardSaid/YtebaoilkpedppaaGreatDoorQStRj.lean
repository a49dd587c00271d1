/-
  The reference: Parse.
-/
import Derived.Test.YtebaoilkpedppaaGreatDoorQStRe
import Derived.Test.YtebaoilkpedppaaGreatDoorQStBa
import Derived.Test.YtebaoilkpedppaaGreatDoorQJr
set_option linter.unusedVariables false
set_option linter.unusedSimpArgs false
set_option linter.unnecessarySimpa false
set_option maxRecDepth 10000
namespace Go.Sta
open Go.Lexs (Tok lex)
def atO : Sn ⊕ (Int × Int) → Int
  | .inl _ => 0
  | .inr p => p.2
/-! ### Depths of what is read -/
def DepLe (D : Nat) (read : List Tok → Rd Sn) : Prop := ∀ ts s r, read ts = .ok s r → dep s ≤ D
theorem sevTail_dep {w : Tx} {D : Nat} {read : List Tok → Rd Sn} (h : DepLe D read) : ∀ (n : Nat) (acc : List Sn) (ts : List Tok) (l : List Sn) (r : List Tok), (∀ k ∈ acc, dep k ≤ D) → sevTail w read n acc ts = .ok l r → ∀ k ∈ l, dep k ≤ D
  | 0, acc, ts, l, r, ha, e => by cases e; exact ha
  | n + 1, acc, ts, l, r, ha, e => by
    simp only [sevTail] at e
    split at e
    · cases hr : read ts.tail with
      | bad e2 a2 => rw [hr] at e; cases e
      | ok x r2 =>
        rw [hr] at e
        refine sevTail_dep h n _ _ _ _ (fun k hk => ?_) e
        rcases List.mem_append.1 hk with hk | hk
        · exact ha k hk
        · rw [List.mem_singleton.1 hk]; exact h _ _ _ hr
    · cases e; exact ha
theorem sev_dep {w : Tx} {op : Int} {D : Nat} {read : List Tok → Rd Sn} (h : DepLe D read) : DepLe (D + 1) (sev w op read) := fun ts s r e => by
  unfold sev at e
  cases hr : read ts with
  | bad e2 a2 => rw [hr] at e; cases e
  | ok y r1 =>
    rw [hr] at e
    simp only at e
    cases ht : sevTail w read r1.length [y] r1 with
    | bad e2 a2 => rw [ht] at e; cases e
    | ok l r2 =>
      rw [ht] at e
      cases e
      have hl := sevTail_dep h _ _ _ _ _ (fun k hk => by rw [List.mem_singleton.1 hk]; exact h _ _ _ hr) ht
      match l, hl with
      | [x], hl => have := hl x List.mem_cons_self; simp only [joinS]; omega
      | [], hl => simp [joinS, dep, depL]
      | x :: y :: l, hl =>
        have := depL_le hl
        simp only [joinS, dep]
        omega
theorem wordR_dep {en op : Int} : DepLe 1 (wordR en op) := fun ts s r e => by
  unfold wordR at e
  split at e
  · cases ht : takeT en 2 ts with
    | bad e2 a2 => rw [ht] at e; cases e
    | ok t r2 =>
      rw [ht] at e
      simp only at e
      split at e
      · cases e
      · cases e; simp [dep, depL]
  · split at e
    · cases ht : takeT en 1 ts with
      | bad e2 a2 => rw [ht] at e; cases e
      | ok t r2 => rw [ht] at e; cases e; simp [dep, depL]
    · cases e; simp [dep, depL]
theorem pOne_dep (en : Int) : ∀ f, DepLe (2 * f + 1) (pOne en f)
  | 0 => fun ts s r e => nomatch e
  | f + 1 => fun ts s r e => by
    simp only [pOne] at e
    split at e
    · cases hs : sev kOr 9 (sev kAnd 8 (pOne en f)) ts.tail with
      | bad e2 a2 => rw [hs] at e; cases e
      | ok y r2 =>
        rw [hs] at e
        simp only at e
        have := sev_dep (sev_dep (pOne_dep en f)) _ _ _ hs
        split at e
        · cases e; omega
        · cases e
    · cases hf : wordL.find? fun p => isT p.1 ts with
      | none => rw [hf] at e; cases e
      | some p =>
        rw [hf] at e
        have := wordR_dep _ _ _ e
        omega
theorem pStart_dep (en : Int) (f : Nat) : DepLe (2 * f + 3) (pStart en f) := sev_dep (sev_dep (pOne_dep en f))
end Go.Sta
namespace Go.Proofs
open Go Go.Pd Go.Sta
open Go.Lexs (Tok lex)
attribute [local irreducible] OpsL W RetQ OpsQ OpsC
set_option maxHeartbeats 4000000 in
theorem parseR_calls {text : Tx} (hlong : text.length ≤ 3000) (w : World) : Calls Tryz.prog 18 #[str text] w (fun e w' => ∃ v, e = .returned v ∧ ∃ kv, v = .tuple #[.agg (snL (snO (parse text)) kv).toArray, .int .i64 (erO (parse text)), .int .i64 (atO (parse text))] ∧ KA w' (snO (parse text)).kids kv ∧ Ext w w') := by
  refine calls_of Tryz.func18 rfl Tryz.ntmps18 rfl ?_
  refine wk_seq fun K hK => ?_
  refine wk_reg ?_
  refine o_alloc (LH.start w (fun _ => False)) [.int .i64 0, .string "".toByteArray, .int .i64 0, .slice none 0 0] (by kernel_rfl) rfl ?_
  intro b2 w1 hb2 hl
  refine a_asg ?_
  refine a_asg ?_
  refine o_nil (hK _ _ ?_)
  clear hK K
  refine wk_seq fun K hK => ?_
  refine wk_reg ?_
  refine a_mov ?_
  refine a_fn (refLex_calls text (by omega) w1) ?_
  rintro v w2 ⟨hx2, hout⟩
  replace hl := hl.ext hx2
  cases hlex : lex text with
  | bad e off =>
    rw [hlex] at hout
    obtain rfl := hout
    have hp : parse text = .inr ((e : Int), off) := by unfold parse; rw [hlex]
    have hne := lex_ne hlex
    repeat' (first | refine a_mov ?_ | refine a_asg ?_ | refine a_binN ?_ | refine a_notd ?_ | refine a_notb ?_ | refine a_nilc ?_ | refine a_fa ?_ | refine a_ext ?_ | refine a_lenv ?_ | refine a_lens ?_ | refine a_pick_t ?_ | refine a_pick_f ?_ | refine a_not ?_ | refine a_nilf ?_ | (refine a_bin ?_ ?_ <;> intro _ <;> try (exfalso; omega)) | refine a_ld hl ?_ | (refine a_st hl ?_; clear hl; intro _ hl) | refine a_ix (fun _ => ?_) | fail)
    refine o_nil (hK _ _ ?_)
    clear hK K
    refine wk_seq fun K hK => ?_
    refine wk_seq fun K2 hK2 => ?_
    refine wk_reg ?_
    repeat' (first | refine a_mov ?_ | refine a_asg ?_ | refine a_binN ?_ | refine a_notd ?_ | refine a_notb ?_ | refine a_nilc ?_ | refine a_fa ?_ | refine a_ext ?_ | refine a_lenv ?_ | refine a_lens ?_ | refine a_pick_t ?_ | refine a_pick_f ?_ | refine a_not ?_ | refine a_nilf ?_ | (refine a_bin ?_ ?_ <;> intro _ <;> try (exfalso; omega)) | refine a_ld hl ?_ | (refine a_st hl ?_; clear hl; intro _ hl) | refine a_ix (fun _ => ?_) | fail)
    refine o_nil (hK2 _ _ ?_)
    clear hK2 K2
    refine wk_cond_t rfl ?_
    refine wk_seq fun K2 hK2 => ?_
    refine wk_reg ?_
    refine o_build [.int .i64 0, .string ⟨#[]⟩, .int .i64 0, .slice none 0 0] rfl rfl ?_
    refine a_mov ?_
    refine a_mov ?_
    refine o_putN (us := [.int .i64 0, .string ⟨#[]⟩, .int .i64 0, .slice none 0 0]) hl rfl rfl rfl rfl rfl (.here rfl rfl) ?_
    clear hl
    intro w3 hl
    refine a_asg ?_
    refine a_asg ?_
    refine o_nil (hK2 _ _ ?_)
    refine wk_ret (retQ_res [.agg (snL nilS (.slice none 0 0)).toArray, .int .i64 e, .int .i64 off] rfl rfl ⟨by decide, ⟨⟨b2, 0, none⟩, rfl, run_loadVarN rfl rfl (hl.rowL (vs := snL nilS (.slice none 0 0)) 0 0 4 (by simp only [nilS, snL, Sn.op, Sn.name, Sn.day, str_nil]; rfl))⟩, by decide, rfl, by decide, rfl, trivial⟩ ?_)
    rw [hp]
    exact ⟨_, rfl, KA.nil _, hl.done⟩
  | ok ts =>
    rw [hlex] at hout
    obtain ⟨tv, rfl, hsv⟩ := hout
    have hp : parse text = parseT text.length ts := by unfold parse; rw [hlex]
    obtain ⟨htok, hlen⟩ := lex_tok hlex
    obtain ⟨ta, tc, rfl, -⟩ := hsv.shape (toksL_len ts) (by omega)
    repeat' (first | refine a_mov ?_ | refine a_asg ?_ | refine a_binN ?_ | refine a_notd ?_ | refine a_notb ?_ | refine a_nilc ?_ | refine a_fa ?_ | refine a_ext ?_ | refine a_lenv ?_ | refine a_lens ?_ | refine a_pick_t ?_ | refine a_pick_f ?_ | refine a_not ?_ | refine a_nilf ?_ | (refine a_bin ?_ ?_ <;> intro _ <;> try (exfalso; omega)) | refine a_ld hl ?_ | (refine a_st hl ?_; clear hl; intro _ hl) | refine a_ix (fun _ => ?_) | fail)
    refine o_nil (hK _ _ ?_)
    clear hK K
    refine wk_seq fun K hK => ?_
    refine wk_seq fun K2 hK2 => ?_
    refine wk_reg ?_
    repeat' (first | refine a_mov ?_ | refine a_asg ?_ | refine a_binN ?_ | refine a_notd ?_ | refine a_notb ?_ | refine a_nilc ?_ | refine a_fa ?_ | refine a_ext ?_ | refine a_lenv ?_ | refine a_lens ?_ | refine a_pick_t ?_ | refine a_pick_f ?_ | refine a_not ?_ | refine a_nilf ?_ | (refine a_bin ?_ ?_ <;> intro _ <;> try (exfalso; omega)) | refine a_ld hl ?_ | (refine a_st hl ?_; clear hl; intro _ hl) | refine a_ix (fun _ => ?_) | fail)
    refine o_nil (hK2 _ _ ?_)
    clear hK2 K2
    refine wk_cond_f rfl ?_
    refine wk_skip (hK _ _ ?_)
    clear hK K
    refine wk_seq fun K hK => ?_
    refine wk_reg ?_
    refine a_mov ?_
    refine a_mov ?_
    refine a_lens ?_
    refine o_build [.slice ta ts.length tc, .int .i64 0, .int .i64 (text.length : Int), .int .i64 0, .int .i64 0] rfl rfl ?_
    refine o_box (LH.start w2 (fun _ => False)) (rsL (.slice ta ts.length tc) 0 (text.length : Int) 0 0) rfl rfl rfl ?_
    intro rb w3 hrb hl3
    have hoff : toksL ts ≠ [] → Off (OneB rb) (.slice ta ts.length tc) := fun hne => off_new hsv (by decide) hne hrb
    have hT : TK w3 rb (.slice ta ts.length tc) ts := ⟨hsv.ext hl3.done, hoff, hlen⟩
    have hl : LH w (fun _ => False) w3 [rsB rb (.slice ta ts.length tc) ((0 : Nat) : Int) text.length 0 0, (b2, Obj.cells #[.int .i64 0, .string "".toByteArray, .int .i64 0, .slice none 0 0] 24 (0, 0))] := hl.join hl3
    clear hl3
    have hlt2 : b2 < w3.heap.size := hl.idlt (b := b2) (by simp)
    have hltr : rb < w3.heap.size := hl.idlt (b := rb) (by simp [rsB])
    refine a_asg ?_
    refine o_nil (hK _ _ ?_)
    clear hK K
    refine wk_seq fun K hK => ?_
    refine wk_reg ?_
    refine a_mov ?_
    refine a_fn (startR_calls (allR_calls (oneR_calls (en := text.length) ts.length)) w3 rb _ ts 0 hT hl.one (Nat.zero_le _) (by omega)) ?_
    rintro _ w5 ⟨s, kv, j, er, at_, rfl, hj, hj2, hl5, hk5, hcase⟩
    have hcase : (er = 0 ∧ at_ = 0 ∧ pStart text.length (ts.length + 1) ts = .ok s (ts.drop j)) ∨ (er ≠ 0 ∧ pStart text.length (ts.length + 1) ts = .bad er at_) := hcase
    have hT5 := hT.upd hl5.upd
    replace hl := hl.swap hl5
    obtain ⟨ka, kc, rfl, -⟩ := hk5.shape
    have hone := snL_one hk5
    have hsz : w3.heap.size ≤ w5.heap.size := hl5.upd.size
    refine o_alloc (LH.start w5 (fun _ => False)) [.int .i64 0, .string "".toByteArray, .int .i64 0, .slice none 0 0] (by kernel_rfl) rfl ?_
    intro b9 w6 hb9 hlb
    refine o_putN (us := snL s (.slice ka s.kids.length kc)) hlb rfl rfl rfl hone rfl (.here rfl rfl) ?_
    clear hlb
    intro w7 hlb
    have hl := (hl.join hlb).perm (List.Perm.swap _ _ _)
    have hT7 := hT5.upd (ext_upd hlb.done)
    have hk7 : KR w7 (fun b => w3.heap.size ≤ b ∧ b < w5.heap.size) s.kids (.slice ka s.kids.length kc) := KR.ext hk5 hlb.done
    have hs7 : w5.heap.size ≤ w7.heap.size := hlb.done.size
    clear hlb hl5 hk5 hT5 hT
    refine o_nil (hK _ _ ?_)
    clear hK K
    have hoffG : ∀ b, (w3.heap.size ≤ b ∧ b < w5.heap.size) → ¬ (b ∈ [rb, b9, b2]) := fun b hb hm => by
      simp only [List.mem_cons, List.not_mem_nil, or_false] at hm
      rcases hm with rfl | rfl | rfl <;> omega
    refine wk_seq fun K hK => ?_
    refine wk_cut [] (fun q : Int × Int => [(2, .pointer (some ⟨b2, 0, none⟩)), (8, .pointer (some ⟨rb, 0, none⟩)), (9, .pointer (some ⟨b9, 0, none⟩))]) (fun q w' => LH w (fun _ => False) w' [rsB rb (.slice ta ts.length tc) (j : Nat) text.length q.1 q.2, (b9, .cells (snL s (.slice ka s.kids.length kc)).toArray 24 (0, 0)), (b2, Obj.cells #[.int .i64 0, .string "".toByteArray, .int .i64 0, .slice none 0 0] 24 (0, 0))] ∧ KR w' (fun b => w3.heap.size ≤ b ∧ b < w5.heap.size) s.kids (.slice ka s.kids.length kc) ∧ ((q.1 ≠ 0 ∧ parse text = .inr (q.1, q.2)) ∨ (q.1 = 0 ∧ pStart text.length (ts.length + 1) ts = .ok s [])) ∧ w5.heap.size ≤ w'.heap.size) ?_ ?_
    · have hrr : Row w7 rb 0 (rsL (.slice ta ts.length tc) (j : Nat) text.length er at_) := hl.rowL (vs := rsL (.slice ta ts.length tc) (j : Nat) text.length er at_) 0 0 5 rfl
      refine wk_seq fun K2 hK2 => ?_
      refine wk_reg ?_
      rcases hcase with ⟨rfl, rfl, hr⟩ | ⟨hne, hr⟩
      · by_cases hlt : j < ts.length
        · repeat' (first | refine a_mov ?_ | refine a_asg ?_ | refine a_binN ?_ | refine a_notd ?_ | refine a_notb ?_ | refine a_nilc ?_ | refine a_fa ?_ | refine a_ext ?_ | refine a_lenv ?_ | refine a_lens ?_ | refine a_pick_t ?_ | refine a_pick_f ?_ | refine a_not ?_ | refine a_nilf ?_ | (refine a_bin ?_ ?_ <;> intro _ <;> try (exfalso; omega)) | refine a_ld hl ?_ | (refine a_st hl ?_; clear hl; intro _ hl) | refine a_ix (fun _ => ?_) | refine a_row hrr ?_ | fail)
          refine o_nil (hK2 _ _ ?_)
          clear hK2 K2
          refine wk_cond_t rfl ?_
          refine wk_reg ?_
          refine a_mov ?_
          refine a_fn (failR_calls hT7 hl.one hj2) ?_
          rintro v w8 hl8
          have hk8 := hk7.upd hl8.upd fun b hb hm => hoffG b hb (by rw [List.mem_singleton.1 hm]; simp)
          replace hl := hl.swap hl8
          refine o_nil ⟨(failE (ts.drop j), failA text.length (ts.drop j)), ⟨rfl, rfl, rfl, trivial⟩, rfl, hl, hk8, .inl ⟨failE_ne _, ?_⟩, Nat.le_trans hs7 hl8.upd.size⟩
          rw [hp]
          unfold parseT
          rw [hr]
          simp only
          rw [if_neg (fun h => by
            have := congrArg List.length h
            simp at this
            omega)]
        · obtain rfl : j = ts.length := by omega
          repeat' (first | refine a_mov ?_ | refine a_asg ?_ | refine a_binN ?_ | refine a_notd ?_ | refine a_notb ?_ | refine a_nilc ?_ | refine a_fa ?_ | refine a_ext ?_ | refine a_lenv ?_ | refine a_lens ?_ | refine a_pick_t ?_ | refine a_pick_f ?_ | refine a_not ?_ | refine a_nilf ?_ | (refine a_bin ?_ ?_ <;> intro _ <;> try (exfalso; omega)) | refine a_ld hl ?_ | (refine a_st hl ?_; clear hl; intro _ hl) | refine a_ix (fun _ => ?_) | refine a_row hrr ?_ | fail)
          refine o_nil (hK2 _ _ ?_)
          clear hK2 K2
          refine wk_cond_f rfl ?_
          refine wk_skip ⟨(0, 0), ⟨rfl, rfl, rfl, trivial⟩, rfl, hl, hk7, .inr ⟨rfl, ?_⟩, hs7⟩
          rw [hr, List.drop_length]
      · repeat' (first | refine a_mov ?_ | refine a_asg ?_ | refine a_binN ?_ | refine a_notd ?_ | refine a_notb ?_ | refine a_nilc ?_ | refine a_fa ?_ | refine a_ext ?_ | refine a_lenv ?_ | refine a_lens ?_ | refine a_pick_t ?_ | refine a_pick_f ?_ | refine a_not ?_ | refine a_nilf ?_ | (refine a_bin ?_ ?_ <;> intro _ <;> try (exfalso; omega)) | refine a_ld hl ?_ | (refine a_st hl ?_; clear hl; intro _ hl) | refine a_ix (fun _ => ?_) | refine a_row hrr ?_ | fail)
        refine o_nil (hK2 _ _ ?_)
        clear hK2 K2
        refine wk_cond_f rfl ?_
        refine wk_skip ⟨(er, at_), ⟨rfl, rfl, rfl, trivial⟩, rfl, hl, hk7, .inl ⟨hne, ?_⟩, hs7⟩
        rw [hp]
        unfold parseT
        rw [hr]
    clear hl hcase hT7 hk7 hs7
    rintro ⟨e1, a1⟩ t w7 ⟨hl, hk7, hcase, hs7⟩
    simp only at hl hcase
    refine hK _ _ ?_
    clear hK K
    have hrr : Row w7 rb 0 (rsL (.slice ta ts.length tc) (j : Nat) text.length e1 a1) := hl.rowL (vs := rsL (.slice ta ts.length tc) (j : Nat) text.length e1 a1) 0 0 5 rfl
    have hr9 : Row w7 b9 0 (snL s (.slice ka s.kids.length kc)) := hl.rowL (vs := snL s (.slice ka s.kids.length kc)) 1 0 4 rfl
    refine wk_seq fun K hK => ?_
    refine wk_seq fun K2 hK2 => ?_
    refine wk_reg ?_
    rcases hcase with ⟨hne, hpe⟩ | ⟨rfl, hr⟩
    · repeat' (first | refine a_mov ?_ | refine a_asg ?_ | refine a_binN ?_ | refine a_notd ?_ | refine a_notb ?_ | refine a_nilc ?_ | refine a_fa ?_ | refine a_ext ?_ | refine a_lenv ?_ | refine a_lens ?_ | refine a_pick_t ?_ | refine a_pick_f ?_ | refine a_not ?_ | refine a_nilf ?_ | (refine a_bin ?_ ?_ <;> intro _ <;> try (exfalso; omega)) | refine a_ld hl ?_ | (refine a_st hl ?_; clear hl; intro _ hl) | refine a_ix (fun _ => ?_) | refine a_row hrr ?_ | fail)
      refine o_nil (hK2 _ _ ?_)
      clear hK2 K2
      refine wk_cond_t rfl ?_
      refine wk_seq fun K2 hK2 => ?_
      refine wk_draw (List.range 9) [4, 8] [9, 10, 11] (fun w' => LH w (fun _ => False) w' [rsB rb (.slice ta ts.length tc) (j : Nat) text.length e1 a1, (b9, .cells (snL s (.slice ka s.kids.length kc)).toArray 24 (0, 0)), (b2, Obj.cells #[.int .i64 0, .string "".toByteArray, .int .i64 0, .slice none 0 0] 24 (0, 0))]) (fun w' => Row w' rb 0 (rsL (.slice ta ts.length tc) (j : Nat) text.length e1 a1)) rfl (by kernel_rfl) (fun _ _ _ _ h => by first | exact h | (simp only [BlockK, NoGoto, RetQ] at h)) (fun w' h => hl.heap h) (fun w' h => h.rowL (vs := rsL (.slice ta ts.length tc) (j : Nat) text.length e1 a1) 0 0 5 rfl) ?_
      refine q_pur rfl rfl rfl (fun _ => r_build [.int .i64 0, .string ⟨#[]⟩, .int .i64 0, .slice none 0 0] rfl) ?_
      repeat' (first | refine q_mov ?_ | refine q_asg ?_ | refine q_fa ?_ | refine q_ext ?_ | refine q_binN ?_ | refine q_notd ?_ | refine q_notb ?_ | refine q_pick_t ?_ | refine q_pick_f ?_ | refine q_nilc ?_ | refine q_skip ?_ | refine q_lens ?_ | refine q_lenv ?_ | refine q_nil ?_ | refine q_ix (fun _ => ?_) | (refine q_bin ?_ ?_ <;> intro _ <;> try (exfalso; omega)) | refine q_late rfl rfl rfl rfl (fun w' hw' => r_load rfl rfl (hw' 3 _ rfl)) ?_ | refine q_late rfl rfl rfl rfl (fun w' hw' => r_load rfl rfl (hw' 4 _ rfl)) ?_ | fail)
      clear hl hrr
      intro w8 hl
      refine ops_tail rfl rfl ?_
      refine o_putN (us := [.int .i64 0, .string ⟨#[]⟩, .int .i64 0, .slice none 0 0]) hl rfl rfl rfl rfl rfl (.there (.there (.here rfl rfl))) ?_
      clear hl
      intro w9 hl
      have hrr : Row w9 rb 0 (rsL (.slice ta ts.length tc) (j : Nat) text.length e1 a1) := hl.rowL (vs := rsL (.slice ta ts.length tc) (j : Nat) text.length e1 a1) 0 0 5 rfl
      refine o_nil ⟨hrr, ?_⟩
      refine ops_tail rfl rfl ?_
      refine a_asg ?_
      refine o_nil ⟨hrr, ?_⟩
      refine ops_tail rfl rfl ?_
      refine a_asg ?_
      refine o_nil ⟨hrr, ?_⟩
      refine ops_nil (hK2 _ _ ?_)
      refine wk_ret (retQ_res [.agg (snL nilS (.slice none 0 0)).toArray, .int .i64 e1, .int .i64 a1] rfl rfl ⟨by decide, ⟨⟨b2, 0, none⟩, rfl, run_loadVarN rfl rfl (hl.rowL (vs := snL nilS (.slice none 0 0)) 2 0 4 (by simp only [nilS, snL, Sn.op, Sn.name, Sn.day, str_nil]; rfl))⟩, by decide, rfl, by decide, rfl, trivial⟩ ?_)
      rw [hpe]
      exact ⟨_, rfl, KA.nil _, hl.done⟩
    · repeat' (first | refine a_mov ?_ | refine a_asg ?_ | refine a_binN ?_ | refine a_notd ?_ | refine a_notb ?_ | refine a_nilc ?_ | refine a_fa ?_ | refine a_ext ?_ | refine a_lenv ?_ | refine a_lens ?_ | refine a_pick_t ?_ | refine a_pick_f ?_ | refine a_not ?_ | refine a_nilf ?_ | (refine a_bin ?_ ?_ <;> intro _ <;> try (exfalso; omega)) | refine a_ld hl ?_ | (refine a_st hl ?_; clear hl; intro _ hl) | refine a_ix (fun _ => ?_) | refine a_row hrr ?_ | fail)
      refine o_nil (hK2 _ _ ?_)
      clear hK2 K2
      refine wk_cond_f rfl ?_
      refine wk_skip (hK _ _ ?_)
      clear hK K
      have hgood := pStart_good _ _ _ _ _ htok hlen hr
      have hdep : dep s ≤ 1000000 := by
        have := pStart_dep _ _ _ _ _ hr
        omega
      have hpv : parse text = if validB s then .inl s else .inr (2, 0) := by
        rw [hp]
        unfold parseT
        rw [hr]
        simp only [if_true]
      have hve : validB s = (decide (cnt s ≤ 200) && decide (dep s ≤ 20)) := by
        unfold validB
        rw [Bool.eq_iff_iff]
        simp only [decide_eq_true_eq, Bool.and_eq_true]
        unfold Valid Proper
        constructor
        · rintro ⟨h1, h2, h3⟩; exact ⟨by omega, h2⟩
        · rintro ⟨h1, h2⟩; exact ⟨by omega, h2, hgood.2.1⟩
      have hka : KA w7 s.kids (.slice ka s.kids.length kc) := hk7.mono fun b hb => Nat.lt_of_lt_of_le hb.2 hs7
      refine wk_seq fun K hK => ?_
      refine wk_seq fun K2 hK2 => ?_
      refine wk_cut [] (fun _ : Unit => [(2, .pointer (some ⟨b2, 0, none⟩)), (9, .pointer (some ⟨b9, 0, none⟩)), (65, .bool (!validB s))]) (fun _ w' => Ext w7 w') ?_ ?_
      · refine wk_reg ?_
        refine a_all hr9 ?_
        refine a_fn (size_calls s w7 (.slice ka s.kids.length kc) hdep ((fitS_eq s).1 hgood.1).2.1 hgood.1 hka) ?_
        rintro _ w8 ⟨c, rfl, h1, h2, h3, h4, hx8⟩
        by_cases hc : c ≤ 200
        · have hc2 : cnt s ≤ 200 := by have := h3 hc; omega
          rw [decide_eq_true hc2, Bool.true_and] at hve
          repeat' (first | refine a_mov ?_ | refine a_asg ?_ | refine a_binN ?_ | refine a_notd ?_ | refine a_notb ?_ | refine a_nilc ?_ | refine a_fa ?_ | refine a_ext ?_ | refine a_lenv ?_ | refine a_lens ?_ | refine a_pick_t ?_ | refine a_pick_f ?_ | refine a_not ?_ | refine a_nilf ?_ | (refine a_bin ?_ ?_ <;> intro _ <;> try (exfalso; omega)) | refine a_ld hl ?_ | (refine a_st hl ?_; clear hl; intro _ hl) | refine a_ix (fun _ => ?_) | fail)
          refine a_all (hr9.ext hx8) ?_
          refine a_fn (depth_calls s w8 (.slice ka s.kids.length kc) hdep hgood.1 (KA.ext hka hx8)) ?_
          rintro _ w9 ⟨rfl, hx9⟩
          rw [hve]
          by_cases hd : dep s ≤ 20
          · rw [decide_eq_true hd]
            repeat' (first | refine a_mov ?_ | refine a_asg ?_ | refine a_binN ?_ | refine a_notd ?_ | refine a_notb ?_ | refine a_nilc ?_ | refine a_fa ?_ | refine a_ext ?_ | refine a_lenv ?_ | refine a_lens ?_ | refine a_pick_t ?_ | refine a_pick_f ?_ | refine a_not ?_ | refine a_nilf ?_ | (refine a_bin ?_ ?_ <;> intro _ <;> try (exfalso; omega)) | refine a_ld hl ?_ | (refine a_st hl ?_; clear hl; intro _ hl) | refine a_ix (fun _ => ?_) | fail)
            exact o_nil ⟨(), ⟨rfl, rfl, rfl, trivial⟩, rfl, hx8.trans hx9⟩
          · rw [decide_eq_false hd]
            repeat' (first | refine a_mov ?_ | refine a_asg ?_ | refine a_binN ?_ | refine a_notd ?_ | refine a_notb ?_ | refine a_nilc ?_ | refine a_fa ?_ | refine a_ext ?_ | refine a_lenv ?_ | refine a_lens ?_ | refine a_pick_t ?_ | refine a_pick_f ?_ | refine a_not ?_ | refine a_nilf ?_ | (refine a_bin ?_ ?_ <;> intro _ <;> try (exfalso; omega)) | refine a_ld hl ?_ | (refine a_st hl ?_; clear hl; intro _ hl) | refine a_ix (fun _ => ?_) | fail)
            exact o_nil ⟨(), ⟨rfl, rfl, rfl, trivial⟩, rfl, hx8.trans hx9⟩
        · have hc2 : ¬ cnt s ≤ 200 := by have := h4 (by omega); omega
          rw [decide_eq_false hc2, Bool.false_and] at hve
          rw [hve]
          repeat' (first | refine a_mov ?_ | refine a_asg ?_ | refine a_binN ?_ | refine a_notd ?_ | refine a_notb ?_ | refine a_nilc ?_ | refine a_fa ?_ | refine a_ext ?_ | refine a_lenv ?_ | refine a_lens ?_ | refine a_pick_t ?_ | refine a_pick_f ?_ | refine a_not ?_ | refine a_nilf ?_ | (refine a_bin ?_ ?_ <;> intro _ <;> try (exfalso; omega)) | refine a_ld hl ?_ | (refine a_st hl ?_; clear hl; intro _ hl) | refine a_ix (fun _ => ?_) | fail)
          exact o_nil ⟨(), ⟨rfl, rfl, rfl, trivial⟩, rfl, hx8⟩
      rintro _ t w8 hx8
      replace hl := hl.ext hx8
      have hk8 := KR.ext hk7 hx8
      refine hK2 _ _ ?_
      clear hK2 K2 hrr hr9 hka
      cases hv : validB s
      · rw [hv, if_neg (by decide)] at hpv
        refine wk_cond_t rfl ?_
        refine wk_seq fun K2 hK2 => ?_
        refine wk_reg ?_
        refine o_build [.int .i64 0, .string ⟨#[]⟩, .int .i64 0, .slice none 0 0] rfl rfl ?_
        refine o_putN (us := [.int .i64 0, .string ⟨#[]⟩, .int .i64 0, .slice none 0 0]) hl rfl rfl rfl rfl rfl (.there (.there (.here rfl rfl))) ?_
        clear hl
        intro w9 hl
        refine a_asg ?_
        refine a_asg ?_
        refine o_nil (hK2 _ _ ?_)
        refine wk_ret (retQ_res [.agg (snL nilS (.slice none 0 0)).toArray, .int .i64 2, .int .i64 0] rfl rfl ⟨by decide, ⟨⟨b2, 0, none⟩, rfl, run_loadVarN rfl rfl (hl.rowL (vs := snL nilS (.slice none 0 0)) 2 0 4 (by simp only [nilS, snL, Sn.op, Sn.name, Sn.day, str_nil]; rfl))⟩, by decide, rfl, by decide, rfl, trivial⟩ ?_)
        rw [hpv]
        exact ⟨_, rfl, KA.nil _, hl.done⟩
      · rw [hv, if_pos rfl] at hpv
        refine wk_cond_f rfl ?_
        refine wk_skip (hK _ _ ?_)
        clear hK K
        refine wk_seq fun K hK => ?_
        refine wk_reg ?_
        refine a_all (hl.rowL (vs := snL s (.slice ka s.kids.length kc)) 1 0 4 rfl) ?_
        refine o_putN (us := snL s (.slice ka s.kids.length kc)) hl.rb rfl rfl rfl hone rfl (.there (.there (.here rfl rfl))) ?_
        intro w9 hl9
        have hk9 := hk8.upd hl9.upd hoffG
        have hs9 := Nat.le_trans (Nat.le_trans hs7 hx8.size) hl9.upd.size
        replace hl := hl.bk hl9
        refine a_asg ?_
        refine a_asg ?_
        refine o_nil (hK _ _ ?_)
        refine wk_ret (retQ_res [.agg (snL s (.slice ka s.kids.length kc)).toArray, .int .i64 0, .int .i64 0] rfl rfl ⟨by decide, ⟨⟨b2, 0, none⟩, rfl, run_loadVarN rfl rfl (hl.rowL (vs := snL s (.slice ka s.kids.length kc)) 2 0 4 rfl)⟩, by decide, rfl, by decide, rfl, trivial⟩ ?_)
        rw [hpv]
        exact ⟨_, rfl, hk9.mono fun b hb => Nat.lt_of_lt_of_le hb.2 hs9, hl.done⟩
end Go.Proofs
