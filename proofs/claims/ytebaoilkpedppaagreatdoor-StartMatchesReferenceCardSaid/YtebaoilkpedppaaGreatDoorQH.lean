/-
  The reference's next.
-/
import Derived.Test.YtebaoilkpedppaaGreatDoorQLD
import Derived.Test.YtebaoilkpedppaaGreatDoorQG
import Derived.Test.YtebaoilkpedppaaGreatDoorQLB
set_option linter.unusedVariables false
set_option linter.unusedSimpArgs false
set_option linter.unnecessarySimpa false
set_option maxRecDepth 10000
namespace Go.Proofs
open Go Go.Pd Go.Lexs
attribute [local irreducible] OpsL W RetQ OpsQ OpsC

theorem value_snoc2 (s : List UInt8) (c : UInt8) : value (s ++ [c]) = 10 * value s + (c.toNat - 48) := by
  simp [value, List.foldl_append]

theorem value_lt (s : List UInt8) (hs : ∀ c ∈ s, isDigit c = true) : ∀ k, k ≤ s.length → value (s.take k) < 10 ^ k
  | 0, _ => by simp [value]
  | k + 1, h => by
    rw [List.take_succ_eq_append_getElem h, value_snoc2]
    have h1 := value_lt s hs k (by omega)
    have h2 := (isDigit_iff _).1 (hs s[k] (List.getElem_mem _))
    rw [Nat.pow_succ]
    omega

theorem span_all2 (p : UInt8 → Bool) : ∀ (s : List UInt8), ∀ c ∈ s.take (spanLen p s), p c = true
  | [], c, h => by simp at h
  | a :: s, c, h => by
    simp only [spanLen] at h
    split at h
    · rename_i ha
      rw [List.take_succ_cons] at h
      rcases List.mem_cons.1 h with rfl | h
      · exact ha
      · exact span_all2 p s c h
    · simp at h

theorem cls3 (c : UInt8) : cls c = 3 ↔ isLetter c = true := by
  constructor
  · intro h
    unfold cls at h
    split at h
    · assumption
    · repeat (split at h; · cases h)
      cases h
  · intro h; simp [cls, h]

theorem cls4 (c : UInt8) : cls c = 4 ↔ isDigit c = true := by
  constructor
  · intro h
    unfold cls at h
    split at h
    · cases h
    · split at h
      · assumption
      · repeat (split at h; · cases h)
        cases h
  · intro h
    have : isLetter c = false := by rw [isLetter_iff_f]; rw [isDigit_iff] at h; omega
    simp [cls, h, this]

theorem sym_tab : ((List.range 256).all fun n => (([33, 60, 62] : List UInt8).contains n.toUInt8, ([59, 44, 46, 58, 40, 41, 91, 93, 123, 125, 61, 60, 62] : List UInt8).contains n.toUInt8) ==
    (cls n.toUInt8 == 7 || cls n.toUInt8 == 8, cls n.toUInt8 == 6 || cls n.toUInt8 == 7)) = true := by decide +kernel

theorem sym_cls (c : UInt8) : ([33, 60, 62] : List UInt8).contains c = (cls c == 7 || cls c == 8) ∧ ([59, 44, 46, 58, 40, 41, 91, 93, 123, 125, 61, 60, 62] : List UInt8).contains c = (cls c == 6 || cls c == 7) := by
  have h := List.all_eq_true.1 sym_tab c.toNat (List.mem_range.2 c.toNat_lt)
  have e : c.toNat.toUInt8 = c := by simp
  rw [e] at h
  simpa using h

def tokV (k : Nat) (t : List UInt8) (n p : Nat) : List Value := [.int .i64 (k : Int), str t, .int .i64 (n : Int), .int .i64 (p : Int)]

def nextV (s : List UInt8) (i : Nat) : Value :=
  if (one (s.drop i)).err = 0 then .tuple #[.agg (tokV (one (s.drop i)).kind ((s.drop i).take (one (s.drop i)).len) (one (s.drop i)).num i).toArray, .int .i64 0]
  else .tuple #[.agg #[.int .i64 0, .string ⟨#[]⟩, .int .i64 0, .int .i64 0], .int .i64 ((one (s.drop i)).err : Int)]

set_option maxHeartbeats 4000000 in
theorem next_calls (s : List UInt8) (i : Nat) (hn : s.length ≤ 20000) (hi : i < s.length) (h1 : cls s[i] ≠ 1) (h2 : cls s[i] ≠ 2) (w : World) :
    Calls Tryz.prog 70 #[str s, .int .i64 (i : Int)] w (fun e w' => ∃ v, e = .returned v ∧ v = nextV s i ∧ Ext w w') := by
  refine calls_of Tryz.func70 rfl Tryz.ntmps70 rfl ?_
  repeat' (first | refine a_mov ?_ | refine a_asg ?_ | refine a_binN ?_ | refine a_notd ?_ | refine a_notb ?_ | refine a_nilc ?_ | refine a_fa ?_ | refine a_ext ?_ | refine a_lenv ?_ | refine a_lens ?_ | refine a_pick_t ?_ | refine a_pick_f ?_ | refine a_not ?_ | refine a_nilf ?_ | (refine o_nil (hK _ _ ?_); clear hK K) | refine wk_reg ?_ | refine wk_seq fun K hK => ?_ | (refine wk_skip (hK _ _ ?_); clear hK K) | (refine wk_label (hK _ _ ?_); clear hK K) | refine wk_scope ?_ | refine wk_block ?_ | refine wk_cond_t rfl ?_ | refine wk_cond_f rfl ?_ | (refine wk_exit ?_; (repeat (refine blockK_other rfl ?_)); refine blockK_same ?_; try ((repeat ((fail_if_success (refine hK _ _ ?_)); clear hK K)); refine hK _ _ ?_; clear hK K)) | (refine a_bin ?_ ?_ <;> intro _))
  refine o_alloc (LH.start w (fun _ => False)) [.int .i64 0, .string ⟨#[]⟩, .int .i64 0, .int .i64 0] rfl rfl ?_
  intro r w1 hr hl
  repeat' (first | refine a_mov ?_ | refine a_asg ?_ | refine a_binN ?_ | refine a_notd ?_ | refine a_notb ?_ | refine a_nilc ?_ | refine a_fa ?_ | refine a_ext ?_ | refine a_lenv ?_ | refine a_lens ?_ | refine a_pick_t ?_ | refine a_pick_f ?_ | refine a_not ?_ | refine a_nilf ?_ | (refine o_nil (hK _ _ ?_); clear hK K) | refine wk_reg ?_ | refine wk_seq fun K hK => ?_ | (refine wk_skip (hK _ _ ?_); clear hK K) | (refine wk_label (hK _ _ ?_); clear hK K) | refine wk_scope ?_ | refine wk_block ?_ | refine wk_cond_t rfl ?_ | refine wk_cond_f rfl ?_ | (refine wk_exit ?_; (repeat (refine blockK_other rfl ?_)); refine blockK_same ?_; try ((repeat ((fail_if_success (refine hK _ _ ?_)); clear hK K)); refine hK _ _ ?_; clear hK K)) | (refine a_bin ?_ ?_ <;> intro _))
  refine o_build (t := 88) [.int .i64 0, .string ⟨#[]⟩, .int .i64 0, .int .i64 (i : Int)] rfl rfl ?_
  refine o_alloc hl [.int .i64 0, .string ⟨#[]⟩, .int .i64 0, .int .i64 0] rfl rfl ?_
  clear hl
  intro b w2 hb hl
  refine o_store hl 0 [.int .i64 0, .string ⟨#[]⟩, .int .i64 0, .int .i64 (i : Int)] rfl rfl rfl rfl rfl (by simp) rfl ?_
  clear hl
  intro w3 hl
  have hl : LH w (fun _ => False) w3 [(b, .cells #[.int .i64 0, .string ⟨#[]⟩, .int .i64 0, .int .i64 (i : Int)] 88 (0, 0)), (r, .cells #[.int .i64 0, .string ⟨#[]⟩, .int .i64 0, .int .i64 0] 88 (0, 0))] := hl
  repeat' (first | refine a_mov ?_ | refine a_asg ?_ | refine a_binN ?_ | refine a_notd ?_ | refine a_notb ?_ | refine a_nilc ?_ | refine a_fa ?_ | refine a_ext ?_ | refine a_lenv ?_ | refine a_lens ?_ | refine a_pick_t ?_ | refine a_pick_f ?_ | refine a_not ?_ | refine a_nilf ?_ | (refine o_nil (hK _ _ ?_); clear hK K) | refine wk_reg ?_ | refine wk_seq fun K hK => ?_ | (refine wk_skip (hK _ _ ?_); clear hK K) | (refine wk_label (hK _ _ ?_); clear hK K) | refine wk_scope ?_ | refine wk_block ?_ | refine wk_cond_t rfl ?_ | refine wk_cond_f rfl ?_ | (refine wk_exit ?_; (repeat (refine blockK_other rfl ?_)); refine blockK_same ?_; try ((repeat ((fail_if_success (refine hK _ _ ?_)); clear hK K)); refine hK _ _ ?_; clear hK K)) | (refine a_bin ?_ ?_ <;> intro _))
  refine o_index (c := s[i]) i rfl rfl rfl rfl rfl (by simp [hi]) ?_
  repeat (first | refine o_mov rfl (by conv => lhs; whnf) ?_ | refine o_asg rfl (by conv => lhs; whnf) ?_ | refine o_binC rfl rfl rfl rfl ?_ | refine o_binN rfl rfl rfl rfl (by omega) ?_ | refine o_notd rfl rfl ?_ | refine o_notb rfl rfl ?_ | refine o_nilc rfl rfl ?_ | refine o_fa rfl rfl rfl ?_ | refine o_ext rfl rfl (by conv => lhs; whnf) ?_ | refine o_lenv rfl rfl rfl ?_ | refine o_lens rfl rfl rfl ?_ | refine o_eqs rfl rfl rfl ?_ | refine o_nes rfl rfl rfl ?_ | refine o_pick_t rfl rfl (by conv => lhs; whnf) ?_ | refine o_pick_f rfl rfl (by conv => lhs; whnf) ?_ | refine o_not rfl ?_ | refine o_nilf rfl rfl ?_)
  (refine o_nil (hK _ _ ?_); clear hK K)
  refine wk_seq fun K hK => ?_
  have hdr : s.drop i = s[i] :: s.drop (i + 1) := List.drop_eq_getElem_cons hi
  have hhd : hd (s.drop i) = cls s[i] := by rw [hdr]; rfl
  refine wk_cut [] (fun _ : Unit => [(0, str s), (1, .int .i64 (i : Int)), (4, .pointer (some ⟨r, 0, none⟩)), (5, .int .i64 0), (6, .int .i64 ((i + (one (s.drop i)).len : Nat) : Int)), (7, .pointer (some ⟨b, 0, none⟩))])
    (fun _ w' => (one (s.drop i)).err = 0 ∧ LH w (fun _ => False) w' [(b, .cells #[.int .i64 ((one (s.drop i)).kind : Int), .string ⟨#[]⟩, .int .i64 ((one (s.drop i)).num : Int), .int .i64 (i : Int)] 88 (0, 0)), (r, .cells #[.int .i64 0, .string ⟨#[]⟩, .int .i64 0, .int .i64 0] 88 (0, 0))]) ?_ ?_
  · repeat' (first | refine a_mov ?_ | refine a_asg ?_ | refine a_binN ?_ | refine a_notd ?_ | refine a_notb ?_ | refine a_nilc ?_ | refine a_fa ?_ | refine a_ext ?_ | refine a_lenv ?_ | refine a_lens ?_ | refine a_pick_t ?_ | refine a_pick_f ?_ | refine a_not ?_ | refine a_nilf ?_ | (refine o_nil (hK _ _ ?_); clear hK K) | refine wk_reg ?_ | refine wk_seq fun K hK => ?_ | (refine wk_skip (hK _ _ ?_); clear hK K) | (refine wk_label (hK _ _ ?_); clear hK K) | refine wk_scope ?_ | refine wk_block ?_ | refine wk_cond_t rfl ?_ | refine wk_cond_f rfl ?_ | (refine wk_exit ?_; (repeat (refine blockK_other rfl ?_)); refine blockK_same ?_; try ((repeat ((fail_if_success (refine hK _ _ ?_)); clear hK K)); refine hK _ _ ?_; clear hK K)) | (refine a_bin ?_ ?_ <;> intro _))
    refine o_fn (letter_calls s[i] _) rfl (fun _ => rfl) rfl ?_
    rintro _ w4 ⟨rfl, rfl⟩
    cases h3 : isLetter s[i]
    · repeat' (first | refine a_mov ?_ | refine a_asg ?_ | refine a_binN ?_ | refine a_notd ?_ | refine a_notb ?_ | refine a_nilc ?_ | refine a_fa ?_ | refine a_ext ?_ | refine a_lenv ?_ | refine a_lens ?_ | refine a_pick_t ?_ | refine a_pick_f ?_ | refine a_not ?_ | refine a_nilf ?_ | (refine o_nil (hK _ _ ?_); clear hK K) | refine wk_reg ?_ | refine wk_seq fun K hK => ?_ | (refine wk_skip (hK _ _ ?_); clear hK K) | (refine wk_label (hK _ _ ?_); clear hK K) | refine wk_scope ?_ | refine wk_block ?_ | refine wk_cond_t rfl ?_ | refine wk_cond_f rfl ?_ | (refine wk_exit ?_; (repeat (refine blockK_other rfl ?_)); refine blockK_same ?_; try ((repeat ((fail_if_success (refine hK _ _ ?_)); clear hK K)); refine hK _ _ ?_; clear hK K)) | (refine a_bin ?_ ?_ <;> intro _))
      refine o_fn (digit_calls s[i] _) rfl (fun _ => rfl) rfl ?_
      rintro _ w5 ⟨rfl, rfl⟩
      cases h4 : isDigit s[i]
      · -- a symbol, or a bad byte
        repeat' (first | refine a_mov ?_ | refine a_asg ?_ | refine a_binN ?_ | refine a_notd ?_ | refine a_notb ?_ | refine a_nilc ?_ | refine a_fa ?_ | refine a_ext ?_ | refine a_lenv ?_ | refine a_lens ?_ | refine a_pick_t ?_ | refine a_pick_f ?_ | refine a_not ?_ | refine a_nilf ?_ | (refine o_nil (hK _ _ ?_); clear hK K) | refine wk_reg ?_ | refine wk_seq fun K hK => ?_ | (refine wk_skip (hK _ _ ?_); clear hK K) | (refine wk_label (hK _ _ ?_); clear hK K) | refine wk_scope ?_ | refine wk_block ?_ | refine wk_cond_t rfl ?_ | refine wk_cond_f rfl ?_ | (refine wk_exit ?_; (repeat (refine blockK_other rfl ?_)); refine blockK_same ?_; try ((repeat ((fail_if_success (refine hK _ _ ?_)); clear hK K)); refine hK _ _ ?_; clear hK K)) | (refine a_bin ?_ ?_ <;> intro _))
        refine o_store hl 0 [.int .i64 3] rfl rfl rfl rfl rfl (by simp) rfl ?_
        clear hl
        intro w5 hl
        have hl : LH w (fun _ => False) w5 [(b, .cells #[.int .i64 3, .string ⟨#[]⟩, .int .i64 0, .int .i64 (i : Int)] 88 (0, 0)), (r, .cells #[.int .i64 0, .string ⟨#[]⟩, .int .i64 0, .int .i64 0] 88 (0, 0))] := hl
        repeat' (first | refine a_mov ?_ | refine a_asg ?_ | refine a_binN ?_ | refine a_notd ?_ | refine a_notb ?_ | refine a_nilc ?_ | refine a_fa ?_ | refine a_ext ?_ | refine a_lenv ?_ | refine a_lens ?_ | refine a_pick_t ?_ | refine a_pick_f ?_ | refine a_not ?_ | refine a_nilf ?_ | (refine o_nil (hK _ _ ?_); clear hK K) | refine wk_reg ?_ | refine wk_seq fun K hK => ?_ | (refine wk_skip (hK _ _ ?_); clear hK K) | (refine wk_label (hK _ _ ?_); clear hK K) | refine wk_scope ?_ | refine wk_block ?_ | refine wk_cond_t rfl ?_ | refine wk_cond_f rfl ?_ | (refine wk_exit ?_; (repeat (refine blockK_other rfl ?_)); refine blockK_same ?_; try ((repeat ((fail_if_success (refine hK _ _ ?_)); clear hK K)); refine hK _ _ ?_; clear hK K)) | (refine a_bin ?_ ?_ <;> intro _))
        refine o_fn (has_calls [33, 60, 62] s[i] (by simp) _) rfl (fun _ => rfl) (by simp only [str_eq]; rfl) ?_
        rintro _ w6 ⟨rfl, rfl⟩
        have hsy := sym_cls s[i]
        have h61 : (s.drop i)[1]? = s[i + 1]? := by rw [List.getElem?_drop]
        have hn3 : cls s[i] ≠ 3 := fun h => by rw [cls3, h3] at h; cases h
        have hn4 : cls s[i] ≠ 4 := fun h => by rw [cls4, h4] at h; cases h
        cases hb1 : ([33, 60, 62] : List UInt8).contains s[i]
        · rw [hsy.1] at hb1
          simp only [Bool.or_eq_false_iff, beq_eq_false_iff_ne] at hb1
          repeat' (first | refine a_mov ?_ | refine a_asg ?_ | refine a_binN ?_ | refine a_notd ?_ | refine a_notb ?_ | refine a_nilc ?_ | refine a_fa ?_ | refine a_ext ?_ | refine a_lenv ?_ | refine a_lens ?_ | refine a_pick_t ?_ | refine a_pick_f ?_ | refine a_not ?_ | refine a_nilf ?_ | (refine o_nil (hK _ _ ?_); clear hK K) | refine wk_reg ?_ | refine wk_seq fun K hK => ?_ | (refine wk_skip (hK _ _ ?_); clear hK K) | (refine wk_label (hK _ _ ?_); clear hK K) | refine wk_scope ?_ | refine wk_block ?_ | refine wk_cond_t rfl ?_ | refine wk_cond_f rfl ?_ | (refine wk_exit ?_; (repeat (refine blockK_other rfl ?_)); refine blockK_same ?_; try ((repeat ((fail_if_success (refine hK _ _ ?_)); clear hK K)); refine hK _ _ ?_; clear hK K)) | (refine a_bin ?_ ?_ <;> intro _))
          refine o_fn (has_calls [59, 44, 46, 58, 40, 41, 91, 93, 123, 125, 61, 60, 62] s[i] (by simp) _) rfl (fun _ => rfl) (by simp only [str_eq]; rfl) ?_
          rintro _ w7 ⟨rfl, rfl⟩
          cases hb2 : ([59, 44, 46, 58, 40, 41, 91, 93, 123, 125, 61, 60, 62] : List UInt8).contains s[i]
          · rw [hsy.2] at hb2
            simp only [Bool.or_eq_false_iff, beq_eq_false_iff_ne] at hb2
            have ho : one (s.drop i) = ⟨0, 0, 0, 3⟩ := by
              unfold one; rw [hhd]; split <;> first | rfl | (exfalso; omega)
            repeat' (first | refine a_mov ?_ | refine a_asg ?_ | refine a_binN ?_ | refine a_notd ?_ | refine a_notb ?_ | refine a_nilc ?_ | refine a_fa ?_ | refine a_ext ?_ | refine a_lenv ?_ | refine a_lens ?_ | refine a_pick_t ?_ | refine a_pick_f ?_ | refine a_not ?_ | refine a_nilf ?_ | (refine o_nil (hK _ _ ?_); clear hK K) | refine wk_reg ?_ | refine wk_seq fun K hK => ?_ | (refine wk_skip (hK _ _ ?_); clear hK K) | (refine wk_label (hK _ _ ?_); clear hK K) | refine wk_scope ?_ | refine wk_block ?_ | refine wk_cond_t rfl ?_ | refine wk_cond_f rfl ?_ | (refine wk_exit ?_; (repeat (refine blockK_other rfl ?_)); refine blockK_same ?_; try ((repeat ((fail_if_success (refine hK _ _ ?_)); clear hK K)); refine hK _ _ ?_; clear hK K)) | (refine a_bin ?_ ?_ <;> intro _))
            refine o_build (t := 88) [.int .i64 0, .string ⟨#[]⟩, .int .i64 0, .int .i64 0] rfl rfl ?_
            refine o_store hl 1 [.int .i64 0, .string ⟨#[]⟩, .int .i64 0, .int .i64 0] rfl rfl rfl rfl rfl (by simp) rfl ?_
            intro we hle
            repeat' (first | refine a_mov ?_ | refine a_asg ?_ | refine a_binN ?_ | refine a_notd ?_ | refine a_notb ?_ | refine a_nilc ?_ | refine a_fa ?_ | refine a_ext ?_ | refine a_lenv ?_ | refine a_lens ?_ | refine a_pick_t ?_ | refine a_pick_f ?_ | refine a_not ?_ | refine a_nilf ?_ | (refine o_nil (hK _ _ ?_); clear hK K) | refine wk_reg ?_ | refine wk_seq fun K hK => ?_ | (refine wk_skip (hK _ _ ?_); clear hK K) | (refine wk_label (hK _ _ ?_); clear hK K) | refine wk_scope ?_ | refine wk_block ?_ | refine wk_cond_t rfl ?_ | refine wk_cond_f rfl ?_ | (refine wk_exit ?_; (repeat (refine blockK_other rfl ?_)); refine blockK_same ?_; try ((repeat ((fail_if_success (refine hK _ _ ?_)); clear hK K)); refine hK _ _ ?_; clear hK K)) | (refine a_bin ?_ ?_ <;> intro _))
            refine wk_ret (retQ_res [.agg #[.int .i64 0, .string ⟨#[]⟩, .int .i64 0, .int .i64 0], .int .i64 3] rfl rfl ⟨by decide, ⟨⟨r, 0, none⟩, rfl, run_loadVarN (vs := [.int .i64 0, .string ⟨#[]⟩, .int .i64 0, .int .i64 0]) rfl rfl (hle.rowL (vs := [.int .i64 0, .string ⟨#[]⟩, .int .i64 0, .int .i64 0]) 1 0 4 rfl)⟩, by decide, rfl, trivial⟩ ⟨?_, hle.done⟩)
            unfold nextV
            rw [ho]
            rfl
          · rw [hsy.2] at hb2
            simp only [Bool.or_eq_true, beq_iff_eq] at hb2
            have ho : one (s.drop i) = ⟨3, 1, 0, 0⟩ := by
              simp only [one, hhd, hb2.resolve_right hb1.1]
            repeat' (first | refine a_mov ?_ | refine a_asg ?_ | refine a_binN ?_ | refine a_notd ?_ | refine a_notb ?_ | refine a_nilc ?_ | refine a_fa ?_ | refine a_ext ?_ | refine a_lenv ?_ | refine a_lens ?_ | refine a_pick_t ?_ | refine a_pick_f ?_ | refine a_not ?_ | refine a_nilf ?_ | (refine o_nil (hK _ _ ?_); clear hK K) | refine wk_reg ?_ | refine wk_seq fun K hK => ?_ | (refine wk_skip (hK _ _ ?_); clear hK K) | (refine wk_label (hK _ _ ?_); clear hK K) | refine wk_scope ?_ | refine wk_block ?_ | refine wk_cond_t rfl ?_ | refine wk_cond_f rfl ?_ | (refine wk_exit ?_; (repeat (refine blockK_other rfl ?_)); refine blockK_same ?_; try ((repeat ((fail_if_success (refine hK _ _ ?_)); clear hK K)); refine hK _ _ ?_; clear hK K)) | (refine a_bin ?_ ?_ <;> intro _))
            refine wk_skip ⟨(), ?_, rfl, by rw [ho], ?_⟩
            · rw [ho]; refine ⟨rfl, rfl, rfl, rfl, ?_, rfl, trivial⟩
              show Value.int _ _ = Value.int _ _
              congr 1 <;> (simp only; omega)
            · rw [ho]; exact hl

        · rw [hsy.1] at hb1
          simp only [Bool.or_eq_true, beq_iff_eq] at hb1
          have ho2 : s[i + 1]? = some 61 → one (s.drop i) = ⟨3, 2, 0, 0⟩ := fun h => by
            rcases hb1 with hb1 | hb1 <;> simp only [one, hhd, hb1, h61, h, if_true]
          have ho7 : s[i + 1]? ≠ some 61 → cls s[i] = 7 → one (s.drop i) = ⟨3, 1, 0, 0⟩ := fun h h7 => by
            simp only [one, hhd, h7, h61, h, if_false]
          have ho8 : s[i + 1]? ≠ some 61 → cls s[i] = 8 → one (s.drop i) = ⟨3, 1, 0, 3⟩ := fun h h7 => by
            simp only [one, hhd, h7, h61, h, if_false]
          repeat' (first | refine a_mov ?_ | refine a_asg ?_ | refine a_binN ?_ | refine a_notd ?_ | refine a_notb ?_ | refine a_nilc ?_ | refine a_fa ?_ | refine a_ext ?_ | refine a_lenv ?_ | refine a_lens ?_ | refine a_pick_t ?_ | refine a_pick_f ?_ | refine a_not ?_ | refine a_nilf ?_ | (refine o_nil (hK _ _ ?_); clear hK K) | refine wk_reg ?_ | refine wk_seq fun K hK => ?_ | (refine wk_skip (hK _ _ ?_); clear hK K) | (refine wk_label (hK _ _ ?_); clear hK K) | refine wk_scope ?_ | refine wk_block ?_ | refine wk_cond_t rfl ?_ | refine wk_cond_f rfl ?_ | (refine wk_exit ?_; (repeat (refine blockK_other rfl ?_)); refine blockK_same ?_; try ((repeat ((fail_if_success (refine hK _ _ ?_)); clear hK K)); refine hK _ _ ?_; clear hK K)) | (refine a_bin ?_ ?_ <;> intro _))
          · have hl1 : i + 1 < s.length := by omega
            have hg : s[i + 1]? = some s[i + 1] := by simp [hl1]
            refine o_index (c := s[i + 1]) (i + 1) rfl rfl rfl rfl rfl hg ?_
            repeat' (first | refine a_mov ?_ | refine a_asg ?_ | refine a_binN ?_ | refine a_notd ?_ | refine a_notb ?_ | refine a_nilc ?_ | refine a_fa ?_ | refine a_ext ?_ | refine a_lenv ?_ | refine a_lens ?_ | refine a_pick_t ?_ | refine a_pick_f ?_ | refine a_not ?_ | refine a_nilf ?_ | (refine o_nil (hK _ _ ?_); clear hK K) | refine wk_reg ?_ | refine wk_seq fun K hK => ?_ | (refine wk_skip (hK _ _ ?_); clear hK K) | (refine wk_label (hK _ _ ?_); clear hK K) | refine wk_scope ?_ | refine wk_block ?_ | refine wk_cond_t rfl ?_ | refine wk_cond_f rfl ?_ | (refine wk_exit ?_; (repeat (refine blockK_other rfl ?_)); refine blockK_same ?_; try ((repeat ((fail_if_success (refine hK _ _ ?_)); clear hK K)); refine hK _ _ ?_; clear hK K)) | (refine a_bin ?_ ?_ <;> intro _))
            · have he : s[i + 1] = 61 := UInt8.toNat_inj.1 (by show _ = 61; omega)
              have ho := ho2 (by rw [hg, he])
              refine o_nil ⟨(), ?_, rfl, by rw [ho], ?_⟩
              · rw [ho]; refine ⟨rfl, rfl, rfl, rfl, ?_, rfl, trivial⟩
                show Value.int _ _ = Value.int _ _
                congr 1 <;> (simp only; omega)
              · rw [ho]; exact hl

            · have hne : s[i + 1].toNat ≠ 61 := by omega
              have he : s[i + 1]? ≠ some 61 := by
                rw [hg]; intro h; injection h with h; exact hne (by rw [h]; rfl)
              refine o_fn (has_calls [59, 44, 46, 58, 40, 41, 91, 93, 123, 125, 61, 60, 62] s[i] (by simp) _) rfl (fun _ => rfl) (by simp only [str_eq]; rfl) ?_
              rintro _ w7 ⟨rfl, rfl⟩
              cases hb2 : ([59, 44, 46, 58, 40, 41, 91, 93, 123, 125, 61, 60, 62] : List UInt8).contains s[i]
              · rw [hsy.2] at hb2
                simp only [Bool.or_eq_false_iff, beq_eq_false_iff_ne] at hb2
                have ho : one (s.drop i) = ⟨3, 1, 0, 3⟩ := by
                  exact ho8 he (by omega)
                repeat' (first | refine a_mov ?_ | refine a_asg ?_ | refine a_binN ?_ | refine a_notd ?_ | refine a_notb ?_ | refine a_nilc ?_ | refine a_fa ?_ | refine a_ext ?_ | refine a_lenv ?_ | refine a_lens ?_ | refine a_pick_t ?_ | refine a_pick_f ?_ | refine a_not ?_ | refine a_nilf ?_ | (refine o_nil (hK _ _ ?_); clear hK K) | refine wk_reg ?_ | refine wk_seq fun K hK => ?_ | (refine wk_skip (hK _ _ ?_); clear hK K) | (refine wk_label (hK _ _ ?_); clear hK K) | refine wk_scope ?_ | refine wk_block ?_ | refine wk_cond_t rfl ?_ | refine wk_cond_f rfl ?_ | (refine wk_exit ?_; (repeat (refine blockK_other rfl ?_)); refine blockK_same ?_; try ((repeat ((fail_if_success (refine hK _ _ ?_)); clear hK K)); refine hK _ _ ?_; clear hK K)) | (refine a_bin ?_ ?_ <;> intro _))
                refine o_build (t := 88) [.int .i64 0, .string ⟨#[]⟩, .int .i64 0, .int .i64 0] rfl rfl ?_
                refine o_store hl 1 [.int .i64 0, .string ⟨#[]⟩, .int .i64 0, .int .i64 0] rfl rfl rfl rfl rfl (by simp) rfl ?_
                intro we hle
                repeat' (first | refine a_mov ?_ | refine a_asg ?_ | refine a_binN ?_ | refine a_notd ?_ | refine a_notb ?_ | refine a_nilc ?_ | refine a_fa ?_ | refine a_ext ?_ | refine a_lenv ?_ | refine a_lens ?_ | refine a_pick_t ?_ | refine a_pick_f ?_ | refine a_not ?_ | refine a_nilf ?_ | (refine o_nil (hK _ _ ?_); clear hK K) | refine wk_reg ?_ | refine wk_seq fun K hK => ?_ | (refine wk_skip (hK _ _ ?_); clear hK K) | (refine wk_label (hK _ _ ?_); clear hK K) | refine wk_scope ?_ | refine wk_block ?_ | refine wk_cond_t rfl ?_ | refine wk_cond_f rfl ?_ | (refine wk_exit ?_; (repeat (refine blockK_other rfl ?_)); refine blockK_same ?_; try ((repeat ((fail_if_success (refine hK _ _ ?_)); clear hK K)); refine hK _ _ ?_; clear hK K)) | (refine a_bin ?_ ?_ <;> intro _))
                refine wk_ret (retQ_res [.agg #[.int .i64 0, .string ⟨#[]⟩, .int .i64 0, .int .i64 0], .int .i64 3] rfl rfl ⟨by decide, ⟨⟨r, 0, none⟩, rfl, run_loadVarN (vs := [.int .i64 0, .string ⟨#[]⟩, .int .i64 0, .int .i64 0]) rfl rfl (hle.rowL (vs := [.int .i64 0, .string ⟨#[]⟩, .int .i64 0, .int .i64 0]) 1 0 4 rfl)⟩, by decide, rfl, trivial⟩ ⟨?_, hle.done⟩)
                unfold nextV
                rw [ho]
                rfl
              · rw [hsy.2] at hb2
                simp only [Bool.or_eq_true, beq_iff_eq] at hb2
                have ho : one (s.drop i) = ⟨3, 1, 0, 0⟩ := by
                  exact ho7 he (by omega)
                repeat' (first | refine a_mov ?_ | refine a_asg ?_ | refine a_binN ?_ | refine a_notd ?_ | refine a_notb ?_ | refine a_nilc ?_ | refine a_fa ?_ | refine a_ext ?_ | refine a_lenv ?_ | refine a_lens ?_ | refine a_pick_t ?_ | refine a_pick_f ?_ | refine a_not ?_ | refine a_nilf ?_ | (refine o_nil (hK _ _ ?_); clear hK K) | refine wk_reg ?_ | refine wk_seq fun K hK => ?_ | (refine wk_skip (hK _ _ ?_); clear hK K) | (refine wk_label (hK _ _ ?_); clear hK K) | refine wk_scope ?_ | refine wk_block ?_ | refine wk_cond_t rfl ?_ | refine wk_cond_f rfl ?_ | (refine wk_exit ?_; (repeat (refine blockK_other rfl ?_)); refine blockK_same ?_; try ((repeat ((fail_if_success (refine hK _ _ ?_)); clear hK K)); refine hK _ _ ?_; clear hK K)) | (refine a_bin ?_ ?_ <;> intro _))
                refine wk_skip ⟨(), ?_, rfl, by rw [ho], ?_⟩
                · rw [ho]; refine ⟨rfl, rfl, rfl, rfl, ?_, rfl, trivial⟩
                  show Value.int _ _ = Value.int _ _
                  congr 1 <;> (simp only; omega)
                · rw [ho]; exact hl

          · have he : s[i + 1]? ≠ some 61 := by
              rw [List.getElem?_eq_none (by omega)]; simp
            refine o_fn (has_calls [59, 44, 46, 58, 40, 41, 91, 93, 123, 125, 61, 60, 62] s[i] (by simp) _) rfl (fun _ => rfl) (by simp only [str_eq]; rfl) ?_
            rintro _ w7 ⟨rfl, rfl⟩
            cases hb2 : ([59, 44, 46, 58, 40, 41, 91, 93, 123, 125, 61, 60, 62] : List UInt8).contains s[i]
            · rw [hsy.2] at hb2
              simp only [Bool.or_eq_false_iff, beq_eq_false_iff_ne] at hb2
              have ho : one (s.drop i) = ⟨3, 1, 0, 3⟩ := by
                exact ho8 he (by omega)
              repeat' (first | refine a_mov ?_ | refine a_asg ?_ | refine a_binN ?_ | refine a_notd ?_ | refine a_notb ?_ | refine a_nilc ?_ | refine a_fa ?_ | refine a_ext ?_ | refine a_lenv ?_ | refine a_lens ?_ | refine a_pick_t ?_ | refine a_pick_f ?_ | refine a_not ?_ | refine a_nilf ?_ | (refine o_nil (hK _ _ ?_); clear hK K) | refine wk_reg ?_ | refine wk_seq fun K hK => ?_ | (refine wk_skip (hK _ _ ?_); clear hK K) | (refine wk_label (hK _ _ ?_); clear hK K) | refine wk_scope ?_ | refine wk_block ?_ | refine wk_cond_t rfl ?_ | refine wk_cond_f rfl ?_ | (refine wk_exit ?_; (repeat (refine blockK_other rfl ?_)); refine blockK_same ?_; try ((repeat ((fail_if_success (refine hK _ _ ?_)); clear hK K)); refine hK _ _ ?_; clear hK K)) | (refine a_bin ?_ ?_ <;> intro _))
              refine o_build (t := 88) [.int .i64 0, .string ⟨#[]⟩, .int .i64 0, .int .i64 0] rfl rfl ?_
              refine o_store hl 1 [.int .i64 0, .string ⟨#[]⟩, .int .i64 0, .int .i64 0] rfl rfl rfl rfl rfl (by simp) rfl ?_
              intro we hle
              repeat' (first | refine a_mov ?_ | refine a_asg ?_ | refine a_binN ?_ | refine a_notd ?_ | refine a_notb ?_ | refine a_nilc ?_ | refine a_fa ?_ | refine a_ext ?_ | refine a_lenv ?_ | refine a_lens ?_ | refine a_pick_t ?_ | refine a_pick_f ?_ | refine a_not ?_ | refine a_nilf ?_ | (refine o_nil (hK _ _ ?_); clear hK K) | refine wk_reg ?_ | refine wk_seq fun K hK => ?_ | (refine wk_skip (hK _ _ ?_); clear hK K) | (refine wk_label (hK _ _ ?_); clear hK K) | refine wk_scope ?_ | refine wk_block ?_ | refine wk_cond_t rfl ?_ | refine wk_cond_f rfl ?_ | (refine wk_exit ?_; (repeat (refine blockK_other rfl ?_)); refine blockK_same ?_; try ((repeat ((fail_if_success (refine hK _ _ ?_)); clear hK K)); refine hK _ _ ?_; clear hK K)) | (refine a_bin ?_ ?_ <;> intro _))
              refine wk_ret (retQ_res [.agg #[.int .i64 0, .string ⟨#[]⟩, .int .i64 0, .int .i64 0], .int .i64 3] rfl rfl ⟨by decide, ⟨⟨r, 0, none⟩, rfl, run_loadVarN (vs := [.int .i64 0, .string ⟨#[]⟩, .int .i64 0, .int .i64 0]) rfl rfl (hle.rowL (vs := [.int .i64 0, .string ⟨#[]⟩, .int .i64 0, .int .i64 0]) 1 0 4 rfl)⟩, by decide, rfl, trivial⟩ ⟨?_, hle.done⟩)
              unfold nextV
              rw [ho]
              rfl
            · rw [hsy.2] at hb2
              simp only [Bool.or_eq_true, beq_iff_eq] at hb2
              have ho : one (s.drop i) = ⟨3, 1, 0, 0⟩ := by
                exact ho7 he (by omega)
              repeat' (first | refine a_mov ?_ | refine a_asg ?_ | refine a_binN ?_ | refine a_notd ?_ | refine a_notb ?_ | refine a_nilc ?_ | refine a_fa ?_ | refine a_ext ?_ | refine a_lenv ?_ | refine a_lens ?_ | refine a_pick_t ?_ | refine a_pick_f ?_ | refine a_not ?_ | refine a_nilf ?_ | (refine o_nil (hK _ _ ?_); clear hK K) | refine wk_reg ?_ | refine wk_seq fun K hK => ?_ | (refine wk_skip (hK _ _ ?_); clear hK K) | (refine wk_label (hK _ _ ?_); clear hK K) | refine wk_scope ?_ | refine wk_block ?_ | refine wk_cond_t rfl ?_ | refine wk_cond_f rfl ?_ | (refine wk_exit ?_; (repeat (refine blockK_other rfl ?_)); refine blockK_same ?_; try ((repeat ((fail_if_success (refine hK _ _ ?_)); clear hK K)); refine hK _ _ ?_; clear hK K)) | (refine a_bin ?_ ?_ <;> intro _))
              refine wk_skip ⟨(), ?_, rfl, by rw [ho], ?_⟩
              · rw [ho]; refine ⟨rfl, rfl, rfl, rfl, ?_, rfl, trivial⟩
                show Value.int _ _ = Value.int _ _
                congr 1 <;> (simp only; omega)
              · rw [ho]; exact hl

      · -- a number
        (refine o_nil (hK _ _ ?_); clear hK K)
        refine wk_cond_t rfl ?_
        refine wk_seq fun K hK => ?_
        refine wk_cut [] (fun j : Nat => [(0, str s), (1, .int .i64 (i : Int)), (4, .pointer (some ⟨r, 0, none⟩)), (5, .int .i64 0), (6, .int .i64 (j : Int)), (7, .pointer (some ⟨b, 0, none⟩))]) (fun j w' => (i < j ∧ j ≤ s.length ∧ spanLen isDigit (s.drop i) = j - i ∧ spanLen isDigit (s.drop j) = 0) ∧ LH w (fun _ => False) w' [(b, .cells #[.int .i64 0, .string ⟨#[]⟩, .int .i64 0, .int .i64 (i : Int)] 88 (0, 0)), (r, .cells #[.int .i64 0, .string ⟨#[]⟩, .int .i64 0, .int .i64 0] 88 (0, 0))]) ?_ ?_
        · refine wk_block ?_
          refine wk_loopH [] rfl (fun j : Nat => [(0, str s), (1, .int .i64 (i : Int)), (4, .pointer (some ⟨r, 0, none⟩)), (5, .int .i64 0), (6, .int .i64 (j : Int)), (7, .pointer (some ⟨b, 0, none⟩))]) (fun j w' => (i < j ∧ j ≤ s.length ∧ spanLen isDigit (s.drop i) = (j - i) + spanLen isDigit (s.drop j)) ∧ LH w (fun _ => False) w' [(b, .cells #[.int .i64 0, .string ⟨#[]⟩, .int .i64 0, .int .i64 (i : Int)] 88 (0, 0)), (r, .cells #[.int .i64 0, .string ⟨#[]⟩, .int .i64 0, .int .i64 0] 88 (0, 0))]) (fun j => s.length - j) (i + 1) ⟨rfl, rfl, rfl, rfl, rfl, rfl, trivial⟩ ⟨⟨by omega, hi, by rw [hdr]; simp only [spanLen, h4, if_true]; omega⟩, hl⟩ ?_
          clear hl
          rintro j t3 w6 ⟨⟨hj1, hj2, hj3⟩, hl⟩
          repeat' (first | refine a_mov ?_ | refine a_asg ?_ | refine a_binN ?_ | refine a_notd ?_ | refine a_notb ?_ | refine a_nilc ?_ | refine a_fa ?_ | refine a_ext ?_ | refine a_lenv ?_ | refine a_lens ?_ | refine a_pick_t ?_ | refine a_pick_f ?_ | refine a_not ?_ | refine a_nilf ?_ | (refine o_nil (hK _ _ ?_); clear hK K) | refine wk_reg ?_ | refine wk_seq fun K hK => ?_ | (refine wk_skip (hK _ _ ?_); clear hK K) | (refine wk_label (hK _ _ ?_); clear hK K) | refine wk_scope ?_ | refine wk_block ?_ | refine wk_cond_t rfl ?_ | refine wk_cond_f rfl ?_ | (refine wk_exit ?_; (repeat (refine blockK_other rfl ?_)); refine blockK_same ?_; try ((repeat ((fail_if_success (refine hK _ _ ?_)); clear hK K)); refine hK _ _ ?_; clear hK K)) | (refine a_bin ?_ ?_ <;> intro _))
          · have hjl : j < s.length := by omega
            refine o_index (c := s[j]) j rfl rfl rfl rfl rfl (by simp [hjl]) ?_
            refine o_fn (digit_calls s[j] _) rfl (fun _ => rfl) rfl ?_
            rintro _ w7 ⟨rfl, rfl⟩
            have hdj : s.drop j = s[j] :: s.drop (j + 1) := List.drop_eq_getElem_cons hjl
            cases hwj : isDigit s[j]
            · have h0 : spanLen isDigit (s.drop j) = 0 := by rw [hdj]; simp [spanLen, hwj]
              repeat' (first | refine a_mov ?_ | refine a_asg ?_ | refine a_binN ?_ | refine a_notd ?_ | refine a_notb ?_ | refine a_nilc ?_ | refine a_fa ?_ | refine a_ext ?_ | refine a_lenv ?_ | refine a_lens ?_ | refine a_pick_t ?_ | refine a_pick_f ?_ | refine a_not ?_ | refine a_nilf ?_ | (refine o_nil (hK _ _ ?_); clear hK K) | refine wk_reg ?_ | refine wk_seq fun K hK => ?_ | (refine wk_skip (hK _ _ ?_); clear hK K) | (refine wk_label (hK _ _ ?_); clear hK K) | refine wk_scope ?_ | refine wk_block ?_ | refine wk_cond_t rfl ?_ | refine wk_cond_f rfl ?_ | (refine wk_exit ?_; (repeat (refine blockK_other rfl ?_)); refine blockK_same ?_; try ((repeat ((fail_if_success (refine hK _ _ ?_)); clear hK K)); refine hK _ _ ?_; clear hK K)) | (refine a_bin ?_ ?_ <;> intro _))
              exact ⟨j, ⟨rfl, rfl, rfl, rfl, rfl, rfl, trivial⟩, rfl, ⟨hj1, hj2, by omega, h0⟩, hl⟩
            · repeat' (first | refine a_mov ?_ | refine a_asg ?_ | refine a_binN ?_ | refine a_notd ?_ | refine a_notb ?_ | refine a_nilc ?_ | refine a_fa ?_ | refine a_ext ?_ | refine a_lenv ?_ | refine a_lens ?_ | refine a_pick_t ?_ | refine a_pick_f ?_ | refine a_not ?_ | refine a_nilf ?_ | (refine o_nil (hK _ _ ?_); clear hK K) | refine wk_reg ?_ | refine wk_seq fun K hK => ?_ | (refine wk_skip (hK _ _ ?_); clear hK K) | (refine wk_label (hK _ _ ?_); clear hK K) | refine wk_scope ?_ | refine wk_block ?_ | refine wk_cond_t rfl ?_ | refine wk_cond_f rfl ?_ | (refine wk_exit ?_; (repeat (refine blockK_other rfl ?_)); refine blockK_same ?_; try ((repeat ((fail_if_success (refine hK _ _ ?_)); clear hK K)); refine hK _ _ ?_; clear hK K)) | (refine a_bin ?_ ?_ <;> intro _))
              refine o_nil ⟨j + 1, ⟨rfl, rfl, rfl, rfl, rfl, rfl, trivial⟩, rfl, ⟨⟨by omega, hjl, ?_⟩, hl⟩, by omega⟩
              rw [hj3, hdj]; simp only [spanLen, hwj, if_true]; omega
          · have h0 : spanLen isDigit (s.drop j) = 0 := by rw [List.drop_eq_nil_iff.2 (by omega)]; rfl
            exact ⟨j, ⟨rfl, rfl, rfl, rfl, rfl, rfl, trivial⟩, rfl, ⟨hj1, hj2, by omega, h0⟩, hl⟩
        · clear hl
          rintro j t3 w6 ⟨⟨hj1, hj2, hj3, h0⟩, hl⟩
          refine hK _ _ ?_
          clear hK K
          have hnum : one (s.drop i) = if 7 < j - i ∨ hd (s.drop j) = 3 ∨ hd (s.drop j) = 5 then ⟨2, j - i, 0, 4⟩ else ⟨2, j - i, value ((s.drop i).take (j - i)), 0⟩ := by
            unfold one
            rw [hhd, (cls4 _).2 h4]
            simp only [hj3, List.drop_drop, show i + (j - i) = j by omega]
          refine wk_seq fun K hK => ?_
          refine wk_reg ?_
          refine o_fa2 rfl rfl (by conv => lhs; whnf; arg 1; whnf) (by first | (conv => lhs; simp only [Nat.reduceAdd, Nat.zero_add, Nat.add_zero]) | rfl) ?_
          (refine o_put1 hl rfl rfl (by conv => lhs; whnf) (by first | exact ⟨rfl, rfl⟩ | exact cell1_str _) rfl (by repeat (first | exact Put.here rfl (by conv => lhs; simp only [List.set_cons_zero, List.set_cons_succ, Nat.reduceAdd, Nat.zero_add]) | apply Put.there)) ?_; clear hl; intro _ hl)
          (refine o_nil (hK _ _ ?_); clear hK K)
          refine wk_seq fun K hK => ?_
          refine wk_seq fun K2 hK2 => ?_
          refine wk_cut [] (fun _ : Unit => [(0, str s), (1, .int .i64 (i : Int)), (4, .pointer (some ⟨r, 0, none⟩)), (5, .int .i64 0), (6, .int .i64 (j : Int)), (7, .pointer (some ⟨b, 0, none⟩)), (67, .bool (decide (7 < j - i ∨ hd (s.drop j) = 3 ∨ hd (s.drop j) = 5)))])
            (fun _ w' => LH w (fun _ => False) w' [(b, .cells #[.int .i64 2, .string ⟨#[]⟩, .int .i64 0, .int .i64 (i : Int)] 88 (0, 0)), (r, .cells #[.int .i64 0, .string ⟨#[]⟩, .int .i64 0, .int .i64 0] 88 (0, 0))]) ?_ ?_
          · repeat' (first | refine a_mov ?_ | refine a_asg ?_ | refine a_binN ?_ | refine a_notd ?_ | refine a_notb ?_ | refine a_nilc ?_ | refine a_fa ?_ | refine a_ext ?_ | refine a_lenv ?_ | refine a_lens ?_ | refine a_pick_t ?_ | refine a_pick_f ?_ | refine a_not ?_ | refine a_nilf ?_ | (refine o_nil (hK _ _ ?_); clear hK K) | refine wk_reg ?_ | refine wk_seq fun K hK => ?_ | (refine wk_skip (hK _ _ ?_); clear hK K) | (refine wk_label (hK _ _ ?_); clear hK K) | refine wk_scope ?_ | refine wk_block ?_ | refine wk_cond_t rfl ?_ | refine wk_cond_f rfl ?_ | (refine wk_exit ?_; (repeat (refine blockK_other rfl ?_)); refine blockK_same ?_; try ((repeat ((fail_if_success (refine hK _ _ ?_)); clear hK K)); refine hK _ _ ?_; clear hK K)) | (refine a_bin ?_ ?_ <;> intro _) | refine a_ld hl ?_ | (refine a_st hl ?_; clear hl; intro _ hl) | refine a_ix (fun _ => ?_) | fail)
            · exact o_nil ⟨(), ⟨rfl, rfl, rfl, rfl, rfl, rfl, by rw [decide_eq_true (show 7 < j - i ∨ _ by omega)]; rfl, trivial⟩, rfl, hl⟩
            · have hjl : j < s.length := by omega
              have hdj : s.drop j = s[j] :: s.drop (j + 1) := List.drop_eq_getElem_cons hjl
              have hhj : hd (s.drop j) = cls s[j] := by rw [hdj]; rfl
              refine o_fn (word_calls s[j] _) rfl (fun _ => rfl) rfl ?_
              rintro _ w7 ⟨rfl, rfl⟩
              rw [hhj]
              have hnd : isDigit s[j] = false := by
                cases h : isDigit s[j]
                · rfl
                · rw [hdj] at h0; simp [spanLen, h] at h0
              have hcw : isWord s[j] = decide (7 < j - i ∨ cls s[j] = 3 ∨ cls s[j] = 5) := by
                have h4' : cls s[j] ≠ 4 := fun h => by rw [cls4, hnd] at h; cases h
                simp [isWord, beq_false_of_ne h4', show ¬ 7 < j - i by omega]
                rfl
              rw [← hcw]
              repeat' (first | refine a_mov ?_ | refine a_asg ?_ | refine a_binN ?_ | refine a_notd ?_ | refine a_notb ?_ | refine a_nilc ?_ | refine a_fa ?_ | refine a_ext ?_ | refine a_lenv ?_ | refine a_lens ?_ | refine a_pick_t ?_ | refine a_pick_f ?_ | refine a_not ?_ | refine a_nilf ?_ | (refine o_nil (hK _ _ ?_); clear hK K) | refine wk_reg ?_ | refine wk_seq fun K hK => ?_ | (refine wk_skip (hK _ _ ?_); clear hK K) | (refine wk_label (hK _ _ ?_); clear hK K) | refine wk_scope ?_ | refine wk_block ?_ | refine wk_cond_t rfl ?_ | refine wk_cond_f rfl ?_ | (refine wk_exit ?_; (repeat (refine blockK_other rfl ?_)); refine blockK_same ?_; try ((repeat ((fail_if_success (refine hK _ _ ?_)); clear hK K)); refine hK _ _ ?_; clear hK K)) | (refine a_bin ?_ ?_ <;> intro _) | refine a_ld hl ?_ | (refine a_st hl ?_; clear hl; intro _ hl) | refine a_ix (fun _ => ?_) | fail)
              exact o_nil ⟨(), ⟨rfl, rfl, rfl, rfl, rfl, rfl, rfl, trivial⟩, rfl, hl⟩
            · have hd0 : hd (s.drop j) = 0 := by rw [List.drop_eq_nil_iff.2 (by omega)]; rfl
              exact o_nil ⟨(), ⟨rfl, rfl, rfl, rfl, rfl, rfl, by rw [hd0, decide_eq_false (show ¬ (7 < j - i ∨ 0 = 3 ∨ 0 = 5) by omega)]; rfl, trivial⟩, rfl, hl⟩
          · clear hl
            rintro _ t4 w7 hl
            refine hK2 _ _ ?_
            clear hK2 K2
            by_cases hB : 7 < j - i ∨ hd (s.drop j) = 3 ∨ hd (s.drop j) = 5
            · have ho := hnum
              rw [if_pos hB] at ho
              rw [decide_eq_true hB]
              repeat' (first | refine a_mov ?_ | refine a_asg ?_ | refine a_binN ?_ | refine a_notd ?_ | refine a_notb ?_ | refine a_nilc ?_ | refine a_fa ?_ | refine a_ext ?_ | refine a_lenv ?_ | refine a_lens ?_ | refine a_pick_t ?_ | refine a_pick_f ?_ | refine a_not ?_ | refine a_nilf ?_ | (refine o_nil (hK _ _ ?_); clear hK K) | refine wk_reg ?_ | refine wk_seq fun K hK => ?_ | (refine wk_skip (hK _ _ ?_); clear hK K) | (refine wk_label (hK _ _ ?_); clear hK K) | refine wk_scope ?_ | refine wk_block ?_ | refine wk_cond_t rfl ?_ | refine wk_cond_f rfl ?_ | (refine wk_exit ?_; (repeat (refine blockK_other rfl ?_)); refine blockK_same ?_; try ((repeat ((fail_if_success (refine hK _ _ ?_)); clear hK K)); refine hK _ _ ?_; clear hK K)) | (refine a_bin ?_ ?_ <;> intro _) | refine a_ld hl ?_ | (refine a_st hl ?_; clear hl; intro _ hl) | refine a_ix (fun _ => ?_) | fail)
              refine o_build (t := 88) [.int .i64 0, .string ⟨#[]⟩, .int .i64 0, .int .i64 0] rfl rfl ?_
              refine o_putN hl rfl rfl rfl rfl rfl (by first | exact .all rfl rfl | exact .there (.all rfl rfl)) ?_
              intro we hle
              repeat' (first | refine a_mov ?_ | refine a_asg ?_ | refine a_binN ?_ | refine a_notd ?_ | refine a_notb ?_ | refine a_nilc ?_ | refine a_fa ?_ | refine a_ext ?_ | refine a_lenv ?_ | refine a_lens ?_ | refine a_pick_t ?_ | refine a_pick_f ?_ | refine a_not ?_ | refine a_nilf ?_ | (refine o_nil (hK _ _ ?_); clear hK K) | refine wk_reg ?_ | refine wk_seq fun K hK => ?_ | (refine wk_skip (hK _ _ ?_); clear hK K) | (refine wk_label (hK _ _ ?_); clear hK K) | refine wk_scope ?_ | refine wk_block ?_ | refine wk_cond_t rfl ?_ | refine wk_cond_f rfl ?_ | (refine wk_exit ?_; (repeat (refine blockK_other rfl ?_)); refine blockK_same ?_; try ((repeat ((fail_if_success (refine hK _ _ ?_)); clear hK K)); refine hK _ _ ?_; clear hK K)) | (refine a_bin ?_ ?_ <;> intro _) | refine a_ld hl ?_ | (refine a_st hl ?_; clear hl; intro _ hl) | refine a_ix (fun _ => ?_) | fail)
              refine wk_ret (retQ_res [.agg #[.int .i64 0, .string ⟨#[]⟩, .int .i64 0, .int .i64 0], .int .i64 4] rfl rfl ⟨by decide, ⟨⟨r, 0, none⟩, rfl, run_loadVarN (vs := [.int .i64 0, .string ⟨#[]⟩, .int .i64 0, .int .i64 0]) rfl rfl (hle.rowL (vs := [.int .i64 0, .string ⟨#[]⟩, .int .i64 0, .int .i64 0]) 1 0 4 rfl)⟩, by decide, rfl, trivial⟩ ⟨?_, hle.done⟩)
              unfold nextV
              rw [ho]
              rfl
            · have ho := hnum
              rw [if_neg hB] at ho
              rw [decide_eq_false hB]
              have hdig : ∀ c ∈ (s.drop i).take (j - i), isDigit c = true := by rw [← hj3]; exact span_all2 _ _
              have hlen : ((s.drop i).take (j - i)).length = j - i := by rw [List.length_take, List.length_drop]; omega
              repeat' (first | refine a_mov ?_ | refine a_asg ?_ | refine a_binN ?_ | refine a_notd ?_ | refine a_notb ?_ | refine a_nilc ?_ | refine a_fa ?_ | refine a_ext ?_ | refine a_lenv ?_ | refine a_lens ?_ | refine a_pick_t ?_ | refine a_pick_f ?_ | refine a_not ?_ | refine a_nilf ?_ | (refine o_nil (hK _ _ ?_); clear hK K) | refine wk_reg ?_ | refine wk_seq fun K hK => ?_ | (refine wk_skip (hK _ _ ?_); clear hK K) | (refine wk_label (hK _ _ ?_); clear hK K) | refine wk_scope ?_ | refine wk_block ?_ | refine wk_cond_t rfl ?_ | refine wk_cond_f rfl ?_ | (refine wk_exit ?_; (repeat (refine blockK_other rfl ?_)); refine blockK_same ?_; try ((repeat ((fail_if_success (refine hK _ _ ?_)); clear hK K)); refine hK _ _ ?_; clear hK K)) | (refine a_bin ?_ ?_ <;> intro _) | refine a_ld hl ?_ | (refine a_st hl ?_; clear hl; intro _ hl) | refine a_ix (fun _ => ?_) | fail)
              refine wk_loopH [] rfl (fun q : Nat => [(0, str s), (1, .int .i64 (i : Int)), (4, .pointer (some ⟨r, 0, none⟩)), (5, .int .i64 0), (6, .int .i64 (j : Int)), (7, .pointer (some ⟨b, 0, none⟩)), (9, .int .i64 ((i + q : Nat) : Int))])
                (fun q w' => q ≤ j - i ∧ LH w (fun _ => False) w' [(b, .cells #[.int .i64 2, .string ⟨#[]⟩, .int .i64 (value (((s.drop i).take (j - i)).take q) : Int), .int .i64 (i : Int)] 88 (0, 0)), (r, .cells #[.int .i64 0, .string ⟨#[]⟩, .int .i64 0, .int .i64 0] 88 (0, 0))])
                (fun q => j - i - q) 0 ⟨rfl, rfl, rfl, rfl, rfl, rfl, rfl, trivial⟩ ⟨by omega, hl⟩ ?_
              clear hl
              rintro q t5 w8 ⟨hq, hl⟩
              repeat' (first | refine a_mov ?_ | refine a_asg ?_ | refine a_binN ?_ | refine a_notd ?_ | refine a_notb ?_ | refine a_nilc ?_ | refine a_fa ?_ | refine a_ext ?_ | refine a_lenv ?_ | refine a_lens ?_ | refine a_pick_t ?_ | refine a_pick_f ?_ | refine a_not ?_ | refine a_nilf ?_ | (refine o_nil (hK _ _ ?_); clear hK K) | refine wk_reg ?_ | refine wk_seq fun K hK => ?_ | (refine wk_skip (hK _ _ ?_); clear hK K) | (refine wk_label (hK _ _ ?_); clear hK K) | refine wk_scope ?_ | refine wk_block ?_ | refine wk_cond_t rfl ?_ | refine wk_cond_f rfl ?_ | (refine wk_exit ?_; (repeat (refine blockK_other rfl ?_)); refine blockK_same ?_; try ((repeat ((fail_if_success (refine hK _ _ ?_)); clear hK K)); refine hK _ _ ?_; clear hK K)) | (refine a_bin ?_ ?_ <;> intro _) | refine a_ld hl ?_ | (refine a_st hl ?_; clear hl; intro _ hl) | refine a_ix (fun _ => ?_) | fail)
              · have hql : q < j - i := by omega
                have hiq : i + q < s.length := by omega
                have hvb := value_lt _ hdig q (by omega)
                have hvp : 10 ^ q ≤ 10 ^ 7 := Nat.pow_le_pow_right (by omega) (by omega)
                have hget : ((s.drop i).take (j - i))[q]'(by omega) = s[i + q] := by simp
                have hdg := (isDigit_iff _).1 (hdig _ (List.getElem_mem (show q < _ by omega)))
                have hsn : value (((s.drop i).take (j - i)).take (q + 1)) = 10 * value (((s.drop i).take (j - i)).take q) + (s[i + q].toNat - 48) := by
                  rw [List.take_succ_eq_append_getElem (by omega), value_snoc2, hget]
                rw [hget] at hdg
                generalize value (((s.drop i).take (j - i)).take q) = V at hl hvb hsn
                have hcu := s[i + q].toNat_lt
                refine wk_draw [0, 1, 2, 3, 4, 5, 6, 7, 8, 9] [] [10] (fun w' => To w8 w' w8.heap) (fun _ => True) rfl (by kernel_rfl) (fun _ _ _ _ h => by first | exact h | (simp only [BlockK, NoGoto, RetQ] at h)) (fun _ h => h) (fun _ _ => trivial) ?_
                repeat (first | refine q_pur rfl rfl rfl (fun _ => r_mov (by conv => lhs; whnf)) ?_ | refine q_pur rfl rfl rfl (fun _ => r_asg (by conv => lhs; whnf)) ?_ | refine q_pur rfl rfl rfl (fun _ => r_fa2 rfl (by conv => lhs; whnf; arg 1; whnf) (by first | (conv => lhs; simp only [Nat.reduceAdd, Nat.zero_add, Nat.add_zero]) | rfl)) ?_ | refine q_pur rfl rfl rfl (fun _ => r_ext rfl (by conv => lhs; whnf)) ?_ | refine q_pur rfl rfl rfl (fun _ => r_binN rfl rfl rfl (by omega)) ?_ | refine q_pur rfl rfl rfl (fun _ => r_binC rfl rfl rfl) ?_ | refine q_pur rfl rfl rfl (fun _ => r_ix (by omega) rfl rfl rfl rfl) ?_ | refine q_pur rfl rfl rfl (fun _ => r_notd rfl) ?_ | refine q_pur rfl rfl rfl (fun _ => r_notb rfl) ?_ | refine q_pur rfl rfl rfl (fun _ => r_pick_t rfl (by conv => lhs; whnf)) ?_ | refine q_pur rfl rfl rfl (fun _ => r_pick_f rfl (by conv => lhs; whnf)) ?_ | refine q_pur rfl rfl rfl (fun _ => r_nilc rfl) ?_ | refine q_not rfl rfl ?_ | refine q_val rfl rfl rfl rfl (fun w_ hw_ => r_lens rfl rfl) ?_ | refine q_val rfl rfl rfl rfl (fun w_ hw_ => r_lenv rfl rfl) ?_ | refine q_nil ?_)
                refine q_val rfl rfl rfl rfl (fun w' hw' => r_load rfl rfl ((hl.heap hw').cell 0 rfl rfl)) ?_
                repeat (first | refine q_pur rfl rfl rfl (fun _ => r_mov (by conv => lhs; whnf)) ?_ | refine q_pur rfl rfl rfl (fun _ => r_asg (by conv => lhs; whnf)) ?_ | refine q_pur rfl rfl rfl (fun _ => r_fa2 rfl (by conv => lhs; whnf; arg 1; whnf) (by first | (conv => lhs; simp only [Nat.reduceAdd, Nat.zero_add, Nat.add_zero]) | rfl)) ?_ | refine q_pur rfl rfl rfl (fun _ => r_ext rfl (by conv => lhs; whnf)) ?_ | refine q_pur rfl rfl rfl (fun _ => r_binN rfl rfl rfl (by omega)) ?_ | refine q_pur rfl rfl rfl (fun _ => r_binC rfl rfl rfl) ?_ | refine q_pur rfl rfl rfl (fun _ => r_ix (by omega) rfl rfl rfl rfl) ?_ | refine q_pur rfl rfl rfl (fun _ => r_notd rfl) ?_ | refine q_pur rfl rfl rfl (fun _ => r_notb rfl) ?_ | refine q_pur rfl rfl rfl (fun _ => r_pick_t rfl (by conv => lhs; whnf)) ?_ | refine q_pur rfl rfl rfl (fun _ => r_pick_f rfl (by conv => lhs; whnf)) ?_ | refine q_pur rfl rfl rfl (fun _ => r_nilc rfl) ?_ | refine q_not rfl rfl ?_ | refine q_val rfl rfl rfl rfl (fun w_ hw_ => r_lens rfl rfl) ?_ | refine q_val rfl rfl rfl rfl (fun w_ hw_ => r_lenv rfl rfl) ?_ | refine q_nil ?_)
                refine q_pur rfl rfl rfl (fun _ => r_binK rfl rfl rfl (wrap_u8 ⟨by omega, by omega⟩)) ?_
                refine q_pur rfl rfl rfl (fun _ => r_conv rfl rfl rfl (wrap_i64 ⟨by omega, by omega⟩)) ?_
                repeat (first | refine q_pur rfl rfl rfl (fun _ => r_mov (by conv => lhs; whnf)) ?_ | refine q_pur rfl rfl rfl (fun _ => r_asg (by conv => lhs; whnf)) ?_ | refine q_pur rfl rfl rfl (fun _ => r_fa2 rfl (by conv => lhs; whnf; arg 1; whnf) (by first | (conv => lhs; simp only [Nat.reduceAdd, Nat.zero_add, Nat.add_zero]) | rfl)) ?_ | refine q_pur rfl rfl rfl (fun _ => r_ext rfl (by conv => lhs; whnf)) ?_ | refine q_pur rfl rfl rfl (fun _ => r_binN rfl rfl rfl (by omega)) ?_ | refine q_pur rfl rfl rfl (fun _ => r_binC rfl rfl rfl) ?_ | refine q_pur rfl rfl rfl (fun _ => r_ix (by omega) rfl rfl rfl rfl) ?_ | refine q_pur rfl rfl rfl (fun _ => r_notd rfl) ?_ | refine q_pur rfl rfl rfl (fun _ => r_notb rfl) ?_ | refine q_pur rfl rfl rfl (fun _ => r_pick_t rfl (by conv => lhs; whnf)) ?_ | refine q_pur rfl rfl rfl (fun _ => r_pick_f rfl (by conv => lhs; whnf)) ?_ | refine q_pur rfl rfl rfl (fun _ => r_nilc rfl) ?_ | refine q_not rfl rfl ?_ | refine q_val rfl rfl rfl rfl (fun w_ hw_ => r_lens rfl rfl) ?_ | refine q_val rfl rfl rfl rfl (fun w_ hw_ => r_lenv rfl rfl) ?_ | refine q_nil ?_)
                intro w9 hw9
                replace hl := hl.heap hw9
                refine ops_tail rfl rfl ?_
                (refine o_put1 hl rfl rfl (by conv => lhs; whnf) (by first | exact ⟨rfl, rfl⟩ | exact cell1_str _) rfl (by repeat (first | exact Put.here rfl (by conv => lhs; simp only [List.set_cons_zero, List.set_cons_succ, Nat.reduceAdd, Nat.zero_add]) | apply Put.there)) ?_; clear hl; intro _ hl)
                refine o_nil ⟨trivial, ?_⟩
                refine ops_nil (hK _ _ ?_)
                clear hK K
                have e1 : (10 * (V : Int) + ((s[i + q].toNat : Int) - 48)) = ((value (((s.drop i).take (j - i)).take (q + 1)) : Nat) : Int) := by omega
                rw [e1] at hl
                repeat' (first | refine a_mov ?_ | refine a_asg ?_ | refine a_binN ?_ | refine a_notd ?_ | refine a_notb ?_ | refine a_nilc ?_ | refine a_fa ?_ | refine a_ext ?_ | refine a_lenv ?_ | refine a_lens ?_ | refine a_pick_t ?_ | refine a_pick_f ?_ | refine a_not ?_ | refine a_nilf ?_ | (refine o_nil (hK _ _ ?_); clear hK K) | refine wk_reg ?_ | refine wk_seq fun K hK => ?_ | (refine wk_skip (hK _ _ ?_); clear hK K) | (refine wk_label (hK _ _ ?_); clear hK K) | refine wk_scope ?_ | refine wk_block ?_ | refine wk_cond_t rfl ?_ | refine wk_cond_f rfl ?_ | (refine wk_exit ?_; (repeat (refine blockK_other rfl ?_)); refine blockK_same ?_; try ((repeat ((fail_if_success (refine hK _ _ ?_)); clear hK K)); refine hK _ _ ?_; clear hK K)) | (refine a_bin ?_ ?_ <;> intro _) | refine a_ld hl ?_ | (refine a_st hl ?_; clear hl; intro _ hl) | refine a_ix (fun _ => ?_) | fail)
                refine o_nil ⟨q + 1, ⟨rfl, rfl, rfl, rfl, rfl, rfl, rfl, trivial⟩, rfl, ⟨by omega, hl⟩, by omega⟩
              · have hqe : q = j - i := by omega
                refine ⟨(), ⟨rfl, rfl, rfl, rfl, ?_, rfl, trivial⟩, rfl, by rw [ho], ?_⟩
                · rw [ho]
                  show Value.int _ _ = Value.int _ _
                  congr 1; simp only; omega
                · rw [ho]
                  rw [hqe, List.take_of_length_le (by omega)] at hl
                  exact hl
    · -- a name
      have hw3 : isWord s[i] = true := by simp [isWord, (cls3 _).2 h3]
      repeat' (first | refine a_mov ?_ | refine a_asg ?_ | refine a_binN ?_ | refine a_notd ?_ | refine a_notb ?_ | refine a_nilc ?_ | refine a_fa ?_ | refine a_ext ?_ | refine a_lenv ?_ | refine a_lens ?_ | refine a_pick_t ?_ | refine a_pick_f ?_ | refine a_not ?_ | refine a_nilf ?_ | (refine o_nil (hK _ _ ?_); clear hK K) | refine wk_reg ?_ | refine wk_seq fun K hK => ?_ | (refine wk_skip (hK _ _ ?_); clear hK K) | (refine wk_label (hK _ _ ?_); clear hK K) | refine wk_scope ?_ | refine wk_block ?_ | refine wk_cond_t rfl ?_ | refine wk_cond_f rfl ?_ | (refine wk_exit ?_; (repeat (refine blockK_other rfl ?_)); refine blockK_same ?_; try ((repeat ((fail_if_success (refine hK _ _ ?_)); clear hK K)); refine hK _ _ ?_; clear hK K)) | (refine a_bin ?_ ?_ <;> intro _))
      refine wk_loopH [] rfl (fun j : Nat => [(0, str s), (1, .int .i64 (i : Int)), (4, .pointer (some ⟨r, 0, none⟩)), (5, .int .i64 0), (6, .int .i64 (j : Int)), (7, .pointer (some ⟨b, 0, none⟩)), (8, .int .u8 (s[i].toNat : Int))]) (fun j w' => (i < j ∧ j ≤ s.length ∧ spanLen isWord (s.drop i) = (j - i) + spanLen isWord (s.drop j)) ∧ LH w (fun _ => False) w' [(b, .cells #[.int .i64 0, .string ⟨#[]⟩, .int .i64 0, .int .i64 (i : Int)] 88 (0, 0)), (r, .cells #[.int .i64 0, .string ⟨#[]⟩, .int .i64 0, .int .i64 0] 88 (0, 0))]) (fun j => s.length - j) (i + 1) ⟨rfl, rfl, rfl, rfl, rfl, rfl, rfl, trivial⟩ ⟨⟨by omega, hi, by rw [hdr]; simp only [spanLen, hw3, if_true]; omega⟩, hl⟩ ?_
      clear hl
      rintro j t3 w5 ⟨⟨hj1, hj2, hj3⟩, hl⟩
      have ho : spanLen isWord (s.drop j) = 0 → one (s.drop i) = ⟨1, j - i, 0, if 24 < j - i then 2 else 0⟩ := fun h0 => by
        unfold one
        rw [hhd, (cls3 _).2 h3]
        rw [h0] at hj3
        simp only [hj3, Nat.add_zero]
      repeat' (first | refine a_mov ?_ | refine a_asg ?_ | refine a_binN ?_ | refine a_notd ?_ | refine a_notb ?_ | refine a_nilc ?_ | refine a_fa ?_ | refine a_ext ?_ | refine a_lenv ?_ | refine a_lens ?_ | refine a_pick_t ?_ | refine a_pick_f ?_ | refine a_not ?_ | refine a_nilf ?_ | (refine o_nil (hK _ _ ?_); clear hK K) | refine wk_reg ?_ | refine wk_seq fun K hK => ?_ | (refine wk_skip (hK _ _ ?_); clear hK K) | (refine wk_label (hK _ _ ?_); clear hK K) | refine wk_scope ?_ | refine wk_block ?_ | refine wk_cond_t rfl ?_ | refine wk_cond_f rfl ?_ | (refine wk_exit ?_; (repeat (refine blockK_other rfl ?_)); refine blockK_same ?_; try ((repeat ((fail_if_success (refine hK _ _ ?_)); clear hK K)); refine hK _ _ ?_; clear hK K)) | (refine a_bin ?_ ?_ <;> intro _))
      · have hjl : j < s.length := by omega
        refine o_index (c := s[j]) j rfl rfl rfl rfl rfl (by simp [hjl]) ?_
        refine o_fn (word_calls s[j] _) rfl (fun _ => rfl) rfl ?_
        rintro _ w6 ⟨rfl, rfl⟩
        have hdj : s.drop j = s[j] :: s.drop (j + 1) := List.drop_eq_getElem_cons hjl
        cases hwj : isWord s[j]
        · have h0 : spanLen isWord (s.drop j) = 0 := by rw [hdj]; simp [spanLen, hwj]
          have ho := ho h0
          repeat' (first | refine a_mov ?_ | refine a_asg ?_ | refine a_binN ?_ | refine a_notd ?_ | refine a_notb ?_ | refine a_nilc ?_ | refine a_fa ?_ | refine a_ext ?_ | refine a_lenv ?_ | refine a_lens ?_ | refine a_pick_t ?_ | refine a_pick_f ?_ | refine a_not ?_ | refine a_nilf ?_ | (refine o_nil (hK _ _ ?_); clear hK K) | refine wk_reg ?_ | refine wk_seq fun K hK => ?_ | (refine wk_skip (hK _ _ ?_); clear hK K) | (refine wk_label (hK _ _ ?_); clear hK K) | refine wk_scope ?_ | refine wk_block ?_ | refine wk_cond_t rfl ?_ | refine wk_cond_f rfl ?_ | (refine wk_exit ?_; (repeat (refine blockK_other rfl ?_)); refine blockK_same ?_; try ((repeat ((fail_if_success (refine hK _ _ ?_)); clear hK K)); refine hK _ _ ?_; clear hK K)) | (refine a_bin ?_ ?_ <;> intro _))
          refine o_store hl 0 [.int .i64 1] rfl rfl rfl rfl rfl (by simp) rfl ?_
          clear hl
          intro w7 hl
          have hl : LH w (fun _ => False) w7 [(b, .cells #[.int .i64 1, .string ⟨#[]⟩, .int .i64 0, .int .i64 (i : Int)] 88 (0, 0)), (r, .cells #[.int .i64 0, .string ⟨#[]⟩, .int .i64 0, .int .i64 0] 88 (0, 0))] := hl
          repeat' (first | refine a_mov ?_ | refine a_asg ?_ | refine a_binN ?_ | refine a_notd ?_ | refine a_notb ?_ | refine a_nilc ?_ | refine a_fa ?_ | refine a_ext ?_ | refine a_lenv ?_ | refine a_lens ?_ | refine a_pick_t ?_ | refine a_pick_f ?_ | refine a_not ?_ | refine a_nilf ?_ | (refine o_nil (hK _ _ ?_); clear hK K) | refine wk_reg ?_ | refine wk_seq fun K hK => ?_ | (refine wk_skip (hK _ _ ?_); clear hK K) | (refine wk_label (hK _ _ ?_); clear hK K) | refine wk_scope ?_ | refine wk_block ?_ | refine wk_cond_t rfl ?_ | refine wk_cond_f rfl ?_ | (refine wk_exit ?_; (repeat (refine blockK_other rfl ?_)); refine blockK_same ?_; try ((repeat ((fail_if_success (refine hK _ _ ?_)); clear hK K)); refine hK _ _ ?_; clear hK K)) | (refine a_bin ?_ ?_ <;> intro _))
          · rw [if_pos (by omega)] at ho
            refine o_build (t := 88) [.int .i64 0, .string ⟨#[]⟩, .int .i64 0, .int .i64 0] rfl rfl ?_
            refine o_store hl 1 [.int .i64 0, .string ⟨#[]⟩, .int .i64 0, .int .i64 0] rfl rfl rfl rfl rfl (by simp) rfl ?_
            intro we hle
            repeat' (first | refine a_mov ?_ | refine a_asg ?_ | refine a_binN ?_ | refine a_notd ?_ | refine a_notb ?_ | refine a_nilc ?_ | refine a_fa ?_ | refine a_ext ?_ | refine a_lenv ?_ | refine a_lens ?_ | refine a_pick_t ?_ | refine a_pick_f ?_ | refine a_not ?_ | refine a_nilf ?_ | (refine o_nil (hK _ _ ?_); clear hK K) | refine wk_reg ?_ | refine wk_seq fun K hK => ?_ | (refine wk_skip (hK _ _ ?_); clear hK K) | (refine wk_label (hK _ _ ?_); clear hK K) | refine wk_scope ?_ | refine wk_block ?_ | refine wk_cond_t rfl ?_ | refine wk_cond_f rfl ?_ | (refine wk_exit ?_; (repeat (refine blockK_other rfl ?_)); refine blockK_same ?_; try ((repeat ((fail_if_success (refine hK _ _ ?_)); clear hK K)); refine hK _ _ ?_; clear hK K)) | (refine a_bin ?_ ?_ <;> intro _))
            refine wk_ret (retQ_res [.agg #[.int .i64 0, .string ⟨#[]⟩, .int .i64 0, .int .i64 0], .int .i64 2] rfl rfl ⟨by decide, ⟨⟨r, 0, none⟩, rfl, run_loadVarN (vs := [.int .i64 0, .string ⟨#[]⟩, .int .i64 0, .int .i64 0]) rfl rfl (hle.rowL (vs := [.int .i64 0, .string ⟨#[]⟩, .int .i64 0, .int .i64 0]) 1 0 4 rfl)⟩, by decide, rfl, trivial⟩ ⟨?_, hle.done⟩)
            unfold nextV
            rw [ho]
            rfl
          · rw [if_neg (by omega)] at ho
            refine wk_skip ⟨(), ?_, rfl, by rw [ho], ?_⟩
            · rw [ho]; refine ⟨rfl, rfl, rfl, rfl, ?_, rfl, trivial⟩
              show Value.int _ _ = Value.int _ _
              congr 1 <;> (simp only; omega)
            · rw [ho]; exact hl
        · repeat' (first | refine a_mov ?_ | refine a_asg ?_ | refine a_binN ?_ | refine a_notd ?_ | refine a_notb ?_ | refine a_nilc ?_ | refine a_fa ?_ | refine a_ext ?_ | refine a_lenv ?_ | refine a_lens ?_ | refine a_pick_t ?_ | refine a_pick_f ?_ | refine a_not ?_ | refine a_nilf ?_ | (refine o_nil (hK _ _ ?_); clear hK K) | refine wk_reg ?_ | refine wk_seq fun K hK => ?_ | (refine wk_skip (hK _ _ ?_); clear hK K) | (refine wk_label (hK _ _ ?_); clear hK K) | refine wk_scope ?_ | refine wk_block ?_ | refine wk_cond_t rfl ?_ | refine wk_cond_f rfl ?_ | (refine wk_exit ?_; (repeat (refine blockK_other rfl ?_)); refine blockK_same ?_; try ((repeat ((fail_if_success (refine hK _ _ ?_)); clear hK K)); refine hK _ _ ?_; clear hK K)) | (refine a_bin ?_ ?_ <;> intro _))
          refine o_nil ⟨j + 1, ⟨rfl, rfl, rfl, rfl, rfl, rfl, rfl, trivial⟩, rfl, ⟨⟨by omega, hjl, ?_⟩, hl⟩, by omega⟩
          rw [hj3, hdj]; simp only [spanLen, hwj, if_true]; omega
      · have h0 : spanLen isWord (s.drop j) = 0 := by rw [List.drop_eq_nil_iff.2 (by omega)]; rfl
        have ho := ho h0
        refine o_store hl 0 [.int .i64 1] rfl rfl rfl rfl rfl (by simp) rfl ?_
        clear hl
        intro w7 hl
        have hl : LH w (fun _ => False) w7 [(b, .cells #[.int .i64 1, .string ⟨#[]⟩, .int .i64 0, .int .i64 (i : Int)] 88 (0, 0)), (r, .cells #[.int .i64 0, .string ⟨#[]⟩, .int .i64 0, .int .i64 0] 88 (0, 0))] := hl
        repeat' (first | refine a_mov ?_ | refine a_asg ?_ | refine a_binN ?_ | refine a_notd ?_ | refine a_notb ?_ | refine a_nilc ?_ | refine a_fa ?_ | refine a_ext ?_ | refine a_lenv ?_ | refine a_lens ?_ | refine a_pick_t ?_ | refine a_pick_f ?_ | refine a_not ?_ | refine a_nilf ?_ | (refine o_nil (hK _ _ ?_); clear hK K) | refine wk_reg ?_ | refine wk_seq fun K hK => ?_ | (refine wk_skip (hK _ _ ?_); clear hK K) | (refine wk_label (hK _ _ ?_); clear hK K) | refine wk_scope ?_ | refine wk_block ?_ | refine wk_cond_t rfl ?_ | refine wk_cond_f rfl ?_ | (refine wk_exit ?_; (repeat (refine blockK_other rfl ?_)); refine blockK_same ?_; try ((repeat ((fail_if_success (refine hK _ _ ?_)); clear hK K)); refine hK _ _ ?_; clear hK K)) | (refine a_bin ?_ ?_ <;> intro _))
        · rw [if_pos (by omega)] at ho
          refine o_build (t := 88) [.int .i64 0, .string ⟨#[]⟩, .int .i64 0, .int .i64 0] rfl rfl ?_
          refine o_store hl 1 [.int .i64 0, .string ⟨#[]⟩, .int .i64 0, .int .i64 0] rfl rfl rfl rfl rfl (by simp) rfl ?_
          intro we hle
          repeat' (first | refine a_mov ?_ | refine a_asg ?_ | refine a_binN ?_ | refine a_notd ?_ | refine a_notb ?_ | refine a_nilc ?_ | refine a_fa ?_ | refine a_ext ?_ | refine a_lenv ?_ | refine a_lens ?_ | refine a_pick_t ?_ | refine a_pick_f ?_ | refine a_not ?_ | refine a_nilf ?_ | (refine o_nil (hK _ _ ?_); clear hK K) | refine wk_reg ?_ | refine wk_seq fun K hK => ?_ | (refine wk_skip (hK _ _ ?_); clear hK K) | (refine wk_label (hK _ _ ?_); clear hK K) | refine wk_scope ?_ | refine wk_block ?_ | refine wk_cond_t rfl ?_ | refine wk_cond_f rfl ?_ | (refine wk_exit ?_; (repeat (refine blockK_other rfl ?_)); refine blockK_same ?_; try ((repeat ((fail_if_success (refine hK _ _ ?_)); clear hK K)); refine hK _ _ ?_; clear hK K)) | (refine a_bin ?_ ?_ <;> intro _))
          refine wk_ret (retQ_res [.agg #[.int .i64 0, .string ⟨#[]⟩, .int .i64 0, .int .i64 0], .int .i64 2] rfl rfl ⟨by decide, ⟨⟨r, 0, none⟩, rfl, run_loadVarN (vs := [.int .i64 0, .string ⟨#[]⟩, .int .i64 0, .int .i64 0]) rfl rfl (hle.rowL (vs := [.int .i64 0, .string ⟨#[]⟩, .int .i64 0, .int .i64 0]) 1 0 4 rfl)⟩, by decide, rfl, trivial⟩ ⟨?_, hle.done⟩)
          unfold nextV
          rw [ho]
          rfl
        · rw [if_neg (by omega)] at ho
          refine wk_skip ⟨(), ?_, rfl, by rw [ho], ?_⟩
          · rw [ho]; refine ⟨rfl, rfl, rfl, rfl, ?_, rfl, trivial⟩
            show Value.int _ _ = Value.int _ _
            congr 1 <;> (simp only; omega)
          · rw [ho]; exact hl
  · rintro _ t w4 ⟨he0, hl⟩
    refine hK _ _ ?_
    clear hK K
    have hle := one_len_le (s.drop i) (fun h => by have := List.drop_eq_nil_iff.1 h; omega)
    rw [List.length_drop] at hle
    have hcut : (s.take (i + (one (s.drop i)).len)).drop i = (s.drop i).take (one (s.drop i)).len := by rw [List.drop_take]; congr 1; omega
    repeat' (first | refine a_mov ?_ | refine a_asg ?_ | refine a_binN ?_ | refine a_notd ?_ | refine a_notb ?_ | refine a_nilc ?_ | refine a_fa ?_ | refine a_ext ?_ | refine a_lenv ?_ | refine a_lens ?_ | refine a_pick_t ?_ | refine a_pick_f ?_ | refine a_not ?_ | refine a_nilf ?_ | (refine o_nil (hK _ _ ?_); clear hK K) | refine wk_reg ?_ | refine wk_seq fun K hK => ?_ | (refine wk_skip (hK _ _ ?_); clear hK K) | (refine wk_label (hK _ _ ?_); clear hK K) | refine wk_scope ?_ | refine wk_block ?_ | refine wk_cond_t rfl ?_ | refine wk_cond_f rfl ?_ | (refine wk_exit ?_; (repeat (refine blockK_other rfl ?_)); refine blockK_same ?_; try ((repeat ((fail_if_success (refine hK _ _ ?_)); clear hK K)); refine hK _ _ ?_; clear hK K)) | (refine a_bin ?_ ?_ <;> intro _))
    refine o_cut2 i (i + (one (s.drop i)).len) (by omega) (by omega) rfl rfl rfl rfl rfl rfl rfl ?_
    rw [hcut]
    repeat' (first | refine a_mov ?_ | refine a_asg ?_ | refine a_binN ?_ | refine a_notd ?_ | refine a_notb ?_ | refine a_nilc ?_ | refine a_fa ?_ | refine a_ext ?_ | refine a_lenv ?_ | refine a_lens ?_ | refine a_pick_t ?_ | refine a_pick_f ?_ | refine a_not ?_ | refine a_nilf ?_ | (refine o_nil (hK _ _ ?_); clear hK K) | refine wk_reg ?_ | refine wk_seq fun K hK => ?_ | (refine wk_skip (hK _ _ ?_); clear hK K) | (refine wk_label (hK _ _ ?_); clear hK K) | refine wk_scope ?_ | refine wk_block ?_ | refine wk_cond_t rfl ?_ | refine wk_cond_f rfl ?_ | (refine wk_exit ?_; (repeat (refine blockK_other rfl ?_)); refine blockK_same ?_; try ((repeat ((fail_if_success (refine hK _ _ ?_)); clear hK K)); refine hK _ _ ?_; clear hK K)) | (refine a_bin ?_ ?_ <;> intro _))
    refine o_store hl 0 [str ((s.drop i).take (one (s.drop i)).len)] rfl rfl rfl (by simp only [str_eq]; rfl) rfl (by simp) (by simp only [str_eq]; rfl) ?_
    clear hl
    intro w5 hl
    repeat' (first | refine a_mov ?_ | refine a_asg ?_ | refine a_binN ?_ | refine a_notd ?_ | refine a_notb ?_ | refine a_nilc ?_ | refine a_fa ?_ | refine a_ext ?_ | refine a_lenv ?_ | refine a_lens ?_ | refine a_pick_t ?_ | refine a_pick_f ?_ | refine a_not ?_ | refine a_nilf ?_ | (refine o_nil (hK _ _ ?_); clear hK K) | refine wk_reg ?_ | refine wk_seq fun K hK => ?_ | (refine wk_skip (hK _ _ ?_); clear hK K) | (refine wk_label (hK _ _ ?_); clear hK K) | refine wk_scope ?_ | refine wk_block ?_ | refine wk_cond_t rfl ?_ | refine wk_cond_f rfl ?_ | (refine wk_exit ?_; (repeat (refine blockK_other rfl ?_)); refine blockK_same ?_; try ((repeat ((fail_if_success (refine hK _ _ ?_)); clear hK K)); refine hK _ _ ?_; clear hK K)) | (refine a_bin ?_ ?_ <;> intro _))
    refine o_loadN (vs := tokV (one (s.drop i)).kind ((s.drop i).take (one (s.drop i)).len) (one (s.drop i)).num i) rfl rfl rfl rfl (hl.rowL 0 0 4 rfl) ?_
    refine o_store hl 1 (tokV (one (s.drop i)).kind ((s.drop i).take (one (s.drop i)).len) (one (s.drop i)).num i) rfl rfl rfl rfl rfl (by simp [tokV]) (by simp only [tokV, str_eq]; rfl) ?_
    intro w6 hl6
    repeat' (first | refine a_mov ?_ | refine a_asg ?_ | refine a_binN ?_ | refine a_notd ?_ | refine a_notb ?_ | refine a_nilc ?_ | refine a_fa ?_ | refine a_ext ?_ | refine a_lenv ?_ | refine a_lens ?_ | refine a_pick_t ?_ | refine a_pick_f ?_ | refine a_not ?_ | refine a_nilf ?_ | (refine o_nil (hK _ _ ?_); clear hK K) | refine wk_reg ?_ | refine wk_seq fun K hK => ?_ | (refine wk_skip (hK _ _ ?_); clear hK K) | (refine wk_label (hK _ _ ?_); clear hK K) | refine wk_scope ?_ | refine wk_block ?_ | refine wk_cond_t rfl ?_ | refine wk_cond_f rfl ?_ | (refine wk_exit ?_; (repeat (refine blockK_other rfl ?_)); refine blockK_same ?_; try ((repeat ((fail_if_success (refine hK _ _ ?_)); clear hK K)); refine hK _ _ ?_; clear hK K)) | (refine a_bin ?_ ?_ <;> intro _))
    refine wk_ret (retQ_res [.agg (tokV (one (s.drop i)).kind ((s.drop i).take (one (s.drop i)).len) (one (s.drop i)).num i).toArray, .int .i64 0] rfl rfl ⟨by decide, ⟨⟨r, 0, none⟩, rfl, run_loadVarN rfl rfl (hl6.rowL 1 0 4 rfl)⟩, by decide, rfl, trivial⟩ ⟨?_, hl6.done⟩)
    unfold nextV
    rw [if_pos he0]
    rfl
end Go.Proofs
