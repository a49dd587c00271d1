/-
  The lexer's helpers: what each call answers.
-/
import Derived.Test.YtpmjolbnmoejdaaGreatDoorProg
import Derived.Test.YtpmjolbnmoejdaaGreatDoorQLB
import Derived.Test.YtpmjolbnmoejdaaGreatDoorQLx
import Derived.KernelRfl
set_option linter.unusedVariables false
set_option linter.unusedSimpArgs false
set_option linter.unnecessarySimpa false
set_option maxRecDepth 10000
namespace Go.Proofs
open Go Go.Pd Go.Lexs
attribute [local irreducible] OpsL W RetQ OpsQ OpsC

theorem indexByte2_calls (s : List UInt8) (c : UInt8) (w : World) :
    Calls Tryz.prog 151 #[str s, .int .u8 (c.toNat : Int)] w (fun e w' => ∃ v, e = .returned v ∧ v = .int .i64 (Lib.indexByte s c) ∧ w' = w) := by
  refine calls_of Tryz.func151 rfl Tryz.ntmps151 rfl ?_
  repeat (first | refine o_mov rfl (by conv => lhs; whnf) ?_ | refine o_asg rfl (by conv => lhs; whnf) ?_ | (refine o_nil (hK _ _ ?_); clear hK K) | refine wk_reg ?_ | refine wk_seq fun K hK => ?_)
  refine o_extern (v := .int .i64 (Lib.indexByte s c)) (args := #[str s, .int .u8 (c.toNat : Int)]) rfl Tryz.func157 (by kernel_rfl) rfl (by kernel_rfl) (e := Extern.BytealgIndexByte.indexByte) (by kernel_rfl) rfl ?_ ?_
  · have := Lib.run_indexByteString (P := Tryz.prog) ⟨s.toArray⟩ (c.toNat : Int) w
    simp only [Int.toNat_natCast] at this
    have h2 : c.toNat.toUInt8 = c := by simp
    rw [h2, ← str_eq] at this
    exact this
  · repeat (first | refine o_mov rfl (by conv => lhs; whnf) ?_ | refine o_asg rfl (by conv => lhs; whnf) ?_ | (refine o_nil (hK _ _ ?_); clear hK K) | refine wk_reg ?_ | refine wk_seq fun K hK => ?_)
    refine wk_ret (retQ_tmp1 Tryz.results151 (by decide) rfl (by conv => lhs; whnf) ?_)
    exact ⟨rfl, rfl⟩

theorem indexByte_calls (s : List UInt8) (c : UInt8) (w : World) :
    Calls Tryz.prog 146 #[str s, .int .u8 (c.toNat : Int)] w (fun e w' => ∃ v, e = .returned v ∧ v = .int .i64 (Lib.indexByte s c) ∧ w' = w) := by
  refine calls_of Tryz.func146 rfl Tryz.ntmps146 rfl ?_
  repeat (first | refine o_mov rfl (by conv => lhs; whnf) ?_ | refine o_asg rfl (by conv => lhs; whnf) ?_ | (refine o_nil (hK _ _ ?_); clear hK K) | refine wk_reg ?_ | refine wk_seq fun K hK => ?_)
  refine o_fn (indexByte2_calls s c w) rfl (fun _ => rfl) rfl ?_
  rintro v w' ⟨rfl, rfl⟩
  repeat (first | refine o_mov rfl (by conv => lhs; whnf) ?_ | refine o_asg rfl (by conv => lhs; whnf) ?_ | (refine o_nil (hK _ _ ?_); clear hK K) | refine wk_reg ?_ | refine wk_seq fun K hK => ?_)
  refine wk_ret (retQ_tmp1 Tryz.results146 (by decide) rfl (by conv => lhs; whnf) ?_)
  exact ⟨rfl, rfl⟩

def classL : List Value := (List.range 256).map fun i => .int .u8 (cls i.toUInt8 : Int)

theorem classL_at (c : UInt8) : classL[c.toNat]? = some (.int .u8 (cls c : Int)) := by
  have h : c.toNat < 256 := c.toNat_lt
  simp [classL, h]

theorem at_calls (text : List UInt8) (i : Nat) (bt bc : Nat) (w : World) (hn : text.length ≤ 9223372036854775807) (hi : i ≤ 9223372036854775807) (ht : w.cell? ⟨bt, 0, none⟩ = some (str text)) (hc : Row w bc 0 classL) :
    Calls Tryz.prog 138 #[.int .i64 (i : Int), .pointer (some ⟨bt, 0, none⟩), .pointer (some ⟨bc, 0, none⟩)] w (fun e w' => ∃ v, e = .returned v ∧ v = .int .u8 (hd (text.drop i) : Int) ∧ w' = w) := by
  refine calls_of Tryz.func138 rfl Tryz.ntmps138 rfl ?_
  repeat (first | refine o_mov rfl (by conv => lhs; whnf) ?_ | refine o_asg rfl (by conv => lhs; whnf) ?_ | refine o_binC rfl rfl rfl rfl ?_ | refine o_lens rfl rfl rfl ?_ | (refine o_nil (hK _ _ ?_); clear hK K) | refine wk_reg ?_ | refine wk_seq fun K hK => ?_ | (refine wk_skip (hK _ _ ?_); clear hK K))
  refine o_load rfl rfl rfl ht ?_
  repeat (first | refine o_mov rfl (by conv => lhs; whnf) ?_ | refine o_asg rfl (by conv => lhs; whnf) ?_ | refine o_binC rfl rfl rfl rfl ?_ | refine o_lens rfl rfl rfl ?_ | (refine o_nil (hK _ _ ?_); clear hK K) | refine wk_reg ?_ | refine wk_seq fun K hK => ?_ | (refine wk_skip (hK _ _ ?_); clear hK K))
  refine wk_cond_dec rfl ?_ ?_
  · intro h
    repeat (first | refine o_mov rfl (by conv => lhs; whnf) ?_ | refine o_asg rfl (by conv => lhs; whnf) ?_ | refine o_binC rfl rfl rfl rfl ?_ | refine o_lens rfl rfl rfl ?_ | (refine o_nil (hK _ _ ?_); clear hK K) | refine wk_reg ?_ | refine wk_seq fun K hK => ?_ | (refine wk_skip (hK _ _ ?_); clear hK K))
    refine wk_ret (retQ_tmp1 Tryz.results138 (by decide) rfl (by conv => lhs; whnf) ?_)
    refine ⟨?_, rfl⟩
    have : text.drop i = [] := List.drop_eq_nil_iff.2 (by omega)
    rw [this]; rfl
  · intro h
    have hlt : i < text.length := by omega
    repeat (first | refine o_mov rfl (by conv => lhs; whnf) ?_ | refine o_asg rfl (by conv => lhs; whnf) ?_ | refine o_binC rfl rfl rfl rfl ?_ | refine o_lens rfl rfl rfl ?_ | (refine o_nil (hK _ _ ?_); clear hK K) | refine wk_reg ?_ | refine wk_seq fun K hK => ?_ | (refine wk_skip (hK _ _ ?_); clear hK K))
    refine o_load rfl rfl rfl ht ?_
    repeat (first | refine o_mov rfl (by conv => lhs; whnf) ?_ | refine o_asg rfl (by conv => lhs; whnf) ?_ | refine o_binC rfl rfl rfl rfl ?_ | refine o_lens rfl rfl rfl ?_ | (refine o_nil (hK _ _ ?_); clear hK K) | refine wk_reg ?_ | refine wk_seq fun K hK => ?_ | (refine wk_skip (hK _ _ ?_); clear hK K))
    refine o_index i (c := text[i]) rfl rfl rfl rfl rfl (by simp [hlt]) ?_
    refine o_indexArr (k := 1) text[i].toNat text[i].toNat_lt rfl rfl rfl rfl rfl rfl ?_
    have hcell := hc _ _ (classL_at text[i])
    refine o_load rfl rfl rfl (by rw [Nat.mul_one]; exact hcell) ?_
    repeat (first | refine o_mov rfl (by conv => lhs; whnf) ?_ | refine o_asg rfl (by conv => lhs; whnf) ?_ | refine o_binC rfl rfl rfl rfl ?_ | refine o_lens rfl rfl rfl ?_ | (refine o_nil (hK _ _ ?_); clear hK K) | refine wk_reg ?_ | refine wk_seq fun K hK => ?_ | (refine wk_skip (hK _ _ ?_); clear hK K))
    refine wk_ret (retQ_tmp1 Tryz.results138 (by decide) rfl (by conv => lhs; whnf) ?_)
    refine ⟨?_, rfl⟩
    rw [List.drop_eq_getElem_cons hlt]; rfl
end Go.Proofs

/-
  The table of classes.
-/
set_option linter.unusedVariables false
set_option linter.unusedSimpArgs false
set_option linter.unnecessarySimpa false
set_option maxRecDepth 10000
namespace Go.Proofs
open Go Go.Pd Go.Lexs
attribute [local irreducible] OpsL W RetQ OpsQ OpsC

def cls0 (c : UInt8) : Nat :=
  if isLetter c then 3 else if isDigit c then 4 else if c = 32 ∨ c = 9 ∨ c = 10 then 1
  else if c ∈ [59, 44, 46, 58, 40, 41, 91, 93, 123, 125, 61] then 6 else if c = 60 ∨ c = 62 then 7 else 0

def tab (k : Nat) : List Value := (List.range 256).map fun i => .int .u8 (if i < k then (cls0 i.toUInt8 : Int) else 0)

theorem tab_length (k : Nat) : (tab k).length = 256 := by simp [tab]
theorem tab_zero : tab 0 = List.replicate 256 (.int .u8 0) := by
  simp [tab, List.map_const']
theorem tab_succ {k : Nat} {v : Int} (h : k < 256) (hv : v = (cls0 k.toUInt8 : Int)) : (tab k).set k (.int .u8 v) = tab (k + 1) := by
  subst hv
  apply List.ext_getElem?
  intro i
  rw [List.getElem?_set]
  simp only [tab_length]
  split
  · rename_i hi; subst hi
    simp [tab, h]
  · rename_i hi
    simp only [tab, List.getElem?_map]
    cases hr : (List.range 256)[i]? with
    | none => rfl
    | some j =>
      have hj : j = i := by
        have := List.getElem?_eq_some_iff.1 hr
        obtain ⟨h1, h2⟩ := this
        simp at h2; exact h2.symm
      subst hj
      have : (j < k + 1) = (j < k) := by
        apply propext; omega
      simp [this]
theorem tab_same {k : Nat} (h : k < 256) (hv : cls0 k.toUInt8 = 0) : tab k = tab (k + 1) := by
  have := tab_succ (k := k) (v := 0) h (by simp [hv])
  rw [← this]
  apply List.ext_getElem?
  intro i
  rw [List.getElem?_set]
  split
  · rename_i hi; subst hi
    simp [tab, h]
  · rfl

theorem tab_done : putL (putL (putL (tab 256) 35 [.int .u8 2]) 95 [.int .u8 5]) 33 [.int .u8 8] = classL := by
  apply List.ext_getElem?
  intro i
  simp only [putL, List.getElem?_set, List.length_set, tab_length]
  by_cases h : i < 256
  · have key : ∀ i : Fin 256, (if 33 = i.1 then (8 : Nat) else if 95 = i.1 then 5 else if 35 = i.1 then 2 else cls0 i.1.toUInt8) = cls i.1.toUInt8 := by decide +kernel
    have := key ⟨i, h⟩
    simp only at this
    simp only [classL, tab, List.getElem?_map, List.getElem?_range h, Option.map_some, h, if_true]
    rw [← this]
    split
    · simp
    · split
      · simp
      · split
        · simp
        · simp
  · have h1 : 33 ≠ i := by omega
    have h2 : 95 ≠ i := by omega
    have h3 : 35 ≠ i := by omega
    have h4 : (List.range 256)[i]? = none := by simp; omega
    simp [h1, h2, h3, classL, tab, h4]

theorem toNat_of (k : Nat) (h : k < 256) : (k.toUInt8.toNat : Int) = (k : Int) := by
  have : k.toUInt8.toNat = k := by simp [Nat.toUInt8]; omega
  rw [this]

theorem ix_gen (l : List UInt8) (c : UInt8) : (0 ≤ Lib.indexByte l c) ↔ c ∈ l := by
  induction l with
  | nil => simp [Lib.indexByte]
  | cons b l ih =>
    have hg := Lib.indexByte_ge l c
    simp only [Lib.indexByte]
    by_cases h : b = c
    · subst h; simp
    · simp only [beq_iff_eq, h, if_false, List.mem_cons]
      have h' : c ≠ b := fun e => h e.symm
      simp only [h', false_or, ← ih]
      split
      · omega
      · omega

theorem ix_blank (c : UInt8) : (0 ≤ Lib.indexByte [32, 9, 10] c) ↔ (c = 32 ∨ c = 9 ∨ c = 10) := by
  rw [ix_gen]; simp

theorem isLetter_int (k : Nat) (h : k < 256) : isLetter k.toUInt8 = decide ((97 ≤ (k : Int) ∧ (k : Int) ≤ 122) ∨ (65 ≤ (k : Int) ∧ (k : Int) ≤ 90)) := by
  have key : ∀ i : Fin 256, isLetter i.1.toUInt8 = decide ((97 ≤ (i.1 : Int) ∧ (i.1 : Int) ≤ 122) ∨ (65 ≤ (i.1 : Int) ∧ (i.1 : Int) ≤ 90)) := by decide +kernel
  exact key ⟨k, h⟩
theorem isDigit_int (k : Nat) (h : k < 256) : isDigit k.toUInt8 = decide (48 ≤ (k : Int) ∧ (k : Int) ≤ 57) := by
  have key : ∀ i : Fin 256, isDigit i.1.toUInt8 = decide (48 ≤ (i.1 : Int) ∧ (i.1 : Int) ≤ 57) := by decide +kernel
  exact key ⟨k, h⟩
theorem toUInt8_eq (k : Nat) (h : k < 256) (m : Nat) (hm : m < 256) : k.toUInt8 = m.toUInt8 ↔ (k : Int) = (m : Int) := by
  constructor
  · intro e
    have := toNat_of k h
    have h2 := toNat_of m hm
    rw [e] at this; omega
  · intro e
    have : k = m := by omega
    rw [this]

set_option maxHeartbeats 4000000 in
theorem classes_calls (w : World) : Calls Tryz.prog 137 #[] w (fun e w' => ∃ v, e = .returned v ∧ v = .agg classL.toArray ∧ Ext w w') := by
  refine calls_of Tryz.func137 rfl Tryz.ntmps137 rfl ?_
  repeat (first | refine o_mov rfl (by conv => lhs; whnf) ?_ | refine o_asg rfl (by conv => lhs; whnf) ?_ | refine o_binN rfl rfl rfl rfl (by omega) ?_ | refine o_pick_t rfl rfl (by conv => lhs; whnf) ?_ | refine o_pick_f rfl rfl (by conv => lhs; whnf) ?_ | refine o_not rfl ?_ | (refine o_nil (hK _ _ ?_); clear hK K) | refine wk_reg ?_ | refine wk_seq fun K hK => ?_ | (refine wk_skip (hK _ _ ?_); clear hK K) | refine wk_block ?_ | refine wk_cond_t rfl ?_ | refine wk_cond_f rfl ?_)
  have hl := LH.start w (fun _ => False)
  refine o_alloc hl (List.replicate 256 (.int .u8 0)) (by kernel_rfl) rfl ?_
  clear hl
  intro b0 w1 hb0 hl
  repeat (first | refine o_mov rfl (by conv => lhs; whnf) ?_ | refine o_asg rfl (by conv => lhs; whnf) ?_ | refine o_binN rfl rfl rfl rfl (by omega) ?_ | refine o_pick_t rfl rfl (by conv => lhs; whnf) ?_ | refine o_pick_f rfl rfl (by conv => lhs; whnf) ?_ | refine o_not rfl ?_ | (refine o_nil (hK _ _ ?_); clear hK K) | refine wk_reg ?_ | refine wk_seq fun K hK => ?_ | (refine wk_skip (hK _ _ ?_); clear hK K) | refine wk_block ?_ | refine wk_cond_t rfl ?_ | refine wk_cond_f rfl ?_)
  refine o_alloc hl (List.replicate 256 (.int .u8 0)) (by kernel_rfl) rfl ?_
  clear hl
  intro b1 w2 hb1 hl
  repeat (first | refine o_mov rfl (by conv => lhs; whnf) ?_ | refine o_asg rfl (by conv => lhs; whnf) ?_ | refine o_binN rfl rfl rfl rfl (by omega) ?_ | refine o_pick_t rfl rfl (by conv => lhs; whnf) ?_ | refine o_pick_f rfl rfl (by conv => lhs; whnf) ?_ | refine o_not rfl ?_ | (refine o_nil (hK _ _ ?_); clear hK K) | refine wk_reg ?_ | refine wk_seq fun K hK => ?_ | (refine wk_skip (hK _ _ ?_); clear hK K) | refine wk_block ?_ | refine wk_cond_t rfl ?_ | refine wk_cond_f rfl ?_)
  rw [← tab_zero] at hl
  refine wk_loopH [] rfl (fun k : Nat => [(0, .pointer (some ⟨b0, 0, none⟩)), (1, .pointer (some ⟨b1, 0, none⟩)), (4, .int .i64 (k : Int))]) (fun k w' => k ≤ 256 ∧ LH w (fun _ => False) w' [(b1, .cells (tab k).toArray 195 (0, 0)), (b0, .cells (tab 0).toArray 195 (0, 0))]) (fun k => 256 - k) 0 ⟨rfl, rfl, rfl, trivial⟩ ⟨by omega, hl⟩ ?_
  clear hl
  rintro k t w3 ⟨hk, hl⟩
  repeat (first | refine o_mov rfl (by conv => lhs; whnf) ?_ | refine o_asg rfl (by conv => lhs; whnf) ?_ | refine o_binN rfl rfl rfl rfl (by omega) ?_ | refine o_pick_t rfl rfl (by conv => lhs; whnf) ?_ | refine o_pick_f rfl rfl (by conv => lhs; whnf) ?_ | refine o_not rfl ?_ | (refine o_nil (hK _ _ ?_); clear hK K) | refine wk_reg ?_ | refine wk_seq fun K hK => ?_ | (refine wk_skip (hK _ _ ?_); clear hK K) | refine wk_block ?_ | refine wk_cond_t rfl ?_ | refine wk_cond_f rfl ?_)
  refine o_binT rfl rfl rfl rfl ?_ ?_
  · intro hlt
    have hlt' : k < 256 := by omega
    repeat (first | refine o_mov rfl (by conv => lhs; whnf) ?_ | refine o_asg rfl (by conv => lhs; whnf) ?_ | refine o_binN rfl rfl rfl rfl (by omega) ?_ | refine o_pick_t rfl rfl (by conv => lhs; whnf) ?_ | refine o_pick_f rfl rfl (by conv => lhs; whnf) ?_ | refine o_not rfl ?_ | (refine o_nil (hK _ _ ?_); clear hK K) | refine wk_reg ?_ | refine wk_seq fun K hK => ?_ | (refine wk_skip (hK _ _ ?_); clear hK K) | refine wk_block ?_ | refine wk_cond_t rfl ?_ | refine wk_cond_f rfl ?_)
    refine o_conv rfl rfl rfl rfl (wrap_u8 (by omega)) ?_
    have hL := isLetter_int k hlt'
    have hD := isDigit_int k hlt'
    have hI1 := indexByte_calls [32, 9, 10] k.toUInt8 w3
    have hI2 := indexByte_calls [59, 44, 46, 58, 40, 41, 91, 93, 123, 125, 61] k.toUInt8 w3
    rw [toNat_of k hlt'] at hI1 hI2
    have hB1 := ix_blank k.toUInt8
    have hB2 := ix_gen [59, 44, 46, 58, 40, 41, 91, 93, 123, 125, 61] k.toUInt8
    have e60 := toUInt8_eq k hlt' 60 (by omega)
    have e62 := toUInt8_eq k hlt' 62 (by omega)
    have fin : ∀ (v : Int), (cls0 k.toUInt8 : Int) = v → putL (tab k) (0 + k * 1) [.int .u8 v] = tab (k + 1) := fun v hv => by
      rw [Nat.zero_add, Nat.mul_one]; exact tab_succ hlt' hv.symm
    have same := tab_same (k := k) hlt'
    have v3 : (97 ≤ (k : Int) ∧ (k : Int) ≤ 122) ∨ (65 ≤ (k : Int) ∧ (k : Int) ≤ 90) → cls0 k.toUInt8 = 3 := fun h => by
      simp only [cls0, hL, decide_eq_true h, if_true]
    have nL : ¬ ((97 ≤ (k : Int) ∧ (k : Int) ≤ 122) ∨ (65 ≤ (k : Int) ∧ (k : Int) ≤ 90)) → isLetter k.toUInt8 = false := fun h => by
      rw [hL, decide_eq_false h]
    have v4 : isLetter k.toUInt8 = false → 48 ≤ (k : Int) ∧ (k : Int) ≤ 57 → cls0 k.toUInt8 = 4 := fun h1 h => by
      simp only [cls0, h1, hD, decide_eq_true h, if_true, Bool.false_eq_true, if_false]
    have nD : ¬ (48 ≤ (k : Int) ∧ (k : Int) ≤ 57) → isDigit k.toUInt8 = false := fun h => by
      rw [hD, decide_eq_false h]
    have v1 : isLetter k.toUInt8 = false → isDigit k.toUInt8 = false → 0 ≤ Lib.indexByte [32, 9, 10] k.toUInt8 → cls0 k.toUInt8 = 1 := fun h1 h2 h3 => by
      simp only [cls0, h1, h2, hB1.1 h3, if_true, Bool.false_eq_true, if_false]
    have v6 : isLetter k.toUInt8 = false → isDigit k.toUInt8 = false → ¬ 0 ≤ Lib.indexByte [32, 9, 10] k.toUInt8 → 0 ≤ Lib.indexByte [59, 44, 46, 58, 40, 41, 91, 93, 123, 125, 61] k.toUInt8 → cls0 k.toUInt8 = 6 := fun h1 h2 h3 h4 => by
      have n1 : ¬ (k.toUInt8 = 32 ∨ k.toUInt8 = 9 ∨ k.toUInt8 = 10) := fun h => h3 (hB1.2 h)
      simp only [cls0, h1, h2, n1, hB2.1 h4, if_true, Bool.false_eq_true, if_false]
    have v7 : isLetter k.toUInt8 = false → isDigit k.toUInt8 = false → ¬ 0 ≤ Lib.indexByte [32, 9, 10] k.toUInt8 → ¬ 0 ≤ Lib.indexByte [59, 44, 46, 58, 40, 41, 91, 93, 123, 125, 61] k.toUInt8 → (k : Int) = 60 ∨ (k : Int) = 62 → cls0 k.toUInt8 = 7 := fun h1 h2 h3 h4 h5 => by
      have h6 : k.toUInt8 = 60 ∨ k.toUInt8 = 62 := h5.imp e60.2 e62.2
      have n1 : ¬ (k.toUInt8 = 32 ∨ k.toUInt8 = 9 ∨ k.toUInt8 = 10) := fun h => h3 (hB1.2 h)
      have n2 : ¬ (k.toUInt8 ∈ [59, 44, 46, 58, 40, 41, 91, 93, 123, 125, 61]) := fun h => h4 (hB2.2 h)
      simp only [cls0, h1, h2, n1, n2, h6, if_true, Bool.false_eq_true, if_false]
    have v0 : isLetter k.toUInt8 = false → isDigit k.toUInt8 = false → ¬ 0 ≤ Lib.indexByte [32, 9, 10] k.toUInt8 → ¬ 0 ≤ Lib.indexByte [59, 44, 46, 58, 40, 41, 91, 93, 123, 125, 61] k.toUInt8 → ¬ ((k : Int) = 60 ∨ (k : Int) = 62) → cls0 k.toUInt8 = 0 := fun h1 h2 h3 h4 h5 => by
      have h6 : ¬ (k.toUInt8 = 60 ∨ k.toUInt8 = 62) := fun h => h5 (h.imp e60.1 e62.1)
      have n1 : ¬ (k.toUInt8 = 32 ∨ k.toUInt8 = 9 ∨ k.toUInt8 = 10) := fun h => h3 (hB1.2 h)
      have n2 : ¬ (k.toUInt8 ∈ [59, 44, 46, 58, 40, 41, 91, 93, 123, 125, 61]) := fun h => h4 (hB2.2 h)
      simp only [cls0, h1, h2, n1, n2, h6, Bool.false_eq_true, if_false]
    clear hL hD hB1 hB2 e60 e62
    repeat' (first | refine o_mov rfl (by conv => lhs; whnf) ?_ | refine o_asg rfl (by conv => lhs; whnf) ?_ | refine o_binN rfl rfl rfl rfl (by omega) ?_ | refine o_pick_t rfl rfl (by conv => lhs; whnf) ?_ | refine o_pick_f rfl rfl (by conv => lhs; whnf) ?_ | refine o_not rfl ?_ | (refine o_nil (hK _ _ ?_); clear hK K) | refine wk_reg ?_ | refine wk_seq fun K hK => ?_ | (refine wk_skip (hK _ _ ?_); clear hK K) | refine wk_block ?_ | refine wk_cond_t rfl ?_ | refine wk_cond_f rfl ?_ | (refine wk_exit ?_; (repeat (refine blockK_other rfl ?_)); refine blockK_same ?_; (first | (refine hK _ _ ?_; clear hK K) | (clear hK K; refine hK _ _ ?_; clear hK K) | (clear hK K; clear hK K; refine hK _ _ ?_; clear hK K) | (clear hK K; clear hK K; clear hK K; refine hK _ _ ?_; clear hK K) | (clear hK K; clear hK K; clear hK K; clear hK K; refine hK _ _ ?_; clear hK K) | (clear hK K; clear hK K; clear hK K; clear hK K; clear hK K; refine hK _ _ ?_; clear hK K) | skip)) | (refine o_binT rfl rfl rfl rfl ?_ ?_ <;> intro _))
    any_goals (exfalso; omega)
    any_goals
      (refine o_indexArr (k := 1) k hlt' rfl rfl rfl rfl rfl rfl ?_
       first
         | (refine o_store hl 0 [.int .u8 3] rfl rfl rfl rfl rfl (by simp [tab_length]; omega) rfl ?_
            clear hl; intro w4 hl
            have hf := fin 3 (by rw [v3 (by omega)]; rfl)
            rw [hf] at hl)
         | (refine o_store hl 0 [.int .u8 4] rfl rfl rfl rfl rfl (by simp [tab_length]; omega) rfl ?_
            clear hl; intro w4 hl
            have hf := fin 4 (by rw [v4 (nL (by omega)) (by omega)]; rfl)
            rw [hf] at hl)
       repeat' (first | refine o_mov rfl (by conv => lhs; whnf) ?_ | refine o_asg rfl (by conv => lhs; whnf) ?_ | refine o_binN rfl rfl rfl rfl (by omega) ?_ | refine o_pick_t rfl rfl (by conv => lhs; whnf) ?_ | refine o_pick_f rfl rfl (by conv => lhs; whnf) ?_ | refine o_not rfl ?_ | (refine o_nil (hK _ _ ?_); clear hK K) | refine wk_reg ?_ | refine wk_seq fun K hK => ?_ | (refine wk_skip (hK _ _ ?_); clear hK K) | refine wk_block ?_ | refine wk_cond_t rfl ?_ | refine wk_cond_f rfl ?_ | (refine wk_exit ?_; (repeat (refine blockK_other rfl ?_)); refine blockK_same ?_; (first | (refine hK _ _ ?_; clear hK K) | (clear hK K; refine hK _ _ ?_; clear hK K) | (clear hK K; clear hK K; refine hK _ _ ?_; clear hK K) | (clear hK K; clear hK K; clear hK K; refine hK _ _ ?_; clear hK K) | (clear hK K; clear hK K; clear hK K; clear hK K; refine hK _ _ ?_; clear hK K) | (clear hK K; clear hK K; clear hK K; clear hK K; clear hK K; refine hK _ _ ?_; clear hK K) | skip)) | (refine o_binT rfl rfl rfl rfl ?_ ?_ <;> intro _))
       exact o_nil ⟨k + 1, ⟨rfl, rfl, rfl, trivial⟩, rfl, ⟨by omega, hl⟩, by omega⟩)
    all_goals
      (have q1 := nL (by omega)
       have q2 := nD (by omega)
       refine o_fn hI1 rfl (fun _ => rfl) (by simp only [str_eq]; rfl) ?_
       rintro _ _ ⟨rfl, rfl⟩
       clear hI1)
    repeat' (first | refine o_mov rfl (by conv => lhs; whnf) ?_ | refine o_asg rfl (by conv => lhs; whnf) ?_ | refine o_binN rfl rfl rfl rfl (by omega) ?_ | refine o_pick_t rfl rfl (by conv => lhs; whnf) ?_ | refine o_pick_f rfl rfl (by conv => lhs; whnf) ?_ | refine o_not rfl ?_ | (refine o_nil (hK _ _ ?_); clear hK K) | refine wk_reg ?_ | refine wk_seq fun K hK => ?_ | (refine wk_skip (hK _ _ ?_); clear hK K) | refine wk_block ?_ | refine wk_cond_t rfl ?_ | refine wk_cond_f rfl ?_ | (refine wk_exit ?_; (repeat (refine blockK_other rfl ?_)); refine blockK_same ?_; (first | (refine hK _ _ ?_; clear hK K) | (clear hK K; refine hK _ _ ?_; clear hK K) | (clear hK K; clear hK K; refine hK _ _ ?_; clear hK K) | (clear hK K; clear hK K; clear hK K; refine hK _ _ ?_; clear hK K) | (clear hK K; clear hK K; clear hK K; clear hK K; refine hK _ _ ?_; clear hK K) | (clear hK K; clear hK K; clear hK K; clear hK K; clear hK K; refine hK _ _ ?_; clear hK K) | skip)) | (refine o_binT rfl rfl rfl rfl ?_ ?_ <;> intro _))
    any_goals
      (refine o_indexArr (k := 1) k hlt' rfl rfl rfl rfl rfl rfl ?_
       refine o_store hl 0 [.int .u8 1] rfl rfl rfl rfl rfl (by simp [tab_length]; omega) rfl ?_
       clear hl; intro w4 hl
       have hf := fin 1 (by rw [v1 q1 q2 (by omega)]; rfl)
       rw [hf] at hl
       repeat' (first | refine o_mov rfl (by conv => lhs; whnf) ?_ | refine o_asg rfl (by conv => lhs; whnf) ?_ | refine o_binN rfl rfl rfl rfl (by omega) ?_ | refine o_pick_t rfl rfl (by conv => lhs; whnf) ?_ | refine o_pick_f rfl rfl (by conv => lhs; whnf) ?_ | refine o_not rfl ?_ | (refine o_nil (hK _ _ ?_); clear hK K) | refine wk_reg ?_ | refine wk_seq fun K hK => ?_ | (refine wk_skip (hK _ _ ?_); clear hK K) | refine wk_block ?_ | refine wk_cond_t rfl ?_ | refine wk_cond_f rfl ?_ | (refine wk_exit ?_; (repeat (refine blockK_other rfl ?_)); refine blockK_same ?_; (first | (refine hK _ _ ?_; clear hK K) | (clear hK K; refine hK _ _ ?_; clear hK K) | (clear hK K; clear hK K; refine hK _ _ ?_; clear hK K) | (clear hK K; clear hK K; clear hK K; refine hK _ _ ?_; clear hK K) | (clear hK K; clear hK K; clear hK K; clear hK K; refine hK _ _ ?_; clear hK K) | (clear hK K; clear hK K; clear hK K; clear hK K; clear hK K; refine hK _ _ ?_; clear hK K) | skip)) | (refine o_binT rfl rfl rfl rfl ?_ ?_ <;> intro _))
       exact o_nil ⟨k + 1, ⟨rfl, rfl, rfl, trivial⟩, rfl, ⟨by omega, hl⟩, by omega⟩)
    all_goals
      (refine o_fn hI2 rfl (fun _ => rfl) (by simp only [str_eq]; rfl) ?_
       rintro _ _ ⟨rfl, rfl⟩
       clear hI2)
    repeat' (first | refine o_mov rfl (by conv => lhs; whnf) ?_ | refine o_asg rfl (by conv => lhs; whnf) ?_ | refine o_binN rfl rfl rfl rfl (by omega) ?_ | refine o_pick_t rfl rfl (by conv => lhs; whnf) ?_ | refine o_pick_f rfl rfl (by conv => lhs; whnf) ?_ | refine o_not rfl ?_ | (refine o_nil (hK _ _ ?_); clear hK K) | refine wk_reg ?_ | refine wk_seq fun K hK => ?_ | (refine wk_skip (hK _ _ ?_); clear hK K) | refine wk_block ?_ | refine wk_cond_t rfl ?_ | refine wk_cond_f rfl ?_ | (refine wk_exit ?_; (repeat (refine blockK_other rfl ?_)); refine blockK_same ?_; (first | (refine hK _ _ ?_; clear hK K) | (clear hK K; refine hK _ _ ?_; clear hK K) | (clear hK K; clear hK K; refine hK _ _ ?_; clear hK K) | (clear hK K; clear hK K; clear hK K; refine hK _ _ ?_; clear hK K) | (clear hK K; clear hK K; clear hK K; clear hK K; refine hK _ _ ?_; clear hK K) | (clear hK K; clear hK K; clear hK K; clear hK K; clear hK K; refine hK _ _ ?_; clear hK K) | skip)) | (refine o_binT rfl rfl rfl rfl ?_ ?_ <;> intro _))
    any_goals
      (refine o_indexArr (k := 1) k hlt' rfl rfl rfl rfl rfl rfl ?_
       first
         | (refine o_store hl 0 [.int .u8 6] rfl rfl rfl rfl rfl (by simp [tab_length]; omega) rfl ?_
            clear hl; intro w4 hl
            have hf := fin 6 (by rw [v6 q1 q2 (by omega) (by omega)]; rfl)
            rw [hf] at hl)
         | (refine o_store hl 0 [.int .u8 7] rfl rfl rfl rfl rfl (by simp [tab_length]; omega) rfl ?_
            clear hl; intro w4 hl
            have hf := fin 7 (by rw [v7 q1 q2 (by omega) (by omega) (by omega)]; rfl)
            rw [hf] at hl)
       repeat' (first | refine o_mov rfl (by conv => lhs; whnf) ?_ | refine o_asg rfl (by conv => lhs; whnf) ?_ | refine o_binN rfl rfl rfl rfl (by omega) ?_ | refine o_pick_t rfl rfl (by conv => lhs; whnf) ?_ | refine o_pick_f rfl rfl (by conv => lhs; whnf) ?_ | refine o_not rfl ?_ | (refine o_nil (hK _ _ ?_); clear hK K) | refine wk_reg ?_ | refine wk_seq fun K hK => ?_ | (refine wk_skip (hK _ _ ?_); clear hK K) | refine wk_block ?_ | refine wk_cond_t rfl ?_ | refine wk_cond_f rfl ?_ | (refine wk_exit ?_; (repeat (refine blockK_other rfl ?_)); refine blockK_same ?_; (first | (refine hK _ _ ?_; clear hK K) | (clear hK K; refine hK _ _ ?_; clear hK K) | (clear hK K; clear hK K; refine hK _ _ ?_; clear hK K) | (clear hK K; clear hK K; clear hK K; refine hK _ _ ?_; clear hK K) | (clear hK K; clear hK K; clear hK K; clear hK K; refine hK _ _ ?_; clear hK K) | (clear hK K; clear hK K; clear hK K; clear hK K; clear hK K; refine hK _ _ ?_; clear hK K) | skip)) | (refine o_binT rfl rfl rfl rfl ?_ ?_ <;> intro _))
       exact o_nil ⟨k + 1, ⟨rfl, rfl, rfl, trivial⟩, rfl, ⟨by omega, hl⟩, by omega⟩)
    all_goals
      (rw [same (v0 q1 q2 (by omega) (by omega) (by omega))] at hl
       exact o_nil ⟨k + 1, ⟨rfl, rfl, rfl, trivial⟩, rfl, ⟨by omega, hl⟩, by omega⟩)
  · intro hge
    obtain rfl : k = 256 := by omega
    repeat' (first | refine o_mov rfl (by conv => lhs; whnf) ?_ | refine o_asg rfl (by conv => lhs; whnf) ?_ | refine o_binN rfl rfl rfl rfl (by omega) ?_ | refine o_pick_t rfl rfl (by conv => lhs; whnf) ?_ | refine o_pick_f rfl rfl (by conv => lhs; whnf) ?_ | refine o_not rfl ?_ | (refine o_nil (hK _ _ ?_); clear hK K) | refine wk_reg ?_ | refine wk_seq fun K hK => ?_ | (refine wk_skip (hK _ _ ?_); clear hK K) | refine wk_block ?_ | refine wk_cond_t rfl ?_ | refine wk_cond_f rfl ?_ | (refine wk_exit ?_; (repeat (refine blockK_other rfl ?_)); refine blockK_same ?_; (first | (refine hK _ _ ?_; clear hK K) | (clear hK K; refine hK _ _ ?_; clear hK K) | (clear hK K; clear hK K; refine hK _ _ ?_; clear hK K) | (clear hK K; clear hK K; clear hK K; refine hK _ _ ?_; clear hK K) | (clear hK K; clear hK K; clear hK K; clear hK K; refine hK _ _ ?_; clear hK K) | (clear hK K; clear hK K; clear hK K; clear hK K; clear hK K; refine hK _ _ ?_; clear hK K) | skip)) | (refine o_binT rfl rfl rfl rfl ?_ ?_ <;> intro _))
    refine o_indexArr (k := 1) (len := 256) (i := 35) 35 (by omega) rfl rfl rfl rfl rfl rfl ?_
    refine o_store hl 0 [.int .u8 2] rfl rfl rfl rfl rfl (by simp [tab_length]) rfl ?_
    clear hl; intro w4 hl
    refine o_indexArr (k := 1) (len := 256) (i := 95) 95 (by omega) rfl rfl rfl rfl rfl rfl ?_
    refine o_store hl 0 [.int .u8 5] rfl rfl rfl rfl rfl (by simp [tab_length, putL_length]) rfl ?_
    clear hl; intro w5 hl
    refine o_indexArr (k := 1) (len := 256) (i := 33) 33 (by omega) rfl rfl rfl rfl rfl rfl ?_
    refine o_store hl 0 [.int .u8 8] rfl rfl rfl rfl rfl (by simp [tab_length, putL_length]) rfl ?_
    clear hl; intro w6 hl
    rw [show (0 + 35 * 1) = 35 from rfl, show (0 + 95 * 1) = 95 from rfl, show (0 + 33 * 1) = 33 from rfl, tab_done] at hl
    have hl1 : LH w (fun _ => False) w6 [(b1, .cells classL.toArray 195 (0, 0)), (b0, .cells (tab 0).toArray 195 (0, 0))] := hl
    clear hl
    repeat' (first | refine o_mov rfl (by conv => lhs; whnf) ?_ | refine o_asg rfl (by conv => lhs; whnf) ?_ | refine o_binN rfl rfl rfl rfl (by omega) ?_ | refine o_pick_t rfl rfl (by conv => lhs; whnf) ?_ | refine o_pick_f rfl rfl (by conv => lhs; whnf) ?_ | refine o_not rfl ?_ | (refine o_nil (hK _ _ ?_); clear hK K) | refine wk_reg ?_ | refine wk_seq fun K hK => ?_ | (refine wk_skip (hK _ _ ?_); clear hK K) | refine wk_block ?_ | refine wk_cond_t rfl ?_ | refine wk_cond_f rfl ?_ | (refine wk_exit ?_; (repeat (refine blockK_other rfl ?_)); refine blockK_same ?_; (first | (refine hK _ _ ?_; clear hK K) | (clear hK K; refine hK _ _ ?_; clear hK K) | (clear hK K; clear hK K; refine hK _ _ ?_; clear hK K) | (clear hK K; clear hK K; clear hK K; refine hK _ _ ?_; clear hK K) | (clear hK K; clear hK K; clear hK K; clear hK K; refine hK _ _ ?_; clear hK K) | (clear hK K; clear hK K; clear hK K; clear hK K; clear hK K; refine hK _ _ ?_; clear hK K) | skip)) | (refine o_binT rfl rfl rfl rfl ?_ ?_ <;> intro _))
    refine o_loadN (vs := classL) rfl rfl (by kernel_rfl) rfl (Row.of_block (hl1.get 0 rfl) (fun i v hv => by simpa using hv)) ?_
    refine o_store hl1 1 classL rfl rfl rfl rfl (by kernel_rfl) (by simp [tab_length, classL]) (by kernel_rfl) ?_
    clear hl1; intro w7 hl
    repeat' (first | refine o_mov rfl (by conv => lhs; whnf) ?_ | refine o_asg rfl (by conv => lhs; whnf) ?_ | refine o_binN rfl rfl rfl rfl (by omega) ?_ | refine o_pick_t rfl rfl (by conv => lhs; whnf) ?_ | refine o_pick_f rfl rfl (by conv => lhs; whnf) ?_ | refine o_not rfl ?_ | (refine o_nil (hK _ _ ?_); clear hK K) | refine wk_reg ?_ | refine wk_seq fun K hK => ?_ | (refine wk_skip (hK _ _ ?_); clear hK K) | refine wk_block ?_ | refine wk_cond_t rfl ?_ | refine wk_cond_f rfl ?_ | (refine wk_exit ?_; (repeat (refine blockK_other rfl ?_)); refine blockK_same ?_; (first | (refine hK _ _ ?_; clear hK K) | (clear hK K; refine hK _ _ ?_; clear hK K) | (clear hK K; clear hK K; refine hK _ _ ?_; clear hK K) | (clear hK K; clear hK K; clear hK K; refine hK _ _ ?_; clear hK K) | (clear hK K; clear hK K; clear hK K; clear hK K; refine hK _ _ ?_; clear hK K) | (clear hK K; clear hK K; clear hK K; clear hK K; clear hK K; refine hK _ _ ?_; clear hK K) | skip)) | (refine o_binT rfl rfl rfl rfl ?_ ?_ <;> intro _))
    refine wk_ret (retQ_res (rs := [.cell 0 195]) [.agg classL.toArray] rfl rfl ⟨by decide, ⟨_, rfl, ?_⟩, trivial⟩ ⟨rfl, hl.done⟩)
    refine run_loadVarN rfl (by kernel_rfl) ?_
    refine Row.of_block (hl.get 1 rfl) (fun i v hv => ?_)
    rw [putL_all classL (tab 0) 0 (by simp [classL, tab_length])]
    simpa [classL, tab_length] using hv
end Go.Proofs

/-
  strconv.Atoi of up to seven digits.
-/
set_option linter.unusedVariables false
set_option linter.unusedSimpArgs false
set_option linter.unnecessarySimpa false
set_option maxRecDepth 10000
namespace Go.Proofs
open Go Go.Pd Go.Lexs
attribute [local irreducible] OpsL W RetQ OpsQ OpsC

theorem value_snoc (s : List UInt8) (c : UInt8) : value (s ++ [c]) = 10 * value s + (c.toNat - 48) := by
  simp [value, List.foldl_append]

theorem value_take (s : List UInt8) (k : Nat) (h : k < s.length) : value (s.take (k + 1)) = 10 * value (s.take k) + (s[k].toNat - 48) := by
  rw [List.take_succ_eq_append_getElem h, value_snoc]

theorem digit_bd {c : UInt8} (h : isDigit c = true) : 48 ≤ c.toNat ∧ c.toNat ≤ 57 := by
  simp only [isDigit, Bool.and_eq_true, decide_eq_true_eq, UInt8.le_iff_toNat_le] at h
  exact ⟨h.1, h.2⟩

theorem value_bd (s : List UInt8) (hs : ∀ c ∈ s, isDigit c = true) : ∀ k, k ≤ s.length → value (s.take k) < 10 ^ k
  | 0, _ => by simp [value]
  | k + 1, h => by
    rw [value_take s k (by omega)]
    have h1 := value_bd s hs k (by omega)
    have h2 := digit_bd (hs s[k] (List.getElem_mem _))
    rw [Nat.pow_succ]
    omega

set_option maxHeartbeats 1000000 in
theorem atoiI_calls (s : List UInt8) (hs : ∀ c ∈ s, isDigit c = true) (h1 : 1 ≤ s.length) (h7 : s.length ≤ 7) (w : World) :
    Calls Tryz.prog 147 #[str s] w (fun e w' => ∃ v, e = .returned v ∧ v = .tuple #[.int .i64 (value s : Int), .nilIface] ∧ Ext w w') := by
  have h0 := digit_bd (hs s[0] (List.getElem_mem _))
  have hs0 : s[0]? = some s[0] := by simp
  refine calls_of Tryz.func147 rfl Tryz.ntmps147 rfl ?_
  repeat' (first | refine o_mov rfl (by conv => lhs; whnf) ?_ | refine o_asg rfl (by conv => lhs; whnf) ?_ | refine o_binN rfl rfl rfl rfl (by omega) ?_ | refine o_lenv rfl rfl rfl ?_ | refine o_lens rfl rfl rfl ?_ | refine o_pick_t rfl rfl (by conv => lhs; whnf) ?_ | refine o_pick_f rfl rfl (by conv => lhs; whnf) ?_ | refine o_not rfl ?_ | (refine o_nil (hK _ _ ?_); clear hK K) | refine wk_reg ?_ | refine wk_seq fun K hK => ?_ | (refine wk_skip (hK _ _ ?_); clear hK K) | refine wk_block ?_ | refine wk_cond_t rfl ?_ | refine wk_cond_f rfl ?_ | (refine wk_exit ?_; (repeat (refine blockK_other rfl ?_)); refine blockK_same ?_; (first | (refine hK _ _ ?_; clear hK K) | (clear hK K; refine hK _ _ ?_; clear hK K) | (clear hK K; clear hK K; refine hK _ _ ?_; clear hK K) | (clear hK K; clear hK K; clear hK K; refine hK _ _ ?_; clear hK K) | (clear hK K; clear hK K; clear hK K; clear hK K; refine hK _ _ ?_; clear hK K) | (clear hK K; clear hK K; clear hK K; clear hK K; clear hK K; refine hK _ _ ?_; clear hK K) | skip)) | (refine o_binT rfl rfl rfl rfl ?_ ?_ <;> intro _))
  any_goals (exfalso; omega)
  refine o_index (i := 0) 0 rfl rfl rfl rfl rfl hs0 ?_
  repeat' (first | refine o_mov rfl (by conv => lhs; whnf) ?_ | refine o_asg rfl (by conv => lhs; whnf) ?_ | refine o_binN rfl rfl rfl rfl (by omega) ?_ | refine o_lenv rfl rfl rfl ?_ | refine o_lens rfl rfl rfl ?_ | refine o_pick_t rfl rfl (by conv => lhs; whnf) ?_ | refine o_pick_f rfl rfl (by conv => lhs; whnf) ?_ | refine o_not rfl ?_ | (refine o_nil (hK _ _ ?_); clear hK K) | refine wk_reg ?_ | refine wk_seq fun K hK => ?_ | (refine wk_skip (hK _ _ ?_); clear hK K) | refine wk_block ?_ | refine wk_cond_t rfl ?_ | refine wk_cond_f rfl ?_ | (refine wk_exit ?_; (repeat (refine blockK_other rfl ?_)); refine blockK_same ?_; (first | (refine hK _ _ ?_; clear hK K) | (clear hK K; refine hK _ _ ?_; clear hK K) | (clear hK K; clear hK K; refine hK _ _ ?_; clear hK K) | (clear hK K; clear hK K; clear hK K; refine hK _ _ ?_; clear hK K) | (clear hK K; clear hK K; clear hK K; clear hK K; refine hK _ _ ?_; clear hK K) | (clear hK K; clear hK K; clear hK K; clear hK K; clear hK K; refine hK _ _ ?_; clear hK K) | skip)) | (refine o_binT rfl rfl rfl rfl ?_ ?_ <;> intro _))
  any_goals (exfalso; omega)
  refine o_index (i := 0) 0 rfl rfl rfl rfl rfl hs0 ?_
  repeat' (first | refine o_mov rfl (by conv => lhs; whnf) ?_ | refine o_asg rfl (by conv => lhs; whnf) ?_ | refine o_binN rfl rfl rfl rfl (by omega) ?_ | refine o_lenv rfl rfl rfl ?_ | refine o_lens rfl rfl rfl ?_ | refine o_pick_t rfl rfl (by conv => lhs; whnf) ?_ | refine o_pick_f rfl rfl (by conv => lhs; whnf) ?_ | refine o_not rfl ?_ | (refine o_nil (hK _ _ ?_); clear hK K) | refine wk_reg ?_ | refine wk_seq fun K hK => ?_ | (refine wk_skip (hK _ _ ?_); clear hK K) | refine wk_block ?_ | refine wk_cond_t rfl ?_ | refine wk_cond_f rfl ?_ | (refine wk_exit ?_; (repeat (refine blockK_other rfl ?_)); refine blockK_same ?_; (first | (refine hK _ _ ?_; clear hK K) | (clear hK K; refine hK _ _ ?_; clear hK K) | (clear hK K; clear hK K; refine hK _ _ ?_; clear hK K) | (clear hK K; clear hK K; clear hK K; refine hK _ _ ?_; clear hK K) | (clear hK K; clear hK K; clear hK K; clear hK K; refine hK _ _ ?_; clear hK K) | (clear hK K; clear hK K; clear hK K; clear hK K; clear hK K; refine hK _ _ ?_; clear hK K) | skip)) | (refine o_binT rfl rfl rfl rfl ?_ ?_ <;> intro _))
  any_goals (exfalso; omega)
  refine o_bytes rfl rfl rfl rfl rfl ?_
  intro b c w1 he hb hc hrow
  repeat' (first | refine o_mov rfl (by conv => lhs; whnf) ?_ | refine o_asg rfl (by conv => lhs; whnf) ?_ | refine o_binN rfl rfl rfl rfl (by omega) ?_ | refine o_lenv rfl rfl rfl ?_ | refine o_lens rfl rfl rfl ?_ | refine o_pick_t rfl rfl (by conv => lhs; whnf) ?_ | refine o_pick_f rfl rfl (by conv => lhs; whnf) ?_ | refine o_not rfl ?_ | (refine o_nil (hK _ _ ?_); clear hK K) | refine wk_reg ?_ | refine wk_seq fun K hK => ?_ | (refine wk_skip (hK _ _ ?_); clear hK K) | refine wk_block ?_ | refine wk_cond_t rfl ?_ | refine wk_cond_f rfl ?_ | (refine wk_exit ?_; (repeat (refine blockK_other rfl ?_)); refine blockK_same ?_; (first | (refine hK _ _ ?_; clear hK K) | (clear hK K; refine hK _ _ ?_; clear hK K) | (clear hK K; clear hK K; refine hK _ _ ?_; clear hK K) | (clear hK K; clear hK K; clear hK K; refine hK _ _ ?_; clear hK K) | (clear hK K; clear hK K; clear hK K; clear hK K; refine hK _ _ ?_; clear hK K) | (clear hK K; clear hK K; clear hK K; clear hK K; clear hK K; refine hK _ _ ?_; clear hK K) | skip)) | (refine o_binT rfl rfl rfl rfl ?_ ?_ <;> intro _))
  refine wk_loopH [] rfl (fun k : Nat => [(5, str s), (6, .int .i64 (value (s.take k) : Int)), (47, .slice (some ⟨b, 0, none⟩) s.length c), (48, .int .i64 (s.length : Int)), (49, .int .i64 (k : Int))]) (fun k w' => k ≤ s.length ∧ w' = w1) (fun k => s.length - k) 0 ⟨rfl, rfl, rfl, rfl, rfl, trivial⟩ ⟨by omega, rfl⟩ ?_
  rintro k t _ ⟨hk, rfl⟩
  repeat' (first | refine o_mov rfl (by conv => lhs; whnf) ?_ | refine o_asg rfl (by conv => lhs; whnf) ?_ | refine o_binN rfl rfl rfl rfl (by omega) ?_ | refine o_lenv rfl rfl rfl ?_ | refine o_lens rfl rfl rfl ?_ | refine o_pick_t rfl rfl (by conv => lhs; whnf) ?_ | refine o_pick_f rfl rfl (by conv => lhs; whnf) ?_ | refine o_not rfl ?_ | (refine o_nil (hK _ _ ?_); clear hK K) | refine wk_reg ?_ | refine wk_seq fun K hK => ?_ | (refine wk_skip (hK _ _ ?_); clear hK K) | refine wk_block ?_ | refine wk_cond_t rfl ?_ | refine wk_cond_f rfl ?_ | (refine wk_exit ?_; (repeat (refine blockK_other rfl ?_)); refine blockK_same ?_; (first | (refine hK _ _ ?_; clear hK K) | (clear hK K; refine hK _ _ ?_; clear hK K) | (clear hK K; clear hK K; refine hK _ _ ?_; clear hK K) | (clear hK K; clear hK K; clear hK K; refine hK _ _ ?_; clear hK K) | (clear hK K; clear hK K; clear hK K; clear hK K; refine hK _ _ ?_; clear hK K) | (clear hK K; clear hK K; clear hK K; clear hK K; clear hK K; refine hK _ _ ?_; clear hK K) | skip)) | (refine o_binT rfl rfl rfl rfl ?_ ?_ <;> intro _))
  · have hlt' : k < s.length := by omega
    have hc0 := digit_bd (hs s[k] (List.getElem_mem _))
    have hvb := value_bd s hs k hk
    have h10 : 10 ^ k ≤ 10 ^ 7 := Nat.pow_le_pow_right (by omega) (by omega)
    have hrk := hrow k (u8 s[k]) (by simp [hlt'])
    refine o_indexAddr (k := 1) k rfl hlt' rfl rfl rfl rfl rfl rfl ?_
    refine o_load rfl rfl rfl (by rw [Nat.mul_one]; exact hrk) ?_
    repeat' (first | refine o_mov rfl (by conv => lhs; whnf) ?_ | refine o_asg rfl (by conv => lhs; whnf) ?_ | refine o_binN rfl rfl rfl rfl (by omega) ?_ | refine o_lenv rfl rfl rfl ?_ | refine o_lens rfl rfl rfl ?_ | refine o_pick_t rfl rfl (by conv => lhs; whnf) ?_ | refine o_pick_f rfl rfl (by conv => lhs; whnf) ?_ | refine o_not rfl ?_ | (refine o_nil (hK _ _ ?_); clear hK K) | refine wk_reg ?_ | refine wk_seq fun K hK => ?_ | (refine wk_skip (hK _ _ ?_); clear hK K) | refine wk_block ?_ | refine wk_cond_t rfl ?_ | refine wk_cond_f rfl ?_ | (refine wk_exit ?_; (repeat (refine blockK_other rfl ?_)); refine blockK_same ?_; (first | (refine hK _ _ ?_; clear hK K) | (clear hK K; refine hK _ _ ?_; clear hK K) | (clear hK K; clear hK K; refine hK _ _ ?_; clear hK K) | (clear hK K; clear hK K; clear hK K; refine hK _ _ ?_; clear hK K) | (clear hK K; clear hK K; clear hK K; clear hK K; refine hK _ _ ?_; clear hK K) | (clear hK K; clear hK K; clear hK K; clear hK K; clear hK K; refine hK _ _ ?_; clear hK K) | skip)) | (refine o_binT rfl rfl rfl rfl ?_ ?_ <;> intro _))
    refine o_binK rfl rfl rfl rfl (wrap_u8 (by omega)) ?_
    repeat' (first | refine o_mov rfl (by conv => lhs; whnf) ?_ | refine o_asg rfl (by conv => lhs; whnf) ?_ | refine o_binN rfl rfl rfl rfl (by omega) ?_ | refine o_lenv rfl rfl rfl ?_ | refine o_lens rfl rfl rfl ?_ | refine o_pick_t rfl rfl (by conv => lhs; whnf) ?_ | refine o_pick_f rfl rfl (by conv => lhs; whnf) ?_ | refine o_not rfl ?_ | (refine o_nil (hK _ _ ?_); clear hK K) | refine wk_reg ?_ | refine wk_seq fun K hK => ?_ | (refine wk_skip (hK _ _ ?_); clear hK K) | refine wk_block ?_ | refine wk_cond_t rfl ?_ | refine wk_cond_f rfl ?_ | (refine wk_exit ?_; (repeat (refine blockK_other rfl ?_)); refine blockK_same ?_; (first | (refine hK _ _ ?_; clear hK K) | (clear hK K; refine hK _ _ ?_; clear hK K) | (clear hK K; clear hK K; refine hK _ _ ?_; clear hK K) | (clear hK K; clear hK K; clear hK K; refine hK _ _ ?_; clear hK K) | (clear hK K; clear hK K; clear hK K; clear hK K; refine hK _ _ ?_; clear hK K) | (clear hK K; clear hK K; clear hK K; clear hK K; clear hK K; refine hK _ _ ?_; clear hK K) | skip)) | (refine o_binT rfl rfl rfl rfl ?_ ?_ <;> intro _))
    · exfalso; omega
    refine o_conv rfl rfl rfl rfl (wrap_i64 (by omega)) ?_
    repeat' (first | refine o_mov rfl (by conv => lhs; whnf) ?_ | refine o_asg rfl (by conv => lhs; whnf) ?_ | refine o_binN rfl rfl rfl rfl (by omega) ?_ | refine o_lenv rfl rfl rfl ?_ | refine o_lens rfl rfl rfl ?_ | refine o_pick_t rfl rfl (by conv => lhs; whnf) ?_ | refine o_pick_f rfl rfl (by conv => lhs; whnf) ?_ | refine o_not rfl ?_ | (refine o_nil (hK _ _ ?_); clear hK K) | refine wk_reg ?_ | refine wk_seq fun K hK => ?_ | (refine wk_skip (hK _ _ ?_); clear hK K) | refine wk_block ?_ | refine wk_cond_t rfl ?_ | refine wk_cond_f rfl ?_ | (refine wk_exit ?_; (repeat (refine blockK_other rfl ?_)); refine blockK_same ?_; (first | (refine hK _ _ ?_; clear hK K) | (clear hK K; refine hK _ _ ?_; clear hK K) | (clear hK K; clear hK K; refine hK _ _ ?_; clear hK K) | (clear hK K; clear hK K; clear hK K; refine hK _ _ ?_; clear hK K) | (clear hK K; clear hK K; clear hK K; clear hK K; refine hK _ _ ?_; clear hK K) | (clear hK K; clear hK K; clear hK K; clear hK K; clear hK K; refine hK _ _ ?_; clear hK K) | skip)) | (refine o_binT rfl rfl rfl rfl ?_ ?_ <;> intro _))
    refine o_nil ⟨k + 1, ⟨rfl, ?_, rfl, rfl, rfl, trivial⟩, rfl, ⟨hlt', rfl⟩, by omega⟩
    show Value.int _ _ = Value.int _ _
    rw [value_take s k hlt']
    congr 1; omega
  · have hk' : k = s.length := by omega
    rw [hk', List.take_length]
    repeat' (first | refine o_mov rfl (by conv => lhs; whnf) ?_ | refine o_asg rfl (by conv => lhs; whnf) ?_ | refine o_binN rfl rfl rfl rfl (by omega) ?_ | refine o_lenv rfl rfl rfl ?_ | refine o_lens rfl rfl rfl ?_ | refine o_pick_t rfl rfl (by conv => lhs; whnf) ?_ | refine o_pick_f rfl rfl (by conv => lhs; whnf) ?_ | refine o_not rfl ?_ | (refine o_nil (hK _ _ ?_); clear hK K) | refine wk_reg ?_ | refine wk_seq fun K hK => ?_ | (refine wk_skip (hK _ _ ?_); clear hK K) | refine wk_block ?_ | refine wk_cond_t rfl ?_ | refine wk_cond_f rfl ?_ | (refine wk_exit ?_; (repeat (refine blockK_other rfl ?_)); refine blockK_same ?_; (first | (refine hK _ _ ?_; clear hK K) | (clear hK K; refine hK _ _ ?_; clear hK K) | (clear hK K; clear hK K; refine hK _ _ ?_; clear hK K) | (clear hK K; clear hK K; clear hK K; refine hK _ _ ?_; clear hK K) | (clear hK K; clear hK K; clear hK K; clear hK K; refine hK _ _ ?_; clear hK K) | (clear hK K; clear hK K; clear hK K; clear hK K; clear hK K; refine hK _ _ ?_; clear hK K) | skip)) | (refine o_binT rfl rfl rfl rfl ?_ ?_ <;> intro _))
    refine o_index (i := 0) 0 rfl rfl rfl rfl rfl hs0 ?_
    repeat' (first | refine o_mov rfl (by conv => lhs; whnf) ?_ | refine o_asg rfl (by conv => lhs; whnf) ?_ | refine o_binN rfl rfl rfl rfl (by omega) ?_ | refine o_lenv rfl rfl rfl ?_ | refine o_lens rfl rfl rfl ?_ | refine o_pick_t rfl rfl (by conv => lhs; whnf) ?_ | refine o_pick_f rfl rfl (by conv => lhs; whnf) ?_ | refine o_not rfl ?_ | (refine o_nil (hK _ _ ?_); clear hK K) | refine wk_reg ?_ | refine wk_seq fun K hK => ?_ | (refine wk_skip (hK _ _ ?_); clear hK K) | refine wk_block ?_ | refine wk_cond_t rfl ?_ | refine wk_cond_f rfl ?_ | (refine wk_exit ?_; (repeat (refine blockK_other rfl ?_)); refine blockK_same ?_; (first | (refine hK _ _ ?_; clear hK K) | (clear hK K; refine hK _ _ ?_; clear hK K) | (clear hK K; clear hK K; refine hK _ _ ?_; clear hK K) | (clear hK K; clear hK K; clear hK K; refine hK _ _ ?_; clear hK K) | (clear hK K; clear hK K; clear hK K; clear hK K; refine hK _ _ ?_; clear hK K) | (clear hK K; clear hK K; clear hK K; clear hK K; clear hK K; refine hK _ _ ?_; clear hK K) | skip)) | (refine o_binT rfl rfl rfl rfl ?_ ?_ <;> intro _))
    · exfalso; omega
    refine wk_ret (retQ_tmp2 Tryz.results147 (by decide) (by decide) rfl (by conv => lhs; whnf) (by conv => lhs; whnf) ?_)
    exact ⟨rfl, he⟩

theorem atoi_calls (s : List UInt8) (hs : ∀ c ∈ s, isDigit c = true) (h1 : 1 ≤ s.length) (h7 : s.length ≤ 7) (w : World) :
    Calls Tryz.prog 140 #[str s] w (fun e w' => ∃ v, e = .returned v ∧ v = .tuple #[.int .i64 (value s : Int), .nilIface] ∧ Ext w w') := by
  refine calls_of Tryz.func140 rfl Tryz.ntmps140 rfl ?_
  repeat (first | refine o_mov rfl (by conv => lhs; whnf) ?_ | refine o_asg rfl (by conv => lhs; whnf) ?_ | refine o_ext rfl rfl (by conv => lhs; whnf) ?_ | (refine o_nil (hK _ _ ?_); clear hK K) | refine wk_reg ?_ | refine wk_seq fun K hK => ?_ | (refine wk_skip (hK _ _ ?_); clear hK K) | refine wk_cond_f rfl ?_)
  refine o_fn (atoiI_calls s hs h1 h7 w) rfl (fun _ => rfl) rfl ?_
  rintro _ w1 ⟨rfl, he⟩
  repeat (first | refine o_mov rfl (by conv => lhs; whnf) ?_ | refine o_asg rfl (by conv => lhs; whnf) ?_ | refine o_ext rfl rfl (by conv => lhs; whnf) ?_ | (refine o_nil (hK _ _ ?_); clear hK K) | refine wk_reg ?_ | refine wk_seq fun K hK => ?_ | (refine wk_skip (hK _ _ ?_); clear hK K) | refine wk_cond_f rfl ?_)
  refine o_neqnil rfl rfl rfl ?_
  repeat (first | refine o_mov rfl (by conv => lhs; whnf) ?_ | refine o_asg rfl (by conv => lhs; whnf) ?_ | refine o_ext rfl rfl (by conv => lhs; whnf) ?_ | (refine o_nil (hK _ _ ?_); clear hK K) | refine wk_reg ?_ | refine wk_seq fun K hK => ?_ | (refine wk_skip (hK _ _ ?_); clear hK K) | refine wk_cond_f rfl ?_)
  refine wk_ret (retQ_tmp2 Tryz.results140 (by decide) (by decide) rfl (by conv => lhs; whnf) (by conv => lhs; whnf) ?_)
  exact ⟨rfl, he⟩
end Go.Proofs
