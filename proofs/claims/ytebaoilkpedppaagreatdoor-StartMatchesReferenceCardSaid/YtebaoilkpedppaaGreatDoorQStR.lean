/-
  Conditions of commencement: maps of numbers; the canonical text in other words.
-/
import Derived.Test.YtebaoilkpedppaaGreatDoorQE
import Derived.Test.YtebaoilkpedppaaGreatDoorQStW
import Derived.Test.YtebaoilkpedppaaGreatDoorQSK
import Derived.Lib.ItoaNum
import Derived.Lib.Join
import Derived.Lib.Space
import Derived.Lib.LaidTab
set_option linter.unusedVariables false
set_option linter.unusedSimpArgs false
set_option linter.unnecessarySimpa false
set_option maxRecDepth 10000
namespace Go.Pd
open Go
variable {P : Program}
theorem key_i64 {kt : TypeId} (hu : P.underlying kt = some (.int .i64)) : Key P kt (Value.int .i64) := by
  refine ⟨fun e a w => ?_, fun a b w => ?_, fun a b u hu' x hx => ?_, fun a => ?_, ⟨_, hu⟩⟩
  · show (Instr.checkKey e (9999 + 1) kt _).run P w = _
    unfold Instr.checkKey
    rw [sem_bind (run_underlying' hu w)]
    rfl
  · exact (Sc.int hu).run 9999 w
  · rw [hu] at hu'
    cases hu'
    simp only [Instr.sameNow, if_true, Option.some.injEq] at hx
    rw [← hx]
    by_cases h : a = b <;> simp [h]
  · show (a == a) = true
    simp
end Go.Pd
namespace Go.Sta
open Go.Lexs
theorem decS_eq (n : Nat) : decS n = Lib.decDigits n := by
  induction n using Nat.strongRecOn with
  | _ n ih =>
    by_cases h : n < 10
    · rw [decS_small h, Lib.decDigits, dif_pos h]
      try rfl
    · rw [decS_big h, Lib.decDigits, dif_neg h, ih (n / 10) (by omega)]
      try rfl
theorem decS_itoa {d : Int} (h : 0 ≤ d) : Lib.itoa d = decS d.toNat := by
  unfold Lib.itoa
  rw [if_neg (by omega), decS_eq]
theorem wrT_join (sep : Tx) : ∀ ks : List Sn, wrT sep ks = Lib.joinTail (32 :: sep ++ [32]) (ks.map (wr true))
  | [] => by simp [wrT, Lib.joinTail]
  | k :: ks => by
    simp only [wrT]
    rw [wrT_join sep ks]
    simp [Lib.joinTail]
theorem wrL_join (sep : Tx) (ks : List Sn) : wrL sep ks = Lib.join (ks.map (wr true)) (32 :: sep ++ [32]) := by
  cases ks with
  | nil => rfl
  | cons k ks =>
    simp only [wrL, List.map_cons]
    rw [Lib.join_cons, wrT_join]
theorem isSp_word {c : UInt8} (h : isWord c = true) : Lib.isSp c = false := by
  unfold isWord at h
  simp only [Bool.or_eq_true, beq_iff_eq] at h
  unfold Lib.isSp
  rw [Bool.eq_false_iff]
  intro h2
  simp only [Bool.or_eq_true, beq_iff_eq] at h2
  rcases h2 with ((((rfl | rfl) | rfl) | rfl) | rfl) | rfl <;> revert h <;> decide
theorem ascii_word {c : UInt8} (h : isWord c = true) : c.toNat < 128 := by
  unfold isWord at h
  simp only [Bool.or_eq_true, beq_iff_eq] at h
  unfold cls isLetter isDigit at h
  revert h
  simp only [UInt8.le_iff_toNat_le, Bool.and_eq_true, Bool.or_eq_true, decide_eq_true_eq]
  (repeat' split) <;> simp_all <;> omega
theorem trim_two {w t : Tx} (hw : w.all isWord = true) (hw0 : w ≠ []) (ht : t.all isWord = true) (ht0 : t ≠ []) : Lib.trimSpace (w ++ 32 :: t) = w ++ 32 :: t := by
  unfold Lib.trimSpace
  obtain ⟨c, w', rfl⟩ := List.exists_cons_of_ne_nil hw0
  rw [List.all_cons, Bool.and_eq_true] at hw
  rw [List.cons_append, List.dropWhile_cons_of_neg (by rw [isSp_word hw.1]; decide)]
  obtain ⟨t', d, rfl⟩ : ∃ t' d, t = t' ++ [d] := ⟨_, _, (List.dropLast_concat_getLast ht0).symm⟩
  rw [List.all_append, Bool.and_eq_true] at ht
  have hd : isWord d = true := by simpa using ht.2
  have e : (c :: (w' ++ 32 :: (t' ++ [d]))) = (c :: (w' ++ 32 :: t')) ++ [d] := by simp
  rw [e, List.reverse_append]
  simp only [List.reverse_cons, List.reverse_nil, List.nil_append, List.singleton_append]
  rw [List.dropWhile_cons_of_neg (by rw [isSp_word hd]; decide)]
  simp
theorem trim_one {w : Tx} (hw : w.all isWord = true) (hw0 : w ≠ []) : Lib.trimSpace (w ++ [32]) = w := by
  unfold Lib.trimSpace
  obtain ⟨c, w', rfl⟩ := List.exists_cons_of_ne_nil hw0
  have hc := hw
  rw [List.all_cons, Bool.and_eq_true] at hc
  rw [List.cons_append, List.dropWhile_cons_of_neg (by rw [isSp_word hc.1]; decide), ← List.cons_append, List.reverse_append]
  simp only [List.reverse_cons, List.reverse_nil, List.nil_append, List.singleton_append]
  rw [List.dropWhile_cons_of_pos (by decide)]
  obtain ⟨t', d, e⟩ : ∃ t' d, c :: w' = t' ++ [d] := ⟨_, _, (List.dropLast_concat_getLast hw0).symm⟩
  have e2 : w'.reverse ++ [c] = (c :: w').reverse := by simp
  rw [e2, e, List.reverse_append]
  rw [e, List.all_append, Bool.and_eq_true] at hw
  have hd : isWord d = true := by simpa using hw.2
  simp only [List.reverse_cons, List.reverse_nil, List.nil_append, List.singleton_append]
  rw [List.dropWhile_cons_of_neg (by rw [isSp_word hd]; decide)]
  simp
end Go.Sta
