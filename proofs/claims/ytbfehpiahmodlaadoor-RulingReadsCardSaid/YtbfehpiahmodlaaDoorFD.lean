/-
  Formulas: the reference's look at a formula's nodes.
-/
import Derived.Test.YtbfehpiahmodlaaDoorFC
import Derived.Test.YtbfehpiahmodlaaDoorFB
set_option linter.unusedVariables false
set_option linter.unusedSimpArgs false
set_option linter.unnecessarySimpa false
set_option maxRecDepth 10000
namespace Go.Proofs
open Go Go.Pd Go.Lexs Go.Fin Go.Fo
attribute [local irreducible] OpsL W RetQ OpsQ OpsC

theorem firstE_pre (F : List Fact) (known : List UInt8 → Bool) (f : Fm) : firstE F known (pre f) = if nodeE F known f ≠ 0 then nodeE F known f else firstE F known (preL f.kids) := by
  rw [pre_eq, firstE]

theorem firstE_split {F : List Fact} {known : List UInt8 → Bool} {ks : List Fm} {i : Nat} (hi : i < ks.length) (h0 : firstE F known (preL (ks.take i)) = 0) :
    (firstE F known (pre ks[i]) ≠ 0 → firstE F known (preL ks) = firstE F known (pre ks[i])) ∧ (firstE F known (pre ks[i]) = 0 → firstE F known (preL (ks.take (i + 1))) = 0) := by
  rw [preL_split hi, preL_take_succ hi]
  simp only [firstE_app, h0]
  constructor
  · intro h; simp [h]
  · intro h; simp [h]

/-- No text of the nodes is longer than a text can be. -/
def Texty (l : List Fm) : Prop := ∀ x ∈ l, x.name.length ≤ 9223372036854775806

theorem Texty.kid {ks : List Fm} (h : Texty (preL ks)) {i : Nat} (hi : i < ks.length) : Texty (pre ks[i]) := fun x hx => h x (by
  rw [preL_split hi]
  exact List.mem_append_right _ (List.mem_append_left _ hx))

end Go.Proofs

/-
  Formulas: the reference's Check.
-/
set_option linter.unusedVariables false
set_option linter.unusedSimpArgs false
set_option linter.unnecessarySimpa false
set_option maxRecDepth 10000
namespace Go.Proofs
open Go Go.Pd Go.Lexs Go.Fin Go.Fo
attribute [local irreducible] OpsL W RetQ OpsQ OpsC

end Go.Proofs

/-
  Cases in memory; does a case fit (the reference).
-/
set_option linter.unusedVariables false
set_option linter.unusedSimpArgs false
set_option linter.unnecessarySimpa false
set_option maxRecDepth 10000
namespace Go.Fo
open Go.Lexs Go.Fin

theorem fitsC_iff : ∀ (F : List Fact) (c : List Int), fitsC F c = true ↔ c.length = F.length ∧ ∀ i (h : i < F.length) (h' : i < c.length), F[i].lo ≤ c[i] ∧ c[i] ≤ F[i].hi
  | [], [] => by simp [fitsC]
  | [], _ :: _ => by simp [fitsC]
  | _ :: _, [] => by simp [fitsC]
  | f :: F, z :: c => by
    simp only [fitsC, Bool.and_eq_true, decide_eq_true_eq, fitsC_iff F c, List.length_cons, Nat.add_right_cancel_iff]
    constructor
    · rintro ⟨⟨h1, h2⟩, h3, h4⟩
      refine ⟨h3, fun i h h' => ?_⟩
      cases i with
      | zero => exact ⟨h1, h2⟩
      | succ i => exact h4 i (by omega) (by omega)
    · rintro ⟨h1, h2⟩
      refine ⟨h2 0 (by omega) (by omega), h1, fun i h h' => h2 (i + 1) (by omega) (by omega)⟩

theorem fitsC_false {F : List Fact} {c : List Int} {i : Nat} (h : i < F.length) (h' : i < c.length) (hn : ¬ (F[i].lo ≤ c[i] ∧ c[i] ≤ F[i].hi)) : fitsC F c = false := by
  cases he : fitsC F c
  · rfl
  · exact absurd (((fitsC_iff F c).1 he).2 i h h') hn
theorem fitsC_len {F : List Fact} {c : List Int} (h : c.length ≠ F.length) : fitsC F c = false := by
  cases he : fitsC F c
  · rfl
  · exact absurd ((fitsC_iff F c).1 he).1 h
end Go.Fo

namespace Go.Proofs
open Go Go.Pd Go.Lexs Go.Fin Go.Fo
attribute [local irreducible] OpsL W RetQ OpsQ OpsC

def intL (z : Int) : List Value := [.int .i64 z]
theorem intL_len (z : Int) : (intL z).length = 1 := rfl
def intsL (c : List Int) : List Value := c.flatMap intL
theorem intsL_len (c : List Int) : (intsL c).length = c.length * 1 := flat_length intL_len c

theorem Sl.intAt {w : World} {a : Option Addr} {m n : Nat} {c : List Int} (hv : Sl w (.slice a m n) 1 (intsL c)) (hm : m = c.length) {k : Nat} (hk : k < c.length) : ∃ b o, a = some ⟨b, o, none⟩ ∧ Row w b (o + k * 1) [.int .i64 c[k]] := by
  subst hm
  obtain ⟨b, o, hp, hr⟩ := hv.at (intsL_len c) (by omega) (by omega)
  exact ⟨b, o, hp, hr.elem intL_len (k := k) (t := c[k]) (by simp)⟩

end Go.Proofs

/-
  Formulas: the reference's Compare and Formed.
-/
set_option linter.unusedVariables false
set_option linter.unusedSimpArgs false
set_option linter.unnecessarySimpa false
set_option maxRecDepth 10000
namespace Go.Proofs
open Go Go.Pd Go.Lexs Go.Fin Go.Fo
attribute [local irreducible] OpsL W RetQ OpsQ OpsC

end Go.Proofs

/-
  Formulas: the reference's Value.
-/
set_option linter.unusedVariables false
set_option linter.unusedSimpArgs false
set_option linter.unnecessarySimpa false
set_option maxRecDepth 10000
namespace Go.Fo
open Go.Lexs Go.Fin

theorem evalAll_eq (F : List Fact) (c : List Int) (T : List (List UInt8)) : ∀ ks : List Fm, evalAll F c T ks = ks.all (eval F c T)
  | [] => rfl
  | k :: ks => by rw [evalAll, evalAll_eq F c T ks, List.all_cons]
theorem evalAny_eq (F : List Fact) (c : List Int) (T : List (List UInt8)) : ∀ ks : List Fm, evalAny F c T ks = ks.any (eval F c T)
  | [] => rfl
  | k :: ks => by rw [evalAny, evalAny_eq F c T ks, List.any_cons]
theorem evalFirst_eq (F : List Fact) (c : List Int) (T : List (List UInt8)) (ks : List Fm) (h : 0 < ks.length) : evalFirst F c T ks = eval F c T ks[0] := by
  cases ks with
  | nil => simp at h
  | cons k ks => simp [evalFirst]
theorem eval_eq (F : List Fact) (c : List Int) (T : List (List UInt8)) (f : Fm) : eval F c T f =
    if f.op = 3 then cmpB (valAt F c f.name) f.cmp f.num else if f.op = 4 then T.contains f.name else if f.op = 5 then !(evalFirst F c T f.kids)
    else if f.op = 6 then f.kids.all (eval F c T) else if f.op = 7 then f.kids.any (eval F c T) else decide (f.op = 1) := by
  cases f with
  | node o s cm n ks =>
    show eval F c T (.node o s cm n ks) = _
    rw [eval, evalAll_eq, evalAny_eq]
    rfl

theorem any_split {p : Fm → Bool} {ks : List Fm} {i : Nat} (hi : i < ks.length) (h0 : (ks.take i).any p = false) : (p ks[i] = true → ks.any p = true) ∧ (p ks[i] = false → (ks.take (i + 1)).any p = false) := by
  refine ⟨fun h => List.any_eq_true.2 ⟨_, List.getElem_mem hi, h⟩, fun h => ?_⟩
  rw [List.take_succ_eq_append_getElem hi, List.any_append, h0]
  simp [h]
theorem all_split {p : Fm → Bool} {ks : List Fm} {i : Nat} (hi : i < ks.length) (h0 : (ks.take i).all p = true) : (p ks[i] = false → ks.all p = false) ∧ (p ks[i] = true → (ks.take (i + 1)).all p = true) := by
  refine ⟨fun h => List.all_eq_false.2 ⟨_, List.getElem_mem hi, by simp [h]⟩, fun h => ?_⟩
  rw [List.take_succ_eq_append_getElem hi, List.all_append, h0]
  simp [h]

/-- Every node of a formula is right. -/
def Right (F : List Fact) (f : Fm) : Prop := firstE F (fun _ => true) (pre f) = 0

theorem Right.node {F : List Fact} {f : Fm} (h : Right F f) : nodeE F (fun _ => true) f = 0 := by
  unfold Right at h
  rw [pre_eq, firstE] at h
  by_cases h0 : nodeE F (fun _ => true) f = 0
  · exact h0
  · rw [if_pos h0] at h; exact absurd h h0
theorem Right.kids {F : List Fact} {f : Fm} (h : Right F f) : firstE F (fun _ => true) (preL f.kids) = 0 := by
  have h0 := h.node
  unfold Right at h
  rw [pre_eq, firstE, if_neg (by simp [h0])] at h
  exact h
theorem preL_split' {ks : List Fm} {i : Nat} (hi : i < ks.length) : preL ks = preL (ks.take i) ++ (pre ks[i] ++ preL (ks.drop (i + 1))) := by
  have h1 := preL_app (ks.take (i + 1)) (ks.drop (i + 1))
  rw [List.take_append_drop, List.take_succ_eq_append_getElem hi, preL_snoc] at h1
  rw [h1, List.append_assoc]
theorem Right.kid {F : List Fact} {f : Fm} (h : Right F f) {i : Nat} (hi : i < f.kids.length) : Right F f.kids[i] := by
  have h1 := h.kids
  rw [preL_split' hi] at h1
  simp only [firstE_app] at h1
  unfold Right
  split at h1
  · contradiction
  · split at h1
    · contradiction
    · simp_all
end Go.Fo

namespace Go.Proofs
open Go Go.Pd Go.Lexs Go.Fin Go.Fo
attribute [local irreducible] OpsL W RetQ OpsQ OpsC

end Go.Proofs

/-
  Formulas: the reference's Holds.
-/
set_option linter.unusedVariables false
set_option linter.unusedSimpArgs false
set_option linter.unnecessarySimpa false
set_option maxRecDepth 10000
namespace Go.Proofs
open Go Go.Pd Go.Lexs Go.Fin Go.Fo
attribute [local irreducible] OpsL W RetQ OpsQ OpsC

theorem checkE_right {F : List Fact} {f : Fm} (h : checkE F (fun _ => true) f = 0) : Right F f := by
  unfold checkE at h
  split at h
  · cases h
  · exact h

end Go.Proofs
