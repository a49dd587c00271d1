/-
  Trees of orders behind long chains of conditions: what comes after what, by sets of bits.
-/
import Derived.Test.YtebaoilkpedppaaGreatDoorLC
import Derived.Test.YtebaoilkpedppaaGreatDoorLD
set_option linter.unusedVariables false
set_option linter.unusedSimpArgs false
set_option linter.unnecessarySimpa false
set_option maxRecDepth 10000
namespace Go.Pd
open Go
section
variable {P : Program} {r : Option Nat} {n : Nat} {ops : Array Oper}
theorem anc_up : ∀ (f g i j : Nat), f ≤ g → anc ops f i j = true → anc ops g i j = true
  | 0, g, i, j, _, h => by simp [anc] at h
  | f + 1, 0, i, j, hg, h => by omega
  | f + 1, g + 1, i, j, hg, h => by
    simp only [anc] at h ⊢
    cases ho : ops[i]? with
    | none => rw [ho] at h; simp at h
    | some o =>
      rw [ho] at h
      simp only [Option.map_some, Option.getD_some, Array.any_eq_true, Bool.and_eq_true, Bool.or_eq_true, beq_iff_eq] at h ⊢
      obtain ⟨q, hq, hb, h2⟩ := h
      refine ⟨q, hq, hb, ?_⟩
      rcases h2 with h2 | h2
      · exact .inl h2
      · exact .inr (anc_up f g _ j (by omega) h2)
theorem anc_fit (back : ∀ i o, ops[i]? = some o → ∀ e ∈ o.after, Region.binds .any e = true → e.on < i) : ∀ (f i j : Nat), anc ops f i j = true → anc ops (i + 1) i j = true
  | 0, i, j, h => by simp [anc] at h
  | f + 1, i, j, h => by
    simp only [anc] at h ⊢
    cases ho : ops[i]? with
    | none => rw [ho] at h; simp at h
    | some o =>
      rw [ho] at h
      simp only [Option.map_some, Option.getD_some, Array.any_eq_true, Bool.and_eq_true, Bool.or_eq_true, beq_iff_eq] at h ⊢
      obtain ⟨q, hq, hb, h2⟩ := h
      refine ⟨q, hq, hb, ?_⟩
      rcases h2 with h2 | h2
      · exact .inl h2
      · have hlt := back i o ho o.after[q] (Array.getElem_mem hq) hb
        exact .inr (anc_up _ _ _ _ (by omega) (anc_fit back f _ j h2))
theorem anc_of_reach (back : ∀ i o, ops[i]? = some o → ∀ e ∈ o.after, Region.binds .any e = true → e.on < i) {i j : Nat} (h : reachB ops i j = true) : anc ops ops.size i j = true := by
  obtain ⟨f, hf⟩ := reachGo_anc (ops := ops) (t := j) ops.toList 0 0 (fun k => by simp) (fun i h => by simp at h) i h
  have h1 := anc_fit back f i j hf
  have hi : i < ops.size := by
    by_cases hi : i < ops.size
    · exact hi
    · rw [anc, Array.getElem?_eq_none (by omega)] at h1
      simp at h1
  exact anc_up _ _ _ _ hi h1
def treeOkR (ops : Array Oper) (H E T B EB : List Nat) : Bool :=
  regOk ops (H ++ T ++ B) [] [] && (H.all fun h => ((ops[h]?).map (isPur ·.op)).getD false || E.contains h || T.all fun t => reachB ops t h) && (B.all fun b => T.all fun t => reachB ops b t) &&
  (B.all fun b => ((ops[b]?).map (isPur ·.op)).getD false || EB.contains b) && !T.isEmpty && T.Nodup
theorem treeOk_of {H E T B EB : List Nat} (h : treeOkR ops H E T B EB = true) : treeOk ops H E T B EB = true := by
  unfold treeOkR at h
  unfold treeOk
  simp only [Bool.and_eq_true, List.all_eq_true, Bool.or_eq_true] at h ⊢
  obtain ⟨⟨⟨⟨⟨h1, h2⟩, h3⟩, h4⟩, h5⟩, h6⟩ := h
  have F := regFacts h1
  refine ⟨⟨⟨⟨⟨h1, fun x hx => ?_⟩, fun b hb t ht => anc_of_reach (fun i o ho e he hb => F.back i o ho e he hb) (h3 b hb t ht)⟩, h4⟩, h5⟩, h6⟩
  rcases h2 x hx with h | h
  · exact .inl h
  · exact .inr fun t ht => anc_of_reach (fun i o ho e he hb => F.back i o ho e he hb) (h t ht)
end
end Go.Pd
