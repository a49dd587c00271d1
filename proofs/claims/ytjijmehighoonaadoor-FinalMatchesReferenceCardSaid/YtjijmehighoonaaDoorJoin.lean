/-
  Blocks that a callee hands over; consumers of an iterator.
-/
import Derived.Test.YtjijmehighoonaaDoorKit
set_option linter.unusedSimpArgs false
set_option linter.unnecessarySimpa false
set_option maxRecDepth 10000
set_option linter.unusedVariables false
namespace Go.Pd

/-- What a callee made joins what the caller has. -/
theorem LH.join {w0 w w' : World} {M : Nat → Prop} {l l2 : List (Nat × Obj)} (h : LH w0 M w l) (h2 : LH w (fun _ => False) w' l2) : LH w0 M w' (l2 ++ l) := by
  have h1 := h.ext h2.done
  have hfr : ∀ p ∈ l2, w.heap.size ≤ p.1 := fun p hp => (h2.fresh p hp).elim id (fun h => h.elim)
  refine ⟨h1.upd, fun p hp => ?_, fun p hp => ?_, ?_⟩
  · rcases List.mem_append.1 hp with hp | hp
    · exact h2.own p hp
    · exact h1.own p hp
  · rcases List.mem_append.1 hp with hp | hp
    · exact .inl (Nat.le_trans h.upd.size (hfr p hp))
    · exact h.fresh p hp
  · rw [List.map_append, List.nodup_append]
    refine ⟨h2.nd, h.nd, fun a ha b hb hab => ?_⟩
    obtain ⟨p, hp, rfl⟩ := List.mem_map.1 ha
    obtain ⟨q, hq, rfl⟩ := List.mem_map.1 hb
    have h3 := hfr p hp
    have h4 := h.lt hq
    omega

/-- The same blocks, seen from a later world as opened ones. -/
theorem LH.rebase {w0 w w1 : World} {M : Nat → Prop} {l : List (Nat × Obj)} (h : LH w0 M w l) (e : Ext w w1) : LH w1 (fun b => b ∈ l.map (·.1)) w1 l :=
  ⟨.refl _ _, (h.ext e).own, fun p hp => .inr (List.mem_map_of_mem hp), h.nd⟩

theorem LH.back {w0 w w1 w2 : World} {M : Nat → Prop} {l l2 : List (Nat × Obj)} (h : LH w0 M w l) (e : Ext w w1) (h2 : LH w1 (fun b => b ∈ l.map (·.1)) w2 l2) : LH w0 M w2 l2 := by
  have h1 := h.ext e
  have hm : ∀ k, k ∈ l.map (·.1) → w0.heap.size ≤ k ∨ M k := fun k hk => by
    obtain ⟨p, hp, rfl⟩ := List.mem_map.1 hk
    exact h.fresh p hp
  refine ⟨h1.upd.trans h2.upd fun k hk hM => ?_, h2.own, fun p hp => ?_, h2.nd⟩
  · rcases hm k hM with h3 | h3
    · omega
    · exact h3
  · rcases h2.fresh p hp with h3 | h3
    · exact .inl (Nat.le_trans h1.upd.size h3)
    · exact hm _ h3

theorem LH.frame {w0 w w1 w2 : World} {M : Nat → Prop} {l l2 : List (Nat × Obj)} (h : LH w0 M w l) (h2 : LH w1 (fun b => b ∈ l.map (·.1)) w2 l2) : ∀ b, w.heap.size ≤ b → b < w1.heap.size → w2.heap[b]? = w1.heap[b]? := by
  intro b hb1 hb2
  refine h2.upd.same b hb2 fun hM => ?_
  obtain ⟨p, hp, rfl⟩ := List.mem_map.1 hM
  have := h.lt hp
  omega
end Go.Pd

namespace Go.Pd
theorem wk_intro {P : Program} {r : Option Nat} {n : Nat} {c : Code} {K : St → World → Prop} {Q : Exit → St → World → Prop} {s : St} {w : World} (h : WK P r n c K Q s w) : W P r n c (ThenQ K Q) s w := by
  unfold WK at h; exact h

/-- The consumer of an iterator: a round of a range over a function, with the record's parts named. -/
theorem callV_round {P : Program} {n : Nat} {L : Nat} {rec : Loop} {args : Array Value} {s : St} {w : World} {R : Value → World → Prop} {ps : Array Tmp} {asn body : Code} (h : w.heap[L]? = some (.loop rec)) (hp : rec.params = ps) (ha : rec.assign = asn) (hbd : rec.body = body) (hs : args.size = ps.size) (hf : Fits n s ⟨rec.tmps, s.d⟩)
    (hb : WK P (some L) n asn (fun s1 w1 => ∃ rec1, w1.heap[L]? = some (.loop rec1) ∧ rec1.state = .ready ∧ ∀ w2, SetAt w1 w2 L (.loop { rec1 with state := .busy }) → WK P (some L) n body (RoundQ L R .normal) (RoundQ L R) s1 w2) (fun _ _ _ => False)
      ((ps.toList.zip args.toList).foldl (fun s (q : Nat × Value) => s.set q.1 q.2) (⟨s.t, []⟩ : St)) w) : CallV P (.func (.yield L) #[] #[]) args w R := by
  subst hp ha hbd
  refine callV_yield h hs hf ?_
  refine wk_intro (wk_mono hb ?_)
  rintro s1 w1 ⟨rec1, h1, h2, h3⟩
  exact ⟨rec1, h1, h2, fun w2 hw2 => wk_w (h3 w2 hw2)⟩
end Go.Pd
