/-
  Rulings and spans that came in.
-/
import Derived.Test.YtbfehpiahmodlaaDoorQk
import Derived.Test.YtbfehpiahmodlaaDoorRA
set_option linter.unusedVariables false
set_option linter.unusedSimpArgs false
set_option linter.unnecessarySimpa false
set_option maxRecDepth 10000
namespace Go.Proofs
open Go Go.Pd Go.Lexs Go.Fin Go.Fo

structure RulIn (w : World) (r : Rul.Rul) (kv : Value) : Prop where
  f : FmIn w r.read kv
  id : r.id.length ≤ 140737488351232
  tgt : r.tgt.length ≤ 140737488351232
  lifts : r.lifts.length ≤ 140737488351232
/-- A ruling's texts and kids are of possible lengths. -/
structure RulOk (r : Rul.Rul) : Prop where
  f : FmLen r.read
  len : RuLen r
theorem RulIn.ok {w : World} {r : Rul.Rul} {kv : Value} (h : RulIn w r kv) : RulOk r := ⟨⟨h.f.n, h.f.ns⟩, by have := h.id; have := h.tgt; have := h.lifts; exact ⟨by omega, by omega, by omega⟩⟩
structure RulsIn (w : World) (l : List Rul.Rul) (v : Value) : Prop where
  at_ : RulsAt w l v
  len : l.length ≤ 140737488351232
  ok : ∀ r ∈ l, RulOk r
structure SpnsIn (w : World) (l : List Rul.Spn) (v : Value) : Prop where
  at_ : SpnsAt w l v
  len : l.length ≤ 140737488351232
  ok : ∀ s ∈ l, FmLen s.read

section
variable {H : Type} {enc : TypeId × Value → H} {W : World}
theorem fm_of_parts {n : Nat} (z0 z2 z3 : Int) (s1 : List UInt8) (c4 : Value) (h1 : s1.length ≤ 140737488351232) (h4 : Rd enc Tryd.prog W n 23 [c4]) : ∃ ks : List Fm, FmIn W (.node z0 s1 z2 z3 ks) c4 := by
  rcases Rd.slice Tryd.underlying23 (show Tryd.prog.cellsOf 25 = 5 by kernel_rfl) (by decide) (by decide +kernel) h4 with rfl | ⟨a, m, c, css, n', rfl, rfl, hmc, hcc, hm, hel, hsp, hrow⟩
  · refine ⟨[], KA.nil _, by simp [Fm.kids], fun k hk => by simp [Fm.kids, preL] at hk, fun k hk => ?_⟩
    rw [pre_eq] at hk
    simp [Fm.kids, preL] at hk
    subst hk
    exact h1
  · obtain ⟨ps, rfl, hps⟩ := pairs_of (W := W) fun cs hcs => fm_of_cells n' cs (hel cs hcs).2
    have hflat : (ps.map kidL).flatten = ps.flatMap kidL := by rw [List.flatMap]
    rw [hflat] at hrow
    have hlen : ps.length = m := by simpa using hm
    refine ⟨ps.map (·.1), .mk ps rfl (.inr ⟨a, m, c, rfl, by rw [kidL_flat, hlen], hmc, hsp, hrow⟩) (fun hne => ?_) (fun p hp => (hps p hp).k), ?_, ?_, ?_⟩
    · cases ps with
      | nil => exact absurd rfl hne
      | cons p ps => exact fun h => h (show a.block < W.heap.size from lt_of_cell (a := ⟨a.block, a.off + 0, none⟩) (hrow 0 _ rfl))
    · simp only [Fm.kids, List.length_map]; omega
    · intro k hk
      obtain ⟨q, hq, hkq⟩ := preL_mem hk
      obtain ⟨p, hp, rfl⟩ := List.mem_map.1 hq
      rw [pre_eq] at hkq
      rcases List.mem_cons.1 hkq with rfl | hkq
      · exact (hps p hp).n
      · exact (hps p hp).ns k hkq
    · intro k hk
      rw [pre_eq] at hk
      rcases List.mem_cons.1 hk with rfl | hk
      · exact h1
      · obtain ⟨q, hq, hkq⟩ := preL_mem hk
        obtain ⟨p, hp, rfl⟩ := List.mem_map.1 hq
        exact (hps p hp).t k hkq

theorem rul_of_cells {n : Nat} {cs : List Value} (h : Rd enc Tryd.prog W n 27 cs) : ∃ x : Rul.Rul × Value, cs = rulL x ∧ RulIn W x.1 x.2 := by
  have hs : flatSh Tryd.prog 4 27 = some [.str, .str, .int .i64, .int .i64, .int .i64, .int .i64, .str, .int .i64, .int .i64, .slc 23, .int .i64, .bool, .str] := by kernel_rfl
  obtain ⟨hl, hc⟩ := Rd.flat 4 hs h
  match cs, hl with
  | [c0, c1, c2, c3, c4, c5, c6, c7, c8, c9, c10, c11, c12], _ =>
    obtain ⟨s0, rfl, h0⟩ := hc 0 _ c0 rfl rfl
    obtain ⟨s1, rfl, h1⟩ := hc 1 _ c1 rfl rfl
    obtain ⟨z2, rfl, -⟩ := hc 2 _ c2 rfl rfl
    obtain ⟨z3, rfl, -⟩ := hc 3 _ c3 rfl rfl
    obtain ⟨z4, rfl, -⟩ := hc 4 _ c4 rfl rfl
    obtain ⟨z5, rfl, -⟩ := hc 5 _ c5 rfl rfl
    obtain ⟨s6, rfl, h6⟩ := hc 6 _ c6 rfl rfl
    obtain ⟨z7, rfl, -⟩ := hc 7 _ c7 rfl rfl
    obtain ⟨z8, rfl, -⟩ := hc 8 _ c8 rfl rfl
    have h9 : Rd enc Tryd.prog W n 23 [c9] := hc 9 _ c9 rfl rfl
    obtain ⟨z10, rfl, -⟩ := hc 10 _ c10 rfl rfl
    obtain ⟨b11, rfl⟩ := hc 11 _ c11 rfl rfl
    obtain ⟨s12, rfl, h12⟩ := hc 12 _ c12 rfl rfl
    obtain ⟨ks, hf⟩ := fm_of_parts z5 z7 z8 s6 c9 h6 h9
    exact ⟨(⟨s0, s1, z2, z3, z4, .node z5 s6 z7 z8 ks, z10, b11, s12⟩, c9), rfl, hf, h0, h1, h12⟩
theorem spn_of_cells {n : Nat} {cs : List Value} (h : Rd enc Tryd.prog W n 50 cs) : ∃ x : Rul.Spn × Value, cs = spnL x ∧ FmIn W x.1.read x.2 := by
  have hs : flatSh Tryd.prog 4 50 = some [.int .i64, .int .i64, .int .i64, .str, .int .i64, .int .i64, .slc 23] := by kernel_rfl
  obtain ⟨hl, hc⟩ := Rd.flat 4 hs h
  match cs, hl with
  | [c3, c4, c5, c6, c7, c8, c9], _ =>
    obtain ⟨z3, rfl, -⟩ := hc 0 _ c3 rfl rfl
    obtain ⟨z4, rfl, -⟩ := hc 1 _ c4 rfl rfl
    obtain ⟨z5, rfl, -⟩ := hc 2 _ c5 rfl rfl
    obtain ⟨s6, rfl, h6⟩ := hc 3 _ c6 rfl rfl
    obtain ⟨z7, rfl, -⟩ := hc 4 _ c7 rfl rfl
    obtain ⟨z8, rfl, -⟩ := hc 5 _ c8 rfl rfl
    have h9 : Rd enc Tryd.prog W n 23 [c9] := hc 6 _ c9 rfl rfl
    obtain ⟨ks, hf⟩ := fm_of_parts z5 z7 z8 s6 c9 h6 h9
    exact ⟨(⟨z3, z4, .node z5 s6 z7 z8 ks⟩, c9), rfl, hf⟩

theorem open_rul {r : Go.Reach} {base n : Nat} {v : Value} (hv : Value.okWide Tryd.prog W r base 27 v) (h : Rd enc Tryd.prog W n 27 v.cells.toList) : ∃ x : Rul.Rul × Value, v = .agg (rulC x.1 x.2).toArray ∧ RulIn W x.1 x.2 := by
  obtain ⟨cs, rfl, -⟩ := okWide_agg hv (by kernel_rfl)
  obtain ⟨x, h1, h2⟩ := rul_of_cells h
  refine ⟨x, ?_, h2⟩
  have h1 : cs.toList = rulL x := h1
  rw [show rulC x.1 x.2 = rulL x from rfl, ← h1]

theorem open_ruls {r : Go.Reach} {base n : Nat} {v : Value} (hv : Value.okWide Tryd.prog W r base 36 v) (h : Rd enc Tryd.prog W n 36 v.cells.toList) : ∃ l : List Rul.Rul, RulsIn W l v := by
  obtain ⟨L, h1, h2, h3⟩ := Rd.sl (f := rulL) (Q := fun p => RulIn W p.1 p.2) Tryd.underlying36 (show Tryd.prog.cellsOf 27 = 13 by kernel_rfl) (by decide) (by decide +kernel) hv h fun n' cs hr => rul_of_cells hr
  refine ⟨L.map (·.1), ⟨L, rfl, h1, fun p hp => (h3 p hp).f.k⟩, by simpa using h2, fun r hr => ?_⟩
  obtain ⟨p, hp, rfl⟩ := List.mem_map.1 hr
  exact (h3 p hp).ok
theorem open_spns {r : Go.Reach} {base n : Nat} {v : Value} (hv : Value.okWide Tryd.prog W r base 22 v) (h : Rd enc Tryd.prog W n 22 v.cells.toList) : ∃ l : List Rul.Spn, SpnsIn W l v := by
  obtain ⟨L, h1, h2, h3⟩ := Rd.sl (f := spnL) (Q := fun p => FmIn W p.1.read p.2) Tryd.underlying22 (show Tryd.prog.cellsOf 50 = 7 by kernel_rfl) (by decide) (by decide +kernel) hv h fun n' cs hr => spn_of_cells hr
  refine ⟨L.map (·.1), ⟨L, rfl, h1, fun p hp => (h3 p hp).k⟩, by simpa using h2, fun r hr => ?_⟩
  obtain ⟨p, hp, rfl⟩ := List.mem_map.1 hr
  exact ⟨(h3 p hp).n, (h3 p hp).ns⟩
end
end Go.Proofs
