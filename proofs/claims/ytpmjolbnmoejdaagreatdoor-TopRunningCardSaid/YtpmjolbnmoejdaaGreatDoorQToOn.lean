/-
  Matters, migrations and procedures that came in; the table that is laid.
-/
import Derived.Test.YtpmjolbnmoejdaaGreatDoorQToLw
import Derived.Test.YtpmjolbnmoejdaaGreatDoorQLE
set_option linter.unusedVariables false
set_option linter.unusedSimpArgs false
set_option linter.unnecessarySimpa false
set_option maxRecDepth 10000
namespace Go.Pd
open Go.ChangeShapes Go.WideShapes Go.ChangeAt Go.RowKit
theorem Rd.arr2 {H : Type} {enc : TypeId × Value → H} {P : Program} {W : World} {n t e : Nat} {cs : List Value} (hu : P.underlying t = some (.array 2 e)) (hce : P.cellsOf e = 1) (hct : P.cellsOf t = 2) (h : Rd enc P W n t cs) : ∃ c0 c1 n', cs = [c0, c1] ∧ Rd enc P W n' e [c0] ∧ Rd enc P W n' e [c1] := by
  obtain ⟨d, ps, ht, hw⟩ := h
  obtain ⟨xs, m, rfl, hx, hcl, hxl, hf⟩ := DataW.trod_array hu ht
  have hd : d = .agg (xs.map (·.1)) := congrArg Prod.fst hx
  subst hd
  rw [hct] at hcl
  rw [hce] at hf
  simp only [DataW.weights, hu] at hw
  match cs, hcl, xs, hxl with
  | [c0, c1], _, [x0, x1], _ =>
    refine ⟨c0, c1, m, rfl, ⟨x0.1, x0.2, hf 0 (by decide), weightsAll_mem (by simp) hw⟩, ⟨x1.1, x1.2, hf 1 (by decide), weightsAll_mem (by simp) hw⟩⟩
end Go.Pd
namespace Go.Proofs
open Go Go.Pd Go.Top
section
variable {H : Type} {enc : TypeId × Value → H} {W : World}
theorem rd_list {α : Type} {f : α → List Value} {Q : α → Prop} {n t e k : Nat} {v : Value} (hu : Tryz.prog.underlying t = some (.slice e)) (hce : Tryz.prog.cellsOf e = k) (hk : 0 < k) (hby : 0 < Tryz.prog.bytesOf e) (h : Rd enc Tryz.prog W n t [v])
    (hel : ∀ n' cs, Rd enc Tryz.prog W n' e cs → ∃ x, cs = f x ∧ Q x) : ∃ L : List α, Sl W v k (L.flatMap f) ∧ L.length ≤ 140737488351232 ∧ ∀ x ∈ L, Q x := by
  rcases Rd.slice hu hce hk hby h with rfl | ⟨a, m, c, css, n', rfl, rfl, hmc, hcc, hm, hel2, hsp, hrow⟩
  · exact ⟨[], Sl.nil _ _, by simp, fun _ h => nomatch h⟩
  · have key : ∀ css : List (List Value), (∀ cs ∈ css, cs.length = k ∧ Rd enc Tryz.prog W n' e cs) → ∃ L : List α, css = L.map f ∧ ∀ x ∈ L, Q x := by
      intro css
      induction css with
      | nil => exact fun _ => ⟨[], rfl, fun _ h => nomatch h⟩
      | cons cs css ih =>
        intro hc
        obtain ⟨x, h1, h2⟩ := hel n' cs (hc cs List.mem_cons_self).2
        obtain ⟨L, h3, h4⟩ := ih fun c h => hc c (List.mem_cons_of_mem _ h)
        refine ⟨x :: L, by rw [h1, h3]; rfl, fun y hy => ?_⟩
        rcases List.mem_cons.1 hy with rfl | hy
        · exact h2
        · exact h4 y hy
    obtain ⟨L, rfl, hL⟩ := key css hel2
    have hfl : (L.map f).flatten = L.flatMap f := by rw [List.flatMap]
    have hlen := flatten_len (k := k) fun cs hcs => (hel2 cs hcs).1
    rw [hfl] at hrow hlen
    rw [List.length_map] at hlen hm
    exact ⟨L, .inr ⟨a, m, c, rfl, by rw [hlen, hm], hmc, hsp, hrow⟩, by omega, hL⟩
theorem rd_int {n : Nat} {cs : List Value} (h : Rd enc Tryz.prog W n 3 cs) : ∃ z, cs = intL z := by
  have hs : flatSh Tryz.prog 3 3 = some [.int .i64] := by kernel_rfl
  obtain ⟨hl, hc⟩ := Rd.flat 3 hs h
  match cs, hl with
  | [c0], _ =>
    obtain ⟨z, rfl, -⟩ := hc 0 _ c0 rfl rfl
    exact ⟨z, rfl⟩
theorem rd_str {n : Nat} {cs : List Value} (h : Rd enc Tryz.prog W n 9 cs) : ∃ s : Tx, cs = [str s] ∧ s.length ≤ 140737488351232 := by
  have hs : flatSh Tryz.prog 3 9 = some [.str] := by kernel_rfl
  obtain ⟨hl, hc⟩ := Rd.flat 3 hs h
  match cs, hl with
  | [c0], _ =>
    obtain ⟨s, rfl, h0⟩ := hc 0 _ c0 rfl rfl
    exact ⟨s, rfl, h0⟩
theorem rd_ints {n : Nat} {v : Value} (h : Rd enc Tryz.prog W n 22 [v]) : ∃ l : List Int, Sl W v 1 (l.flatMap intL) ∧ l.length ≤ 140737488351232 := by
  obtain ⟨L, h1, h2, -⟩ := rd_list (f := intL) (Q := fun _ => True) Tryz.underlying22 (show Tryz.prog.cellsOf 3 = 1 by kernel_rfl) (by decide) (by decide +kernel) h fun n' cs hr => by
    obtain ⟨z, hz⟩ := rd_int hr
    exact ⟨z, hz, trivial⟩
  exact ⟨L, h1, h2⟩
theorem rd_case {n : Nat} {v : Value} (h : Rd enc Tryz.prog W n 23 [v]) : ∃ l : List Int, Sl W v 1 (l.flatMap intL) ∧ l.length ≤ 140737488351232 := by
  obtain ⟨L, h1, h2, -⟩ := rd_list (f := intL) (Q := fun _ => True) Tryz.underlying23 (show Tryz.prog.cellsOf 3 = 1 by kernel_rfl) (by decide) (by decide +kernel) h fun n' cs hr => by
    obtain ⟨z, hz⟩ := rd_int hr
    exact ⟨z, hz, trivial⟩
  exact ⟨L, h1, h2⟩
theorem rd_strs {n : Nat} {v : Value} (h : Rd enc Tryz.prog W n 31 [v]) : ∃ l : List Tx, Sl W v 1 (l.flatMap fun s => [str s]) ∧ l.length ≤ 140737488351232 := by
  obtain ⟨L, h1, h2, -⟩ := rd_list (f := fun s : Tx => [str s]) (Q := fun _ => True) Tryz.underlying31 (show Tryz.prog.cellsOf 9 = 1 by kernel_rfl) (by decide) (by decide +kernel) h fun n' cs hr => by
    obtain ⟨s, hs, -⟩ := rd_str hr
    exact ⟨s, hs, trivial⟩
  exact ⟨L, h1, h2⟩
theorem rd_stops {n : Nat} {v : Value} (h : Rd enc Tryz.prog W n 54 [v]) : ∃ l : List Stop, Sl W v 2 (l.flatMap stopL) ∧ l.length ≤ 140737488351232 := by
  obtain ⟨L, h1, h2, -⟩ := rd_list (f := stopL) (Q := fun _ => True) Tryz.underlying54 (show Tryz.prog.cellsOf 93 = 2 by kernel_rfl) (by decide) (by decide +kernel) h fun n' cs hr => by
    have hs : flatSh Tryz.prog 3 93 = some [.int .i64, .int .i64] := by kernel_rfl
    obtain ⟨hl, hc⟩ := Rd.flat 3 hs hr
    match cs, hl with
    | [c0, c1], _ =>
      obtain ⟨a, rfl, -⟩ := hc 0 _ c0 rfl rfl
      obtain ⟨b, rfl, -⟩ := hc 1 _ c1 rfl rfl
      exact ⟨⟨a, b⟩, rfl, trivial⟩
  exact ⟨L, h1, h2⟩
theorem rd_rights {n : Nat} {v : Value} (h : Rd enc Tryz.prog W n 24 [v]) : ∃ l : List Right, Sl W v 2 (l.flatMap rightL) ∧ l.length ≤ 140737488351232 := by
  obtain ⟨L, h1, h2, -⟩ := rd_list (f := rightL) (Q := fun _ => True) Tryz.underlying24 (show Tryz.prog.cellsOf 51 = 2 by kernel_rfl) (by decide) (by decide +kernel) h fun n' cs hr => by
    have hs : flatSh Tryz.prog 3 51 = some [.str, .int .i64] := by kernel_rfl
    obtain ⟨hl, hc⟩ := Rd.flat 3 hs hr
    match cs, hl with
    | [c0, c1], _ =>
      obtain ⟨a, rfl, -⟩ := hc 0 _ c0 rfl rfl
      obtain ⟨b, rfl, -⟩ := hc 1 _ c1 rfl rfl
      exact ⟨⟨a, b⟩, rfl, trivial⟩
  exact ⟨L, h1, h2⟩
theorem rd_moves {n : Nat} {v : Value} (h : Rd enc Tryz.prog W n 32 [v]) : ∃ l : List IPair, Sl W v 2 (l.flatMap moveL) ∧ l.length ≤ 140737488351232 := by
  obtain ⟨L, h1, h2, -⟩ := rd_list (f := moveL) (Q := fun _ => True) Tryz.underlying32 (show Tryz.prog.cellsOf 81 = 2 by kernel_rfl) (by decide) (by decide +kernel) h fun n' cs hr => by
    obtain ⟨c0, c1, n2, rfl, r0, r1⟩ := Rd.arr2 Tryz.underlying81 (show Tryz.prog.cellsOf 3 = 1 by kernel_rfl) (by kernel_rfl) hr
    obtain ⟨a, ha⟩ := rd_int r0
    obtain ⟨b, hb⟩ := rd_int r1
    cases ha
    cases hb
    exact ⟨⟨a, b⟩, rfl, trivial⟩
  exact ⟨L, h1, h2⟩
theorem rd_pairs {n : Nat} {v : Value} (h : Rd enc Tryz.prog W n 28 [v]) : ∃ l : List Pair, Sl W v 2 (l.flatMap pairL) ∧ l.length ≤ 140737488351232 ∧ ∀ r ∈ l, r.x.length ≤ 140737488351232 ∧ r.y.length ≤ 140737488351232 :=
  rd_list (f := pairL) (Q := fun r => r.x.length ≤ 140737488351232 ∧ r.y.length ≤ 140737488351232) Tryz.underlying28 (show Tryz.prog.cellsOf 57 = 2 by kernel_rfl) (by decide) (by decide +kernel) h fun n' cs hr => by
    obtain ⟨c0, c1, n2, rfl, r0, r1⟩ := Rd.arr2 Tryz.underlying57 (show Tryz.prog.cellsOf 9 = 1 by kernel_rfl) (by kernel_rfl) hr
    obtain ⟨a, ha, la⟩ := rd_str r0
    obtain ⟨b, hb, lb⟩ := rd_str r1
    cases ha
    cases hb
    exact ⟨⟨a, b⟩, rfl, la, lb⟩
theorem rd_limits {n : Nat} {v : Value} (h : Rd enc Tryz.prog W n 25 [v]) : ∃ ls : List Lim, LimsIn W ls v ∧ ls.length ≤ 140737488351232 := by
  obtain ⟨L, h1, h2, h3⟩ := rd_list (f := limL) (Q := LimIn W) Tryz.underlying25 (show Tryz.prog.cellsOf 56 = 5 by kernel_rfl) (by decide) (by decide +kernel) h fun n' cs hr => by
    have hs : flatSh Tryz.prog 4 56 = some [.str, .int .i64, .int .i64, .int .i64, .slc 54] := by kernel_rfl
    obtain ⟨hl, hc⟩ := Rd.flat 4 hs hr
    match cs, hl with
    | [c0, c1, c2, c3, c4], _ =>
      obtain ⟨s, rfl, h0⟩ := hc 0 _ c0 rfl rfl
      obtain ⟨a, rfl, -⟩ := hc 1 _ c1 rfl rfl
      obtain ⟨b, rfl, -⟩ := hc 2 _ c2 rfl rfl
      obtain ⟨c, rfl, -⟩ := hc 3 _ c3 rfl rfl
      obtain ⟨st, k1, k2⟩ := rd_stops (hc 4 _ c4 rfl rfl : Rd enc Tryz.prog W n' 54 [c4])
      exact ⟨(⟨s, a, b, c, st⟩, c4), rfl, k1, k2, h0⟩
  exact ⟨L.map Prod.fst, ⟨L, rfl, h1, h3⟩, by rw [List.length_map]; exact h2⟩
theorem open_mat {r : Go.Reach} {base n : Nat} {v : Value} (hv : Value.okWide Tryz.prog W r base 27 v) (h : Rd enc Tryz.prog W n 27 v.cells.toList) : ∃ x : Mat × MV, v = .agg (matL x.1 x.2).toArray ∧ MatIn W x.1 x.2 ∧ BigM x.1 := by
  obtain ⟨cs, rfl, -⟩ := okWide_agg hv (by kernel_rfl)
  have hs : flatSh Tryz.prog 3 27 = some [.str, .int .i64, .slc 23, .str, .int .i64, .slc 22, .slc 24, .slc 25] := by kernel_rfl
  obtain ⟨hl, hc⟩ := Rd.flat 3 hs h
  obtain ⟨l⟩ := cs
  match l, hl with
  | [c0, c1, c2, c3, c4, c5, c6, c7], _ =>
    obtain ⟨s0, rfl, h0⟩ := hc 0 _ c0 rfl rfl
    obtain ⟨z1, rfl, -⟩ := hc 1 _ c1 rfl rfl
    obtain ⟨l2, h2⟩ := rd_case (hc 2 _ c2 rfl rfl : Rd enc Tryz.prog W n 23 [c2])
    obtain ⟨s3, rfl, h3⟩ := hc 3 _ c3 rfl rfl
    obtain ⟨z4, rfl, -⟩ := hc 4 _ c4 rfl rfl
    obtain ⟨l5, h5⟩ := rd_ints (hc 5 _ c5 rfl rfl : Rd enc Tryz.prog W n 22 [c5])
    obtain ⟨l6, h6⟩ := rd_rights (hc 6 _ c6 rfl rfl : Rd enc Tryz.prog W n 24 [c6])
    obtain ⟨l7, h7⟩ := rd_limits (hc 7 _ c7 rfl rfl : Rd enc Tryz.prog W n 25 [c7])
    exact ⟨(⟨s0, z1, l2, s3, z4, l5, l6, l7⟩, ⟨c2, c5, c6, c7⟩), rfl, ⟨h2, h5, h6, h7⟩, h0, h3⟩
theorem open_mig {r : Go.Reach} {base n : Nat} {v : Value} (hv : Value.okWide Tryz.prog W r base 30 v) (h : Rd enc Tryz.prog W n 30 v.cells.toList) : ∃ x : Mig × GV, v = .agg (migL x.1 x.2).toArray ∧ MigIn W x.1 x.2 ∧ BigG x.1 := by
  obtain ⟨cs, rfl, -⟩ := okWide_agg hv (by kernel_rfl)
  have hs : flatSh Tryz.prog 3 30 = some [.str, .str, .slc 22, .slc 28, .slc 25] := by kernel_rfl
  obtain ⟨hl, hc⟩ := Rd.flat 3 hs h
  obtain ⟨l⟩ := cs
  match l, hl with
  | [c0, c1, c2, c3, c4], _ =>
    obtain ⟨s0, rfl, h0⟩ := hc 0 _ c0 rfl rfl
    obtain ⟨s1, rfl, h1⟩ := hc 1 _ c1 rfl rfl
    obtain ⟨l2, h2⟩ := rd_ints (hc 2 _ c2 rfl rfl : Rd enc Tryz.prog W n 22 [c2])
    obtain ⟨l3, h3, h3', h3''⟩ := rd_pairs (hc 3 _ c3 rfl rfl : Rd enc Tryz.prog W n 28 [c3])
    obtain ⟨l4, h4⟩ := rd_limits (hc 4 _ c4 rfl rfl : Rd enc Tryz.prog W n 25 [c4])
    exact ⟨(⟨s0, s1, l2, l3, l4⟩, ⟨c2, c3, c4⟩), rfl, ⟨h2, ⟨h3, h3'⟩, h4⟩, h0, h1, h3''⟩
theorem open_prc {r : Go.Reach} {base n : Nat} {v : Value} (hv : Value.okWide Tryz.prog W r base 34 v) (h : Rd enc Tryz.prog W n 34 v.cells.toList) : ∃ x : Proc × PV, v = .agg (procL x.1 x.2).toArray ∧ ProcIn W x.1 x.2 := by
  obtain ⟨cs, rfl, -⟩ := okWide_agg hv (by kernel_rfl)
  have hs : flatSh Tryz.prog 3 34 = some [.str, .slc 31, .slc 32] := by kernel_rfl
  obtain ⟨hl, hc⟩ := Rd.flat 3 hs h
  obtain ⟨l⟩ := cs
  match l, hl with
  | [c0, c1, c2], _ =>
    obtain ⟨s0, rfl, h0⟩ := hc 0 _ c0 rfl rfl
    obtain ⟨l1, h1⟩ := rd_strs (hc 1 _ c1 rfl rfl : Rd enc Tryz.prog W n 31 [c1])
    obtain ⟨l2, h2⟩ := rd_moves (hc 2 _ c2 rfl rfl : Rd enc Tryz.prog W n 32 [c2])
    exact ⟨(⟨s0, l1, l2⟩, ⟨c1, c2⟩), rfl, h1, h2⟩
end
/-! ### The table -/
theorem laid_mem {P : Program} {W : World} {name : String} {d : DataW Unit} : ∀ {l : List (String × DataW Unit)} {ps : List MemPlace}, DataW.LaidVars P W l ps → (name, d) ∈ l → ∃ g t cs fuel p, P.globalNamed name = some g ∧ (P.globals[g]?).map (·.type) = some t ∧ W.var? P name = some cs ∧ DataW.trod (fun _ => ()) P W 0 (fun _ => true) false fuel t cs.toList = some (d, p)
  | [], ps, _, hm => nomatch hm
  | (n2, d2) :: l, ps, h, hm => by
    obtain ⟨g, t, cs, fuel, p, q, h1, h2, h3, h4, h5, -⟩ := h
    rcases List.mem_cons.1 hm with e | hm
    · cases e
      exact ⟨g, t, cs, fuel, p, h1, h2, h3, h4⟩
    · exact laid_mem h5 hm
theorem tab_of_laid {P : Program} {W : World} {name : String} {k : IntKind} {zs : List Int} {l : List (String × DataW Unit)} {g : Nat} {t e : TypeId} {n : Nat}
    (hg : P.globalNamed name = some g) (hty : (P.globals[g]?).map (·.type) = some t) (ht : P.underlying t = some (.array n e)) (he : P.underlying e = some (.int k)) (hce : P.cellsOf e = 1) (hct : P.cellsOf t = n)
    (h : laidMet P l W) (hm : (name, (Lib.tabData k zs : DataW Unit)) ∈ l) : Lib.TabIs P W name k zs := by
  obtain ⟨ps, hv, -⟩ := h
  obtain ⟨g', t', cs, fuel, p, hg', ht', hvar, hd⟩ := laid_mem hv hm
  obtain rfl := Option.some.inj (hg.symm.trans hg')
  obtain rfl := Option.some.inj (hty.symm.trans ht')
  unfold Lib.TabIs
  rw [hvar, ← Lib.cells_of_tab ht he hce hct hd]
end Go.Proofs
