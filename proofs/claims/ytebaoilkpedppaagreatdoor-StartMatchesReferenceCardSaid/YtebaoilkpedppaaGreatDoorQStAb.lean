/-
  Conditions, happenings and statuses that came in; the tables that are laid.
-/
import Derived.Test.YtebaoilkpedppaaGreatDoorQStV
import Derived.Test.YtebaoilkpedppaaGreatDoorQLE
set_option linter.unusedVariables false
set_option linter.unusedSimpArgs false
set_option linter.unnecessarySimpa false
set_option maxRecDepth 10000
namespace Go.Proofs
open Go Go.Pd Go.Sta
section
variable {H : Type} {enc : TypeId × Value → H} {W : World}
def SnIn (w : World) (s : Sn) (kv : Value) : Prop := KA w s.kids kv ∧ fitS s
theorem sn_pairs : ∀ {css : List (List Value)}, (∀ cs ∈ css, ∃ s kv, cs = snL s kv ∧ SnIn W s kv) → ∃ ps : List (Sn × Value), css = ps.map kidS ∧ ∀ p ∈ ps, SnIn W p.1 p.2
  | [], _ => ⟨[], rfl, fun _ h => nomatch h⟩
  | cs :: css, h => by
    obtain ⟨f, kv, h1, h2⟩ := h cs List.mem_cons_self
    obtain ⟨ps, h3, h4⟩ := sn_pairs fun c hc => h c (List.mem_cons_of_mem _ hc)
    refine ⟨(f, kv) :: ps, by rw [h1, h3]; rfl, fun p hp => ?_⟩
    rcases List.mem_cons.1 hp with rfl | hp
    · exact h2
    · exact h4 p hp
theorem sn_of_cells : ∀ (n : Nat) (cs : List Value), Rd enc Tryz.prog W n 24 cs → ∃ s kv, cs = snL s kv ∧ SnIn W s kv := by
  intro n
  induction n using Nat.strongRecOn with
  | _ n ih =>
    intro cs hr
    have hs : flatSh Tryz.prog 3 24 = some [.int .i64, .str, .int .i64, .slc 22] := by kernel_rfl
    obtain ⟨hl, hc⟩ := Rd.flat 3 hs hr
    match cs, hl with
    | [c0, c1, c2, c3], _ =>
      obtain ⟨z0, rfl, h0⟩ := hc 0 _ c0 rfl rfl
      obtain ⟨s1, rfl, h1⟩ := hc 1 _ c1 rfl rfl
      obtain ⟨z2, rfl, h2⟩ := hc 2 _ c2 rfl rfl
      have h4 : Rd enc Tryz.prog W n 22 [c3] := hc 3 _ c3 rfl rfl
      rcases Rd.slice Tryz.underlying22 (show Tryz.prog.cellsOf 24 = 4 by kernel_rfl) (by decide) (by decide +kernel) h4 with rfl | ⟨a, m, c, css, n', rfl, rfl, hmc, hcc, hm, hel, hsp, hrow⟩
      · exact ⟨.node z0 s1 z2 [], _, rfl, KA.nil _, (fitS_eq _).2 ⟨h1, by simp [Sn.kids], trivial⟩⟩
      · obtain ⟨ps, rfl, hps⟩ := sn_pairs (W := W) fun cs hcs => ih n' (by omega) cs (hel cs hcs).2
        have hflat : (ps.map kidS).flatten = ps.flatMap kidS := by rw [List.flatMap]
        rw [hflat] at hrow
        have hlen : ps.length = m := by simpa using hm
        refine ⟨.node z0 s1 z2 (ps.map (·.1)), _, rfl, .mk ps rfl (.inr ⟨a, m, c, rfl, by rw [kidS_flat, hlen], hmc, hsp, hrow⟩) (fun hne => ?_) (fun p hp => (hps p hp).1), (fitS_eq _).2 ⟨h1, ?_, ?_⟩⟩
        · cases ps with
          | nil => exact absurd rfl hne
          | cons p ps => exact fun h => h (show a.block < W.heap.size from lt_of_cell (a := ⟨a.block, a.off + 0, none⟩) (hrow 0 _ rfl))
        · simp only [Sn.kids, List.length_map]; omega
        · refine fitL_all fun k hk => ?_
          obtain ⟨p, hp, rfl⟩ := List.mem_map.1 hk
          exact (hps p hp).2
theorem open_sn {r : Go.Reach} {base n : Nat} {v : Value} (hv : Value.okWide Tryz.prog W r base 24 v) (h : Rd enc Tryz.prog W n 24 v.cells.toList) : ∃ x : Sn × Value, v = .agg (snL x.1 x.2).toArray ∧ SnIn W x.1 x.2 := by
  obtain ⟨cs, rfl, -⟩ := okWide_agg hv (by kernel_rfl)
  obtain ⟨f, kv, h1, h2⟩ := sn_of_cells n _ h
  refine ⟨(f, kv), ?_, h2⟩
  have h1 : cs.toList = snL f kv := h1
  rw [← h1]
def HapIn (w : World) (l : List Hap) (v : Value) : Prop := Sl w v 4 (l.flatMap hapL) ∧ l.length ≤ 140737488351232
theorem open_haps {r : Go.Reach} {base n : Nat} {v : Value} (hv : Value.okWide Tryz.prog W r base 35 v) (h : Rd enc Tryz.prog W n 35 v.cells.toList) : ∃ l : List Hap, HapIn W l v := by
  obtain ⟨L, h1, h2, -⟩ := Rd.sl (f := hapL) (Q := fun _ => True) Tryz.underlying35 (show Tryz.prog.cellsOf 38 = 4 by kernel_rfl) (by decide) (by decide +kernel) hv h fun n' cs hr => by
    have hs : flatSh Tryz.prog 3 38 = some [.bool, .str, .int .i64, .int .i64] := by kernel_rfl
    obtain ⟨hl, hc⟩ := Rd.flat 3 hs hr
    match cs, hl with
    | [c0, c1, c2, c3], _ =>
      obtain ⟨b0, rfl⟩ := hc 0 _ c0 rfl rfl
      obtain ⟨s1, rfl, -⟩ := hc 1 _ c1 rfl rfl
      obtain ⟨z2, rfl, -⟩ := hc 2 _ c2 rfl rfl
      obtain ⟨z3, rfl, -⟩ := hc 3 _ c3 rfl rfl
      exact ⟨⟨b0, s1, z2, z3⟩, rfl, trivial⟩
  exact ⟨L, h1, h2⟩
def StuIn (w : World) (l : List Stu) (v : Value) : Prop := Sl w v 4 (l.flatMap stuL) ∧ l.length ≤ 140737488351232 ∧ ∀ x ∈ l, x.id.length ≤ 140737488351232
theorem open_stus {r : Go.Reach} {base n : Nat} {v : Value} (hv : Value.okWide Tryz.prog W r base 36 v) (h : Rd enc Tryz.prog W n 36 v.cells.toList) : ∃ l : List Stu, StuIn W l v := by
  obtain ⟨L, h1, h2, h3⟩ := Rd.sl (f := stuL) (Q := fun x => x.id.length ≤ 140737488351232) Tryz.underlying36 (show Tryz.prog.cellsOf 41 = 4 by kernel_rfl) (by decide) (by decide +kernel) hv h fun n' cs hr => by
    have hs : flatSh Tryz.prog 3 41 = some [.str, .int .i64, .int .i64, .int .i64] := by kernel_rfl
    obtain ⟨hl, hc⟩ := Rd.flat 3 hs hr
    match cs, hl with
    | [c0, c1, c2, c3], _ =>
      obtain ⟨s0, rfl, h0⟩ := hc 0 _ c0 rfl rfl
      obtain ⟨z1, rfl, -⟩ := hc 1 _ c1 rfl rfl
      obtain ⟨z2, rfl, -⟩ := hc 2 _ c2 rfl rfl
      obtain ⟨z3, rfl, -⟩ := hc 3 _ c3 rfl rfl
      exact ⟨⟨s0, z1, z2, z3⟩, rfl, h0⟩
  exact ⟨L, h1, h2, h3⟩
end
/-! ### The tables -/
theorem laid_mem {P : Program} {W : World} {name : String} {d : DataW Unit} : ∀ {l : List (String × DataW Unit)} {ps : List MemPlace}, DataW.LaidVars P W l ps → (name, d) ∈ l → ∃ g t cs fuel p, P.globalNamed name = some g ∧ (P.globals[g]?).map (·.type) = some t ∧ W.var? P name = some cs ∧ DataW.trod (fun _ => ()) P W 0 (fun _ => true) false fuel t cs.toList = some (d, p)
  | [], ps, _, hm => nomatch hm
  | (n2, d2) :: l, ps, h, hm => by
    obtain ⟨g, t, cs, fuel, p, q, h1, h2, h3, h4, h5, -⟩ := h
    rcases List.mem_cons.1 hm with e | hm
    · cases e
      exact ⟨g, t, cs, fuel, p, h1, h2, h3, h4⟩
    · exact laid_mem h5 hm
theorem tab_of_laid {P : Program} {W : World} {name : String} {k : IntKind} {zs : List Int} {l : List (String × DataW Unit)} {g : Nat} {t e : TypeId} {n : Nat}
    (hg : P.globalNamed name = some g) (hty : (P.globals[g]?).map (·.type) = some t) (ht : P.underlying t = some (.array n e)) (he : P.underlying e = some (.int k)) (hce : P.cellsOf e = 1) (hct : P.cellsOf t = n)
    (h : laidMet P l W) (hm : (name, (Lib.tabData k zs : DataW Unit)) ∈ l) : Lib.TabIs P W name k zs := by
  obtain ⟨ps, hv, -⟩ := h
  obtain ⟨g', t', cs, fuel, p, hg', ht', hvar, hd⟩ := laid_mem hv hm
  obtain rfl := Option.some.inj (hg.symm.trans hg')
  obtain rfl := Option.some.inj (hty.symm.trans ht')
  unfold Lib.TabIs
  rw [hvar, ← Lib.cells_of_tab ht he hce hct hd]
end Go.Proofs
