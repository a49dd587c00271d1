/-
  Formulas, domains, cases, lists of texts that came in.
-/
import Derived.Test.YtibaknilaboepaaDoorMa
set_option linter.unusedVariables false
set_option linter.unusedSimpArgs false
set_option linter.unnecessarySimpa false
set_option maxRecDepth 10000
namespace Go.Proofs
open Go Go.Pd Go.Lexs Go.Fin Go.Fo

section
variable {H : Type} {enc : TypeId × Value → H} {W : World}

theorem preL_mem {x : Fm} : ∀ {ks : List Fm}, x ∈ preL ks → ∃ k ∈ ks, x ∈ pre k
  | [], h => by simp [preL] at h
  | k :: ks, h => by
    simp only [preL, List.mem_append] at h
    rcases h with h | h
    · exact ⟨k, List.mem_cons_self, h⟩
    · obtain ⟨k', h1, h2⟩ := preL_mem h
      exact ⟨k', List.mem_cons_of_mem _ h1, h2⟩

theorem pairs_of : ∀ {css : List (List Value)}, (∀ cs ∈ css, ∃ f kv, cs = fmL f kv ∧ FmIn W f kv) → ∃ ps : List (Fm × Value), css = ps.map kidL ∧ ∀ p ∈ ps, FmIn W p.1 p.2
  | [], _ => ⟨[], rfl, fun _ h => nomatch h⟩
  | cs :: css, h => by
    obtain ⟨f, kv, h1, h2⟩ := h cs List.mem_cons_self
    obtain ⟨ps, h3, h4⟩ := pairs_of fun c hc => h c (List.mem_cons_of_mem _ hc)
    refine ⟨(f, kv) :: ps, by rw [h1, h3]; rfl, fun p hp => ?_⟩
    rcases List.mem_cons.1 hp with rfl | hp
    · exact h2
    · exact h4 p hp

theorem fm_of_cells : ∀ (n : Nat) (cs : List Value), Rd enc Tryd.prog W n 24 cs → ∃ f kv, cs = fmL f kv ∧ FmIn W f kv := by
  intro n
  induction n using Nat.strongRecOn with
  | _ n ih =>
    intro cs hr
    have hs : flatSh Tryd.prog 3 24 = some [.int .i64, .str, .int .i64, .int .i64, .slc 22] := by kernel_rfl
    obtain ⟨hl, hc⟩ := Rd.flat 3 hs hr
    match cs, hl with
    | [c0, c1, c2, c3, c4], _ =>
      obtain ⟨z0, rfl, h0⟩ := hc 0 _ c0 rfl rfl
      obtain ⟨s1, rfl, h1⟩ := hc 1 _ c1 rfl rfl
      obtain ⟨z2, rfl, h2⟩ := hc 2 _ c2 rfl rfl
      obtain ⟨z3, rfl, h3⟩ := hc 3 _ c3 rfl rfl
      have h4 : Rd enc Tryd.prog W n 22 [c4] := hc 4 _ c4 rfl rfl
      rcases Rd.slice Tryd.underlying22 (show Tryd.prog.cellsOf 24 = 5 by kernel_rfl) (by decide) (by decide +kernel) h4 with rfl | ⟨a, m, c, css, n', rfl, rfl, hmc, hcc, hm, hel, hsp, hrow⟩
      · refine ⟨.node z0 s1 z2 z3 [], _, rfl, KA.nil _, by simp [Fm.kids], fun k hk => by simp [Fm.kids, preL] at hk, fun k hk => ?_⟩
        rw [pre_eq] at hk
        simp [Fm.kids, preL] at hk
        subst hk
        exact h1
      · obtain ⟨ps, rfl, hps⟩ := pairs_of (W := W) fun cs hcs => ih n' (by omega) cs (hel cs hcs).2
        have hflat : (ps.map kidL).flatten = ps.flatMap kidL := by rw [List.flatMap]
        rw [hflat] at hrow
        have hlen : ps.length = m := by simpa using hm
        refine ⟨.node z0 s1 z2 z3 (ps.map (·.1)), _, rfl, .mk ps rfl (.inr ⟨a, m, c, rfl, by rw [kidL_flat, hlen], hmc, hsp, hrow⟩) (fun hne => ?_) (fun p hp => (hps p hp).k), ?_, ?_, ?_⟩
        · cases ps with
          | nil => exact absurd rfl hne
          | cons p ps => exact fun h => h (show a.block < W.heap.size from lt_of_cell (a := ⟨a.block, a.off + 0, none⟩) (hrow 0 _ rfl))
        · simp only [Fm.kids, List.length_map]; omega
        · intro k hk
          obtain ⟨q, hq, hkq⟩ := preL_mem hk
          obtain ⟨p, hp, rfl⟩ := List.mem_map.1 hq
          rw [pre_eq] at hkq
          rcases List.mem_cons.1 hkq with rfl | hkq
          · exact (hps p hp).n
          · exact (hps p hp).ns k hkq
        · intro k hk
          rw [pre_eq] at hk
          rcases List.mem_cons.1 hk with rfl | hk
          · exact h1
          · obtain ⟨q, hq, hkq⟩ := preL_mem hk
            obtain ⟨p, hp, rfl⟩ := List.mem_map.1 hq
            exact (hps p hp).t k hkq

theorem open_fm {r : Go.Reach} {base n : Nat} {v : Value} (hv : Value.okWide Tryd.prog W r base 24 v) (h : Rd enc Tryd.prog W n 24 v.cells.toList) : ∃ x : Fm × Value, v = .agg (fmL x.1 x.2).toArray ∧ FmIn W x.1 x.2 := by
  obtain ⟨cs, rfl, -⟩ := okWide_agg hv (by kernel_rfl)
  obtain ⟨f, kv, h1, h2⟩ := fm_of_cells n _ h
  refine ⟨(f, kv), ?_, h2⟩
  have h1 : cs.toList = fmL f kv := h1
  rw [← h1]

/-- A list within a value. -/
theorem Rd.list {α : Type} {f : α → List Value} {Q : α → Prop} {n t e k : Nat} {v : Value} (hu : Tryd.prog.underlying t = some (.slice e)) (hce : Tryd.prog.cellsOf e = k) (hk : 0 < k) (hby : 0 < Tryd.prog.bytesOf e) (h : Rd enc Tryd.prog W n t [v])
    (hel : ∀ n' cs, Rd enc Tryd.prog W n' e cs → ∃ x, cs = f x ∧ Q x) : ∃ L : List α, Sl W v k (L.flatMap f) ∧ L.length ≤ 140737488351232 ∧ ∀ x ∈ L, Q x := by
  rcases Rd.slice hu hce hk hby h with rfl | ⟨a, m, c, css, n', rfl, rfl, hmc, hcc, hm, hel2, hsp, hrow⟩
  · exact ⟨[], Sl.nil _ _, by simp, fun _ h => nomatch h⟩
  · have key : ∀ css : List (List Value), (∀ cs ∈ css, cs.length = k ∧ Rd enc Tryd.prog W n' e cs) → ∃ L : List α, css = L.map f ∧ ∀ x ∈ L, Q x := by
      intro css
      induction css with
      | nil => exact fun _ => ⟨[], rfl, fun _ h => nomatch h⟩
      | cons cs css ih =>
        intro hc
        obtain ⟨x, h1, h2⟩ := hel n' cs (hc cs List.mem_cons_self).2
        obtain ⟨L, h3, h4⟩ := ih fun c h => hc c (List.mem_cons_of_mem _ h)
        refine ⟨x :: L, by rw [h1, h3]; rfl, fun y hy => ?_⟩
        rcases List.mem_cons.1 hy with rfl | hy
        · exact h2
        · exact h4 y hy
    obtain ⟨L, rfl, hL⟩ := key css hel2
    have hfl : (L.map f).flatten = L.flatMap f := by rw [List.flatMap]
    have hlen := flatten_len (k := k) fun cs hcs => (hel2 cs hcs).1
    rw [hfl] at hrow hlen
    rw [List.length_map] at hlen hm
    exact ⟨L, .inr ⟨a, m, c, rfl, by rw [hlen, hm], hmc, hsp, hrow⟩, by omega, hL⟩

def DomIn (w : World) (F : List Fact) (dv : Value) : Prop := Sl w dv 4 (factsL F) ∧ F.length ≤ 140737488351232 ∧ ∀ f ∈ F, f.name.length ≤ 140737488351232

theorem open_dom {r : Go.Reach} {base n : Nat} {v : Value} (hv : Value.okWide Tryd.prog W r base 27 v) (h : Rd enc Tryd.prog W n 27 v.cells.toList) : ∃ x : List Fact × Value, v = .agg #[x.2] ∧ DomIn W x.1 x.2 := by
  obtain ⟨cs, rfl, -⟩ := okWide_agg hv (by kernel_rfl)
  have hs : flatSh Tryd.prog 3 27 = some [.slc 25] := by kernel_rfl
  obtain ⟨hl, hc⟩ := Rd.flat 3 hs h
  obtain ⟨l⟩ := cs
  match l, hl with
  | [c0], _ =>
    have h0 : Rd enc Tryd.prog W n 25 [c0] := hc 0 _ c0 rfl rfl
    obtain ⟨L, h1, h2, h3⟩ := Rd.list (f := factL) (Q := fun f => f.name.length ≤ 140737488351232) Tryd.underlying25 (show Tryd.prog.cellsOf 52 = 4 by kernel_rfl) (by decide) (by decide +kernel) h0 fun n' cs hr => by
      have hs : flatSh Tryd.prog 3 52 = some [.str, .int .i64, .int .i64, .int .i64] := by kernel_rfl
      obtain ⟨hl, hc⟩ := Rd.flat 3 hs hr
      match cs, hl with
      | [c0, c1, c2, c3], _ =>
        obtain ⟨s0, rfl, h0⟩ := hc 0 _ c0 rfl rfl
        obtain ⟨z1, rfl, -⟩ := hc 1 _ c1 rfl rfl
        obtain ⟨z2, rfl, -⟩ := hc 2 _ c2 rfl rfl
        obtain ⟨z3, rfl, -⟩ := hc 3 _ c3 rfl rfl
        exact ⟨⟨s0, z1, z2, z3⟩, rfl, h0⟩
    exact ⟨(L, c0), rfl, h1, h2, h3⟩

def CaseIn (w : World) (c : List Int) (cv : Value) : Prop := Sl w cv 1 (intsL c) ∧ c.length ≤ 140737488351232
theorem open_case {r : Go.Reach} {base n : Nat} {v : Value} (hv : Value.okWide Tryd.prog W r base 29 v) (h : Rd enc Tryd.prog W n 29 v.cells.toList) : ∃ c : List Int, CaseIn W c v := by
  obtain ⟨L, h1, h2, -⟩ := Rd.sl (f := intL) (Q := fun _ => True) Tryd.underlying29 (show Tryd.prog.cellsOf 3 = 1 by kernel_rfl) (by decide) (by decide +kernel) hv h fun n' cs hr => by
    have hs : flatSh Tryd.prog 3 3 = some [.int .i64] := by kernel_rfl
    obtain ⟨hl, hc⟩ := Rd.flat 3 hs hr
    match cs, hl with
    | [c0], _ =>
      obtain ⟨z0, rfl, -⟩ := hc 0 _ c0 rfl rfl
      exact ⟨z0, rfl, trivial⟩
  exact ⟨L, h1, h2⟩

def StrsIn (w : World) (T : List (List UInt8)) (tv : Value) : Prop := Sl w tv 1 (strsL T) ∧ T.length ≤ 140737488351232 ∧ ∀ s ∈ T, s.length ≤ 140737488351232
theorem open_strs {r : Go.Reach} {base n : Nat} {v : Value} (hv : Value.okWide Tryd.prog W r base 30 v) (h : Rd enc Tryd.prog W n 30 v.cells.toList) : ∃ T : List (List UInt8), StrsIn W T v :=
  Rd.sl (f := strL) (Q := fun s => s.length ≤ 140737488351232) Tryd.underlying30 (show Tryd.prog.cellsOf 9 = 1 by kernel_rfl) (by decide) (by decide +kernel) hv h fun n' cs hr => by
    have hs : flatSh Tryd.prog 3 9 = some [.str] := by kernel_rfl
    obtain ⟨hl, hc⟩ := Rd.flat 3 hs hr
    match cs, hl with
    | [c0], _ =>
      obtain ⟨s0, rfl, h0⟩ := hc 0 _ c0 rfl rfl
      exact ⟨s0, rfl, h0⟩
end
end Go.Proofs
