/-
  Domains and cases that came in; the table that is laid.
-/
import Derived.Test.YtcanaadgcgophaaDoorQFaW
import Derived.Test.YtcanaadgcgophaaDoorQLE
set_option linter.unusedVariables false
set_option linter.unusedSimpArgs false
set_option linter.unnecessarySimpa false
set_option maxRecDepth 10000
namespace Go.Proofs
open Go Go.Pd Go.Fac Go.Fo
theorem sl_is {w : World} {v : Value} {k : Nat} {vs : List Value} (h : Sl w v k vs) : ∃ a m c, v = .slice a m c := by
  rcases h with ⟨rfl, -⟩ | ⟨a, m, c, rfl, -⟩
  · exact ⟨_, _, _, rfl⟩
  · exact ⟨_, _, _, rfl⟩
section
variable {H : Type} {enc : TypeId × Value → H} {W : World}
theorem rd_list {α : Type} {f : α → List Value} {Q : α → Prop} {n t e k : Nat} {v : Value} (hu : Tryd.prog.underlying t = some (.slice e)) (hce : Tryd.prog.cellsOf e = k) (hk : 0 < k) (hby : 0 < Tryd.prog.bytesOf e) (h : Rd enc Tryd.prog W n t [v])
    (hel : ∀ n' cs, Rd enc Tryd.prog W n' e cs → ∃ x, cs = f x ∧ Q x) : ∃ L : List α, Sl W v k (L.flatMap f) ∧ L.length ≤ 140737488351232 ∧ ∀ x ∈ L, Q x := by
  rcases Rd.slice hu hce hk hby h with rfl | ⟨a, m, c, css, n', rfl, rfl, hmc, hcc, hm, hel2, hsp, hrow⟩
  · exact ⟨[], Sl.nil _ _, by simp, fun _ h => nomatch h⟩
  · have key : ∀ css : List (List Value), (∀ cs ∈ css, cs.length = k ∧ Rd enc Tryd.prog W n' e cs) → ∃ L : List α, css = L.map f ∧ ∀ x ∈ L, Q x := by
      intro css
      induction css with
      | nil => exact fun _ => ⟨[], rfl, fun _ h => nomatch h⟩
      | cons cs css ih =>
        intro hc
        obtain ⟨x, h1, h2⟩ := hel n' cs (hc cs List.mem_cons_self).2
        obtain ⟨L, h3, h4⟩ := ih fun c h => hc c (List.mem_cons_of_mem _ h)
        refine ⟨x :: L, by rw [h1, h3]; rfl, fun y hy => ?_⟩
        rcases List.mem_cons.1 hy with rfl | hy
        · exact h2
        · exact h4 y hy
    obtain ⟨L, rfl, hL⟩ := key css hel2
    have hfl : (L.map f).flatten = L.flatMap f := by rw [List.flatMap]
    have hlen := flatten_len (k := k) fun cs hcs => (hel2 cs hcs).1
    rw [hfl] at hrow hlen
    rw [List.length_map] at hlen hm
    exact ⟨L, .inr ⟨a, m, c, rfl, by rw [hlen, hm], hmc, hsp, hrow⟩, by omega, hL⟩
def DomIn (w : World) (F : List Fact) (dv : Value) : Prop := Sl w dv 4 (factsL F) ∧ F.length ≤ 140737488351232 ∧ ∀ f ∈ F, f.name.length ≤ 140737488351232
theorem DomIn.ext {w w' : World} {F : List Fact} {dv : Value} (h : DomIn w F dv) (e : Ext w w') : DomIn w' F dv := ⟨h.1.ext e, h.2⟩
theorem DomIn.shape {w : World} {F : List Fact} {dv : Value} (h : DomIn w F dv) : ∃ a c, dv = .slice a F.length c := by
  obtain ⟨a, c, h1, -⟩ := h.1.shape (factsL_len F) (by omega)
  exact ⟨a, c, h1⟩
theorem DomIn.n {w : World} {F : List Fact} {dv : Value} (h : DomIn w F dv) : F.length ≤ 9223372036854775806 := Nat.le_trans h.2.1 (by decide +kernel)
theorem DomIn.m {w : World} {F : List Fact} {dv : Value} (h : DomIn w F dv) : ∀ f ∈ F, f.name.length ≤ 9223372036854775806 := fun f hf => Nat.le_trans (h.2.2 f hf) (by decide +kernel)
theorem open_dom {r : Go.Reach} {base n : Nat} {v : Value} (hv : Value.okWide Tryd.prog W r base 24 v) (h : Rd enc Tryd.prog W n 24 v.cells.toList) : ∃ x : List Fact × Value, v = .agg #[x.2] ∧ DomIn W x.1 x.2 := by
  obtain ⟨cs, rfl, -⟩ := okWide_agg hv (by kernel_rfl)
  have hs : flatSh Tryd.prog 3 24 = some [.slc 22] := by kernel_rfl
  obtain ⟨hl, hc⟩ := Rd.flat 3 hs h
  obtain ⟨l⟩ := cs
  match l, hl with
  | [c0], _ =>
    have h0 : Rd enc Tryd.prog W n 22 [c0] := hc 0 _ c0 rfl rfl
    obtain ⟨L, h1, h2, h3⟩ := rd_list (f := factL) (Q := fun f => f.name.length ≤ 140737488351232) Tryd.underlying22 (show Tryd.prog.cellsOf 47 = 4 by kernel_rfl) (by decide) (by decide +kernel) h0 fun n' cs hr => by
      have hs : flatSh Tryd.prog 3 47 = some [.str, .int .i64, .int .i64, .int .i64] := by kernel_rfl
      obtain ⟨hl, hc⟩ := Rd.flat 3 hs hr
      match cs, hl with
      | [c0, c1, c2, c3], _ =>
        obtain ⟨s0, rfl, h0⟩ := hc 0 _ c0 rfl rfl
        obtain ⟨z1, rfl, -⟩ := hc 1 _ c1 rfl rfl
        obtain ⟨z2, rfl, -⟩ := hc 2 _ c2 rfl rfl
        obtain ⟨z3, rfl, -⟩ := hc 3 _ c3 rfl rfl
        exact ⟨⟨s0, z1, z2, z3⟩, rfl, h0⟩
    exact ⟨(L, c0), rfl, h1, h2, h3⟩
def CaseIn (w : World) (c : List Int) (cv : Value) : Prop := Sl w cv 1 (intsL c) ∧ c.length ≤ 140737488351232
theorem CaseIn.ext {w w' : World} {c : List Int} {cv : Value} (h : CaseIn w c cv) (e : Ext w w') : CaseIn w' c cv := ⟨h.1.ext e, h.2⟩
theorem CaseIn.shape {w : World} {c : List Int} {cv : Value} (h : CaseIn w c cv) : ∃ a n, cv = .slice a c.length n := by
  obtain ⟨a, n, h1, -⟩ := h.1.shape (intsL_len c) (by omega)
  exact ⟨a, n, h1⟩
theorem CaseIn.n {w : World} {c : List Int} {cv : Value} (h : CaseIn w c cv) : c.length ≤ 9223372036854775806 := Nat.le_trans h.2 (by decide +kernel)
theorem open_case {r : Go.Reach} {base n : Nat} {v : Value} (hv : Value.okWide Tryd.prog W r base 26 v) (h : Rd enc Tryd.prog W n 26 v.cells.toList) : ∃ c : List Int, CaseIn W c v := by
  obtain ⟨L, h1, h2, -⟩ := Rd.sl (f := intL) (Q := fun _ => True) Tryd.underlying26 (show Tryd.prog.cellsOf 3 = 1 by kernel_rfl) (by decide) (by decide +kernel) hv h fun n' cs hr => by
    have hs : flatSh Tryd.prog 3 3 = some [.int .i64] := by kernel_rfl
    obtain ⟨hl, hc⟩ := Rd.flat 3 hs hr
    match cs, hl with
    | [c0], _ =>
      obtain ⟨z0, rfl, -⟩ := hc 0 _ c0 rfl rfl
      exact ⟨z0, rfl, trivial⟩
  exact ⟨L, h1, h2⟩
end
/-! ### The table -/
theorem laid_mem {P : Program} {W : World} {name : String} {d : DataW Unit} : ∀ {l : List (String × DataW Unit)} {ps : List MemPlace}, DataW.LaidVars P W l ps → (name, d) ∈ l → ∃ g t cs fuel p, P.globalNamed name = some g ∧ (P.globals[g]?).map (·.type) = some t ∧ W.var? P name = some cs ∧ DataW.trod (fun _ => ()) P W 0 (fun _ => true) false fuel t cs.toList = some (d, p)
  | [], ps, _, hm => nomatch hm
  | (n2, d2) :: l, ps, h, hm => by
    obtain ⟨g, t, cs, fuel, p, q, h1, h2, h3, h4, h5, -⟩ := h
    rcases List.mem_cons.1 hm with e | hm
    · cases e
      exact ⟨g, t, cs, fuel, p, h1, h2, h3, h4⟩
    · exact laid_mem h5 hm
theorem tab_of_laid {P : Program} {W : World} {name : String} {k : IntKind} {zs : List Int} {l : List (String × DataW Unit)} {g : Nat} {t e : TypeId} {n : Nat}
    (hg : P.globalNamed name = some g) (hty : (P.globals[g]?).map (·.type) = some t) (ht : P.underlying t = some (.array n e)) (he : P.underlying e = some (.int k)) (hce : P.cellsOf e = 1) (hct : P.cellsOf t = n)
    (h : laidMet P l W) (hm : (name, (Lib.tabData k zs : DataW Unit)) ∈ l) : Lib.TabIs P W name k zs := by
  obtain ⟨ps, hv, -⟩ := h
  obtain ⟨g', t', cs, fuel, p, hg', ht', hvar, hd⟩ := laid_mem hv hm
  obtain rfl := Option.some.inj (hg.symm.trans hg')
  obtain rfl := Option.some.inj (hty.symm.trans ht')
  unfold Lib.TabIs
  rw [hvar, ← Lib.cells_of_tab ht he hce hct hd]
end Go.Proofs
