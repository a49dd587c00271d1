/-
  Conditions of commencement in memory.
-/
import Derived.Test.YtebaoilkpedppaaDoorLD
import Derived.Test.YtebaoilkpedppaaDoorStSpec
set_option linter.unusedVariables false
set_option linter.unusedSimpArgs false
set_option linter.unnecessarySimpa false
set_option maxRecDepth 10000
namespace Go.Proofs
open Go Go.Pd Go.Sta
attribute [local irreducible] OpsL W RetQ OpsQ OpsC

/-- The cells of a condition whose kids lie at kv. -/
def snL (f : Sn) (kv : Value) : List Value := [.int .i64 f.op, str f.name, .int .i64 f.day, kv]
def kidS (p : Sn × Value) : List Value := snL p.1 p.2
theorem kidS_len (p : Sn × Value) : (kidS p).length = 4 := rfl

/-- A list of conditions at kv, within the blocks G. -/
inductive KR (w : World) (G : Nat → Prop) : List Sn → Value → Prop
  | mk {ks : List Sn} {kv : Value} (ps : List (Sn × Value)) (he : ps.map (·.1) = ks) (hs : Sl w kv 4 (ps.flatMap kidS)) (hg : ps ≠ [] → Off (fun b => ¬ G b) kv) (h : ∀ p ∈ ps, KR w G p.1.kids p.2) : KR w G ks kv

theorem off_sub {G M : Nat → Prop} {v : Value} (h : Off (fun b => ¬ G b) v) (hd : ∀ b, G b → ¬ M b) : Off M v := by
  cases v with
  | slice a m c =>
    cases a with
    | none => trivial
    | some a => exact hd _ (Classical.not_not.1 h)
  | _ => trivial

theorem sl_updE {M : Nat → Prop} {w w' : World} {v : Value} {k : Nat} {vs : List Value} (h : Sl w v k vs) (e : Upd M w w') (hn : vs ≠ [] → Off M v) : Sl w' v k vs := by
  by_cases hv : vs = []
  · subst hv
    rcases h with h | ⟨a, m, c, h1, h2, h3, h4, h5⟩
    · exact .inl h
    · exact .inr ⟨a, m, c, h1, h2, h3, h4, fun i v hi => by simp at hi⟩
  · exact h.upd e (hn hv)

theorem KR.upd {w w' : World} {G M : Nat → Prop} {ks : List Sn} {kv : Value} (h : KR w G ks kv) (e : Upd M w w') (hd : ∀ b, G b → ¬ M b) : KR w' G ks kv := by
  induction h with
  | mk ps he hs hg _ ih => exact .mk ps he (sl_updE hs e fun hne => off_sub (hg fun h => hne (by rw [h]; rfl)) hd) hg ih
theorem KR.ext {w w' : World} {G : Nat → Prop} {ks : List Sn} {kv : Value} (h : KR w G ks kv) (e : Ext w w') : KR w' G ks kv := h.upd e fun _ _ h => h
theorem KR.heap {w w' : World} {G : Nat → Prop} {ks : List Sn} {kv : Value} (h : KR w G ks kv) (e : To w w' w.heap) : KR w' G ks kv := h.ext (Upd.of_heap e)
theorem KR.mono {w : World} {G G' : Nat → Prop} {ks : List Sn} {kv : Value} (h : KR w G ks kv) (hm : ∀ b, G b → G' b) : KR w G' ks kv := by
  induction h with
  | mk ps he hs hg _ ih => exact .mk ps he hs (fun hp => off_sub (hg hp) fun b hb hn => hn (hm b hb)) ih

theorem KR.nil (w : World) (G : Nat → Prop) : KR w G [] (.slice none 0 0) := .mk [] rfl (.nil _ _) (fun h => absurd rfl h) fun _ h => nomatch h

theorem KR.shape {w : World} {G : Nat → Prop} {ks : List Sn} {kv : Value} (h : KR w G ks kv) : ∃ a c, kv = .slice a ks.length c ∧ ks.length ≤ c := by
  cases h with
  | mk ps he hs hg _ =>
    subst he
    rw [List.length_map]
    exact hs.shape (flat_length kidS_len ps) (by omega)

/-- One kid. -/
theorem KR.at {w : World} {G : Nat → Prop} {ks : List Sn} {a : Option Addr} {m c : Nat} (h : KR w G ks (.slice a m c)) {i : Nat} (hi : i < ks.length) :
    ∃ b o kv, a = some ⟨b, o, none⟩ ∧ Row w b (o + i * 4) (snL ks[i] kv) ∧ KR w G ks[i].kids kv := by
  cases h with
  | mk ps he hs hg hk =>
    subst he
    rw [List.length_map] at hi
    obtain ⟨a', c', h1, h2⟩ := hs.shape (flat_length kidS_len ps) (by omega)
    cases h1
    obtain ⟨b, o, hp, hr⟩ := hs.at (flat_length kidS_len ps) (by omega) (by omega)
    refine ⟨b, o, ps[i].2, hp, ?_, ?_⟩
    · have := hr.elem kidS_len (k := i) (t := ps[i]) (by simp [hi])
      simp only [List.getElem_map]
      exact this
    · simp only [List.getElem_map]
      exact hk _ (List.getElem_mem hi)
theorem snL_one {w : World} {G : Nat → Prop} {f : Sn} {kv : Value} (h : KR w G f.kids kv) : (snL f kv).all Value.oneCell' = true := by
  obtain ⟨a, c, rfl, -⟩ := h.shape
  simp only [snL, List.all_cons, List.all_nil, oneCell_str]
  rfl
theorem kids_one {w : World} {G : Nat → Prop} : ∀ (ps : List (Sn × Value)), (∀ p ∈ ps, KR w G p.1.kids p.2) → (ps.flatMap kidS).all Value.oneCell' = true
  | [], _ => rfl
  | p :: ps, h => by
    rw [List.flatMap_cons, List.all_append, kids_one ps fun q hq => h q (List.mem_cons_of_mem _ hq)]
    rw [show (kidS p).all Value.oneCell' = true from snL_one (h p List.mem_cons_self)]
    rfl

theorem KR.pairs {w : World} {G : Nat → Prop} {ks : List Sn} {kv : Value} (h : KR w G ks kv) : ∃ ps : List (Sn × Value), ps.map (·.1) = ks ∧ Sl w kv 4 (ps.flatMap kidS) ∧ ∀ p ∈ ps, KR w G p.1.kids p.2 := by
  cases h with
  | mk ps he hs hg hk => exact ⟨ps, he, hs, hk⟩
theorem kidS_flat (ps : List (Sn × Value)) : (ps.flatMap kidS).length = ps.length * 4 := flat_length kidS_len ps
theorem KR.empty {w w' : World} {G G' : Nat → Prop} {kv : Value} (h : KR w G [] kv) (hm : ∀ b, G b → G' b) : KR w' G' [] kv := by
  cases h with
  | mk ps he hs hg hk =>
    obtain rfl : ps = [] := List.map_eq_nil_iff.1 he
    refine .mk [] rfl ?_ (fun h => absurd rfl h) (fun _ h => nomatch h)
    rcases hs with h | ⟨a, m, c, h1, h2, h3, h4, h5⟩
    · exact .inl h
    · exact .inr ⟨a, m, c, h1, h2, h3, h4, fun i v hi => by simp at hi⟩

/-- A list of conditions somewhere in memory. -/
def KA (w : World) (ks : List Sn) (kv : Value) : Prop := KR w (fun b => b < w.heap.size) ks kv
theorem KA.ext {w w' : World} {ks : List Sn} {kv : Value} (h : KA w ks kv) (e : Ext w w') : KA w' ks kv := (KR.ext h e).mono fun b hb => Nat.lt_of_lt_of_le hb e.size
theorem KA.nil (w : World) : KA w [] (.slice none 0 0) := KR.nil _ _
theorem KA.row {w : World} {b c : Nat} {ks : List Sn} (ps : List (Sn × Value)) (he : ps.map (·.1) = ks) (hr : Row w b 0 (ps.flatMap kidS)) (hc : ps.length ≤ c) (hb : b < w.heap.size) (hk : ∀ p ∈ ps, KA w p.1.kids p.2) : KA w ks (.slice (some ⟨b, 0, none⟩) ps.length c) :=
  .mk ps he (.mk (kidS_flat ps) hc hr) (fun _ h => h hb) hk
theorem lt_of_row {w : World} {b o : Nat} {v : Value} {vs : List Value} (h : Row w b o (v :: vs)) : b < w.heap.size := lt_of_cell (h 0 v rfl)
theorem KA.one {w : World} {b c : Nat} {f : Sn} {kv : Value} (hr : Row w b 0 (snL f kv)) (hc : 1 ≤ c) (hk : KA w f.kids kv) : KA w [f] (.slice (some ⟨b, 0, none⟩) 1 c) :=
  KA.row [(f, kv)] rfl (by simpa [kidS] using hr) hc (lt_of_row hr) fun p hp => by rw [List.mem_singleton.1 hp]; exact hk
theorem KA.two {w : World} {b c : Nat} {f g : Sn} {kv lv : Value} (hr : Row w b 0 (snL f kv ++ snL g lv)) (hc : 2 ≤ c) (hk : KA w f.kids kv) (hl : KA w g.kids lv) : KA w [f, g] (.slice (some ⟨b, 0, none⟩) 2 c) :=
  KA.row [(f, kv), (g, lv)] rfl (by simpa [kidS] using hr) hc (lt_of_row hr) fun p hp => by
    rcases List.mem_cons.1 hp with rfl | hp
    · exact hk
    · rw [List.mem_singleton.1 hp]; exact hl
theorem KA.three {w : World} {b c : Nat} {f g h : Sn} {kv lv mv : Value} (hr : Row w b 0 (snL f kv ++ (snL g lv ++ snL h mv))) (hc : 3 ≤ c) (hk : KA w f.kids kv) (hl : KA w g.kids lv) (hm : KA w h.kids mv) : KA w [f, g, h] (.slice (some ⟨b, 0, none⟩) 3 c) :=
  KA.row [(f, kv), (g, lv), (h, mv)] rfl (by simpa [kidS] using hr) hc (lt_of_row hr) fun p hp => by
    rcases List.mem_cons.1 hp with rfl | hp
    · exact hk
    rcases List.mem_cons.1 hp with rfl | hp
    · exact hl
    · rw [List.mem_singleton.1 hp]; exact hm

end Go.Proofs
