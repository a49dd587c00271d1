/-
  From a walk to a law's row.
-/
import Derived.Test.YtpmjolbnmoejdaaGreatDoorQLC
import Derived.WalkKit
import Derived.ProofKit
import Derived.OpenShut
import Derived.Deep.DeepHandedRow
import Derived.LaidMore
import Derived.ChangeMaps5
import Derived.ReadAgain
import Derived.Deep.Slices
import Derived.ChangeArms
set_option linter.unusedSimpArgs false
set_option linter.unnecessarySimpa false
set_option maxRecDepth 10000
set_option linter.unusedVariables false
namespace Go.Pd
open Go.ChangeShapes Go.WideShapes Go.ChangeAt Go.RowKit

theorem Upd.kept {w w' : World} (h : Ext w w') (may : MemPlace → Prop) : w.keptBut w' may := by
  refine ⟨h.os, h.out, fun i hi => ?_⟩
  rw [h.same i hi (fun h => h)]
  cases ho : w.heap[i]? with
  | none => trivial
  | some o =>
    cases o with
    | cells c t fr => exact ⟨rfl, rfl, rfl, fun _ _ => rfl⟩
    | map es clock => exact .inr ⟨rfl, rfl⟩
    | _ => rfl

theorem Upd.frozen {w w' : World} (h : Ext w w') {a : Addr} (ha : a.block < w.heap.size) : w'.frozen? a = w.frozen? a := by
  unfold World.frozen?
  rw [h.same a.block ha (fun h => h)]

theorem post_law {H : Type} {enc : TypeId × Value → H} {P : Program} {f : Func} {s : ChangeSpec} {apart fresh handsOn again : Bool} {W W' : World} {args : Array Value} {v : Value} {ds gs : List (DataW H)} {before pa pv : List MemPlace}
    (hW : DataW.Whole enc P f.params.toList s.vars apart W args.toList ds gs before)
    (hres : ∀ (b : Nat) (sp : Nat → Bool) (hd : Bool), DataW.TrodAll enc P W' b sp hd f.resultTypes.toList (v.resultList f.resultTypes.size) (s.fn H (ds ++ gs)).results [])
    (hargs : ∀ sp : Nat → Bool, (∀ p ∈ before, sp p.block = true) → DataW.TrodAll enc P W' 0 sp true f.params.toList args.toList (s.fn H (ds ++ gs)).args pa)
    (hvars : ∀ sp : Nat → Bool, (∀ p ∈ before, sp p.block = true) → DataW.TrodVars enc P W' sp s.vars (s.fn H (ds ++ gs)).vars pv)
    (hps : before = pa ++ pv) (hE : Ext W W')
    (hok : ∀ (j : Nat) (t : TypeId) (r : Value), f.resultTypes[j]? = some t → (v.resultList f.resultTypes.size)[j]? = some r → Value.okWide P W' .any 0 t r) :
    s.post enc P f apart fresh handsOn again W args v W' := by
  have hlt : ∀ p ∈ before, p.block < W.heap.size := fun p hp => hW.lt p hp
  have hold : ∀ p ∈ before, (fun b => decide (b < W.heap.size)) p.block = true := fun p hp => by simpa using hlt p hp
  refine ⟨ds, gs, before, [], pa, pv, hW, hres _ _ _, hargs _ hold, hvars _ hold, World.keptBut_mono (fun p hp => ⟨hp, ?_⟩) (hE.kept (· ∈ before)), fun _ => ?_⟩
  · rw [hps, List.mem_append] at hp
    exact Or.inr hp
  · obtain ⟨_, _, _, _, _, hz, hn⟩ := hW
    refine ⟨hok, _, _, ([] ++ pa) ++ pv, ⟨[] ++ pa, pv, trodAll_append (hargs _ (fun _ _ => rfl)) (hres _ _ _), hvars _ (fun _ _ => rfl), rfl, ?_, ?_⟩, ?_⟩
    · intro b off hp
      have hb : MemPlace.cell b off ∈ before := by rw [hps]; simpa using hp
      rw [hE.frozen (hlt _ hb)]
      exact hz b off hb
    · intro ha
      have := hn ha
      rw [hps] at this
      simpa using this
    · intro p hp _
      rw [hps]
      simpa using hp
end Go.Pd

/-
  What a law's arguments are read as, opened: strings, numbers, truth values, structs and slices of them; and the end of a walk that keeps the old memory.
-/
set_option linter.unusedSimpArgs false
set_option linter.unnecessarySimpa false
set_option maxRecDepth 10000
set_option linter.unusedVariables false
namespace Go.Pd
open Go.ChangeShapes Go.WideShapes Go.ChangeAt Go.RowKit
variable {H : Type} {enc : TypeId × Value → H} {P : Program} {W : World}

def Rd (enc : TypeId × Value → H) (P : Program) (W : World) (n : Nat) (t : TypeId) (cs : List Value) : Prop :=
  ∃ d ps, DataW.trod enc P W 0 (fun _ => true) true n t cs = some (d, ps) ∧ (d.weights P t).all (· ≤ reachBytes) = true

theorem Rd.le {n m : Nat} {t : TypeId} {cs : List Value} (h : Rd enc P W n t cs) (hm : n ≤ m) : Rd enc P W m t cs :=
  let ⟨d, ps, h1, h2⟩ := h; ⟨d, ps, DataW.trod_le hm h1, h2⟩

theorem weightsAll_mem {e : TypeId} : ∀ {l : List (DataW H)} {d : DataW H}, d ∈ l → (DataW.weightsAll P e l).all (· ≤ reachBytes) = true → (d.weights P e).all (· ≤ reachBytes) = true
  | [], _, h, _ => nomatch h
  | a :: l, d, h, ha => by
    simp only [DataW.weightsAll, List.all_append, Bool.and_eq_true] at ha
    rcases List.mem_cons.1 h with rfl | h
    · exact ha.1
    · exact weightsAll_mem h ha.2

theorem weightsEach_get : ∀ {ts : List TypeId} {l : List (DataW H)} {i : Nat} {t : TypeId} {d : DataW H}, ts[i]? = some t → l[i]? = some d → (DataW.weightsEach P ts l).all (· ≤ reachBytes) = true → (d.weights P t).all (· ≤ reachBytes) = true
  | [], _, _, _, _, h, _, _ => by simp at h
  | _ :: _, [], _, _, _, _, h, _ => by simp at h
  | t :: ts, a :: l, 0, _, _, h1, h2, ha => by
    simp only [DataW.weightsEach, List.all_append, Bool.and_eq_true] at ha
    simp at h1 h2
    subst h1 h2
    exact ha.1
  | t :: ts, a :: l, i + 1, _, _, h1, h2, ha => by
    simp only [DataW.weightsEach, List.all_append, Bool.and_eq_true] at ha
    exact weightsEach_get (i := i) (by simpa using h1) (by simpa using h2) ha.2

theorem flatten_get {k : Nat} : ∀ {css : List (List Value)} {i j : Nat} {cs : List Value}, (∀ cs ∈ css, cs.length = k) → css[i]? = some cs → j < k → css.flatten[i * k + j]? = cs[j]?
  | [], _, _, _, _, h, _ => by simp at h
  | a :: css, 0, j, cs, hl, h, hj => by
    simp at h
    subst h
    rw [List.flatten_cons, Nat.zero_mul, Nat.zero_add, List.getElem?_append_left (by rw [hl a List.mem_cons_self]; exact hj)]
  | a :: css, i + 1, j, cs, hl, h, hj => by
    have h1 := flatten_get (css := css) (i := i) (j := j) (cs := cs) (fun c hc => hl c (List.mem_cons_of_mem _ hc)) (by simpa using h) hj
    have h2 := hl a List.mem_cons_self
    rw [List.flatten_cons, List.getElem?_append_right (by rw [h2, Nat.add_mul]; omega), h2, show (i + 1) * k + j - k = i * k + j by rw [Nat.add_mul]; omega]
    exact h1

theorem flatten_len {k : Nat} : ∀ {css : List (List Value)}, (∀ cs ∈ css, cs.length = k) → css.flatten.length = css.length * k
  | [], _ => by simp
  | a :: css, h => by
    rw [List.flatten_cons, List.length_append, h a List.mem_cons_self, flatten_len fun c hc => h c (List.mem_cons_of_mem _ hc), List.length_cons, Nat.add_mul]
    omega

theorem spot_of_cell {w : World} {a : Addr} {i : Nat} {v : Value} (h : w.cell? (a.add i) = some v) : a.add i = ⟨a.block, a.off + i, none⟩ := by
  have hspot : (a.add i).spot = none := by
    cases hsp : (a.add i).spot with
    | none => rfl
    | some s =>
      simp only [World.cell?] at h
      split at h
      · simp [hsp] at h
      · cases h
  unfold Addr.add at hspot ⊢
  split
  · rename_i h0
    subst h0
    rw [if_pos rfl] at hspot
    cases a
    simp_all
  · rfl

theorem Rd.slice {t e n k : Nat} {v : Value} (ht : P.underlying t = some (.slice e)) (hce : P.cellsOf e = k) (hk : 0 < k) (hby : 0 < P.bytesOf e) (h : Rd enc P W n t [v]) :
    v = .slice none 0 0 ∨ ∃ (a : Addr) (m c : Nat) (css : List (List Value)) (n' : Nat), n = n' + 1 ∧ v = .slice (some a) m c ∧ m ≤ c ∧ c ≤ 140737488351232 ∧ css.length = m ∧ (∀ cs ∈ css, cs.length = k ∧ Rd enc P W n' e cs) ∧
      (0 < c → a.spot = none) ∧ Row W a.block a.off css.flatten := by
  obtain ⟨d, ps, h, hw⟩ := h
  rcases DataW.trod_slice ht h with ⟨h1, -⟩ | ⟨a, len, cap, elems, rest, n', rfl, h1, h2, hb, hl, hm, hlen, hel, hsp, -⟩
  · exact .inl (by simpa using h1)
  right
  obtain ⟨hrl, hre⟩ := hsp rfl
  subst hce
  have hwd : d = .slice (elems.map (·.1)) (rest.map (·.1)) := congrArg Prod.fst h2
  subst hwd
  simp only [DataW.weights, ht, List.all_cons, List.all_append, Bool.and_eq_true, decide_eq_true_eq, List.length_map] at hw
  obtain ⟨hw1, hw2, hw3⟩ := hw
  have hcap : elems.length + rest.length = cap := by omega
  rw [hcap] at hw1
  have hcap2 : cap ≤ 140737488351232 := by
    unfold reachBytes at hw1
    have := Nat.le_mul_of_pos_right cap hby
    omega
  have each : ∀ i, i < len → ∃ cs : List Value, (cs.length = P.cellsOf e ∧ Rd enc P W n' e cs) ∧ ∀ j v, cs[j]? = some v → (⟨a.block, a.off + (i * P.cellsOf e + j), none⟩ : Addr) = (a.add (i * P.cellsOf e)).add j ∧ W.cell? ((a.add (i * P.cellsOf e)).add j) = some v := by
    intro i hi
    have h3 := hel i hi
    rw [List.getElem?_eq_getElem (by omega)] at h3
    obtain ⟨cs, h4, h5⟩ := Option.bind_eq_some_iff.1 h3
    obtain ⟨-, h6, h7⟩ := World.cells?_some h4
    refine ⟨cs, ⟨h6, _, _, h5, weightsAll_mem (List.mem_map_of_mem (List.getElem_mem (by omega))) hw2⟩, fun j v hj => ?_⟩
    have hjl : j < P.cellsOf e := by rw [← h6]; exact (List.getElem?_eq_some_iff.1 hj).1
    have h8 := h7 j hjl
    rw [hj] at h8
    refine ⟨?_, h8⟩
    rw [Deep.add_add] at h8 ⊢
    rw [spot_of_cell h8]
  obtain ⟨f, hf⟩ := Deep.choose_lt (α := List Value) each
  refine ⟨a, len, cap, (List.range len).map f, n', rfl, by simpa using h1, hl, hcap2, by simp, fun cs hcs => ?_, fun hc0 => ?_, fun p v hp => ?_⟩
  · obtain ⟨i, hi, rfl⟩ := List.mem_map.1 hcs
    exact (hf i (List.mem_range.1 hi)).1
  · have hcell : ∃ u, W.cell? (a.add 0) = some u := by
      by_cases h0 : 0 < len
      · obtain ⟨⟨hl0, -⟩, hc⟩ := hf 0 h0
        have : 0 < (f 0).length := by omega
        obtain ⟨-, hq⟩ := hc 0 ((f 0)[0]) (by simp [this])
        rw [Deep.add_add, Nat.zero_mul] at hq
        exact ⟨_, hq⟩
      · have h3 := hre 0 (by omega)
        rw [List.getElem?_eq_getElem (by omega)] at h3
        obtain ⟨cs, h4, h5⟩ := Option.bind_eq_some_iff.1 h3
        obtain ⟨-, h6, h7⟩ := World.cells?_some h4
        have h8 := h7 0 hk
        rw [show len = 0 by omega, Deep.add_add] at h8
        simp only [Nat.zero_add, Nat.zero_mul] at h8
        rw [List.getElem?_eq_getElem (by omega)] at h8
        exact ⟨_, h8⟩
    obtain ⟨u, hu⟩ := hcell
    have := spot_of_cell hu
    unfold Addr.add at this
    rw [if_pos rfl] at this
    rw [this]
  · have hlenf : ∀ cs ∈ (List.range len).map f, cs.length = P.cellsOf e := fun cs hcs => by
      obtain ⟨i, hi, rfl⟩ := List.mem_map.1 hcs
      exact (hf i (List.mem_range.1 hi)).1.1
    have hplt : p < len * P.cellsOf e := by
      have h3 := (List.getElem?_eq_some_iff.1 hp).1
      rw [flatten_len hlenf] at h3
      simpa using h3
    have hi : p / P.cellsOf e < len := Nat.div_lt_of_lt_mul (by rw [Nat.mul_comm]; exact hplt)
    have hj : p % P.cellsOf e < P.cellsOf e := Nat.mod_lt _ hk
    have hp2 : p = p / P.cellsOf e * P.cellsOf e + p % P.cellsOf e := by rw [Nat.mul_comm]; exact (Nat.div_add_mod p _).symm
    have h3 := flatten_get (css := (List.range len).map f) (i := p / P.cellsOf e) (j := p % P.cellsOf e) (cs := f (p / P.cellsOf e)) hlenf (by simp [hi]) hj
    rw [← hp2, hp] at h3
    obtain ⟨h4, h5⟩ := (hf _ hi).2 _ v h3.symm
    rw [← hp2] at h4
    rw [h4]
    exact h5

inductive Sh1
  | str | int (k : IntKind) | bool | slc (t : TypeId)

def flatFs (sh : TypeId → Option (List Sh1)) (co : TypeId → Nat) : Nat → List Field → Option (List Sh1)
  | _, [] => some []
  | o, f :: fs => if f.offset = o then (sh f.type).bind fun s => if s.length = co f.type then (flatFs sh co (o + s.length) fs).map (s ++ ·) else none else none

def flatSh (P : Program) : Nat → TypeId → Option (List Sh1)
  | 0, _ => none
  | n + 1, t => match P.underlying t with
    | some .string => some [.str]
    | some (.int k) => some [.int k]
    | some .bool => some [.bool]
    | some (.slice _) => some [.slc t]
    | some (.struct fs) => (flatFs (flatSh P n) P.cellsOf 0 fs.toList).bind fun l => if l.length = P.cellsOf t then some l else none
    | _ => none

def Cl (enc : TypeId × Value → H) (P : Program) (W : World) (m : Nat) : Sh1 → Value → Prop
  | .str, v => ∃ s : List UInt8, v = str s ∧ s.length ≤ 140737488351232
  | .int k, v => ∃ n, v = .int k n ∧ (Lit.int k n).wf = true
  | .bool, v => ∃ b, v = .bool b
  | .slc t, v => Rd enc P W m t [v]

theorem Cl.le {n m : Nat} {s : Sh1} {v : Value} (h : Cl enc P W n s v) (hm : n ≤ m) : Cl enc P W m s v := by
  cases s <;> first | exact h | exact Rd.le h hm

theorem flatFs_ok {sh : TypeId → Option (List Sh1)} {co : TypeId → Nat} {m : Nat} {cs : List Value} : ∀ (fs : List Field) (o : Nat) (l : List Sh1), flatFs sh co o fs = some l →
    (∀ (i : Nat) (f : Field) (s : List Sh1), fs[i]? = some f → sh f.type = some s → ((cs.drop f.offset).take (co f.type)).length = s.length ∧ ∀ (j : Nat) (s1 : Sh1) (v : Value), s[j]? = some s1 → ((cs.drop f.offset).take (co f.type))[j]? = some v → Cl enc P W m s1 v) →
    ∀ j s1 v, l[j]? = some s1 → cs[o + j]? = some v → Cl enc P W m s1 v
  | [], o, l, h, _, j, s1, v, hj, _ => by
    simp only [flatFs, Option.some.injEq] at h
    subst h
    simp at hj
  | f :: fs, o, l, h, hf, j, s1, v, hj, hv => by
    simp only [flatFs] at h
    split at h
    · rename_i hfo
      obtain ⟨s, h1, h2⟩ := Option.bind_eq_some_iff.1 h
      split at h2
      · rename_i hsl
        obtain ⟨l', h3, rfl⟩ := Option.map_eq_some_iff.1 h2
        obtain ⟨h4, h5⟩ := hf 0 f s rfl h1
        by_cases hjs : j < s.length
        · rw [List.getElem?_append_left hjs] at hj
          refine h5 j s1 v hj ?_
          rw [List.getElem?_take, if_pos (by omega), List.getElem?_drop, hfo]
          exact hv
        · rw [List.getElem?_append_right (by omega)] at hj
          refine flatFs_ok fs (o + s.length) l' h3 (fun i g s' hg hs' => hf (i + 1) g s' (by simpa using hg) hs') (j - s.length) s1 v hj ?_
          rw [show o + s.length + (j - s.length) = o + j by omega]
          exact hv
      · cases h2
    · cases h

theorem Rd.flat : ∀ (n : Nat) {m t : Nat} {l : List Sh1} {cs : List Value}, flatSh P n t = some l → Rd enc P W m t cs → cs.length = l.length ∧ ∀ (j : Nat) (s1 : Sh1) (v : Value), l[j]? = some s1 → cs[j]? = some v → Cl enc P W m s1 v
  | 0, _, _, _, _, h, _ => by cases h
  | n + 1, m, t, l, cs, h, hr => by
    have hr0 := hr
    obtain ⟨d, ps, ht, hw⟩ := hr
    simp only [flatSh] at h
    split at h
    · rename_i hu
      cases h
      obtain ⟨s, rfl, hx, hs⟩ := DataW.trod_string hu ht
      have hd : d = .lit (.string s.data.toList) := congrArg Prod.fst hx
      subst hd
      refine ⟨rfl, fun j s1 v hj hv => ?_⟩
      cases j with
      | zero =>
        simp at hj hv
        subst hj hv
        refine ⟨s.data.toList, string_str s, ?_⟩
        simp only [DataW.weights, List.all_cons, List.all_nil, Bool.and_true, decide_eq_true_eq] at hw
        unfold reachBytes at hw
        omega
      | succ j => simp at hj
    · rename_i k hu
      cases h
      obtain ⟨z, rfl, -, hz⟩ := DataW.trod_int hu ht
      refine ⟨rfl, fun j s1 v hj hv => ?_⟩
      cases j with
      | zero => simp at hj hv; subst hj hv; exact ⟨z, rfl, hz⟩
      | succ j => simp at hj
    · rename_i hu
      cases h
      obtain ⟨b, rfl, -⟩ := DataW.trod_bool hu ht
      refine ⟨rfl, fun j s1 v hj hv => ?_⟩
      cases j with
      | zero => simp at hj hv; subst hj hv; exact ⟨b, rfl⟩
      | succ j => simp at hj
    · rename_i e hu
      cases h
      have h1 : cs.length = 1 := by
        rcases DataW.trod_slice hu ht with ⟨rfl, -⟩ | ⟨_, _, _, _, _, _, -, rfl, -⟩ <;> rfl
      refine ⟨h1, fun j s1 v hj hv => ?_⟩
      cases j with
      | zero =>
        simp at hj
        subst hj
        match cs, h1 with
        | [u], _ => simp at hv; subst hv; exact hr0
      | succ j => simp at hj
    · rename_i fs hu
      obtain ⟨l', h1, h2⟩ := Option.bind_eq_some_iff.1 h
      split at h2
      · rename_i hll
        cases h2
        obtain ⟨xs, m', rfl, hx, hcl, hxl, hf⟩ := DataW.trod_struct hu ht
        have hd : d = .agg (xs.map (·.1)) := congrArg Prod.fst hx
        subst hd
        refine ⟨by rw [hcl, hll], ?_⟩
        have key := flatFs_ok (enc := enc) (P := P) (W := W) (m := m' + 1) (cs := cs) fs.toList 0 l h1 (fun i f s hg hs => by
          have hg' : fs[i]? = some f := by simpa using hg
          have hi : i < xs.length := by rw [hxl]; exact (Array.getElem?_eq_some_iff.1 hg').1
          have h3 := hf i f hg'
          rw [List.getElem?_eq_getElem hi] at h3
          have hw' : (xs[i].1.weights P f.type).all (· ≤ reachBytes) = true := by
            simp only [DataW.weights, hu] at hw
            exact weightsEach_get (i := i) (by simp [hg']) (by simp [hi]) hw
          have h4 := Rd.flat n hs (m := m') ⟨xs[i].1, xs[i].2, h3, hw'⟩
          exact ⟨h4.1, fun j s1 v hj hv => (h4.2 j s1 v hj hv).le (Nat.le_succ _)⟩)
        intro j s1 v hj hv
        exact key j s1 v hj (by rw [Nat.zero_add]; exact hv)
      · cases h2
    · cases h

/-! ### Arguments -/

theorem cells_one {r : Reach} {base t : Nat} {v : Value} (h : Cell.okWide P W r base t v) : v.cells.toList = [v] := by
  cases v with
  | agg cs => unfold Cell.okWide Cell.ok at h; split at h <;> simp_all
  | _ => rfl

theorem okWide_cell {r : Reach} {base t : Nat} {v : Value} (h : Value.okWide P W r base t v) (hu : aggT P t = some false) : Cell.okWide P W r base t v := by
  unfold Value.okWide at h
  unfold aggT at hu
  cases hd : P.underlying t with
  | none => rw [hd] at hu; cases hu
  | some d =>
    rw [hd] at h hu
    cases d <;> first | exact h | simp at hu

theorem okWide_agg {r : Reach} {base t : Nat} {v : Value} (h : Value.okWide P W r base t v) (hu : aggT P t = some true) : ∃ cs, v = .agg cs ∧ Row.okWide P W r base t cs := by
  unfold Value.okWide at h
  unfold aggT at hu
  cases hd : P.underlying t with
  | none => rw [hd] at hu; cases hu
  | some d =>
    rw [hd] at h hu
    cases d with
    | struct fs => obtain ⟨cs, h1, -, h2⟩ := h; exact ⟨cs, h1, h2⟩
    | array n e => obtain ⟨cs, h1, -, h2⟩ := h; exact ⟨cs, h1, h2⟩
    | _ => simp at hu

theorem Rd.mk {t : TypeId} {v : Value} {d : DataW H} {p : List MemPlace} (h : DataW.Trod enc P W 0 (fun _ => true) true t v d p) (hw : (d.weights P t).all (· ≤ reachBytes) = true) : ∃ n, Rd enc P W n t v.cells.toList :=
  let ⟨n, hn⟩ := h; ⟨n, d, p, hn, hw⟩

theorem Rd.int1 {r : Reach} {base n t : Nat} {k : IntKind} {v : Value} (hu : P.underlying t = some (.int k)) (hv : Value.okWide P W r base t v) (h : Rd enc P W n t v.cells.toList) : ∃ z, v = .int k z ∧ (Lit.int k z).wf = true := by
  have hc := cells_one (okWide_cell hv (by simp [aggT, hu]))
  rw [hc] at h
  exact (Rd.flat 1 (l := [.int k]) (by simp [flatSh, hu]) h).2 0 (.int k) v rfl rfl

theorem wf_i64 {z : Int} (h : (Lit.int .i64 z).wf = true) : -9223372036854775808 ≤ z ∧ z ≤ 9223372036854775807 := by
  simp [Lit.wf, IntKind.min, IntKind.max, IntKind.bits, IntKind.signed, Bool.and_eq_true, decide_eq_true_eq] at h
  exact h
/-! ### The end of a walk that leaves the old memory as it was -/

theorem TrodAll.carry {w w' : World} : ∀ {ts : List TypeId} {vs : List Value} {ds : List (DataW H)} {ps : List MemPlace} {sp : Nat → Bool} {hd : Bool}, DataW.TrodAll enc P w 0 sp hd ts vs ds ps → (∀ p ∈ ps, w.sameAt w' p) → DataW.TrodAll enc P w' 0 sp hd ts vs ds ps
  | [], [], [], _, _, _, h, _ => h
  | _ :: _, _ :: _, _ :: _, _, _, _, ⟨p, q, ⟨n, h1⟩, h2, e⟩, hs => ⟨p, q, ⟨n, DataW.trod_carry n _ _ _ h1 fun x hx => hs x (by rw [e]; exact List.mem_append_left _ hx)⟩, TrodAll.carry h2 (fun x hx => hs x (by rw [e]; exact List.mem_append_right _ hx)), e⟩

theorem post_keep {f : Func} {s : ChangeSpec} {apart fresh handsOn again : Bool} {w w' : World} {args : Array Value} {v : Value} {ds gs : List (DataW H)} {before : List MemPlace}
    (hW : DataW.Whole enc P f.params.toList s.vars apart w args.toList ds gs before) (hv0 : s.vars = [])
    (K : Kids P (· < P.types.size)) (hz : ∀ t e, t < P.types.size → P.underlying t = some (.slice e) → 0 < P.cellsOf e) (hps : ∀ t ∈ f.params.toList, t < P.types.size)
    (hres : ∀ (b : Nat) (sp : Nat → Bool) (hd : Bool), DataW.TrodAll enc P w' b sp hd f.resultTypes.toList (v.resultList f.resultTypes.size) (s.fn H (ds ++ gs)).results [])
    (hargs : (s.fn H (ds ++ gs)).args = ds) (hvs : (s.fn H (ds ++ gs)).vars = []) (hE : Ext w w')
    (hok : ∀ (j : Nat) (t : TypeId) (r : Value), f.resultTypes[j]? = some t → (v.resultList f.resultTypes.size)[j]? = some r → Value.okWide P w' .any 0 t r) :
    s.post enc P f apart fresh handsOn again w args v w' := by
  have hW0 := hW
  obtain ⟨p, q, hA, hV, hb, hfz, hnd⟩ := hW
  have hsame : ∀ x ∈ before, w.sameAt w' x := fun x hx => by
    have hlt := hW0.lt x hx
    cases x with
    | cell b off =>
      show w'.cell? _ = w.cell? _
      exact cell_congr (hE.same b hlt (fun h => h))
    | map b => exact hE.same b hlt (fun h => h)
  rw [hv0] at hV
  have hg : gs = [] ∧ q = [] := by
    cases gs with
    | nil => exact ⟨rfl, hV⟩
    | cons g gs => exact hV.elim
  obtain ⟨rfl, rfl⟩ := hg
  have hpb : before = p := by rw [hb, List.append_nil]
  subst hpb
  refine post_law (pa := before) (pv := []) hW0 hres (fun sp hsp => ?_) (fun sp hsp => ?_) (by simp) hE hok
  · rw [hargs]
    exact TrodAll.carry (DataW.TrodAll.respare K hz hps hA hsp) hsame
  · rw [hvs, hv0]
    rfl
end Go.Pd
