/-
  What is known of a heap, and how it lasts; loads, stores, new blocks, slices.
-/
import Derived.Test.YtjijmehighoonaaDoorOps
set_option linter.unusedSimpArgs false
set_option linter.unnecessarySimpa false
set_option maxRecDepth 10000
set_option linter.unusedVariables false
namespace Go.Pd
variable {P : Program} {r : Option Nat} {n : Nat}

/-- Only the blocks of M among the old ones may have changed. -/
structure Upd (M : Nat → Prop) (w w' : World) : Prop where
  size : w.heap.size ≤ w'.heap.size
  same : ∀ b, b < w.heap.size → ¬ M b → w'.heap[b]? = w.heap[b]?
  os : w'.os = w.os
  out : w'.output = w.output

abbrev Ext (w w' : World) : Prop := Upd (fun _ => False) w w'

theorem Upd.refl (M : Nat → Prop) (w : World) : Upd M w w := ⟨Nat.le_refl _, fun _ _ _ => rfl, rfl, rfl⟩
theorem Upd.of_heap {M : Nat → Prop} {w w' : World} (h : To w w' w.heap) : Upd M w w' := ⟨by rw [h.1]; exact Nat.le_refl _, fun _ _ _ => by rw [h.1], h.2.1, h.2.2⟩
theorem Upd.mono {M M' : Nat → Prop} {w w' : World} (h : Upd M w w') (hm : ∀ b, b < w.heap.size → M b → M' b) : Upd M' w w' := ⟨h.size, fun b hb hn => h.same b hb fun hM => hn (hm b hb hM), h.os, h.out⟩
theorem Upd.trans {M M' : Nat → Prop} {a b c : World} (h : Upd M a b) (h' : Upd M' b c) (hm : ∀ k, k < a.heap.size → M' k → M k) : Upd M a c :=
  ⟨Nat.le_trans h.size h'.size, fun k hk hn => (h'.same k (Nat.lt_of_lt_of_le hk h.size) (fun hM => hn (hm k hk hM))).trans (h.same k hk hn), h'.os.trans h.os, h'.out.trans h.out⟩
theorem Ext.trans {a b c : World} (h : Ext a b) (h' : Ext b c) : Ext a c := Upd.trans h h' (fun _ _ h => h)
theorem Ext.upd {M : Nat → Prop} {a b : World} (h : Ext a b) : Upd M a b := h.mono (fun _ _ h => h.elim)
theorem Upd.ext {M : Nat → Prop} {a b : World} (h : Upd M a b) (hm : ∀ k, k < a.heap.size → ¬ M k) : Ext a b := h.mono (fun k hk hM => (hm k hk hM).elim)

/-- Blocks of the call's own (or opened ones): what they hold. -/
structure LH (w0 : World) (M : Nat → Prop) (w : World) (l : List (Nat × Obj)) : Prop where
  upd : Upd M w0 w
  own : ∀ p ∈ l, w.heap[p.1]? = some p.2
  fresh : ∀ p ∈ l, w0.heap.size ≤ p.1 ∨ M p.1
  nd : (l.map (·.1)).Nodup

theorem LH.start (w : World) (M : Nat → Prop) : LH w M w [] := ⟨.refl _ _, (fun _ h => nomatch h), (fun _ h => nomatch h), List.nodup_nil⟩

theorem LH.lt {w0 w : World} {M : Nat → Prop} {l : List (Nat × Obj)} (h : LH w0 M w l) {p : Nat × Obj} (hp : p ∈ l) : p.1 < w.heap.size :=
  (Array.getElem?_eq_some_iff.1 (h.own p hp)).1

theorem LH.ext {w0 w w' : World} {M : Nat → Prop} {l : List (Nat × Obj)} (h : LH w0 M w l) (e : Ext w w') : LH w0 M w' l :=
  ⟨h.upd.trans e (fun _ _ h => h.elim), fun p hp => (e.same p.1 (h.lt hp) (fun h => h)).trans (h.own p hp), h.fresh, h.nd⟩

theorem LH.heap {w0 w w' : World} {M : Nat → Prop} {l : List (Nat × Obj)} (h : LH w0 M w l) (e : To w w' w.heap) : LH w0 M w' l := h.ext (Upd.of_heap e)

theorem LH.sub {w0 w : World} {M : Nat → Prop} {l l' : List (Nat × Obj)} (h : LH w0 M w l) (hs : l'.Sublist l) : LH w0 M w l' :=
  ⟨h.upd, fun p hp => h.own p (hs.subset hp), fun p hp => h.fresh p (hs.subset hp), (hs.map _).nodup h.nd⟩

theorem LH.perm {w0 w : World} {M : Nat → Prop} {l l' : List (Nat × Obj)} (h : LH w0 M w l) (hs : l.Perm l') : LH w0 M w l' :=
  ⟨h.upd, fun p hp => h.own p (hs.mem_iff.2 hp), fun p hp => h.fresh p (hs.mem_iff.2 hp), (hs.map _).nodup_iff.1 h.nd⟩

theorem LH.get {w0 w : World} {M : Nat → Prop} {l : List (Nat × Obj)} (h : LH w0 M w l) (i : Nat) {b : Nat} {o : Obj} (hi : l[i]? = some (b, o)) : w.heap[b]? = some o := h.own (b, o) (List.mem_of_getElem? hi)

theorem cell_of_block {w : World} {b o : Nat} {cs : Array Value} {T : TypeId} {fz : Nat × Nat} {v : Value} (h : w.heap[b]? = some (.cells cs T fz)) (hv : cs[o]? = some v) : w.cell? ⟨b, o, none⟩ = some v := by
  simp [World.cell?, h, hv]
theorem frozen_of_block {w : World} {b o : Nat} {cs : Array Value} {T : TypeId} (h : w.heap[b]? = some (.cells cs T (0, 0))) : w.frozen? ⟨b, o, none⟩ = false := by
  simp [World.frozen?, h]

theorem LH.cell {w0 w : World} {M : Nat → Prop} {l : List (Nat × Obj)} (h : LH w0 M w l) (i : Nat) {b o : Nat} {cs : Array Value} {T : TypeId} {fz : Nat × Nat} {v : Value} (hi : l[i]? = some (b, .cells cs T fz)) (hv : cs[o]? = some v) : w.cell? ⟨b, o, none⟩ = some v :=
  cell_of_block (h.get i hi) hv

theorem lt_of_cell {w : World} {a : Addr} {v : Value} (h : w.cell? a = some v) : a.block < w.heap.size := by
  unfold World.cell? at h
  split at h
  · rename_i hh; exact (Array.getElem?_eq_some_iff.1 hh).1
  · cases h

theorem cell_congr {w w' : World} {a : Addr} (h : w'.heap[a.block]? = w.heap[a.block]?) : w'.cell? a = w.cell? a := by
  unfold World.cell?; rw [h]

theorem Upd.cell {M : Nat → Prop} {w w' : World} (h : Upd M w w') {a : Addr} {v : Value} (hn : ¬ M a.block) (hc : w.cell? a = some v) : w'.cell? a = some v :=
  (cell_congr (h.same _ (lt_of_cell hc) hn)).trans hc

theorem LH.old {w0 w : World} {M : Nat → Prop} {l : List (Nat × Obj)} (h : LH w0 M w l) {a : Addr} {v : Value} (hc : w0.cell? a = some v) (hn : ¬ M a.block := by exact fun h => h) : w.cell? a = some v := h.upd.cell hn hc

/-- A new block. -/
theorem LH.alloc {w0 w : World} {M : Nat → Prop} {l : List (Nat × Obj)} (h : LH w0 M w l) (o : Obj) : LH w0 M { w with heap := w.heap.push o } ((w.heap.size, o) :: l) := by
  refine ⟨⟨by have := h.upd.size; simp; omega, fun b hb hn => ?_, h.upd.os, h.upd.out⟩, fun p hp => ?_, fun p hp => ?_, ?_⟩
  · have := h.upd.size
    rw [← h.upd.same b hb hn]
    simp only
    rw [Array.getElem?_push_lt (by omega), Array.getElem?_eq_getElem (by omega)]
  · rcases List.mem_cons.1 hp with rfl | hp
    · simp
    · have := h.lt hp
      have h1 := h.own p hp
      simp only
      rw [Array.getElem?_push_lt this]
      rw [Array.getElem?_eq_getElem this] at h1
      exact h1
  · rcases List.mem_cons.1 hp with rfl | hp
    · exact .inl h.upd.size
    · exact h.fresh p hp
  · simp only [List.map_cons, List.nodup_cons]
    refine ⟨fun hm => ?_, h.nd⟩
    obtain ⟨p, hp, he⟩ := List.mem_map.1 hm
    have := h.lt hp
    omega

/-- A block of the call's own is given another content. -/
theorem LH.put {w0 w w' : World} {M : Nat → Prop} {l : List (Nat × Obj)} (h : LH w0 M w l) (i : Nat) {b : Nat} {o o' : Obj} (hi : l[i]? = some (b, o)) (hs0 : SetAt w w' b o') : LH w0 M w' (l.set i (b, o')) := by
  have hs := hs0.1
  have hm := List.mem_of_getElem? hi
  have hb := h.lt hm
  have hil : i < l.length := (List.getElem?_eq_some_iff.1 hi).1
  have hother : ∀ k, k ≠ b → w'.heap[k]? = w.heap[k]? := fun k hk => by rw [hs, Array.getElem?_setIfInBounds_ne (Ne.symm hk)]
  have hkeys : (l.set i (b, o')).map (·.1) = l.map (·.1) := by
    rw [List.map_set]
    apply List.ext_getElem?
    intro j
    rw [List.getElem?_set]
    split
    · rename_i hj
      subst hj
      simp [hil, hi]
      rw [List.getElem?_eq_getElem hil] at hi
      simp at hi
      rw [hi]
    · rfl
  refine ⟨⟨by rw [hs]; simpa using h.upd.size, fun k hk hn => ?_, hs0.2.1.trans h.upd.os, hs0.2.2.trans h.upd.out⟩, fun p hp => ?_, fun p hp => ?_, ?_⟩
  · have hkb : k ≠ b := by
      rintro rfl
      rcases h.fresh _ hm with h1 | h1
      · exact absurd hk (Nat.not_lt.2 h1)
      · exact hn h1
    rw [hother k hkb]; exact h.upd.same k hk hn
  · obtain ⟨j, hj⟩ := List.getElem?_of_mem hp
    rw [List.getElem?_set] at hj
    split at hj
    · simp [hil] at hj
      subst hj
      rw [hs]; simp [hb]
    · rename_i hne
      have hpl := List.mem_of_getElem? hj
      rw [hother p.1 ?_]
      · exact h.own p hpl
      · intro he
        apply hne
        have h1 : (l.map (·.1))[i]? = some b := by simp [hi]
        have h2 : (l.map (·.1))[j]? = some b := by simp [hj, he]
        exact (List.getElem?_inj (by simpa using hil) h.nd).1 (h1.trans h2.symm)
  · obtain ⟨j, hj⟩ := List.getElem?_of_mem hp
    rw [List.getElem?_set] at hj
    split at hj
    · simp [hil] at hj
      subst hj
      exact h.fresh (b, o) hm
    · exact h.fresh p (List.mem_of_getElem? hj)
  · rw [hkeys]; exact h.nd

theorem LH.store {w0 w : World} {M : Nat → Prop} {l : List (Nat × Obj)} (h : LH w0 M w l) (i : Nat) {b o : Nat} {cs : Array Value} {T : TypeId} {fz : Nat × Nat} (v : Value) (hi : l[i]? = some (b, .cells cs T fz)) :
    LH w0 M (w.setCell ⟨b, o, none⟩ v) (l.set i (b, .cells (cs.setIfInBounds o v) T fz)) := by
  refine h.put i hi ⟨?_, rfl, rfl⟩
  have h1 := h.get i hi
  have hb : b < w.heap.size := (Array.getElem?_eq_some_iff.1 h1).1
  have h2 : w.heap[b] = .cells cs T fz := by rw [Array.getElem?_eq_getElem hb] at h1; exact Option.some.inj h1
  unfold World.setCell
  simp only
  apply Array.ext_getElem?
  intro k
  rw [Array.getElem?_modify, Array.getElem?_setIfInBounds]
  split
  · rename_i hk
    subst hk
    simp [hb, h2]
  · rfl

/-- The end of a call: nothing old has changed. -/
theorem LH.done {w0 w : World} {l : List (Nat × Obj)} (h : LH w0 (fun _ => False) w l) : Ext w0 w := h.upd

/-! ### Addresses -/
theorem add_mk (b o k : Nat) : (⟨b, o, none⟩ : Addr).add k = ⟨b, o + k, none⟩ := by
  unfold Addr.add; split
  · rename_i h; subst h; rfl
  · rfl

def aggT (P : Program) (t : TypeId) : Option Bool := (P.underlying t).map fun | .struct _ | .array _ _ => true | _ => false

theorem run_isAgg {t : TypeId} {b : Bool} (h : aggT P t = some b) (w : World) : (isAgg t).run P w = .ok b w := by
  unfold aggT at h
  cases hu : P.underlying t with
  | none => rw [hu] at h; cases h
  | some d =>
    rw [hu] at h
    simp only [Option.map_some, Option.some.injEq] at h
    subst h
    simp only [isAgg, underlying, program]
    cases d <;> simp [bind, Sem.bind, Sem.run, pure, hu]

theorem sem_bind {α β : Type} {e : Sem α} {f : α → Sem β} {w w' : World} {a : α} (h : e.run P w = .ok a w') : (e >>= f).run P w = (f a).run P w' := by
  rw [Sem.run_bind, h]; rfl

theorem run_loadVar1 {t : TypeId} {a : Addr} {v : Value} {w : World} (hA : aggT P t = some false) (h : w.cell? a = some v) : (loadVar t a).run P w = .ok v w := by
  unfold loadVar
  rw [sem_bind (run_isAgg hA w)]
  simp [load, Sem.run, h]

theorem run_loadCells {w : World} {b o : Nat} : ∀ (vs : List Value) (k : Nat) (acc : Array Value), (∀ i v, vs[i]? = some v → w.cell? ⟨b, o + k + i, none⟩ = some v) →
    (loadCellsFrom ⟨b, o, none⟩ k vs.length acc).run P w = .ok (acc ++ vs.toArray) w
  | [], k, acc, _ => by simp [loadCellsFrom, pure, Sem.run]
  | v :: vs, k, acc, h => by
    have h0 := h 0 v rfl
    simp only [List.length_cons, loadCellsFrom]
    rw [sem_bind (a := v) (w' := w) (by simp only [Nat.add_zero] at h0; simp [load, Sem.run, add_mk, h0])]
    rw [run_loadCells vs (k + 1) (acc.push v) (fun i u hi => by have := h (i + 1) u (by simpa using hi); rw [show o + (k + 1) + i = o + k + (i + 1) from by omega]; exact this)]
    congr 1
    apply Array.ext'
    simp

theorem run_sizeOf {t : TypeId} {i : TypeInfo} (h : P.info? t = some i) (w : World) : (sizeOf t).run P w = .ok i.size w := by
  simp [sizeOf, typeInfo, program, bind, Sem.bind, Sem.run, pure, h]

def sizeT (P : Program) (t : TypeId) : Option Nat := (P.info? t).map (·.size)

theorem run_sizeT {t k : Nat} (h : sizeT P t = some k) (w : World) : (sizeOf t).run P w = .ok k w := by
  unfold sizeT at h
  cases hi : P.info? t with
  | none => rw [hi] at h; cases h
  | some i => rw [hi] at h; simp at h; rw [run_sizeOf hi, h]

theorem run_loadVarN {t : TypeId} {b o : Nat} {vs : List Value} {w : World} (hA : aggT P t = some true) (hs : sizeT P t = some vs.length) (h : ∀ i v, vs[i]? = some v → w.cell? ⟨b, o + i, none⟩ = some v) : (loadVar t ⟨b, o, none⟩).run P w = .ok (.agg vs.toArray) w := by
  unfold loadVar
  rw [sem_bind (run_isAgg hA w)]
  simp only [if_true]
  rw [sem_bind (run_sizeT hs w)]
  unfold loadCells
  rw [sem_bind (run_loadCells vs 0 #[] (by simpa using h))]
  simp [pure, Sem.run]

/-- Cells one behind the other. -/
def Row (w : World) (b o : Nat) (vs : List Value) : Prop := ∀ i v, vs[i]? = some v → w.cell? ⟨b, o + i, none⟩ = some v

theorem Row.upd {M : Nat → Prop} {w w' : World} {b o : Nat} {vs : List Value} (h : Row w b o vs) (e : Upd M w w') (hn : ¬ M b) : Row w' b o vs := fun i v hi => e.cell hn (h i v hi)
theorem Row.of_block {w : World} {b o : Nat} {cs : Array Value} {T : TypeId} {fz : Nat × Nat} {vs : List Value} (h : w.heap[b]? = some (.cells cs T fz)) (hv : ∀ i v, vs[i]? = some v → cs[o + i]? = some v) : Row w b o vs :=
  fun i v hi => cell_of_block h (hv i v hi)

section
variable {ops : Array Oper} {K : St → World → Prop} {X : List PanicEntry → St → World → Prop} {l : List Oper} {s : St} {w : World}
variable {d : Nat} {ty : TypeId} {p : String} {af : Array Edge} {g : Option (Nat × Bool)}

theorem o_load {t : TypeId} {x : Operand} {a : Addr} {v : Value} (hw : Region.wanted ⟨some d, .load t x, ty, p, af, g⟩ (yieldedE ops n s) = true) (hA : aggT P t = some false) (hx : rd n s x = .pointer (some a)) (hc : w.cell? a = some v)
    (hk : OpsL P r n ops K X l (s.set d v) w) : OpsL P r n ops K X (⟨some d, .load t x, ty, p, af, g⟩ :: l) s w := by
  refine o_val hw ?_ hk
  rw [Oper.semAt_eq _ _ _ (fun c e => by cases e)]
  simp only [execOp, Instr.loadAt, hx, Instr.sureAddr]
  rw [sem_bind (a := v) (w' := w)]
  · rfl
  · rw [sem_bind (a := a) (w' := w) rfl]; exact run_loadVar1 hA hc

/-- The address of a field. -/
def fieldT (P : Program) (st : TypeId) (f : Nat) : Option Nat :=
  match P.underlying st with
  | some (.struct fs) => (fs[f]?).bind fun x => (sizeT P x.type).bind fun z => if z = 0 then none else some x.offset
  | _ => none

theorem run_fieldAt {st f off b o : Nat} (h : fieldT P st f = some off) (w : World) : (Instr.fieldAt st (.pointer (some ⟨b, o, none⟩)) f).run P w = .ok (.pointer (some ⟨b, o + off, none⟩)) w := by
  unfold fieldT at h
  cases hu : P.underlying st with
  | none => rw [hu] at h; cases h
  | some d =>
    rw [hu] at h
    cases d with
    | struct fs =>
      simp only at h
      cases hf : fs[f]? with
      | none => rw [hf] at h; cases h
      | some x =>
        rw [hf] at h
        simp only [Option.bind_some] at h
        cases hz : sizeT P x.type with
        | none => rw [hz] at h; cases h
        | some z =>
          rw [hz] at h
          simp only [Option.bind_some] at h
          by_cases h0 : z = 0
          · rw [if_pos h0] at h; cases h
          · rw [if_neg h0] at h
            simp only [Option.some.injEq] at h
            unfold Instr.fieldAt
            rw [sem_bind (a := TypeDesc.struct fs) (w' := w) (by simp [underlying, program, bind, Sem.bind, Sem.run, pure, hu])]
            simp only [hf]
            rw [sem_bind (a := ⟨b, o, none⟩) (w' := w) rfl]
            rw [sem_bind (a := ⟨b, o + off, none⟩) (w' := w)]
            · rfl
            · unfold fieldPlace
              rw [sem_bind (run_sizeT hz w)]
              simp only [h0, if_false]
              rw [← h, add_mk]
              rfl
    | _ => cases h

theorem o_fa {st f off b o : Nat} {x : Operand} (hw : Region.wanted ⟨some d, .fieldAddr st x f, ty, p, af, g⟩ (yieldedE ops n s) = true) (hx : rd n s x = .pointer (some ⟨b, o, none⟩)) (hf : fieldT P st f = some off)
    (hk : OpsL P r n ops K X l (s.set d (.pointer (some ⟨b, o + off, none⟩))) w) : OpsL P r n ops K X (⟨some d, .fieldAddr st x f, ty, p, af, g⟩ :: l) s w := by
  refine o_val hw ?_ hk
  rw [Oper.semAt_eq _ _ _ (fun c e => by cases e)]
  simp only [execOp, hx]
  rw [sem_bind (run_fieldAt hf w)]
  rfl

theorem o_loadN {t : TypeId} {x : Operand} {b o : Nat} {vs : List Value} (hw : Region.wanted ⟨some d, .load t x, ty, p, af, g⟩ (yieldedE ops n s) = true) (hA : aggT P t = some true) (hs : sizeT P t = some vs.length) (hx : rd n s x = .pointer (some ⟨b, o, none⟩)) (hc : Row w b o vs)
    (hk : OpsL P r n ops K X l (s.set d (.agg vs.toArray)) w) : OpsL P r n ops K X (⟨some d, .load t x, ty, p, af, g⟩ :: l) s w := by
  refine o_val hw ?_ hk
  rw [Oper.semAt_eq _ _ _ (fun c e => by cases e)]
  simp only [execOp, Instr.loadAt, hx, Instr.sureAddr]
  rw [sem_bind (a := .agg vs.toArray) (w' := w)]
  · rfl
  · rw [sem_bind (a := ⟨b, o, none⟩) (w' := w) rfl]; exact run_loadVarN hA hs hc
end
end Go.Pd
