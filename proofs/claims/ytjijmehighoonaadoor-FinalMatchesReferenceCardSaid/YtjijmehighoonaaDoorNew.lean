/-
  New blocks, stores, append.
-/
import Derived.Test.YtjijmehighoonaaDoorWalk
import Derived.Laws.AppendOwn
set_option linter.unusedSimpArgs false
set_option linter.unnecessarySimpa false
set_option maxRecDepth 10000
set_option linter.unusedVariables false
namespace Go.Pd
variable {P : Program} {r : Option Nat} {n : Nat}

def zeroC (P : Program) (t : TypeId) : Option (Array Value) := ((P.info? t).bind (·.zero)).map Value.cells

theorem run_zeroValue {t : TypeId} {cs : Array Value} (h : zeroC P t = some cs) (w : World) : ∃ z, (zeroValue t).run P w = .ok z w ∧ z.cells = cs := by
  unfold zeroC at h
  cases hi : P.info? t with
  | none => rw [hi] at h; cases h
  | some i =>
    rw [hi] at h
    simp only [Option.bind_some] at h
    cases hz : i.zero with
    | none => rw [hz] at h; cases h
    | some z =>
      rw [hz] at h
      simp only [Option.map_some, Option.some.injEq] at h
      exact ⟨z, by simp [zeroValue, typeInfo, program, bind, Sem.bind, Sem.run, pure, hi, hz], h⟩

/-- Writing cells one behind the other. -/
def putL : List Value → Nat → List Value → List Value
  | vs, _, [] => vs
  | vs, o, u :: us => putL (vs.set o u) (o + 1) us

theorem putL_length : ∀ (us : List Value) (vs : List Value) (o : Nat), (putL vs o us).length = vs.length
  | [], _, _ => rfl
  | u :: us, vs, o => by simp only [putL]; rw [putL_length us]; simp

theorem putL_get : ∀ (us : List Value) (vs : List Value) (o j : Nat), o + us.length ≤ vs.length → (putL vs o us)[j]? = if o ≤ j ∧ j < o + us.length then us[j - o]? else vs[j]?
  | [], vs, o, j, _ => by
    simp only [putL, List.length_nil, Nat.add_zero]
    rw [if_neg (by omega)]
  | u :: us, vs, o, j, h => by
    simp only [putL]
    have hl : o < vs.length := by simp at h; omega
    rw [putL_get us (vs.set o u) (o + 1) j (by simp at h ⊢; omega)]
    by_cases h1 : o + 1 ≤ j ∧ j < o + 1 + us.length
    · rw [if_pos h1, if_pos (by simp; omega)]
      rw [show j - o = (j - (o + 1)) + 1 from by omega]; rfl
    · rw [if_neg h1, List.getElem?_set]
      by_cases h2 : o = j
      · subst h2
        rw [if_pos rfl, if_pos hl, if_pos (by simp)]
        simp
      · rw [if_neg h2, if_neg (by simp; omega)]

theorem putL_all (us vs : List Value) (o : Nat) (h : vs.length = o + us.length) : putL vs o us = vs.take o ++ us := by
  apply List.ext_getElem?
  intro j
  rw [putL_get us vs o j (by omega), List.getElem?_append, List.length_take]
  by_cases h1 : j < o
  · rw [if_neg (by omega), if_pos (by omega), List.getElem?_take, if_pos h1]
  · by_cases h2 : j < o + us.length
    · rw [if_pos ⟨by omega, h2⟩, if_neg (by omega)]
      congr 1; omega
    · rw [if_neg (by omega), if_neg (by omega)]
      rw [List.getElem?_eq_none (by omega), List.getElem?_eq_none (by omega)]

theorem LH.cellL {w0 w : World} {M : Nat → Prop} {l : List (Nat × Obj)} (h : LH w0 M w l) (i : Nat) {b o : Nat} {vs : List Value} {T : TypeId} {fz : Nat × Nat} {v : Value} (hi : l[i]? = some (b, .cells vs.toArray T fz)) (hv : vs[o]? = some v) : w.cell? ⟨b, o, none⟩ = some v :=
  h.cell i hi (by simpa using hv)

theorem LH.rowL {w0 w : World} {M : Nat → Prop} {l : List (Nat × Obj)} (h : LH w0 M w l) (i : Nat) {b : Nat} {vs : List Value} {T : TypeId} {fz : Nat × Nat} (o m : Nat) (hi : l[i]? = some (b, .cells vs.toArray T fz)) : Row w b o ((vs.drop o).take m) := fun j v hj => by
  refine h.cellL i hi ?_
  rw [List.getElem?_take] at hj
  split at hj
  · rw [List.getElem?_drop] at hj; exact hj
  · cases hj

theorem run_storeCells {w0 : World} {M : Nat → Prop} {b i : Nat} {T : TypeId} : ∀ (us : List Value) (o k : Nat) (w : World) (l : List (Nat × Obj)) (vs : List Value), LH w0 M w l → l[i]? = some (b, .cells vs.toArray T (0, 0)) → o + k + us.length ≤ vs.length → (∀ u ∈ us, u.oneCell' = true) →
    ∃ w', (storeCells ⟨b, o, none⟩ us k).run P w = .ok () w' ∧ LH w0 M w' (l.set i (b, .cells (putL vs (o + k) us).toArray T (0, 0)))
  | [], o, k, w, l, vs, hl, hi, _, _ => by
    refine ⟨w, by simp [storeCells, pure, Sem.run], ?_⟩
    have : l.set i (b, .cells (putL vs (o + k) []).toArray T (0, 0)) = l := by
      apply List.ext_getElem?
      intro j
      rw [List.getElem?_set]
      split
      · rename_i h; subst h
        have hil : i < l.length := (List.getElem?_eq_some_iff.1 hi).1
        simp [hil, putL]
        rw [List.getElem?_eq_getElem hil] at hi
        exact (Option.some.inj hi).symm
      · rfl
    rw [this]; exact hl
  | u :: us, o, k, w, l, vs, hl, hi, hle, h1 => by
    have hlt : o + k < vs.length := by simp at hle; omega
    have hc : w.cell? ⟨b, o + k, none⟩ = some vs[o + k] := hl.cellL i hi (by simp [hlt])
    have hf : w.frozen? ⟨b, o + k, none⟩ = false := frozen_of_block (hl.get i hi)
    have hst := hl.store i (o := o + k) u hi
    have hil : i < l.length := (List.getElem?_eq_some_iff.1 hi).1
    have e1 : (vs.toArray.setIfInBounds (o + k) u) = (vs.set (o + k) u).toArray := by simp
    rw [e1] at hst
    obtain ⟨w', hr, hl'⟩ := run_storeCells us o (k + 1) (w.setCell ⟨b, o + k, none⟩ u) _ (vs.set (o + k) u) hst (by rw [List.getElem?_set_self hil]) (by simp at hle ⊢; omega) (fun x hx => h1 x (List.mem_cons_of_mem _ hx))
    refine ⟨w', ?_, ?_⟩
    · simp only [storeCells, add_mk]
      have hu := h1 u List.mem_cons_self
      rw [sem_bind (a := ()) (w' := w.setCell ⟨b, o + k, none⟩ u)]
      · exact hr
      · cases u <;> simp [Value.oneCell'] at hu <;> simp [store, Sem.run, hc, hf]
    · rw [List.set_set] at hl'
      exact hl'

section
variable {ops : Array Oper} {K : St → World → Prop} {X : List PanicEntry → St → World → Prop} {l : List Oper} {s : St} {w w0 : World} {M : Nat → Prop} {bl : List (Nat × Obj)}
variable {d : Nat} {ty : TypeId} {p : String} {af : Array Edge} {g : Option (Nat × Bool)}

theorem o_alloc {t : TypeId} (hl : LH w0 M w bl) (vs : List Value) (hz : zeroC P t = some vs.toArray) (hw : Region.wanted ⟨some d, .alloc t, ty, p, af, g⟩ (yieldedE ops n s) = true)
    (hk : ∀ b w', w0.heap.size ≤ b → LH w0 M w' ((b, .cells vs.toArray t (0, 0)) :: bl) → OpsL P r n ops K X l (s.set d (.pointer (some ⟨b, 0, none⟩))) w') : OpsL P r n ops K X (⟨some d, .alloc t, ty, p, af, g⟩ :: l) s w := by
  obtain ⟨z, hz1, hz2⟩ := run_zeroValue hz w
  refine o_val (w' := { w with heap := w.heap.push (.cells vs.toArray t) }) hw ?_ (hk w.heap.size _ hl.upd.size (hl.alloc _))
  rw [Oper.semAt_eq _ _ _ (fun c e => by cases e)]
  simp only [execOp, Instr.alloc]
  rw [sem_bind (a := .pointer (some ⟨w.heap.size, 0, none⟩)) (w' := { w with heap := w.heap.push (.cells vs.toArray t) })]
  · rfl
  · rw [sem_bind hz1]
    simp only [newVar, newRow, newObj, hz2]
    simp [bind, Sem.bind, Sem.run, pure]

theorem o_box {t : TypeId} {x : Operand} {v : Value} (hl : LH w0 M w bl) (vs : List Value) (hw : Region.wanted ⟨some d, .box t x, ty, p, af, g⟩ (yieldedE ops n s) = true) (hx : rd n s x = v) (hv : v.cells = vs.toArray)
    (hk : ∀ b w', w0.heap.size ≤ b → LH w0 M w' ((b, .cells vs.toArray t (0, 0)) :: bl) → OpsL P r n ops K X l (s.set d (.pointer (some ⟨b, 0, none⟩))) w') : OpsL P r n ops K X (⟨some d, .box t x, ty, p, af, g⟩ :: l) s w := by
  refine o_val (w' := { w with heap := w.heap.push (.cells vs.toArray t) }) hw ?_ (hk w.heap.size _ hl.upd.size (hl.alloc _))
  rw [Oper.semAt_eq _ _ _ (fun c e => by cases e)]
  simp only [execOp, Instr.box, hx]
  simp only [newVar, newRow, newObj, hv]
  simp [bind, Sem.bind, Sem.run, pure]

theorem o_store {t : TypeId} {a x : Operand} {b o : Nat} {vs : List Value} {T : TypeId} (hl : LH w0 M w bl) (i : Nat) (us : List Value) (hw : Region.wanted ⟨none, .store t a x, ty, p, af, g⟩ (yieldedE ops n s) = true) (ha : rd n s a = .pointer (some ⟨b, o, none⟩)) (hi : bl[i]? = some (b, .cells vs.toArray T (0, 0)))
    (hx : (rd n s x).cells = us.toArray) (hs : sizeT P t = some us.length) (hle : o + us.length ≤ vs.length) (h1 : us.all Value.oneCell' = true)
    (hk : ∀ w', LH w0 M w' (bl.set i (b, .cells (putL vs o us).toArray T (0, 0))) → OpsL P r n ops K X l s w') : OpsL P r n ops K X (⟨none, .store t a x, ty, p, af, g⟩ :: l) s w := by
  obtain ⟨w', hr, hl'⟩ := run_storeCells (P := P) us o 0 w bl vs hl hi (by simpa using hle) (by simpa using h1)
  refine o_unit (w' := w') hw ?_ (hk w' hl')
  rw [Oper.semAt_eq _ _ _ (fun c e => by cases e)]
  simp only [execOp, Instr.storeAt, ha, Instr.sureAddr]
  rw [sem_bind (a := ()) (w' := w')]
  · rfl
  · rw [sem_bind (a := ⟨b, o, none⟩) (w' := w) rfl]
    unfold storeVar
    rw [sem_bind (run_sizeT hs w)]
    simp only [hx, List.size_toArray, ne_eq, not_true_eq_false, if_false]
    exact hr

/-- The parts of a literal. -/
def buildC (P : Program) (t : TypeId) (parts : List (Nat × Value)) : Option (Array Value) :=
  match zeroC P t, P.underlying t with
  | some z, some (.struct fs) => (fs.toList.mapM fun f => (sizeT P f.type).map fun k => (f.offset, k)).bind fun pl => Instr.fill (pl[·]?) z parts
  | some z, some (.array _ e) => (sizeT P e).bind fun k => Instr.fill (fun i => some (i * k, k)) z parts
  | _, _ => none

theorem run_mapM {α β : Type} (f : α → Option β) (F : α → Sem β) (w : World) (h : ∀ a b, f a = some b → (F a).run P w = .ok b w) : ∀ (l : List α) (bs : List β), l.mapM f = some bs → (l.mapM F).run P w = .ok bs w
  | [], bs, hb => by simp at hb; subst hb; simp [pure, Sem.run]
  | a :: l, bs, hb => by
    simp only [List.mapM_cons] at hb ⊢
    cases ha : f a with
    | none => rw [ha] at hb; simp at hb
    | some b =>
      rw [ha] at hb
      cases hl : l.mapM f with
      | none => rw [hl] at hb; simp at hb
      | some bs' =>
        rw [hl] at hb
        simp at hb
        subst hb
        rw [sem_bind (h a b ha), sem_bind (run_mapM f F w h l bs' hl)]
        rfl

theorem run_build {t : TypeId} {parts : Array (Nat × Value)} {cs : Array Value} (h : buildC P t parts.toList = some cs) (w : World) : (Instr.build t parts).run P w = .ok (.agg cs) w := by
  unfold buildC at h
  cases hz : zeroC P t with
  | none => rw [hz] at h; cases h
  | some z =>
    rw [hz] at h
    obtain ⟨zv, hz1, rfl⟩ := run_zeroValue hz w
    cases hu : P.underlying t with
    | none => rw [hu] at h; cases h
    | some u =>
      rw [hu] at h
      unfold Instr.build
      rw [sem_bind hz1]
      simp only
      rw [sem_bind (run_underlying' hu w)]
      cases u with
      | struct fs =>
        simp only at h ⊢
        cases hm : (fs.toList.mapM fun f => (sizeT P f.type).map fun k => (f.offset, k)) with
        | none => rw [hm] at h; cases h
        | some pl =>
          rw [hm] at h
          simp only [Option.bind_some] at h
          have hr := run_mapM (P := P) (fun f : Field => (sizeT P f.type).map fun k => (f.offset, k)) (fun f : Field => do pure (f.offset, ← sizeOf f.type)) w (fun f b hb => by
            cases hs : sizeT P f.type with
            | none => rw [hs] at hb; cases hb
            | some k =>
              rw [hs] at hb
              simp at hb
              subst hb
              rw [sem_bind (run_sizeT hs w)]
              rfl) fs.toList pl hm
          rw [Array.mapM_eq_mapM_toList]
          rw [sem_bind (a := pl.toArray) (w' := w)]
          · have e1 : (fun i : Nat => pl.toArray[i]?) = (fun i : Nat => pl[i]?) := by funext i; simp
            simp only [e1, h]
            rfl
          · rw [← bind_pure_comp]
            rw [sem_bind hr]
            rfl
      | array _ e =>
        simp only at h ⊢
        cases hs : sizeT P e with
        | none => rw [hs] at h; cases h
        | some k =>
          rw [hs] at h
          simp only [Option.bind_some] at h
          rw [sem_bind (run_sizeT hs w)]
          simp only [h]
          rfl
      | _ => cases h

theorem o_build {t : TypeId} {parts : Array (Nat × Operand)} (cs : List Value) (hw : Region.wanted ⟨some d, .build t parts, ty, p, af, g⟩ (yieldedE ops n s) = true) (hb : buildC P t (parts.toList.map fun x => (x.1, rd n s x.2)) = some cs.toArray)
    (hk : OpsL P r n ops K X l (s.set d (.agg cs.toArray)) w) : OpsL P r n ops K X (⟨some d, .build t parts, ty, p, af, g⟩ :: l) s w := by
  refine o_pur hw (fun w => ?_) hk
  rw [Oper.semAt_eq _ _ _ (fun c e => by cases e)]
  simp only [execOp]
  have h2 : (parts.map fun (i, x) => (i, rd n s x)).toList = parts.toList.map fun x => (x.1, rd n s x.2) := by simp
  rw [sem_bind (run_build (P := P) (cs := cs.toArray) (by rw [h2]; exact hb) w)]
  rfl

/-- A slice literal: a new block. -/
def buildSC (P : Program) (e len : Nat) (parts : List (Nat × Value)) : Option (Array Value) :=
  (sizeT P e).bind fun k => (zeroC P e).bind fun z => if len * k > 2 ^ 24 ∨ len * k = 0 then none else Instr.fill (fun i => some (i * k, k)) ((Array.range (len * k)).map (z[· % z.size]!)) parts

theorem o_buildSlice {t e len : Nat} {parts : Array (Nat × Operand)} (hl : LH w0 M w bl) (cs : List Value) (hw : Region.wanted ⟨some d, .buildSlice t len parts, ty, p, af, g⟩ (yieldedE ops n s) = true) (hu : P.underlying t = some (.slice e)) (hb : buildSC P e len (parts.toList.map fun x => (x.1, rd n s x.2)) = some cs.toArray)
    (hk : ∀ b w', w0.heap.size ≤ b → LH w0 M w' ((b, .cells cs.toArray e (0, 0)) :: bl) → OpsL P r n ops K X l (s.set d (.slice (some ⟨b, 0, none⟩) len len)) w') : OpsL P r n ops K X (⟨some d, .buildSlice t len parts, ty, p, af, g⟩ :: l) s w := by
  refine o_val (w' := { w with heap := w.heap.push (.cells cs.toArray e) }) hw ?_ (hk w.heap.size _ hl.upd.size (hl.alloc _))
  rw [Oper.semAt_eq _ _ _ (fun c e => by cases e)]
  simp only [execOp]
  unfold buildSC at hb
  cases hs : sizeT P e with
  | none => rw [hs] at hb; cases hb
  | some k =>
    rw [hs] at hb
    simp only [Option.bind_some] at hb
    cases hz : zeroC P e with
    | none => rw [hz] at hb; cases hb
    | some z =>
      rw [hz] at hb
      simp only [Option.bind_some] at hb
      split at hb
      · cases hb
      · rename_i hsz
        obtain ⟨zv, hz1, rfl⟩ := run_zeroValue hz w
        rw [sem_bind (a := .slice (some ⟨w.heap.size, 0, none⟩) len len) (w' := { w with heap := w.heap.push (.cells cs.toArray e) })]
        · rfl
        · unfold Instr.buildSlice
          rw [sem_bind (run_underlying' hu w)]
          simp only
          rw [sem_bind (run_sizeT hs w)]
          have h1 : ¬ len * k > 2 ^ 24 := fun h => hsz (.inl h)
          have h2 : ¬ len * k = 0 := fun h => hsz (.inr h)
          simp only [h1, h2, if_false]
          rw [sem_bind hz1, sem_bind (a := zv.cells) (w' := w) rfl]
          have h3 : (parts.map fun (i, x) => (i, rd n s x)).toList = parts.toList.map fun x => (x.1, rd n s x.2) := by simp
          simp only [h3, hb]
          simp [newRow, newObj, bind, Sem.bind, Sem.run, pure]

/-! ### append -/

/-- A slice that the call itself makes grow: its elements' cells xs, its block (if any) listed in acc. -/
def Acc (v : Value) (k : Nat) (E : TypeId) (m : Nat) (xs : List Value) (acc : List (Nat × Obj)) : Prop :=
  xs.length = m * k ∧ ((v = .slice none 0 0 ∧ m = 0 ∧ acc = []) ∨
    ∃ b cap cur, v = .slice (some ⟨b, 0, none⟩) m cap ∧ acc = [(b, .cells cur E (0, 0))] ∧ m ≤ cap ∧ cap ≤ maxLen ∧ cur.size = cap * k ∧ cur.toList.take (m * k) = xs)

theorem Acc.nil (k : Nat) (E : TypeId) : Acc (.slice none 0 0) k E 0 [] [] := ⟨by simp, .inl ⟨rfl, rfl, rfl⟩⟩

theorem Acc.shape {v : Value} {k m : Nat} {E : TypeId} {xs : List Value} {acc : List (Nat × Obj)} (h : Acc v k E m xs acc) : ∃ a c, v = .slice a m c := by
  rcases h.2 with ⟨rfl, rfl, -⟩ | ⟨b, cap, cur, rfl, -⟩
  · exact ⟨_, _, rfl⟩
  · exact ⟨_, _, rfl⟩

theorem LH.acc_sl {l acc : List (Nat × Obj)} (h : LH w0 M w (l ++ acc)) {v : Value} {k m : Nat} {E : TypeId} {xs : List Value} (ha : Acc v k E m xs acc) : Sl w v k xs := by
  rcases ha.2 with ⟨rfl, rfl, rfl⟩ | ⟨b, cap, cur, rfl, rfl, h1, h2, h3, h4⟩
  · exact .inl ⟨rfl, List.eq_nil_of_length_eq_zero (by simpa using ha.1)⟩
  · refine .inr ⟨b, 0, m, cap, rfl, ha.1, h1, ?_⟩
    have hb : w.heap[b]? = some (.cells cur E (0, 0)) := h.own (b, .cells cur E (0, 0)) (by simp)
    refine Row.of_block hb fun i u hi => ?_
    rw [← h4, List.getElem?_take] at hi
    split at hi
    · simpa using hi
    · cases hi

theorem LH.left {l acc : List (Nat × Obj)} (h : LH w0 M w (l ++ acc)) : LH w0 M w l := h.sub (List.sublist_append_left _ _)

/-- A new block, behind the others. -/
theorem LH.alloc_right {l : List (Nat × Obj)} {w' : World} {o : Obj} (h : LH w0 M w l) (hh : To w w' (w.heap.push o)) : LH w0 M w' (l ++ [(w.heap.size, o)]) :=
  ((h.alloc o).heap hh).perm (by simpa using (List.perm_append_singleton (w.heap.size, o) l).symm)

theorem run_append {l acc : List (Nat × Obj)} {t ty' E : TypeId} {inf : TypeInfo} {z : Value} {k bytes m q c : Nat} {v : Value} {xs us : List Value} {b o : Nat} (h : LH w0 M w (l ++ acc)) (ha : Acc v k E m xs acc) (ht : P.underlying t = some (.slice E)) (hi : P.info? E = some inf) (hz : inf.zero = some z)
    (hsize : inf.size = k) (hby : inf.bytes = bytes) (hzs : z.cells.size = k) (hul : us.length = q * k) (hu : Row w b o us) (h1 : us.all Value.oneCell' = true) (hb : (m + q) * bytes ≤ 140737488355328) (hm : m + q ≤ 9223372036854775807) (hq : 0 < q) :
    ∃ v' w' acc', (Builtin.append_ #[t, t] ty' #[v, .slice (some ⟨b, o, none⟩) q c]).run P w = .ok v' w' ∧ LH w0 M w' (l ++ acc') ∧ Acc v' k E (m + q) (xs ++ us) acc' := by
  have hnews : ∀ j u, us[j]? = some u → w.cell? ((⟨b, o, none⟩ : Addr).add j) = some u := fun j u hj => by rw [add_mk]; exact hu j u hj
  have hlen : (xs ++ us).length = (m + q) * k := by rw [List.length_append, ha.1, hul, Nat.add_mul]
  subst hsize hby
  rcases ha.2 with ⟨rfl, rfl, rfl⟩ | ⟨b', cap, cur, rfl, rfl, h2, h3, h4, h5⟩
  · have hx : xs = [] := List.eq_nil_of_length_eq_zero (by simpa using ha.1)
    subst hx
    have hr := run_append_nil (P := P) w t ty' E inf z ht hi hz ⟨b, o, none⟩ q c us hul hnews hq (by omega) (by simp only [Nat.zero_add] at hb; omega)
    refine ⟨_, _, [(w.heap.size, _)], hr, h.left.alloc_right ⟨rfl, rfl, rfl⟩, hlen, .inr ⟨w.heap.size, _, _, by rw [Nat.zero_add], rfl, ?_, ?_, ?_, ?_⟩⟩
    · rw [Nat.zero_add]; exact grownCap_ge w q 0 E
    · exact grownCap_le_maxLen w q 0 E (by simp only [maxLen]; omega)
    · have := grownCap_ge w q 0 E
      simp only [Array.size_append, List.size_toArray, size_zeroCells, hzs, hul, ← Nat.add_mul]
      congr 1; omega
    · simp only [Nat.zero_add, List.nil_append, Array.toList_append, ← hul]
      exact List.take_left
  · have hbk : w.heap[b']? = some (.cells cur E (0, 0)) := h.own (b', .cells cur E (0, 0)) (by simp)
    by_cases hroom : m + q ≤ cap
    · have hfit : m * inf.size + us.length ≤ cur.size := by rw [hul, h4, ← Nat.add_mul]; exact Nat.mul_le_mul_right _ hroom
      have hr := run_append_room (P := P) w t ty' E inf ht hi b' m cap cur hbk ⟨b, o, none⟩ q c us hul hnews (by simpa using h1) hroom hfit
      have hidx : (l ++ [(b', Obj.cells cur E (0, 0))])[l.length]? = some (b', .cells cur E (0, 0)) := by simp
      have hp := h.put (w' := w.setRow b' (cur.toList.take (m * inf.size) ++ us ++ cur.toList.drop (m * inf.size + us.length)).toArray) l.length (o' := .cells (cur.toList.take (m * inf.size) ++ us ++ cur.toList.drop (m * inf.size + us.length)).toArray E (0, 0)) hidx (by
        refine ⟨?_, rfl, rfl⟩
        unfold World.setRow
        simp only
        apply Array.ext_getElem?
        intro k'
        rw [Array.getElem?_modify, Array.getElem?_setIfInBounds]
        have hlt : b' < w.heap.size := (Array.getElem?_eq_some_iff.1 hbk).1
        split
        · rename_i hk'; subst hk'; rw [hbk]; simp [hlt]
        · rfl)
      rw [List.set_append_right _ _ (Nat.le_refl _), Nat.sub_self, List.set_cons_zero] at hp
      refine ⟨_, _, _, hr, hp, hlen, .inr ⟨b', cap, _, rfl, rfl, hroom, h3, ?_, ?_⟩⟩
      · simp only [List.size_toArray, List.length_append, List.length_take, List.length_drop, Array.length_toList]
        omega
      · rw [h5, ← hlen]
        exact List.take_left
    · have holds : ∀ j u, xs[j]? = some u → w.cell? ((⟨b', 0, none⟩ : Addr).add j) = some u := fun j u hj => by
        rw [add_mk]
        refine cell_of_block hbk ?_
        rw [← h5, List.getElem?_take] at hj
        split at hj
        · simpa using hj
        · cases hj
      have hr := run_append_grow (P := P) w t ty' E inf z ht hi hz ⟨b', 0, none⟩ m cap xs ha.1 holds ⟨b, o, none⟩ q c us hul hnews (by omega) (by omega) (growslice_fits (by omega) hb)
      refine ⟨_, _, [(w.heap.size, _)], hr, h.left.alloc_right ⟨rfl, rfl, rfl⟩, hlen, .inr ⟨w.heap.size, _, _, rfl, rfl, grownCap_ge w (m + q) cap E, grownCap_le_maxLen w (m + q) cap E (by simp only [maxLen]; omega), ?_, ?_⟩⟩
      · have := grownCap_ge w (m + q) cap E
        simp only [Array.size_append, List.size_toArray, size_zeroCells, hzs, ha.1, hul, ← Nat.add_mul]
        congr 1; omega
      · simp only [Array.toList_append]
        rw [← hlen]
        exact List.take_left

def infoT (P : Program) (E : TypeId) : Option (Nat × Nat × Nat) := (P.info? E).bind fun i => i.zero.map fun z => (i.size, i.bytes, z.cells.size)

theorem infoT_some {E k bytes zs : Nat} (h : infoT P E = some (k, bytes, zs)) : ∃ inf z, P.info? E = some inf ∧ inf.zero = some z ∧ inf.size = k ∧ inf.bytes = bytes ∧ z.cells.size = zs := by
  unfold infoT at h
  cases hi : P.info? E with
  | none => rw [hi] at h; cases h
  | some i =>
    rw [hi] at h
    simp only [Option.bind_some] at h
    cases hz : i.zero with
    | none => rw [hz] at h; cases h
    | some z =>
      rw [hz] at h
      simp only [Option.map_some, Option.some.injEq, Prod.mk.injEq] at h
      exact ⟨i, z, rfl, hz, h.1, h.2.1, h.2.2⟩

theorem o_append {t E k bytes m q c b o : Nat} {x y : Operand} {v : Value} {xs us : List Value} {bl' acc : List (Nat × Obj)} (hl : LH w0 M w (bl' ++ acc)) (ha : Acc v k E m xs acc) (hu : Row w b o us) (hul : us.length = q * k) (h1 : us.all Value.oneCell' = true) (hq : 0 < q)
    (hb : (m + q) * bytes ≤ 140737488355328) (hm : m + q ≤ 9223372036854775807) (hw : Region.wanted ⟨some d, .call ⟨.builtin .append, #[x, y], #[t, t]⟩, ty, p, af, g⟩ (yieldedE ops n s) = true) (ht : P.underlying t = some (.slice E)) (hi : infoT P E = some (k, bytes, k))
    (hx : rd n s x = v) (hy : rd n s y = .slice (some ⟨b, o, none⟩) q c)
    (hk : ∀ v' w' acc', LH w0 M w' (bl' ++ acc') → Acc v' k E (m + q) (xs ++ us) acc' → OpsL P r n ops K X l (s.set d v') w') : OpsL P r n ops K X (⟨some d, .call ⟨.builtin .append, #[x, y], #[t, t]⟩, ty, p, af, g⟩ :: l) s w := by
  obtain ⟨inf, z, hi1, hz, hs1, hs2, hs3⟩ := infoT_some hi
  obtain ⟨v', w', acc', hr, hl', ha'⟩ := run_append (P := P) (ty' := ty) hl ha ht hi1 hz hs1 hs2 hs3 hul hu h1 hb hm hq (c := c)
  refine o_val (w' := w') hw ?_ (hk v' w' acc' hl' ha')
  rw [Oper.semAt_eq _ _ _ (fun c e => by cases e)]
  simp only [execOp, resolve, List.map_toArray, List.map_cons, List.map_nil, hx, hy]
  rw [sem_bind (w' := w) rfl]
  simp only [invoke, builtin]
  rw [sem_bind hr]
  rfl
end
end Go.Pd
