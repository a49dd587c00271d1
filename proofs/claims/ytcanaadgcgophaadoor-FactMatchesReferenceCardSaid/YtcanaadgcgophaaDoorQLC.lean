/-
  Regions that draw their order, with pure followers behind the tail.
-/
import Derived.Test.YtcanaadgcgophaaDoorQLB
set_option linter.unusedSimpArgs false
set_option linter.unnecessarySimpa false
set_option maxRecDepth 10000
set_option linter.unusedVariables false
namespace Go.Pd
variable {P : Program} {r : Option Nat} {n : Nat}
section
variable {ops : Array Oper} {H E T B : List Nat} {K : St → World → Prop} {X : List PanicEntry → St → World → Prop} {C C2 : World → Prop}

end
end Go.Pd

/-
  Maps: made, looked up, updated, deleted from, counted.
-/
set_option linter.unusedSimpArgs false
set_option linter.unnecessarySimpa false
set_option maxRecDepth 10000
set_option linter.unusedVariables false
set_option linter.unusedSectionVars false
namespace Go.Pd
variable {P : Program} {r : Option Nat} {n : Nat}

structure Key (P : Program) (kt : TypeId) {α : Type} [DecidableEq α] (f : α → Value) : Prop where
  chk : ∀ (e : Bool) (a : α) (w : World), (Instr.checkKey e 10000 kt (f a)).run P w = .ok () w
  eql : ∀ (a b : α) (w : World), (Op.equal kt (f a) (f b)).run P w = .ok (decide (a = b)) w
  now : ∀ (a b : α) (u : TypeDesc), P.underlying kt = some u → ∀ x, Instr.sameNow u (f a) (f b) = some x → x = decide (a = b)
  same : ∀ a, Instr.sameBits 10000 (f a) (f a) = true
  und : ∃ u, P.underlying kt = some u

section
variable {α : Type} [DecidableEq α] {f : α → Value}

def assocIdx : List (α × Value) → α → Nat → Option (Nat × Value)
  | [], _, _ => none
  | (b, v) :: l, a, i => if a = b then some (i, v) else assocIdx l a (i + 1)

def get : List (α × Value) → α → Option Value
  | [], _ => none
  | (b, v) :: l, a => if a = b then some v else get l a

def ins : List (α × Value) → α → Value → List (α × Value)
  | [], a, v => [(a, v)]
  | (b, u) :: l, a, v => if a = b then (b, v) :: l else (b, u) :: ins l a v

def del : List (α × Value) → α → List (α × Value)
  | [], _ => []
  | (b, u) :: l, a => if a = b then l else (b, u) :: del l a

theorem get_assoc : ∀ (l : List (α × Value)) (a : α) (i : Nat), (assocIdx l a i).map (·.2) = get l a
  | [], _, _ => rfl
  | (b, v) :: l, a, i => by
    simp only [assocIdx, get]
    split
    · rfl
    · exact get_assoc l a (i + 1)

theorem get_ins : ∀ (l : List (α × Value)) (a : α) (v : Value) (c : α), get (ins l a v) c = if c = a then some v else get l c
  | [], a, v, c => by simp [ins, get]
  | (b, u) :: l, a, v, c => by
    simp only [ins]
    by_cases h : a = b
    · subst h
      rw [if_pos rfl]
      simp only [get]
      by_cases h2 : c = a
      · simp [h2]
      · simp [h2]
    · rw [if_neg h]
      simp only [get]
      rw [get_ins l a v c]
      by_cases h2 : c = b
      · subst h2
        simp [Ne.symm h]
      · simp [h2]

theorem keys_ins (l : List (α × Value)) (a : α) (v : Value) : (ins l a v).map (·.1) = if a ∈ l.map (·.1) then l.map (·.1) else l.map (·.1) ++ [a] := by
  induction l with
  | nil => simp [ins]
  | cons p l ih =>
    obtain ⟨b, u⟩ := p
    simp only [ins]
    by_cases h : a = b
    · subst h; simp
    · rw [if_neg h]
      simp only [List.map_cons, ih, List.mem_cons, h, false_or]
      split <;> simp

theorem nodup_ins {l : List (α × Value)} (h : (l.map (·.1)).Nodup) (a : α) (v : Value) : ((ins l a v).map (·.1)).Nodup := by
  rw [keys_ins]
  split
  · exact h
  · rename_i hn
    rw [List.nodup_append]
    refine ⟨h, by simp, ?_⟩
    intro x hx y hy
    simp at hy
    subst hy
    exact fun e => hn (e ▸ hx)

theorem get_mem : ∀ (l : List (α × Value)) (a : α), get l a = none ↔ a ∉ l.map (·.1)
  | [], a => by simp [get]
  | (b, v) :: l, a => by
    simp only [get, List.map_cons, List.mem_cons, not_or]
    split
    · rename_i h; simp [h]
    · rename_i h
      rw [get_mem l a]
      simp [h]

theorem del_sub : ∀ (l : List (α × Value)) (a : α), (del l a).Sublist l
  | [], _ => .slnil
  | (b, u) :: l, a => by
    simp only [del]
    split
    · exact List.sublist_cons_self _ _
    · exact (del_sub l a).cons_cons _

structure MapR (f : α → Value) (es : Array MapEntry) (l : List (α × Value)) : Prop where
  eq : es.toList.map (fun e => (e.key, e.val)) = l.map (fun p => (f p.1, p.2))
  nd : (l.map (·.1)).Nodup

theorem MapR.nil : MapR f #[] [] := ⟨rfl, List.nodup_nil⟩
theorem MapR.size {es : Array MapEntry} {l : List (α × Value)} (h : MapR f es l) : es.size = l.length := by
  have := congrArg List.length h.eq
  simpa using this

theorem run_findAsking {kt : TypeId} (hk : Key P kt f) (a : α) (w : World) : ∀ (es : List MapEntry) (l : List (α × Value)) (i : Nat), es.map (fun e => (e.key, e.val)) = l.map (fun p => (f p.1, p.2)) →
    (Instr.findAsking kt (f a) es i).run P w = .ok (assocIdx l a i) w
  | [], [], i, _ => rfl
  | e :: es, (b, v) :: l, i, h => by
    simp only [List.map_cons, List.cons.injEq, Prod.mk.injEq] at h
    obtain ⟨⟨h1, h2⟩, h3⟩ := h
    simp only [Instr.findAsking, assocIdx]
    rw [h1, sem_bind (hk.eql a b w), h2]
    by_cases hab : a = b
    · simp [hab, pure, Sem.run]
    · simp [hab]
      exact run_findAsking hk a w es l (i + 1) h3
  | [], _ :: _, _, h => by simp at h
  | _ :: _, [], _, h => by simp at h

theorem findNow_some {kt : TypeId} {u : TypeDesc} (hk : Key P kt f) (hu : P.underlying kt = some u) (a : α) : ∀ (es : List MapEntry) (l : List (α × Value)) (i : Nat), es.map (fun e => (e.key, e.val)) = l.map (fun p => (f p.1, p.2)) →
    ∀ x, Instr.findNow u (f a) es i = some x → x = assocIdx l a i
  | [], [], i, _, x, hx => by simp [Instr.findNow] at hx; exact hx ▸ rfl
  | e :: es, (b, v) :: l, i, h, x, hx => by
    simp only [List.map_cons, List.cons.injEq, Prod.mk.injEq] at h
    obtain ⟨⟨h1, h2⟩, h3⟩ := h
    simp only [Instr.findNow, h1] at hx
    simp only [assocIdx]
    cases hs : Instr.sameNow u (f a) (f b) with
    | none => rw [hs] at hx; cases hx
    | some y =>
      rw [hs] at hx
      have hy := hk.now a b u hu y hs
      by_cases hab : a = b
      · rw [decide_eq_true hab] at hy
        subst hy
        simp only [Option.some.injEq] at hx
        rw [if_pos hab, ← h2]; exact hx.symm
      · rw [decide_eq_false hab] at hy
        subst hy
        rw [if_neg hab]
        exact findNow_some hk hu a es l (i + 1) h3 x hx
  | [], _ :: _, _, h, _, _ => by simp at h
  | _ :: _, [], _, h, _, _ => by simp at h

theorem run_findKey {kt : TypeId} (hk : Key P kt f) {es : Array MapEntry} {l : List (α × Value)} (hm : MapR f es l) (a : α) (w : World) : (Instr.findKey kt (f a) es.toList).run P w = .ok (assocIdx l a 0) w := by
  obtain ⟨u, hu⟩ := hk.und
  unfold Instr.findKey
  rw [sem_bind (run_underlying' hu w)]
  cases hf : Instr.findNow u (f a) es.toList 0 with
  | some x =>
    have := findNow_some hk hu a es.toList l 0 hm.eq x hf
    subst this
    rfl
  | none => exact run_findAsking hk a w es.toList l 0 hm.eq

def zeroV (P : Program) (t : TypeId) : Option Value := (P.info? t).bind (·.zero)

theorem run_zeroV {t : TypeId} {z : Value} (h : zeroV P t = some z) (w : World) : (zeroValue t).run P w = .ok z w := by
  unfold zeroV at h
  cases hi : P.info? t with
  | none => rw [hi] at h; cases h
  | some i =>
    rw [hi] at h
    simp only [Option.bind_some] at h
    simp [zeroValue, typeInfo, program, bind, Sem.bind, Sem.run, pure, hi, h]

theorem run_getObj' {w : World} {b : Nat} {es : Array MapEntry} {c : Nat} (h : w.heap[b]? = some (.map es c)) : (getObj b).run P w = .ok (.map es c) w := by
  simp [getObj, Sem.run, h]

theorem run_lookup {mt kt et : TypeId} {b : Nat} {es : Array MapEntry} {c : Nat} {l : List (α × Value)} {a : α} {z : Value} {ok : Bool} {w : World} (hu : P.underlying mt = some (.map kt et)) (hk : Key P kt f) (hm : MapR f es l) (hz : zeroV P et = some z) (hb : w.heap[b]? = some (.map es c)) :
    (Instr.lookup mt (.map (some b)) (f a) ok).run P w = .ok (if ok then .tuple #[(get l a).getD z, .bool (get l a).isSome] else (get l a).getD z) w := by
  have hg := get_assoc l a 0
  have hfind := run_findKey hk hm a w
  unfold Instr.lookup
  rw [sem_bind (run_underlying' hu w)]
  simp only
  rw [sem_bind (run_getObj' hb)]
  simp only
  rw [sem_bind (a := es) (w' := w) rfl]
  rw [sem_bind (hk.chk _ a w), sem_bind hfind]
  cases hx : assocIdx l a 0 with
  | none =>
    rw [hx] at hg
    rw [← hg]
    simp only
    rw [sem_bind (run_zeroV hz w)]
    rw [sem_bind (a := (z, false)) (w' := w) rfl]
    cases ok <;> rfl
  | some p =>
    rw [hx] at hg
    rw [← hg]
    obtain ⟨j, u⟩ := p
    simp only
    rw [sem_bind (a := (u, true)) (w' := w) rfl]
    cases ok <;> rfl

theorem assocIdx_at : ∀ (l : List (α × Value)) (a : α) (i j : Nat) (v : Value), assocIdx l a i = some (j, v) → ∃ k, j = i + k ∧ l[k]? = some (a, v) ∧ ∀ u, ins l a u = l.set k (a, u) ∧ del l a = l.eraseIdx k
  | [], a, i, j, v, h => by simp [assocIdx] at h
  | (b, u) :: l, a, i, j, v, h => by
    simp only [assocIdx] at h
    by_cases hab : a = b
    · subst hab
      rw [if_pos rfl] at h
      simp only [Option.some.injEq, Prod.mk.injEq] at h
      obtain ⟨rfl, rfl⟩ := h
      exact ⟨0, rfl, rfl, fun u => ⟨by simp [ins], by simp [del]⟩⟩
    · rw [if_neg hab] at h
      obtain ⟨k, h1, h2, h3⟩ := assocIdx_at l a (i + 1) j v h
      exact ⟨k + 1, by omega, by simpa using h2, fun u => ⟨by simp [ins, hab, (h3 u).1], by simp [del, hab, (h3 u).2]⟩⟩

theorem ins_new : ∀ (l : List (α × Value)) (a : α) (i : Nat), assocIdx l a i = none → ∀ v, ins l a v = l ++ [(a, v)] ∧ del l a = l
  | [], a, i, _, v => ⟨rfl, rfl⟩
  | (b, u) :: l, a, i, h, v => by
    simp only [assocIdx] at h
    by_cases hab : a = b
    · rw [if_pos hab] at h; cases h
    · rw [if_neg hab] at h
      have := ins_new l a (i + 1) h v
      simp [ins, del, hab, this.1, this.2]

theorem run_setObj' {w : World} {b : Nat} {es : Array MapEntry} {c : Nat} (o : Obj) (h : w.heap[b]? = some (.map es c)) : (setObj b o).run P w = .ok () (w.putObj b o) := by
  simp [setObj, Sem.run, h, World.putObj]

theorem run_mapUpdate {mt kt et : TypeId} {b : Nat} {es : Array MapEntry} {c : Nat} {l : List (α × Value)} {a : α} {v : Value} {w : World} (hu : P.underlying mt = some (.map kt et)) (hk : Key P kt f) (hm : MapR f es l) (hb : w.heap[b]? = some (.map es c)) :
    ∃ es' c', (Instr.mapUpdate mt (.map (some b)) (f a) v).run P w = .ok () (w.putObj b (.map es' c')) ∧ MapR f es' (ins l a v) := by
  have hfind := run_findKey hk hm a w
  cases hx : assocIdx l a 0 with
  | none =>
    rw [hx] at hfind
    refine ⟨es.push { key := f a, val := v, born := c }, c + 1, ?_, ?_, nodup_ins hm.nd a v⟩
    · unfold Instr.mapUpdate
      rw [sem_bind (run_underlying' hu w)]
      simp only
      rw [sem_bind (run_getObj' hb)]
      simp only
      rw [sem_bind (hk.chk _ a w), sem_bind hfind]
      exact run_setObj' _ hb
    · rw [(ins_new l a 0 hx v).1]
      simp [hm.eq]
  | some p =>
    obtain ⟨j, u⟩ := p
    rw [hx] at hfind
    obtain ⟨k, hk1, hk2, hk3⟩ := assocIdx_at l a 0 j u hx
    have hj : j = k := by omega
    subst hj
    have hlen := hm.size
    have hjl : j < l.length := (List.getElem?_eq_some_iff.1 hk2).1
    have hje : j < es.size := by omega
    have hkey : es[j].key = f a := by
      have := congrArg (fun x => x[j]?) hm.eq
      simp [hje, hk2] at this
      exact this.1
    refine ⟨es.modify j fun e => { e with key := f a, val := v }, c, ?_, ?_, nodup_ins hm.nd a v⟩
    · unfold Instr.mapUpdate
      rw [sem_bind (run_underlying' hu w)]
      simp only
      rw [sem_bind (run_getObj' hb)]
      simp only
      rw [sem_bind (hk.chk _ a w), sem_bind hfind]
      simp only
      have hks : (Instr.keyThatStays (((es[j]?).map (·.key)).getD (f a)) (f a)).run P w = .ok (f a) w := by
        have e1 : ((es[j]?).map (·.key)).getD (f a) = f a := by simp [hje, hkey]
        rw [e1]
        unfold Instr.keyThatStays
        rw [if_pos (hk.same a)]
        rfl
      rw [sem_bind hks]
      exact run_setObj' _ hb
    · rw [(hk3 v).1]
      apply List.ext_getElem?
      intro i
      have := congrArg (fun x => x[i]?) hm.eq
      simp only [List.getElem?_map] at this
      simp only [List.getElem?_map, Array.getElem?_toList, Array.getElem?_modify, List.getElem?_set]
      by_cases hi : j = i
      · subst hi
        simp [hje, hjl]
      · simp only [if_neg hi]
        simpa using this

section
variable {ops : Array Oper} {K : St → World → Prop} {X : List PanicEntry → St → World → Prop} {lo : List Oper} {s : St} {w w0 : World} {M : Nat → Prop} {bl : List (Nat × Obj)}
variable {d : Nat} {ty : TypeId} {p : String} {af : Array Edge} {g : Option (Nat × Bool)}

theorem r_lookup {mt kt et : TypeId} {x ix : Operand} {b : Nat} {es : Array MapEntry} {c : Nat} {l : List (α × Value)} {z : Value} {ok : Bool} (a : α) (hu : P.underlying mt = some (.map kt et)) (hk : Key P kt f) (hm : MapR f es l) (hz : zeroV P et = some z)
    (hx : rd n s x = .map (some b)) (hix : rd n s ix = f a) (hb : w.heap[b]? = some (.map es c)) : (Oper.semAt r (rd n s) ⟨some d, .lookup mt x ix ok, ty, p, af, g⟩).run P w = .ok (.value (if ok then .tuple #[(get l a).getD z, .bool (get l a).isSome] else (get l a).getD z)) w := by
  rw [Oper.semAt_eq _ _ _ (fun c e => by cases e)]
  simp only [execOp, hx, hix]
  rw [sem_bind (run_lookup hu hk hm hz hb)]
  rfl

theorem o_lookup {mt kt et : TypeId} {x ix : Operand} {b : Nat} {es : Array MapEntry} {c : Nat} {l : List (α × Value)} {z : Value} {ok : Bool} (a : α) (hm : MapR f es l) (hb : w.heap[b]? = some (.map es c)) (hk : Key P kt f) (hw : Region.wanted ⟨some d, .lookup mt x ix ok, ty, p, af, g⟩ (yieldedE ops n s) = true) (hu : P.underlying mt = some (.map kt et)) (hz : zeroV P et = some z)
    (hx : rd n s x = .map (some b)) (hix : rd n s ix = f a) (hkk : OpsL P r n ops K X lo (s.set d (if ok then .tuple #[(get l a).getD z, .bool (get l a).isSome] else (get l a).getD z)) w) : OpsL P r n ops K X (⟨some d, .lookup mt x ix ok, ty, p, af, g⟩ :: lo) s w :=
  o_val hw (r_lookup a hu hk hm hz hx hix hb) hkk

theorem o_mapUpdate {mt kt et : TypeId} {m kx x : Operand} {b : Nat} {es : Array MapEntry} {c : Nat} {l : List (α × Value)} {v : Value} (a : α) (hl : LH w0 M w bl) (i : Nat) (hi : bl[i]? = some (b, .map es c)) (hm : MapR f es l) (hk : Key P kt f) (hw : Region.wanted ⟨none, .mapUpdate mt m kx x, ty, p, af, g⟩ (yieldedE ops n s) = true) (hu : P.underlying mt = some (.map kt et))
    (hx : rd n s m = .map (some b)) (hix : rd n s kx = f a) (hv : rd n s x = v) (hkk : ∀ w' es' c', MapR f es' (ins l a v) → LH w0 M w' (bl.set i (b, .map es' c')) → OpsL P r n ops K X lo s w') : OpsL P r n ops K X (⟨none, .mapUpdate mt m kx x, ty, p, af, g⟩ :: lo) s w := by
  obtain ⟨es', c', hr, hm'⟩ := run_mapUpdate (P := P) (a := a) (v := v) hu hk hm (hl.get i hi)
  refine o_unit (w' := w.putObj b (.map es' c')) hw ?_ (hkk _ es' c' hm' (hl.put i hi ⟨rfl, rfl, rfl⟩))
  rw [Oper.semAt_eq _ _ _ (fun c e => by cases e)]
  simp only [execOp, hx, hix, hv]
  rw [sem_bind hr]
  rfl

theorem o_makeMap {t : TypeId} (hl : LH w0 M w bl) (hw : Region.wanted ⟨some d, .makeMap t none, ty, p, af, g⟩ (yieldedE ops n s) = true)
    (hk : ∀ b w', w0.heap.size ≤ b → LH w0 M w' ((b, .map #[] 0) :: bl) → OpsL P r n ops K X lo (s.set d (.map (some b))) w') : OpsL P r n ops K X (⟨some d, .makeMap t none, ty, p, af, g⟩ :: lo) s w := by
  refine o_val (w' := { w with heap := w.heap.push (.map #[] 0) }) hw ?_ (hk w.heap.size _ hl.upd.size (hl.alloc _))
  rw [Oper.semAt_eq _ _ _ (fun c e => by cases e)]
  simp only [execOp, Option.map_none]
  rfl

theorem r_lenm {at_ : Array TypeId} {x : Operand} {kt et : TypeId} {b : Nat} {es : Array MapEntry} {c : Nat} {l : List (α × Value)} (hm : MapR f es l) (hb : w.heap[b]? = some (.map es c)) (hu : (at_[0]?).bind P.underlying = some (.map kt et)) (hx : rd n s x = .map (some b)) :
    (Oper.semAt r (rd n s) ⟨some d, .call ⟨.builtin .len, #[x], at_⟩, ty, p, af, g⟩).run P w = .ok (.value (.int .i64 (l.length : Int))) w := by
  rw [Oper.semAt_eq _ _ _ (fun c e => by cases e)]
  cases ha : at_[0]? with
  | none => rw [ha] at hu; cases hu
  | some t =>
    rw [ha] at hu
    simp only [Option.bind_some] at hu
    simp only [execOp, resolve, List.map_toArray, List.map_cons, List.map_nil, hx]
    rw [sem_bind (w' := w) rfl]
    simp only [invoke, builtin, Builtin.len_, ha]
    have h2 : (do
        let .map entries _ ← getObj b | stuck "len: map expected"
        pure (goInt entries.size) : Sem Value).run P w = .ok (goInt (l.length : Int)) w := by
      rw [sem_bind (run_getObj' hb)]
      simp [pure, Sem.run, hm.size]
    rw [sem_bind (a := goInt (l.length : Int)) (w' := w)]
    · rfl
    · show ((underlying t) >>= _).run P w = _
      rw [sem_bind (run_underlying' hu w)]
      exact h2

theorem o_lenm {at_ : Array TypeId} {x : Operand} {kt et : TypeId} {b : Nat} {es : Array MapEntry} {c : Nat} {l : List (α × Value)} (hm : MapR f es l) (hb : w.heap[b]? = some (.map es c)) (hw : Region.wanted ⟨some d, .call ⟨.builtin .len, #[x], at_⟩, ty, p, af, g⟩ (yieldedE ops n s) = true) (hu : (at_[0]?).bind P.underlying = some (.map kt et)) (hx : rd n s x = .map (some b))
    (hkk : OpsL P r n ops K X lo (s.set d (.int .i64 (l.length : Int))) w) : OpsL P r n ops K X (⟨some d, .call ⟨.builtin .len, #[x], at_⟩, ty, p, af, g⟩ :: lo) s w :=
  o_val hw (r_lenm hm hb hu hx) hkk

theorem run_delete {at_ : Array TypeId} {mt ty' kt et : TypeId} {b : Nat} {es : Array MapEntry} {c : Nat} {l : List (α × Value)} {a : α} {w : World} (ht : at_[0]? = some mt) (hu : P.underlying mt = some (.map kt et)) (hk : Key P kt f) (hm : MapR f es l) (hb : w.heap[b]? = some (.map es c)) :
    ∃ es', (Builtin.delete_ at_ ty' #[.map (some b), f a]).run P w = .ok (.tuple #[]) (w.putObj b (.map es' c)) ∧ MapR f es' (del l a) := by
  have hfind := run_findKey hk hm a w
  have hnd : ((del l a).map (·.1)).Nodup := ((del_sub l a).map _).nodup hm.nd
  cases hx : assocIdx l a 0 with
  | none =>
    rw [hx] at hfind
    refine ⟨es, ?_, ?_, hnd⟩
    · unfold Builtin.delete_
      have h0 : (#[Value.map (some b), f a] : Array Value)[0]? = some (.map (some b)) := rfl
      have h1 : (#[Value.map (some b), f a] : Array Value)[1]? = some (f a) := rfl
      simp only [ht, h0, h1]
      rw [sem_bind (run_underlying' hu w)]
      simp only
      rw [sem_bind (run_getObj' hb)]
      simp only
      rw [sem_bind (hk.chk _ a w), sem_bind hfind]
      simp only
      rw [sem_bind (run_setObj' _ hb)]
      rfl
    · rw [(ins_new l a 0 hx .nilIface).2]; exact hm.eq
  | some p =>
    obtain ⟨j, u⟩ := p
    rw [hx] at hfind
    obtain ⟨k, hk1, hk2, hk3⟩ := assocIdx_at l a 0 j u hx
    have hj : j = k := by omega
    subst hj
    have hlen := hm.size
    have hjl : j < l.length := (List.getElem?_eq_some_iff.1 hk2).1
    refine ⟨es.eraseIdxIfInBounds j, ?_, ?_, hnd⟩
    · unfold Builtin.delete_
      have h0 : (#[Value.map (some b), f a] : Array Value)[0]? = some (.map (some b)) := rfl
      have h1 : (#[Value.map (some b), f a] : Array Value)[1]? = some (f a) := rfl
      simp only [ht, h0, h1]
      rw [sem_bind (run_underlying' hu w)]
      simp only
      rw [sem_bind (run_getObj' hb)]
      simp only
      rw [sem_bind (hk.chk _ a w), sem_bind hfind]
      simp only
      rw [sem_bind (run_setObj' _ hb)]
      rfl
    · rw [(hk3 .nilIface).2]
      have e1 : (es.eraseIdxIfInBounds j).toList = es.toList.eraseIdx j := by simp [Array.toList_eraseIdxIfInBounds]
      rw [e1]
      have e2 : ∀ {β γ : Type} (g : β → γ) (q : List β) (k : Nat), (q.eraseIdx k).map g = (q.map g).eraseIdx k := by
        intro β γ g q
        induction q with
        | nil => intro k; simp
        | cons x q ih =>
          intro k
          cases k with
          | zero => rfl
          | succ k => simp [ih k]
      rw [e2, e2, hm.eq]
end
end

/-! ### Keys -/

theorem key_str {kt : TypeId} (hu : P.underlying kt = some .string) : Key P kt str := by
  refine ⟨fun e a w => ?_, fun a b w => ?_, fun a b u hu' x hx => ?_, fun a => ?_, ⟨_, hu⟩⟩
  · rw [str_eq]
    show (Instr.checkKey e (9999 + 1) kt _).run P w = _
    unfold Instr.checkKey
    rw [sem_bind (run_underlying' hu w)]
    rfl
  · exact (Sc.str hu).run 9999 w
  · rw [hu] at hu'
    cases hu'
    simp only [str_eq, Instr.sameNow, Option.some.injEq] at hx
    rw [← hx, beq_toListBytes, toList_mk, toList_mk]
    by_cases h : a = b <;> simp [h]
  · rw [str_eq]
    show ((⟨a.toArray⟩ : ByteArray) == ⟨a.toArray⟩) = true
    rw [beq_toListBytes]
    simp
end Go.Pd

namespace Go.Pd
variable {P : Program}

end Go.Pd

/-
  Pointers and slices against nil; empty literals; append of whatever slice.
-/
set_option linter.unusedSimpArgs false
set_option linter.unnecessarySimpa false
set_option maxRecDepth 10000
set_option linter.unusedVariables false
namespace Go.Pd
variable {P : Program} {r : Option Nat} {n : Nat}

theorem run_equalS {t e : TypeId} {a : Option Addr} {m c : Nat} (hu : P.underlying t = some (.slice e)) (w : World) : (Op.equal t (.slice a m c) (.slice none 0 0)).run P w = .ok a.isNone w := by
  have h9 : Op.equal t (.slice a m c) (.slice none 0 0) = Op.equalIn (9999 + 1) t (.slice a m c) (.slice none 0 0) := rfl
  rw [h9, Op.equalIn, sem_bind (run_underlying' hu w)]
  cases a <;> rfl

section
variable {s : St} {w : World} {d : Nat} {ty : TypeId} {p : String} {af : Array Edge} {g : Option (Nat × Bool)}

theorem r_nil {bo : BinOp} {v : Value} {xt yt : TypeId} {x y : Operand} {b : Bool} (hb : bo = .eql ∨ bo = .neq) {u : Value} (hx : rd n s x = v) (hy : rd n s y = u) (hp : (∃ a, v = .pointer a) ∨ ∃ a m c, v = .slice a m c) (he : (Op.equal xt v u).run P w = .ok b w) :
    (Oper.semAt r (rd n s) ⟨some d, .binOp bo xt x y yt, ty, p, af, g⟩).run P w = .ok (.value (.bool (if bo = .eql then b else !b))) w := by
  rw [Oper.semAt_eq _ _ _ (fun c e => by cases e)]
  have h1 : (eqGuard bo xt x y v u).run P w = .ok () w := by
    rcases hb with rfl | rfl <;> rcases hp with ⟨a, rfl⟩ | ⟨a, m, c, rfl⟩ <;> rfl
  have h2 : (binOp bo xt v u).run P w = .ok (.bool (if bo = .eql then b else !b)) w := by
    rcases hb with rfl | rfl
    · have : binOp .eql xt v u = (do pure (Value.bool (← Op.equal xt v u)) : Sem Value) := by
        rcases hp with ⟨a, rfl⟩ | ⟨a, m, c, rfl⟩ <;> rfl
      rw [this, sem_bind he]
      rfl
    · have : binOp .neq xt v u = (do pure (Value.bool (!(← Op.equal xt v u))) : Sem Value) := by
        rcases hp with ⟨a, rfl⟩ | ⟨a, m, c, rfl⟩ <;> rfl
      rw [this, sem_bind he]
      rfl
  simp only [execOp, hx, hy]
  have h3 : (do eqGuard bo xt x y v u; binOp bo xt v u : Sem Value).run P w = .ok (.bool (if bo = .eql then b else !b)) w := by
    rw [sem_bind h1]; exact h2
  rw [sem_bind h3]
  rfl

theorem r_seq {xt yt e : TypeId} {x y : Operand} {a : Option Addr} {m c : Nat} (hx : rd n s x = .slice a m c) (hy : rd n s y = .slice none 0 0) (hu : P.underlying xt = some (.slice e)) :
    (Oper.semAt r (rd n s) ⟨some d, .binOp .eql xt x y yt, ty, p, af, g⟩).run P w = .ok (.value (.bool a.isNone)) w := r_nil (.inl rfl) hx hy (.inr ⟨_, _, _, rfl⟩) (run_equalS hu w)
variable {ops : Array Oper} {K : St → World → Prop} {X : List PanicEntry → St → World → Prop} {l : List Oper} {w0 : World} {M : Nat → Prop} {bl : List (Nat × Obj)}

theorem o_seq {xt yt e : TypeId} {x y : Operand} {a : Option Addr} {m c : Nat} (hw : Region.wanted ⟨some d, .binOp .eql xt x y yt, ty, p, af, g⟩ (yieldedE ops n s) = true) (hx : rd n s x = .slice a m c) (hy : rd n s y = .slice none 0 0) (hu : P.underlying xt = some (.slice e))
    (hk : OpsL P r n ops K X l (s.set d (.bool a.isNone)) w) : OpsL P r n ops K X (⟨some d, .binOp .eql xt x y yt, ty, p, af, g⟩ :: l) s w := o_pur hw (fun w => r_seq hx hy hu) hk
theorem o_buildSlice0 {t e k : Nat} (hl : LH w0 M w bl) (hw : Region.wanted ⟨some d, .buildSlice t 0 #[], ty, p, af, g⟩ (yieldedE ops n s) = true) (hu : P.underlying t = some (.slice e)) (hs : sizeT P e = some k)
    (hk : ∀ b w', w0.heap.size ≤ b → LH w0 M w' ((b, .cells #[] e (0, 0)) :: bl) → OpsL P r n ops K X l (s.set d (.slice (some ⟨b, 0, none⟩) 0 0)) w') : OpsL P r n ops K X (⟨some d, .buildSlice t 0 #[], ty, p, af, g⟩ :: l) s w := by
  refine o_val (w' := { w with heap := w.heap.push (.cells #[] e) }) hw ?_ (hk w.heap.size _ hl.upd.size (hl.alloc _))
  rw [Oper.semAt_eq _ _ _ (fun c e => by cases e)]
  simp only [execOp]
  rw [sem_bind (a := .slice (some ⟨w.heap.size, 0, none⟩) 0 0) (w' := { w with heap := w.heap.push (.cells #[] e) })]
  · rfl
  · unfold Instr.buildSlice
    rw [sem_bind (run_underlying' hu w)]
    simp only
    rw [sem_bind (run_sizeT hs w)]
    simp [newRow, newObj, Instr.fill, bind, Sem.bind, Sem.run, pure]
    have e0 : Array.range 0 = #[] := by apply Array.ext'; simp
    rw [e0, Array.map_empty]

theorem Acc.empty (k : Nat) (E : TypeId) (b : Nat) : Acc (.slice (some ⟨b, 0, none⟩) 0 0) k E 0 [] [(b, .cells #[] E (0, 0))] :=
  ⟨by simp, .inr ⟨b, 0, #[], rfl, rfl, Nat.le_refl _, Nat.zero_le _, by simp, by simp⟩⟩

theorem run_append0 {t ty' E k : TypeId} {base a : Option Addr} {m cap c : Nat} (ht : P.underlying t = some (.slice E)) (hs : sizeT P E = some k) (hm : m ≤ cap) (w : World) :
    (Builtin.append_ #[t, t] ty' #[.slice base m cap, .slice a 0 c]).run P w = .ok (.slice base m cap) w := by
  unfold Builtin.append_
  have h0 : (#[t, t] : Array TypeId)[0]? = some t := rfl
  have h1 : (#[t, t] : Array TypeId)[1]? = some t := rfl
  have h2 : (#[Value.slice base m cap, .slice a 0 c] : Array Value)[0]? = some (.slice base m cap) := rfl
  have h3 : (#[Value.slice base m cap, .slice a 0 c] : Array Value)[1]? = some (.slice a 0 c) := rfl
  simp only [h0, h1, h2, h3]
  rw [sem_bind (run_underlying' ht w)]
  simp only
  rw [sem_bind (run_sizeT hs w)]
  rw [sem_bind (run_underlying' ht w)]
  simp only
  rw [sem_bind (a := false) (w' := w) rfl]
  simp only [Bool.false_eq_true, if_false]
  rw [sem_bind (a := 0) (w' := w) rfl]
  have hfc : (Builtin.firstCells k 0 (.slice a 0 c)).run P w = .ok #[] w := by
    cases a with
    | none => rfl
    | some a => simp [Builtin.firstCells, loadCells, loadCellsFrom, pure, Sem.run]
  simp only [Nat.add_zero, if_pos hm, Bool.not_false, if_true]
  rw [sem_bind hfc]
  cases base with
  | none => rfl
  | some b => rfl

theorem o_appendS {t E k bytes m q : Nat} {x y : Operand} {v yv : Value} {xs us : List Value} {bl' acc : List (Nat × Obj)} (hl : LH w0 M w (bl' ++ acc)) (ha : Acc v k E m xs acc) (hu : Sl w yv k us) (hul : us.length = q * k) (hk0 : 0 < k) (h1 : us.all Value.oneCell' = true)
    (hb : (m + q) * bytes ≤ 140737488355328) (hm : m + q ≤ 9223372036854775807) (hw : Region.wanted ⟨some d, .call ⟨.builtin .append, #[x, y], #[t, t]⟩, ty, p, af, g⟩ (yieldedE ops n s) = true) (ht : P.underlying t = some (.slice E)) (hi : infoT P E = some (k, bytes, k)) (hs : sizeT P E = some k)
    (hx : rd n s x = v) (hy : rd n s y = yv)
    (hk : ∀ v' w' acc', LH w0 M w' (bl' ++ acc') → Acc v' k E (m + q) (xs ++ us) acc' → OpsL P r n ops K X l (s.set d v') w') : OpsL P r n ops K X (⟨some d, .call ⟨.builtin .append, #[x, y], #[t, t]⟩, ty, p, af, g⟩ :: l) s w := by
  by_cases hq : 0 < q
  · obtain ⟨b, o, c, rfl, -, hrow⟩ := hu.ne hul hk0 hq
    exact o_append hl ha hrow hul h1 hq hb hm hw ht hi hx hy hk
  · have hq0 : q = 0 := by omega
    subst hq0
    have hus : us = [] := List.eq_nil_of_length_eq_zero (by simpa using hul)
    subst hus
    obtain ⟨a, c, rfl, -⟩ := hu.shape hul hk0
    obtain ⟨base, cap, rfl⟩ := ha.shape
    have hcap : m ≤ cap := by
      rcases ha.2 with ⟨h, h2, -⟩ | ⟨b', cap', cur, h, -, h3, -⟩
      · omega
      · cases h; exact h3
    refine o_val (w' := w) hw ?_ (hk _ w acc hl (by rw [List.append_nil]; exact ha))
    rw [Oper.semAt_eq _ _ _ (fun c e => by cases e)]
    simp only [execOp, resolve, List.map_toArray, List.map_cons, List.map_nil, hx, hy]
    rw [sem_bind (w' := w) rfl]
    simp only [invoke, builtin]
    rw [sem_bind (run_append0 ht hs hcap w)]
    rfl
end
end Go.Pd

/-
  Comparisons of two truth values.
-/
set_option linter.unusedVariables false
set_option linter.unusedSimpArgs false
set_option linter.unnecessarySimpa false
set_option maxRecDepth 10000
namespace Go.Pd
open Go
variable {P : Program} {r : Option Nat} {n : Nat}
variable {s : St} {w : World} {d : Nat} {ty : TypeId} {p : String} {af : Array Edge} {g : Option (Nat × Bool)}

theorem run_equalB {t : TypeId} {a b : Bool} (hu : P.underlying t = some .bool) (w : World) : (Op.equal t (.bool a) (.bool b)).run P w = .ok (a == b) w := by
  have h9 : Op.equal t (.bool a) (.bool b) = Op.equalIn (9999 + 1) t (.bool a) (.bool b) := rfl
  rw [h9]
  exact (Sc.bool hu).run 9999 w

theorem r_eqB {xt yt : TypeId} {x y : Operand} {a b : Bool} (hx : rd n s x = .bool a) (hy : rd n s y = .bool b) (hu : P.underlying xt = some .bool) :
    (Oper.semAt r (rd n s) ⟨some d, .binOp .eql xt x y yt, ty, p, af, g⟩).run P w = .ok (.value (.bool (a == b))) w := by
  rw [Oper.semAt_eq _ _ _ (fun c e => by cases e)]
  have h1 : (eqGuard .eql xt x y (.bool a) (.bool b)).run P w = .ok () w := rfl
  have h2 : (binOp .eql xt (.bool a) (.bool b)).run P w = .ok (.bool (a == b)) w := by
    show (do pure (Value.bool (← Op.equal xt (.bool a) (.bool b))) : Sem Value).run P w = _
    rw [sem_bind (run_equalB hu w)]
    rfl
  simp only [execOp, hx, hy]
  have h3 : (do eqGuard .eql xt x y (.bool a) (.bool b); binOp .eql xt (.bool a) (.bool b) : Sem Value).run P w = .ok (.bool (a == b)) w := by
    rw [sem_bind h1]; exact h2
  rw [sem_bind h3]
  rfl

variable {ops : Array Oper} {K : St → World → Prop} {X : List PanicEntry → St → World → Prop} {l : List Oper}

end Go.Pd

/-
  Regions that draw their order, by stages: some operations, in a forced order, turn the world; every other one answers alike in each stage in which it may come.
-/
set_option linter.unusedSimpArgs false
set_option linter.unnecessarySimpa false
set_option maxRecDepth 10000
set_option linter.unusedVariables false
namespace Go.Pd
variable {P : Program} {r : Option Nat} {n : Nat}
section
variable {ops : Array Oper} {H T : List Nat} {K : St → World → Prop} {X : List PanicEntry → St → World → Prop} {C : Nat → World → Prop}

end

section
variable {ops : Array Oper} {T : List Nat} {C : Nat → World → Prop} {K : St → Prop} {i : Nat} {l : List Nat} {s : St} {k : Nat} {op : Op} {ty : TypeId} {p : String} {af : Array Edge} {g : Option (Nat × Bool)}

end
end Go.Pd

/-
  Regions that draw their order, with operations that turn the world in whatever order their edges let: a tree of the ways.
-/
set_option linter.unusedSimpArgs false
set_option linter.unnecessarySimpa false
set_option maxRecDepth 10000
set_option linter.unusedVariables false
namespace Go.Pd
variable {P : Program} {r : Option Nat} {n : Nat}
section
variable {ops : Array Oper} {H E T B : List Nat} {K : St → World → Prop} {X : List PanicEntry → St → World → Prop} {C C2 : World → Prop}

end
end Go.Pd
