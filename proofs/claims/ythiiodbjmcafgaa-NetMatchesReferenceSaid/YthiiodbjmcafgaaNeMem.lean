/-
  Memory of a network: slices that begin anywhere in their block, keys of two numbers, blocks singled out.
-/
import Derived.Test.YthiiodbjmcafgaaNP
import Derived.Test.YthiiodbjmcafgaaLD
import Derived.Deep.AppendSrc
set_option linter.unusedVariables false
set_option linter.unusedSimpArgs false
set_option linter.unnecessarySimpa false
set_option maxRecDepth 10000
set_option linter.unusedSectionVars false
namespace Go.Pd
variable {P : Program} {r : Option Nat} {n : Nat}

/-! ### Some of the blocks alone -/
abbrev In (l : List (Nat × Obj)) : Nat → Prop := fun b => b ∈ l.map (·.1)
abbrev Own (w : World) (l : List (Nat × Obj)) : Prop := LH w (In l) w l
theorem LH.owned {w0 w : World} {M : Nat → Prop} {l : List (Nat × Obj)} (h : LH w0 M w l) : Own w l := h.rb
/-- Some blocks were worked on alone: the others are as they were. -/
theorem LH.focus {w0 w w' : World} {M : Nat → Prop} {l l' rest : List (Nat × Obj)} (h : LH w0 M w (l ++ rest)) (h2 : LH w (In l) w' l') : LH w0 M w' (l' ++ rest) := by
  have hnd := h.nd
  rw [List.map_append, List.nodup_append] at hnd
  have hfr : ∀ k, In l k → w0.heap.size ≤ k ∨ M k := fun k hk => by
    obtain ⟨p, hp, rfl⟩ := List.mem_map.1 hk
    exact h.fresh p (List.mem_append_left _ hp)
  have hout : ∀ q ∈ rest, ¬ In l q.1 := fun q hq hi => hnd.2.2 _ hi _ (List.mem_map_of_mem hq) rfl
  refine ⟨h.upd.trans h2.upd fun k hk hM => ?_, fun p hp => ?_, fun p hp => ?_, ?_⟩
  · rcases hfr k hM with h3 | h3
    · omega
    · exact h3
  · rcases List.mem_append.1 hp with hp | hp
    · exact h2.own p hp
    · rw [h2.upd.same p.1 (h.lt (List.mem_append_right _ hp)) (hout p hp)]
      exact h.own p (List.mem_append_right _ hp)
  · rcases List.mem_append.1 hp with hp | hp
    · rcases h2.fresh p hp with h3 | h3
      · exact .inl (Nat.le_trans h.upd.size h3)
      · exact hfr _ h3
    · exact h.fresh p (List.mem_append_right _ hp)
  · rw [List.map_append, List.nodup_append]
    refine ⟨h2.nd, hnd.2.1, fun a ha b hb hab => ?_⟩
    obtain ⟨p, hp, rfl⟩ := List.mem_map.1 ha
    obtain ⟨q, hq, rfl⟩ := List.mem_map.1 hb
    rcases h2.fresh p hp with h3 | h3
    · have := h.lt (List.mem_append_right l hq)
      omega
    · rw [hab] at h3
      exact hout q hq h3
theorem Own.part {w : World} {l rest : List (Nat × Obj)} (h : Own w (l ++ rest)) : Own w l := (h.sub (List.sublist_append_left _ _)).owned
theorem Own.perm {w : World} {l l' : List (Nat × Obj)} (h : Own w l) (hp : l.Perm l') : Own w l' := (LH.perm h hp).owned

/-! ### What is read and never written -/
/-- A slice whose block, if it has elements, is none of those. -/
def SlO (D : Nat → Prop) (w : World) (v : Value) (k : Nat) (vs : List Value) : Prop := Sl w v k vs ∧ (vs = [] ∨ Off D v)
theorem Sl.upd0 {w w' : World} {v : Value} {k : Nat} (h : Sl w v k []) : Sl w' v k [] := by
  rcases h with h | ⟨a, m, c, rfl, h1, h2, hs, h3⟩
  · exact .inl h
  · exact .inr ⟨a, m, c, rfl, h1, h2, hs, fun i v hi => by simp at hi⟩
theorem SlO.upd {D : Nat → Prop} {w w' : World} {v : Value} {k : Nat} {vs : List Value} (h : SlO D w v k vs) (e : Upd D w w') : Sl w' v k vs := by
  rcases h with ⟨h, rfl | ho⟩
  · exact h.upd0
  · exact h.upd e ho
theorem Sl.lt {w : World} {a : Addr} {m c k : Nat} {vs : List Value} (h : Sl w (.slice (some a) m c) k vs) (hv : vs ≠ []) : a.block < w.heap.size := by
  rcases h with ⟨h, -⟩ | ⟨a', m', c', h, h1, h2, hs, h3⟩
  · cases h
  · cases h
    cases vs with
    | nil => exact absurd rfl hv
    | cons u us => exact show (⟨a.block, a.off + 0, none⟩ : Addr).block < _ from lt_of_cell (h3 0 u rfl)
/-- After blocks D were worked on. -/
theorem SlO.step {w w' : World} {v : Value} {k : Nat} {vs : List Value} {l l' : List (Nat × Obj)} (h : SlO (In l) w v k vs) (h2 : LH w (In l) w' l') : SlO (In l') w' v k vs := by
  refine ⟨h.upd h2.upd, ?_⟩
  rcases h with ⟨h, rfl | ho⟩
  · exact .inl rfl
  · by_cases hv : vs = []
    · exact .inl hv
    · right
      cases v with
      | slice a m c =>
        cases a with
        | none => trivial
        | some a =>
          intro hi
          obtain ⟨p, hp, he⟩ := List.mem_map.1 hi
          have := h.lt hv
          rcases h2.fresh p hp with h3 | h3
          · omega
          · rw [he] at h3; exact ho h3
      | _ => trivial
/-- The same beside other blocks. -/
theorem SlO.stepX {w w' : World} {v : Value} {k : Nat} {vs : List Value} {l l' : List (Nat × Obj)} {X : Nat → Prop} (h : SlO (fun b => In l b ∨ X b) w v k vs) (h2 : LH w (In l) w' l') : SlO (fun b => In l' b ∨ X b) w' v k vs := by
  have h1 : SlO (In l) w v k vs := ⟨h.1, h.2.imp id fun ho => by
    cases v with
    | slice a m c => cases a with
      | none => trivial
      | some a => exact fun hi => ho (.inl hi)
    | _ => trivial⟩
  have h3 := h1.step h2
  refine ⟨h3.1, ?_⟩
  rcases h3.2 with h4 | h4
  · exact .inl h4
  · rcases h.2 with h5 | h5
    · exact .inl h5
    · right
      cases v with
      | slice a m c => cases a with
        | none => trivial
        | some a => exact fun hi => hi.elim h4 fun hx => h5 (.inr hx)
      | _ => trivial
theorem SlO.comm {w : World} {v : Value} {k : Nat} {vs : List Value} {A B : Nat → Prop} (h : SlO (fun b => A b ∨ B b) w v k vs) : SlO (fun b => B b ∨ A b) w v k vs := by
  refine ⟨h.1, h.2.imp id fun ho => ?_⟩
  cases v with
  | slice a m c => cases a with
    | none => trivial
    | some a => exact fun hi => ho hi.symm
  | _ => trivial
theorem SlO.ext {D : Nat → Prop} {w w' : World} {v : Value} {k : Nat} {vs : List Value} (h : SlO D w v k vs) (e : Ext w w') : SlO D w' v k vs := ⟨h.1.ext e, h.2⟩
theorem SlO.mono {D D' : Nat → Prop} {w : World} {v : Value} {k : Nat} {vs : List Value} (h : SlO D w v k vs) (hd : ∀ b, D' b → D b) : SlO D' w v k vs := ⟨h.1, h.2.imp id fun ho => by
  cases v with
  | slice a m c => cases a with
    | none => trivial
    | some a => exact fun hi => ho (hd _ hi)
  | _ => trivial⟩
theorem SlO.freshD {w0 w : World} {D : Nat → Prop} {v : Value} {k : Nat} {vs : List Value} {acc : List (Nat × Obj)} {E : TypeId} {m : Nat} (hl : LH w0 (fun _ => False) w acc) (ha : Acc v k E m vs acc) (hD : ∀ b, D b → b < w0.heap.size) : SlO D w v k vs := by
  refine ⟨LH.acc_sl (l := []) hl ha, ?_⟩
  rcases ha.2 with ⟨rfl, -, -⟩ | ⟨b, cap, cur, rfl, rfl, -⟩
  · exact .inr trivial
  · right
    intro hi
    have h1 := hD b hi
    rcases hl.fresh (b, .cells cur E (0, 0)) (by simp) with h2 | h2
    · simp only at h2
      omega
    · exact h2
/-- A slice in memory that was made since. -/
theorem SlO.fresh {w0 w : World} {l : List (Nat × Obj)} {v : Value} {k : Nat} {vs : List Value} {acc : List (Nat × Obj)} {E : TypeId} {m : Nat} (hl : LH w0 (fun _ => False) w acc) (ha : Acc v k E m vs acc) (hD : ∀ p ∈ l, p.1 < w0.heap.size) : SlO (In l) w v k vs := by
  refine ⟨LH.acc_sl (l := []) hl ha, ?_⟩
  rcases ha.2 with ⟨rfl, -, -⟩ | ⟨b, cap, cur, rfl, rfl, -⟩
  · exact .inr trivial
  · right
    intro hi
    obtain ⟨p, hp, he⟩ := List.mem_map.1 hi
    have h1 := hD p hp
    rcases hl.fresh (b, .cells cur E (0, 0)) (by simp) with h2 | h2
    · simp only at he h2
      omega
    · exact h2

/-! ### Slices that begin anywhere -/
def AccO (v : Value) (k : Nat) (E : TypeId) (m : Nat) (xs : List Value) (acc : List (Nat × Obj)) : Prop :=
  xs.length = m * k ∧ ((∃ a, v = .slice a 0 0 ∧ m = 0 ∧ acc = []) ∨
    ∃ b off cap cur, v = .slice (some ⟨b, off * k, none⟩) m cap ∧ acc = [(b, .cells cur E (0, 0))] ∧ m ≤ cap ∧ 0 < cap ∧ cur.size = (off + cap) * k ∧ (cur.toList.drop (off * k)).take (m * k) = xs)
theorem AccO.nil (k : Nat) (E : TypeId) : AccO (.slice none 0 0) k E 0 [] [] := ⟨by simp, .inl ⟨none, rfl, rfl, rfl⟩⟩
theorem AccO.shape {v : Value} {k m : Nat} {E : TypeId} {xs : List Value} {acc : List (Nat × Obj)} (h : AccO v k E m xs acc) : ∃ a c, v = .slice a m c ∧ m ≤ c := by
  rcases h.2 with ⟨a, rfl, rfl, -⟩ | ⟨b, off, cap, cur, rfl, -, h1, -⟩
  · exact ⟨_, _, rfl, Nat.le_refl _⟩
  · exact ⟨_, _, rfl, h1⟩
theorem LH.accO_sl {w0 w : World} {M : Nat → Prop} {l acc : List (Nat × Obj)} (h : LH w0 M w (l ++ acc)) {v : Value} {k m : Nat} {E : TypeId} {xs : List Value} (ha : AccO v k E m xs acc) : Sl w v k xs := by
  rcases ha.2 with ⟨a, rfl, rfl, rfl⟩ | ⟨b, off, cap, cur, rfl, rfl, h1, h0, h2, h4⟩
  · have hx : xs = [] := List.eq_nil_of_length_eq_zero (by simpa using ha.1)
    subst hx
    cases a with
    | none => exact .inl ⟨rfl, rfl⟩
    | some a => exact .inr ⟨a, 0, 0, rfl, by simp, Nat.le_refl _, fun h => by omega, fun i v hi => by simp at hi⟩
  · refine .inr ⟨⟨b, off * k, none⟩, m, cap, rfl, ha.1, h1, fun _ => rfl, ?_⟩
    have hb : w.heap[b]? = some (.cells cur E (0, 0)) := h.own (b, .cells cur E (0, 0)) (by simp)
    refine Row.of_block hb fun i u hi => ?_
    rw [← h4, List.getElem?_take] at hi
    split at hi
    · rw [List.getElem?_drop] at hi
      simpa using hi
    · cases hi
theorem AccO.of_acc {v : Value} {k m : Nat} {E : TypeId} {xs : List Value} {acc : List (Nat × Obj)} (hm : 0 < m) (h : Acc v k E m xs acc) : AccO v k E m xs acc := by
  refine ⟨h.1, ?_⟩
  rcases h.2 with ⟨rfl, rfl, -⟩ | ⟨b, cap, cur, rfl, rfl, h1, h2, h3, h4⟩
  · omega
  · exact .inr ⟨b, 0, cap, cur, by rw [Nat.zero_mul], rfl, h1, by omega, by rw [Nat.zero_add]; exact h3, by rw [Nat.zero_mul, List.drop_zero]; exact h4⟩

section
variable {ops : Array Oper} {K : St → World → Prop} {X : List PanicEntry → St → World → Prop} {l : List Oper} {s : St} {w w0 : World} {M : Nat → Prop} {bl : List (Nat × Obj)}
variable {d : Nat} {ty : TypeId} {p : String} {af : Array Edge} {g : Option (Nat × Bool)}

theorem run_appendO {l acc : List (Nat × Obj)} {t ty' E : TypeId} {inf : TypeInfo} {z : Value} {k bytes m q c : Nat} {v : Value} {xs us : List Value} {b o : Nat} (h : LH w0 M w (l ++ acc)) (ha : AccO v k E m xs acc) (ht : P.underlying t = some (.slice E)) (hi : P.info? E = some inf) (hz : inf.zero = some z)
    (hsize : inf.size = k) (hby : inf.bytes = bytes) (hzs : z.cells.size = k) (hul : us.length = q * k) (hu : Row w b o us) (h1 : us.all Value.oneCell' = true) (hb : (m + q) * bytes ≤ 140737488355328) (hm : m + q ≤ 9223372036854775807) (hq : 0 < q) :
    ∃ v' w' acc', (Builtin.append_ #[t, t] ty' #[v, .slice (some ⟨b, o, none⟩) q c]).run P w = .ok v' w' ∧ LH w0 M w' (l ++ acc') ∧ AccO v' k E (m + q) (xs ++ us) acc' := by
  have hnews : ∀ j u, us[j]? = some u → w.cell? ((⟨b, o, none⟩ : Addr).add j) = some u := fun j u hj => by rw [add_mk]; exact hu j u hj
  have hlen : (xs ++ us).length = (m + q) * k := by rw [List.length_append, ha.1, hul, Nat.add_mul]
  subst hsize hby
  have h1' : ∀ u ∈ us, u.oneCell' = true := by simpa using h1
  have hs : Src P inf.size t (.slice (some ⟨b, o, none⟩) q c) q us w := Src.ofSlice w ht ⟨b, o, none⟩ q c us hul hnews h1'
  have grown : ∀ (base : Option Addr) (cap : Nat), (Builtin.firstCells inf.size m (.slice base m cap)).run P w.drew = .ok xs.toArray w.drew → cap < m + q → l = l → LH w0 M w l →
      ∃ v' w' acc', (Builtin.append_ #[t, t] ty' #[.slice base m cap, .slice (some ⟨b, o, none⟩) q c]).run P w = .ok v' w' ∧ LH w0 M w' (l ++ acc') ∧ AccO v' inf.size E (m + q) (xs ++ us) acc' := by
    intro base cap hold hcap _ hll
    have hr := run_append_grow_src (P := P) w t t ty' E inf z ht hi hz base m cap xs hold (.slice (some ⟨b, o, none⟩) q c) q us hs hcap (by omega) (growslice_fits (by omega) hb)
    have hge := grownCap_ge w (m + q) cap E
    refine ⟨_, _, [(w.heap.size, _)], hr, hll.alloc_right ⟨rfl, rfl, rfl⟩, hlen, .inr ⟨w.heap.size, 0, _, _, by rw [Nat.zero_mul], rfl, hge, by omega, ?_, ?_⟩⟩
    · simp only [Array.size_append, List.size_toArray, size_zeroCells, hzs, hlen, ← Nat.add_mul]
      congr 1; omega
    · simp only [Nat.zero_mul, List.drop_zero, Array.toList_append]
      rw [← hlen]
      exact List.take_left
  rcases ha.2 with ⟨a, rfl, rfl, rfl⟩ | ⟨b', off, cap, cur, rfl, rfl, h2, h0, h4, h5⟩
  · have hx : xs = [] := List.eq_nil_of_length_eq_zero (by simpa using ha.1)
    subst hx
    refine grown a 0 ?_ (by omega) rfl h.left
    cases a with
    | none => rfl
    | some a => simp [Builtin.firstCells, loadCells, loadCellsFrom, pure, Sem.run]
  · have hbk : w.heap[b']? = some (.cells cur E (0, 0)) := h.own (b', .cells cur E (0, 0)) (by simp)
    by_cases hroom : m + q ≤ cap
    · have hidx : (l ++ [(b', Obj.cells cur E (0, 0))])[l.length]? = some (b', .cells cur.toList.toArray E (0, 0)) := by simp
      have hfit : off * inf.size + m * inf.size + us.length ≤ cur.size := by
        rw [hul, h4, ← Nat.add_mul, ← Nat.add_mul]; exact Nat.mul_le_mul_right _ (by omega)
      obtain ⟨w', hst, hl'⟩ := run_storeCells (P := P) us (off * inf.size + m * inf.size) 0 w (l ++ [(b', Obj.cells cur E (0, 0))]) cur.toList h hidx (by simpa using hfit) h1'
      rw [List.set_append_right _ _ (Nat.le_refl _), Nat.sub_self, List.set_cons_zero] at hl'
      refine ⟨.slice (some ⟨b', off * inf.size, none⟩) (m + q) cap, w', _, ?_, hl', hlen, .inr ⟨b', off, cap, _, rfl, rfl, hroom, h0, ?_, ?_⟩⟩
      · simp [Builtin.append_, run_underlying ht, sizeOf, typeInfo, hi, hs.len, hroom, hs.cells, Addr.add_lit, hst]
      · simp only [List.size_toArray, putL_length, Array.length_toList]; exact h4
      · simp only [Nat.add_zero]
        apply List.ext_getElem?
        intro j
        rw [List.getElem?_take]
        by_cases hj : j < (m + q) * inf.size
        · rw [if_pos hj, List.getElem?_drop, putL_get _ _ _ _ (by simpa using hfit)]
          by_cases hj2 : j < m * inf.size
          · rw [if_neg (by omega), List.getElem?_append_left (by rw [ha.1]; exact hj2), ← h5, List.getElem?_take, if_pos hj2, List.getElem?_drop]
          · rw [if_pos (by rw [hul]; rw [Nat.add_mul] at hj; omega), List.getElem?_append_right (by rw [ha.1]; omega), ha.1]
            congr 1; omega
        · rw [if_neg hj, List.getElem?_eq_none (by rw [hlen]; omega)]
    · refine grown (some ⟨b', off * inf.size, none⟩) cap ?_ (by omega) rfl h.left
      have hsl := LH.accO_sl h ha
      refine run_firstCells_some (P := P) w.drew inf.size m ⟨b', off * inf.size, none⟩ m cap xs ha.1 fun j u hj => ?_
      rw [add_mk]
      refine (cell_congr (w := w) (w' := w.drew) rfl).trans ?_
      rcases hsl with ⟨hh, -⟩ | ⟨a, m', c', hh, -, -, -, hrow⟩
      · cases hh
      · cases hh; exact hrow j u hj

theorem o_appendO {t E k bytes m q c b o : Nat} {x y : Operand} {v : Value} {xs us : List Value} {bl' acc : List (Nat × Obj)} (hl : LH w0 M w (bl' ++ acc)) (ha : AccO v k E m xs acc) (hu : Row w b o us) (hul : us.length = q * k) (h1 : us.all Value.oneCell' = true) (hq : 0 < q)
    (hb : (m + q) * bytes ≤ 140737488355328) (hm : m + q ≤ 9223372036854775807) (hw : Region.wanted ⟨some d, .call ⟨.builtin .append, #[x, y], #[t, t]⟩, ty, p, af, g⟩ (yieldedE ops n s) = true) (ht : P.underlying t = some (.slice E)) (hi : infoT P E = some (k, bytes, k))
    (hx : rd n s x = v) (hy : rd n s y = .slice (some ⟨b, o, none⟩) q c)
    (hk : ∀ v' w' acc', LH w0 M w' (bl' ++ acc') → AccO v' k E (m + q) (xs ++ us) acc' → OpsL P r n ops K X l (s.set d v') w') : OpsL P r n ops K X (⟨some d, .call ⟨.builtin .append, #[x, y], #[t, t]⟩, ty, p, af, g⟩ :: l) s w := by
  obtain ⟨inf, z, hi1, hz, hs1, hs2, hs3⟩ := infoT_some hi
  obtain ⟨v', w', acc', hr, hl', ha'⟩ := run_appendO (P := P) (ty' := ty) hl ha ht hi1 hz hs1 hs2 hs3 hul hu h1 hb hm hq (c := c)
  refine o_val (w' := w') hw ?_ (hk v' w' acc' hl' ha')
  rw [Oper.semAt_eq _ _ _ (fun c e => by cases e)]
  simp only [execOp, resolve, List.map_toArray, List.map_cons, List.map_nil, hx, hy]
  rw [sem_bind (w' := w) rfl]
  simp only [invoke, builtin]
  rw [sem_bind hr]
  rfl

/-- The first element is taken off. -/
theorem AccO.tail {v : Value} {k m : Nat} {E : TypeId} {x xs : List Value} {acc : List (Nat × Obj)} (h : AccO v k E (m + 1) (x ++ xs) acc) (hx : x.length = k) :
    ∃ a c acc', v = .slice a (m + 1) c ∧ m + 1 ≤ c ∧ acc'.Sublist acc ∧ AccO (.slice (if c = 1 then a else a.map (·.add (1 * k))) (m + 1 - 1) (c - 1)) k E m xs acc' := by
  rcases h.2 with ⟨a, -, h2, -⟩ | ⟨b, off, cap, cur, rfl, rfl, h2, h0, h4, h5⟩
  · omega
  · have hl : xs.length = m * k := by
      have := h.1
      rw [List.length_append, hx, Nat.add_mul] at this
      omega
    by_cases hc : cap = 1
    · subst hc
      have hm0 : m = 0 := by omega
      subst hm0
      exact ⟨_, _, [], rfl, h2, List.nil_sublist _, hl, .inl ⟨_, by rw [if_pos rfl], rfl, rfl⟩⟩
    · refine ⟨_, _, [(b, .cells cur E (0, 0))], rfl, h2, List.Sublist.refl _, hl, .inr ⟨b, off + 1, cap - 1, cur, ?_, rfl, by omega, by omega, ?_, ?_⟩⟩
      · rw [if_neg hc, Nat.add_sub_cancel, Nat.add_mul]
        simp only [Option.map_some, add_mk]
      · rw [h4]; congr 1; omega
      · have h6 := congrArg (List.drop k) h5
        rw [List.drop_left' hx, List.drop_take, List.drop_drop] at h6
        rw [← h6, Nat.add_mul, Nat.one_mul]
        congr 1
        rw [Nat.add_mul]; omega
end

/-! ### Two numbers as a key -/
def int2V (q : Nat × Nat) : Value := .agg #[.int .i64 (q.1 : Int), .int .i64 (q.2 : Int)]

theorem range2 : (List.range' 0 2 1) = [0, 1] := rfl
theorem key_int2 {kt e : TypeId} {kd : IntKind} (hu : P.underlying kt = some (.array 2 e)) (he : P.underlying e = some (.int kd)) (hs : sizeT P e = some 1) : Key P kt int2V := by
  have ha : aggT P e = some false := by simp [aggT, he]
  have hsz : ∀ w : World, (sizeOf e).run P w = .ok 1 w := fun w => run_sizeT hs w
  have hp0 : ∀ (x y : Int) (w : World), (part e #[.int .i64 x, .int .i64 y] 0).run P w = .ok (.int .i64 x) w := fun x y w => run_part (xs := [.int .i64 x, .int .i64 y]) ha rfl w
  have hp1 : ∀ (x y : Int) (w : World), (part e #[.int .i64 x, .int .i64 y] 1).run P w = .ok (.int .i64 y) w := fun x y w => run_part (xs := [.int .i64 x, .int .i64 y]) ha rfl w
  have hc : ∀ (em : Bool) (k : Nat) (a : Int) (w : World), (Instr.checkKey em (k + 1) e (.int .i64 a)).run P w = .ok () w := fun em k a w => by
    unfold Instr.checkKey
    rw [sem_bind (run_underlying' he w)]
    rfl
  refine ⟨fun em a w => ?_, fun a b w => ?_, fun a b u hu' x hx => ?_, fun a => ?_, ⟨_, hu⟩⟩
  · show (Instr.checkKey em (9999 + 1) kt _).run P w = _
    unfold Instr.checkKey
    rw [sem_bind (run_underlying' hu w)]
    simp only [int2V]
    rw [Std.Legacy.Range.forIn_eq_forIn_range']
    simp [range2, Std.Legacy.Range.size, Sem.run_bind, hsz, hp0, hp1, hc em 9998, Result.andThen_ok]
  · show (Op.equalIn (9999 + 1) kt _ _).run P w = _
    have hq : ∀ (x y : Int) (w : World), (Op.equalIn 9999 e (.int .i64 x) (.int .i64 y)).run P w = .ok (decide (x = y)) w := fun x y w => (Sc.int he : Sc P e (.int .i64 x) (.int .i64 y) _).run 9998 w
    unfold Op.equalIn
    rw [sem_bind (run_underlying' hu w)]
    simp only [int2V]
    rw [sem_bind (hsz w)]
    rw [Std.Legacy.Range.forIn_eq_forIn_range']
    obtain ⟨a1, a2⟩ := a
    obtain ⟨b1, b2⟩ := b
    by_cases e1 : a1 = b1 <;> by_cases e2 : a2 = b2 <;> simp [range2, Std.Legacy.Range.size, Sem.run_bind, hp0, hp1, hq, Result.andThen_ok, e1, e2, Int.natCast_inj]
  · rw [hu] at hu'
    cases hu'
    simp [int2V, Instr.sameNow] at hx
  · show ((#[Value.int .i64 (a.1 : Int), .int .i64 (a.2 : Int)] : Array Value).size == (#[Value.int .i64 (a.1 : Int), .int .i64 (a.2 : Int)] : Array Value).size && (List.zip [Value.int .i64 (a.1 : Int), .int .i64 (a.2 : Int)] [Value.int .i64 (a.1 : Int), .int .i64 (a.2 : Int)]).all fun (x, y) => Instr.sameBits 9999 x y) = true
    have hb : ∀ z : Int, Instr.sameBits 9999 (.int .i64 z) (.int .i64 z) = true := fun z => by
      show ((IntKind.i64 == IntKind.i64) && (z == z)) = true
      simp
    simp [hb]

/-! ### Maps of texts to true -/
abbrev boolM (l : List (List UInt8)) : List (List UInt8 × Value) := l.map fun t => (t, .bool true)
theorem boolM_keys (l : List (List UInt8)) : (boolM l).map (·.1) = l := by simp [boolM, Function.comp_def]
theorem boolM_get (l : List (List UInt8)) (t : List UInt8) : get (boolM l) t = if t ∈ l then some (.bool true) else none := by
  induction l with
  | nil => rfl
  | cons a l ih =>
    simp only [boolM, List.map_cons, get, List.mem_cons] at ih ⊢
    by_cases h : t = a
    · rw [if_pos h, if_pos (.inl h)]
    · rw [if_neg h, ih]
      by_cases h2 : t ∈ l
      · rw [if_pos h2, if_pos (.inr h2)]
      · rw [if_neg h2, if_neg (by simp [h, h2])]
theorem boolM_ins (l : List (List UInt8)) (t : List UInt8) : ins (boolM l) t (.bool true) = boolM (Ne.addT l t) := by
  induction l with
  | nil => rfl
  | cons a l ih =>
    simp only [boolM, List.map_cons, ins] at ih ⊢
    unfold Ne.addT at ih ⊢
    by_cases h : t = a
    · subst h
      rw [if_pos rfl, if_pos List.mem_cons_self]
      rfl
    · rw [if_neg h, ih]
      by_cases h2 : t ∈ l
      · rw [if_pos h2, if_pos (List.mem_cons_of_mem _ h2)]
        rfl
      · rw [if_neg h2, if_neg (by simp [h, h2])]
        rfl

/-! ### One of a list laid out one behind the other -/
theorem perm_one {α β : Type} [DecidableEq α] (f : α → List β) {L : List α} {x : α} (h : x ∈ L) : (L.flatMap f).Perm (f x ++ (L.erase x).flatMap f) := by
  have := (List.perm_cons_erase h).flatMap_right f
  rwa [List.flatMap_cons] at this
theorem flatMap_other {α β : Type} [DecidableEq α] {f g : α → List β} {L : List α} {x : α} (hn : L.Nodup) (h : ∀ y, y ≠ x → g y = f y) : (L.erase x).flatMap g = (L.erase x).flatMap f := by
  rw [List.flatMap_def, List.flatMap_def]
  congr 1
  refine List.map_congr_left fun y hy => h y fun e => ?_
  subst e
  exact (List.Nodup.not_mem_erase hn) hy
end Go.Pd
