/-
  The reference's network in memory.
-/
import Derived.Test.YthiiodbjmcafgaaNeO
import Derived.Test.YthiiodbjmcafgaaNeE
set_option linter.unusedVariables false
set_option linter.unusedSimpArgs false
set_option linter.unnecessarySimpa false
set_option maxRecDepth 10000
namespace Go.Pd
open Go.Ne
theorem putL_part (us x l : List Value) (h : us.length ≤ x.length) : putL (x ++ l) 0 us = us ++ x.drop us.length ++ l := by
  have e : x ++ l = x.take us.length ++ (x.drop us.length ++ l) := by rw [← List.append_assoc, List.take_append_drop]
  rw [e, putL_front us _ _ (by rw [List.length_take]; omega), List.append_assoc]
/-- Some cells of an element are written. -/
theorem putL_upd {f : Nat → List Value} {c : Nat} (hf : ∀ t, (f t).length = c) {us : List Value} (hu : us.length ≤ c) (junk : List Value) : ∀ (L : List Nat) (i x : Nat), L.Nodup → L[i]? = some x → putL (L.flatMap f ++ junk) (i * c) us = L.flatMap (upd f x (us ++ (f x).drop us.length)) ++ junk
  | [], i, x, _, h => by simp at h
  | a :: L, 0, x, hn, h => by
    obtain rfl : a = x := by simpa using h
    rw [List.nodup_cons] at hn
    have e : L.flatMap (upd f a (us ++ (f a).drop us.length)) = L.flatMap f := by
      have : ∀ y ∈ L, upd f a (us ++ (f a).drop us.length) y = f y := fun y hy => upd_ne _ _ fun e => hn.1 (e ▸ hy)
      rw [List.flatMap_def, List.flatMap_def, List.map_congr_left this]
    rw [List.flatMap_cons, List.flatMap_cons, e, upd_same, Nat.zero_mul, List.append_assoc, putL_part _ _ _ (by rw [hf]; exact hu), List.append_assoc, List.append_assoc, List.append_assoc]
  | a :: L, i + 1, x, hn, h => by
    rw [List.nodup_cons] at hn
    have hx : L[i]? = some x := by simpa using h
    have hxa : a ≠ x := fun e => hn.1 (e ▸ List.mem_of_getElem? hx)
    rw [List.flatMap_cons, List.flatMap_cons, upd_ne _ _ hxa, List.append_assoc, List.append_assoc]
    have h1 := putL_app us (f a) (L.flatMap f ++ junk) (i * c)
    rw [hf] at h1
    rw [show (i + 1) * c = c + i * c from by rw [Nat.add_mul]; omega, h1, putL_upd hf hu junk L i x hn.2 hx]
/-- One block among many. -/
theorem perm_at {α : Type} [DecidableEq α] {β : Type} (F : α → β) {L : List α} {k : α} (hk : k ∈ L) (rest : List β) : (L.map F ++ rest).Perm ([F k] ++ ((L.erase k).map F ++ rest)) :=
  (((List.perm_cons_erase hk).map F).append_right rest)
theorem LH.at {w0 w w' : World} {M : Nat → Prop} {F G : Nat → Nat × Obj} {L : List Nat} {rest : List (Nat × Obj)} (hn : L.Nodup) {k : Nat} (hk : k ∈ L) (he : ∀ x ∈ L, x ≠ k → G x = F x) (h : LH w0 M w (L.map F ++ rest)) (h2 : LH w (In [F k]) w' [G k]) : LH w0 M w' (L.map G ++ rest) := by
  have h3 := (h.perm (perm_at F hk rest)).focus h2
  have e : (L.erase k).map F = (L.erase k).map G := List.map_congr_left fun x hx => by
    have := (List.Nodup.mem_erase_iff hn).1 hx
    exact (he x this.2 this.1).symm
  rw [e] at h3
  exact h3.perm (perm_at G hk rest).symm
end Go.Pd
namespace Go.Ne
open Go Go.Pd
abbrev sLs (l : List Tx) : List Value := l.map str
structure RefB where
  p : Nat
  nb : Nat
  nc : Nat
  nj : List Value
  qb : Nat
  qc : Nat
  qj : List Value
  ob : Nat
  oc : Nat
  oj : List Value
  av : Value
  aacc : List (Nat × Obj)
  hb : Nat → Nat
  kb : Nat → Nat
  gb : Nat → Nat
  qi : Nat → Nat
  oi : Nat → Nat
  hd : Nat → Nat → Nat
  kn : Nat → Nat → Nat
  co : Nat → Nat → Bool
  tv : Nat → Value
  gv : Nat → Nat → Value
  qv : Nat → Nat → Value
  ql : Nat → Nat → List (Value × Msg)
  Y : Nat → Prop
def arrV (b n c : Nat) : Value := .slice (some ⟨b, 0, none⟩) n c
def RefB.nodeC (R : RefB) (n i : Nat) : List Value := [R.tv i, arrV (R.hb i) n n, arrV (R.kb i) n n, arrV (R.gb i) n n]
def flt (n : Nat) (f : Nat → List Value) : List Value := (List.range n).flatMap f
def RefB.top (R : RefB) (n : Nat) : Nat → Nat × Obj
  | 0 => (R.p, .cells [arrV R.nb n R.nc, arrV R.qb n R.qc, arrV R.ob n R.oc, R.av].toArray 71 (0, 0))
  | 1 => (R.nb, .cells (flt n (R.nodeC n) ++ R.nj).toArray 74 (0, 0))
  | 2 => (R.qb, .cells (flt n (fun i => [arrV (R.qi i) n n]) ++ R.qj).toArray 75 (0, 0))
  | _ => (R.ob, .cells (flt n (fun i => [arrV (R.oi i) n n]) ++ R.oj).toArray 76 (0, 0))
def RefB.row (R : RefB) (n : Nat) (i : Nat) : Nat → Nat × Obj
  | 0 => (R.hb i, .cells (flt n (fun j => [.int .i64 (R.hd i j : Int)]) ++ []).toArray 3 (0, 0))
  | 1 => (R.kb i, .cells (flt n (fun j => [.int .i64 (R.kn i j : Int)]) ++ []).toArray 3 (0, 0))
  | 2 => (R.gb i, .cells (flt n (fun j => [R.gv i j]) ++ []).toArray 39 (0, 0))
  | 3 => (R.qi i, .cells (flt n (fun j => [R.qv i j]) ++ []).toArray 85 (0, 0))
  | _ => (R.oi i, .cells (flt n (fun j => [.bool (R.co i j)]) ++ []).toArray 4 (0, 0))
def RefB.F (R : RefB) (n : Nat) (m : Nat) : Nat × Obj := if m < 4 then R.top n m else R.row n ((m - 4) / 5) ((m - 4) % 5)
abbrev idxN (n : Nat) : List Nat := List.range (4 + 5 * n)
def RefB.bl (R : RefB) (n : Nat) : List (Nat × Obj) := (idxN n).map (R.F n) ++ R.aacc
theorem F_top (R : RefB) (n : Nat) {t : Nat} (h : t < 4) : R.F n t = R.top n t := if_pos h
theorem F_row (R : RefB) (n : Nat) (i : Nat) {kd : Nat} (h : kd < 5) : R.F n (4 + (i * 5 + kd)) = R.row n i kd := by
  unfold RefB.F
  rw [if_neg (by omega), show (4 + (i * 5 + kd) - 4) / 5 = i by omega, show (4 + (i * 5 + kd) - 4) % 5 = kd by omega]
theorem top_mem {n t : Nat} (h : t < 4) : t ∈ idxN n := List.mem_range.2 (by omega)
theorem row_mem {n i kd : Nat} (h : kd < 5) (hi : i < n) : 4 + (i * 5 + kd) ∈ idxN n := List.mem_range.2 (by omega)
theorem F_agree {R R' : RefB} {n k : Nat} (h1 : ∀ t, t < 4 → t ≠ k → R'.top n t = R.top n t) (h2 : ∀ i kd, i < n → kd < 5 → 4 + (i * 5 + kd) ≠ k → R'.row n i kd = R.row n i kd) : ∀ x ∈ idxN n, x ≠ k → R'.F n x = R.F n x := by
  intro x hx hk
  have hx := List.mem_range.1 hx
  by_cases h : x < 4
  · rw [F_top _ _ h, F_top _ _ h]; exact h1 x h hk
  · obtain ⟨i, kd, hi, hkd, rfl⟩ : ∃ i kd, i < n ∧ kd < 5 ∧ x = 4 + (i * 5 + kd) := ⟨(x - 4) / 5, (x - 4) % 5, by omega, by omega, by omega⟩
    rw [F_row _ _ _ hkd, F_row _ _ _ hkd]; exact h2 i kd hi hkd hk
/-- The blocks in which no texts and messages lie. -/
def RefB.D (R : RefB) (n : Nat) : Nat → Prop := fun b => Go.Pd.In (R.bl n) b ∨ R.Y b
structure QLeaf (D : Nat → Prop) (w : World) (v : Value) (l : List (Value × Msg)) (ms : List Msg) : Prop where
  hv : SlO D w v 3 (l.flatMap msgC)
  hl : l.map (·.2) = ms
  hs : ∀ q ∈ l, SlO D w q.1 1 (sLs q.2.texts)
structure RefOK (R : RefB) (s : Net) (w : World) : Prop where
  np : 1 ≤ s.n ∧ s.n ≤ 8
  t : ∀ i, i < s.n → SlO (R.D s.n) w (R.tv i) 1 (sLs (texts s i))
  g : ∀ i j, i < s.n → j < s.n → SlO (R.D s.n) w (R.gv i j) 1 (sLs ((s.node i).peer j).got)
  q : ∀ i j, i < s.n → j < s.n → QLeaf (R.D s.n) w (R.qv i j) (R.ql i j) (s.q i j)
  a : Acc R.av 1 9 s.all.length (sLs s.all) R.aacc
  h : ∀ i j, i < s.n → j < s.n → R.hd i j = ((s.node i).peer j).heard
  k : ∀ i j, i < s.n → j < s.n → R.kn i j = ((s.node i).peer j).known
  c : ∀ i j, i < s.n → j < s.n → R.co i j = cutA s i j
  ys : ∀ b, R.Y b → b < w.heap.size
def RefR (Y : Nat → Prop) (s : Net) (p : Nat) (bl : List (Nat × Obj)) (w : World) : Prop := ∃ R : RefB, R.Y = Y ∧ R.p = p ∧ bl = R.bl s.n ∧ RefOK R s w ∧ Own w bl
theorem QLeaf.step {w w' : World} {l l' : List (Nat × Obj)} {X : Nat → Prop} {v : Value} {ql : List (Value × Msg)} {ms : List Msg} (h : QLeaf (fun b => Go.Pd.In l b ∨ X b) w v ql ms) (h2 : LH w (Go.Pd.In l) w' l') : QLeaf (fun b => Go.Pd.In l' b ∨ X b) w' v ql ms := ⟨h.hv.stepX h2, h.hl, fun q hq => (h.hs q hq).stepX h2⟩
theorem QLeaf.ext {D : Nat → Prop} {w w' : World} {v : Value} {ql : List (Value × Msg)} {ms : List Msg} (h : QLeaf D w v ql ms) (e : Ext w w') : QLeaf D w' v ql ms := ⟨h.hv.ext e, h.hl, fun q hq => (h.hs q hq).ext e⟩
theorem RefOK.ext {R : RefB} {s : Net} {w w' : World} (h : RefOK R s w) (e : Ext w w') : RefOK R s w' := ⟨h.np, fun i hi => (h.t i hi).ext e, fun i j hi hj => (h.g i j hi hj).ext e, fun i j hi hj => (h.q i j hi hj).ext e, h.a, h.h, h.k, h.c, fun b hb => Nat.lt_of_lt_of_le (h.ys b hb) e.size⟩
theorem RefR.ext {Y : Nat → Prop} {s : Net} {p : Nat} {bl : List (Nat × Obj)} {w w' : World} (h : RefR Y s p bl w) (e : Ext w w') : RefR Y s p bl w' := by
  obtain ⟨R, h0, h1, h2, h3, h4⟩ := h
  exact ⟨R, h0, h1, h2, h3.ext e, (h4.ext e).owned⟩
/-- What a method of the reference leaves. -/
def AftR (Y : Nat → Prop) (s' : Net) (p : Nat) (bl : List (Nat × Obj)) (w w' : World) : Prop := ∃ bl', LH w (Go.Pd.In bl) w' bl' ∧ RefR Y s' p bl' w'
theorem AftR.same {Y : Nat → Prop} {s : Net} {p : Nat} {bl : List (Nat × Obj)} {w w' : World} (h : RefR Y s p bl w) (e : Ext w w') : AftR Y s p bl w w' := ⟨bl, by
  obtain ⟨R, -, -, rfl, -, h4⟩ := h
  exact h4.ext e, h.ext e⟩
theorem AftR.mk {R' : RefB} {Y : Nat → Prop} {s' : Net} {p : Nat} {bl : List (Nat × Obj)} {w w' : World} (hp : R'.p = p) (hl : LH w (Go.Pd.In bl) w' (R'.bl s'.n)) (hok : RefOK R' s' w') (hY : R'.Y = Y := by rfl) : AftR Y s' p bl w w' := ⟨_, hl, R', hY, hp, rfl, hok, hl.owned⟩

/-! ### Reading -/
theorem Row.flt {w : World} {b : Nat} {n : Nat} {f : Nat → List Value} {junk : List Value} {T : TypeId} {fz : Nat × Nat} {c : Nat} (h : w.heap[b]? = some (.cells (flt n f ++ junk).toArray T fz)) (hf : ∀ t, (f t).length = c) {i : Nat} (hi : i < n) : Row w b (0 + i * c) (f i) := by
  refine Row.of_block h fun j v hj => ?_
  have hlt : j < c := by rw [← hf i]; exact (List.getElem?_eq_some_iff.1 hj).1
  have h1 := flat_get hf (List.range n) i j i (by simp [hi]) hlt
  rw [Nat.zero_add, List.getElem?_toArray, List.getElem?_append_left, show (Ne.flt n f)[i * c + j]? = (f i)[j]? from h1]
  · exact hj
  · have := flat_length hf (List.range n)
    rw [List.length_range] at this
    show _ < ((List.range n).flatMap f).length
    rw [this]
    have : (i + 1) * c ≤ n * c := Nat.mul_le_mul_right _ hi
    rw [Nat.add_mul] at this
    omega
section
variable {R : RefB} {n : Nat} {w w0 : World} {M : Nat → Prop}
theorem RefB.at (h : LH w0 M w (R.bl n)) {k : Nat} (hk : k ∈ idxN n) : Own w [R.F n k] := ((LH.perm h (perm_at (R.F n) hk R.aacc)).sub (List.sublist_append_left _ _)).owned
theorem RefB.hTop (h : LH w0 M w (R.bl n)) {t : Nat} (ht : t < 4) : w.heap[(R.top n t).1]? = some (R.top n t).2 := by
  have := (RefB.at h (top_mem ht)).own (R.F n t) (by simp)
  rwa [F_top _ _ ht] at this
theorem RefB.hRow (h : LH w0 M w (R.bl n)) {i kd : Nat} (hi : i < n) (hk : kd < 5) : w.heap[(R.row n i kd).1]? = some (R.row n i kd).2 := by
  have := (RefB.at h (row_mem hk hi)).own (R.F n _) (List.mem_singleton.2 rfl)
  rwa [F_row _ _ _ hk] at this
theorem RefB.r0 (h : LH w0 M w (R.bl n)) : Row w R.p 0 [arrV R.nb n R.nc, arrV R.qb n R.qc, arrV R.ob n R.oc, R.av] := Row.of_block (RefB.hTop h (t := 0) (by omega)) fun i v hi => by simpa using hi
theorem RefB.rN (h : LH w0 M w (R.bl n)) {i : Nat} (hi : i < n) : Row w R.nb (0 + i * 4) (R.nodeC n i) := Row.flt (RefB.hTop h (t := 1) (by omega)) (c := 4) (fun _ => rfl) hi
theorem RefB.rQ (h : LH w0 M w (R.bl n)) {i : Nat} (hi : i < n) : Row w R.qb (0 + i * 1) [arrV (R.qi i) n n] := Row.flt (f := fun i => [arrV (R.qi i) n n]) (RefB.hTop h (t := 2) (by omega)) (c := 1) (fun _ => rfl) hi
theorem RefB.rO (h : LH w0 M w (R.bl n)) {i : Nat} (hi : i < n) : Row w R.ob (0 + i * 1) [arrV (R.oi i) n n] := Row.flt (f := fun i => [arrV (R.oi i) n n]) (RefB.hTop h (t := 3) (by omega)) (c := 1) (fun _ => rfl) hi
theorem RefB.rH (h : LH w0 M w (R.bl n)) {i j : Nat} (hi : i < n) (hj : j < n) : Row w (R.hb i) (0 + j * 1) [.int .i64 (R.hd i j : Int)] := Row.flt (f := fun j => [.int .i64 (R.hd i j : Int)]) (RefB.hRow h (kd := 0) hi (by omega)) (c := 1) (fun _ => rfl) hj
theorem RefB.rK (h : LH w0 M w (R.bl n)) {i j : Nat} (hi : i < n) (hj : j < n) : Row w (R.kb i) (0 + j * 1) [.int .i64 (R.kn i j : Int)] := Row.flt (f := fun j => [.int .i64 (R.kn i j : Int)]) (RefB.hRow h (kd := 1) hi (by omega)) (c := 1) (fun _ => rfl) hj
theorem RefB.rG (h : LH w0 M w (R.bl n)) {i j : Nat} (hi : i < n) (hj : j < n) : Row w (R.gb i) (0 + j * 1) [R.gv i j] := Row.flt (f := fun j => [R.gv i j]) (RefB.hRow h (kd := 2) hi (by omega)) (c := 1) (fun _ => rfl) hj
theorem RefB.rI (h : LH w0 M w (R.bl n)) {i j : Nat} (hi : i < n) (hj : j < n) : Row w (R.qi i) (0 + j * 1) [R.qv i j] := Row.flt (f := fun j => [R.qv i j]) (RefB.hRow h (kd := 3) hi (by omega)) (c := 1) (fun _ => rfl) hj
theorem RefB.rC (h : LH w0 M w (R.bl n)) {i j : Nat} (hi : i < n) (hj : j < n) : Row w (R.oi i) (0 + j * 1) [.bool (R.co i j)] := Row.flt (f := fun j => [.bool (R.co i j)]) (RefB.hRow h (kd := 4) hi (by omega)) (c := 1) (fun _ => rfl) hj
end
/-- Work at one block. -/
theorem RefB.step {R R' : RefB} {n : Nat} {w w' w0 : World} {M : Nat → Prop} {k : Nat} (hk : k ∈ idxN n) (ha : R'.aacc = R.aacc) (he : ∀ x ∈ idxN n, x ≠ k → R'.F n x = R.F n x) (h2 : LH w (Go.Pd.In [R.F n k]) w' [R'.F n k]) (h : LH w0 M w (R.bl n)) : LH w0 M w' (R'.bl n) := by
  unfold RefB.bl at *
  rw [ha]
  exact h.at List.nodup_range hk he h2
end Go.Ne
