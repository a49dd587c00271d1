/-
  Facts: the library's contracts, in plain words (Itoa, Join, strings.Builder).
-/
import Derived.Test.YtcanaadgcgophaaDoorQShelf
import Derived.Test.YtcanaadgcgophaaDoorQFB
import Derived.Test.YtcanaadgcgophaaDoorQLD
import Derived.Lib.ItoaNum
import Derived.Lib.Join
import Derived.Lib.LaidTab
set_option linter.unusedVariables false
set_option linter.unusedSimpArgs false
set_option linter.unnecessarySimpa false
set_option maxRecDepth 10000
namespace Go.Fac
open Go.Fo
theorem decS_eq (n : Nat) : decS n = Lib.decDigits n := by
  induction n using Nat.strongRecOn with
  | _ n ih =>
    by_cases h : n < 10
    · rw [decS_small h, Lib.decDigits, dif_pos h]
      try rfl
    · rw [decS_big h, Lib.decDigits, dif_neg h, ih (n / 10) (by omega)]
      try rfl
theorem decS_itoa {d : Int} (h : 0 ≤ d) : Lib.itoa d = decS d.toNat := by
  unfold Lib.itoa
  rw [if_neg (by omega), decS_eq]
theorem joinC_tail : ∀ (t : Tx) (l : List Tx), joinC (t :: l) = t ++ Lib.joinTail [44, 32] l
  | t, [] => by simp [joinC, Lib.joinTail]
  | t, u :: l => by
    simp only [joinC]
    rw [joinC_tail u l]
    simp [Lib.joinTail]
theorem joinC_eq (l : List Tx) : joinC l = Lib.join l [44, 32] := by
  cases l with
  | nil => rfl
  | cons t l => rw [joinC_tail, Lib.join_cons]
theorem good_fact {F : List Fact} (h : Good F) {f : Fact} (hf : f ∈ F) : f.name.length ≤ 24 ∧ (f.kind = 1 ∨ f.kind = 2 ∨ f.kind = 3) ∧ 0 ≤ f.lo ∧ f.lo ≤ f.hi ∧ f.hi ≤ 1000000 := by
  have h1 := h.1 f hf
  unfold factOk at h1
  simp only [Bool.and_eq_true, Bool.or_eq_true, decide_eq_true_eq] at h1
  have hn : f.name.length ≤ 24 := by
    have := h1.2
    unfold Fin.Nm at this
    simp only [Bool.and_eq_true, decide_eq_true_eq] at this
    exact this.2.2.1
  omega
theorem dec_len {z : Int} (h0 : 0 ≤ z) (h1 : z ≤ 1000000) : (decS z.toNat).length ≤ 7 := decS_len 6 z.toNat (by omega)
theorem factS_len2 {F : List Fact} (h : Good F) {f : Fact} (hf : f ∈ F) : (factS f).length ≤ 100 := by
  obtain ⟨h1, h2, h3, h4, h5⟩ := good_fact h hf
  have h6 := dec_len h3 (by omega)
  have h7 := dec_len (z := f.hi) (by omega) h5
  have h8 : (kindW f).length ≤ 6 := by unfold kindW; split <;> decide
  unfold factS
  split
  · simp [kFlag]
    omega
  · simp [kTo]
    omega
theorem factsS_len {F : List Fact} (h : Good F) (l : List Fact) (hl : ∀ f ∈ l, f ∈ F) : (l.flatMap factS).length ≤ l.length * 100 := by
  induction l with
  | nil => simp
  | cons f l ih =>
    have h1 := factS_len2 h (hl f List.mem_cons_self)
    have h2 := ih fun g hg => hl g (List.mem_cons_of_mem _ hg)
    rw [List.flatMap_cons, List.length_append, List.length_cons]
    omega
end Go.Fac
namespace Go.Proofs
open Go Go.Pd Go.Fac
open Go.Shelf
theorem Tryd.laysW : Go.Proofs.Lays.n166 Tryd.prog Tryd.lays156_ren :=
  have h := Tryd.lays156
  { mixed := h.mixed, f166 := h.f166, f240 := h.f240, f276 := h.f276, t0 := h.t0, a0 := h.a0, z0 := h.z0, v0 := h.v0, t3 := h.t3, a3 := h.a3, z3 := h.z3, v3 := h.v3, t4 := h.t4, a4 := h.a4, z4 := h.z4, v4 := h.v4, t9 := h.t9, a9 := h.a9, z9 := h.z9, v9 := h.v9, t20 := h.t20, a20 := h.a20, z20 := h.z20, v20 := h.v20, t37 := h.t37, a37 := h.a37, z37 := h.z37, v37 := h.v37, t70 := h.t70, a70 := h.a70, z70 := h.z70, v70 := h.v70, t72 := h.t72, a72 := h.a72, z72 := h.z72, v72 := h.v72, t75 := h.t75, a75 := h.a75, z75 := h.z75, v75 := h.v75, t164 := h.t164, a164 := h.a164, z164 := h.z164, v164 := h.v164 }
theorem lt_of_row {w : World} {b o : Nat} {v : Value} {vs : List Value} (h : Row w b o (v :: vs)) : b < w.heap.size := lt_of_cell (h 0 v rfl)
def Tabs (w : World) : Prop := Lib.TabIs Tryd.prog w "internal/strconv.uint64pow10" .u64 Lib.pow10Tab
theorem tab_ext {w w' : World} {name : String} {k : IntKind} {zs : List Int} (h : Lib.TabIs Tryd.prog w name k zs) (e : Ext w w') : Lib.TabIs Tryd.prog w' name k zs := by
  unfold Lib.TabIs World.var? at *
  cases hg : Program.globalNamed Tryd.prog name with
  | none => rw [hg] at h; exact h
  | some g =>
    rw [hg] at h
    simp only [Option.bind_some] at h ⊢
    cases hb : w.heap[g]? with
    | none => rw [hb] at h; cases h
    | some o =>
      have hlt : g < w.heap.size := (Array.getElem?_eq_some_iff.1 hb).1
      rw [e.same g hlt (fun h => h)]
      exact h
theorem Tabs.ext {w w' : World} (h : Tabs w) (e : Ext w w') : Tabs w' := tab_ext h e
theorem ext_grow {w : World} {k : Nat} {os : Array Obj} : Ext w (Go.Sort.grow (w.drewN k) os) := by
  refine ⟨?_, fun b hb _ => ?_, rfl, rfl⟩
  · show w.heap.size ≤ (w.heap ++ os).size
    simp
  · show (w.heap ++ os)[b]? = w.heap[b]?
    rw [Array.getElem?_append_left hb]
theorem itoa_calls {d : Int} (h0 : 0 ≤ d) (h1 : d ≤ 1000000) {w : World} (ht : Tabs w) : Calls Tryd.prog 53 #[.int .i64 d] w (fun e w' => ∃ v, e = .returned v ∧ v = str (decS d.toNat) ∧ Ext w w') := by
  refine Calls.mono (Tryd.strconv_Itoa d (by omega) (by omega) w ht) ?_
  rintro e w' ⟨rfl, k, os, rfl⟩
  refine ⟨_, rfl, ?_, ext_grow⟩
  rw [decS_itoa h0, str_eq]
theorem join_calls {xs : List Tx} {sep : Tx} {jv : Value} {w : World} (h : Sl w jv 1 (xs.map str)) (hn : xs.length ≤ 1000000) (hlen : (Lib.join xs sep).length ≤ 1000000) : Calls Tryd.prog 55 #[jv, str sep] w (fun e w' => ∃ v, e = .returned v ∧ v = str (Lib.join xs sep) ∧ Ext w w') := by
  cases xs with
  | nil =>
    rcases h with ⟨rfl, -⟩ | ⟨a, m, c, rfl, h2, h3, h4, h5⟩
    · rw [str_eq]
      refine Calls.mono (Tryd.strings_Join_none none 0 ⟨sep.toArray⟩ w) ?_
      rintro e w' ⟨rfl, rfl⟩
      exact ⟨_, rfl, by rw [str_eq]; rfl, .refl _ _⟩
    · obtain rfl : m = 0 := by simpa using h2.symm
      rw [str_eq]
      refine Calls.mono (Tryd.strings_Join_none (some a) c ⟨sep.toArray⟩ w) ?_
      rintro e w' ⟨rfl, rfl⟩
      exact ⟨_, rfl, by rw [str_eq]; rfl, .refl _ _⟩
  | cons x xs =>
    rcases h with ⟨-, h⟩ | ⟨a, m, c, rfl, h2, h3, h4, h5⟩
    · cases h
    · obtain ⟨bk, off, spot⟩ := a
      have hm : m = (x :: xs).length := by simpa using h2.symm
      subst hm
      have hsp : spot = none := h4 (by simp at h3; omega)
      subst hsp
      have hmap : ((x :: xs).map fun t => (⟨t.toArray⟩ : ByteArray)).map (·.data.toList) = x :: xs := by
        rw [List.map_map]
        have : ((fun b : ByteArray => b.data.toList) ∘ fun t : Tx => (⟨t.toArray⟩ : ByteArray)) = id := by funext t; simp
        rw [this, List.map_id]
      have hlen2 : ((x :: xs).map fun t => (⟨t.toArray⟩ : ByteArray)).length = (x :: xs).length := List.length_map _
      have hblt : bk < w.heap.size := lt_of_row (v := str x) (vs := xs.map str) h5
      have := Tryd.strings_Join bk off c ((x :: xs).map fun t => (⟨t.toArray⟩ : ByteArray)) ⟨sep.toArray⟩ w (fun j y hy => by
        refine h5 j _ ?_
        rw [List.getElem?_map] at hy ⊢
        cases hj : (x :: xs)[j]? with
        | none => rw [hj] at hy; cases hy
        | some t =>
          rw [hj] at hy
          cases hy
          rw [Option.map_some, str_eq]) hblt (by rw [hlen2]; omega) (by rw [hlen2]; exact h3) (by rw [hmap]; show (Lib.join _ sep.toArray.toList).length ≤ _; simp only [List.toList_toArray] at hlen ⊢; omega)
      rw [hlen2, hmap] at this
      rw [str_eq]
      refine Calls.mono this ?_
      rintro e w' ⟨rfl, hb⟩
      refine ⟨_, rfl, ?_, ⟨hb.size, fun b hlt _ => hb.block b hlt, hb.os, hb.output⟩⟩
      rw [str_eq]
/-! ### A builder -/
def IsB (b : Nat) (t : Tx) (w : World) : Prop := Lib.IsBuilder 83 5 b b (Lib.byteCells t) w ∧ b ≤ w.heap.size
theorem bAt_ext {p : Value} {b : Nat} {bs : List Value} {w w' : World} (h : Lib.BuilderAt 83 5 b b p bs w) (e : Ext w w') : Lib.BuilderAt 83 5 b b p bs w' := by
  have same : ∀ g o, w.heap[g]? = some o → w'.heap[g]? = some o := fun g o hg => by
    have hlt : g < w.heap.size := (Array.getElem?_eq_some_iff.1 hg).1
    rw [e.same g hlt (fun h => h)]
    exact hg
  obtain ⟨hB, v, hb, ⟨hl, hown⟩, hne⟩ := h
  refine ⟨hB, v, same _ _ hb, ⟨hl, ?_⟩, hne⟩
  rcases hown with h | ⟨g, cap, cur, h1, h2, h3, h4, h5, h6, h7⟩
  · exact .inl h
  · exact .inr ⟨g, cap, cur, h1, h2, same _ _ h3, h4, h5, h6, h7⟩
theorem IsB.ext {b : Nat} {t : Tx} {w w' : World} (h : IsB b t w) (e : Ext w w') : IsB b t w' :=
  ⟨h.1.elim (fun h => .inl (bAt_ext h e)) (fun h => .inr (bAt_ext h e)), Nat.le_trans h.2 e.size⟩
theorem IsB.fresh {b : Nat} {w : World} (h : w.heap[b]? = some (.cells #[.pointer none, .slice none 0 0] 83 (0, 0))) : IsB b [] w :=
  ⟨.inl ⟨Nat.le_refl _, _, h, ⟨rfl, .inl ⟨rfl, rfl⟩⟩, nofun⟩, Nat.le_of_lt (Array.getElem?_eq_some_iff.1 h).1⟩
theorem ext_below {w0 w w' : World} {b : Nat} (hb : w0.heap.size ≤ b) (h : Ext w0 w) (k : RowKit.Below b w w') : Ext w0 w' :=
  ⟨Nat.le_trans h.size k.size, fun i hi hn => (k.block i (by omega)).trans (h.same i hi hn), k.os.trans h.os, k.output.trans h.out⟩
theorem strCells_mk (s : Tx) : Lib.strCells ⟨s.toArray⟩ = Lib.byteCells s := rfl
theorem wstr_calls {b : Nat} {t s : Tx} {w : World} (h : IsB b t w) (hlen : t.length + s.length ≤ 1000000000) : Calls Tryd.prog 54 #[.pointer (some ⟨b, 0, none⟩), str s] w (fun e w' => ∃ v, e = .returned v ∧ IsB b (t ++ s) w' ∧ RowKit.Below b w w') := by
  rw [str_eq]
  refine Calls.mono (Any.Builder_WriteString Tryd.laysW Tryd.Builder_Extra_156 b b (Lib.byteCells t) ⟨s.toArray⟩ w h.1 (by rw [Lib.byteCells_length]; show _ + s.toArray.size ≤ _; simp; omega) h.2) ?_
  rintro e w' ⟨rfl, h1, h2⟩
  refine ⟨_, rfl, ⟨.inr ?_, Nat.le_trans h.2 h2.size⟩, h2⟩
  rw [strCells_mk] at h1
  rw [show Lib.byteCells (t ++ s) = Lib.byteCells t ++ Lib.byteCells s from List.map_append]
  exact h1
theorem bstr_calls {b : Nat} {t : Tx} {w : World} (h : IsB b t w) : Calls Tryd.prog 56 #[.pointer (some ⟨b, 0, none⟩)] w (fun e w' => ∃ v, e = .returned v ∧ v = str t ∧ RowKit.Below b w w') := by
  refine Calls.mono (Tryd.Builder_String_any b b t w h.1 h.2) ?_
  rintro e w' ⟨rfl, h2⟩
  exact ⟨_, rfl, by rw [str_eq], h2⟩
end Go.Proofs
