/-
  Conditions of commencement: the library's contracts, in plain words.
-/
import Derived.Test.YtebaoilkpedppaaGreatDoorQStR
import Derived.Test.YtebaoilkpedppaaGreatDoorQShelf
set_option linter.unusedVariables false
set_option linter.unusedSimpArgs false
set_option linter.unnecessarySimpa false
set_option maxRecDepth 10000
namespace Go.Proofs
open Go Go.Pd Go.Sta
attribute [local irreducible] OpsL W RetQ OpsQ OpsC
def Tabs (w : World) : Prop := Lib.TabIs Tryz.prog w "strings.asciiSpace" .u8 Lib.asciiSpaceTab ∧ Lib.TabIs Tryz.prog w "internal/strconv.uint64pow10" .u64 Lib.pow10Tab
theorem tab_ext {w w' : World} {name : String} {k : IntKind} {zs : List Int} (h : Lib.TabIs Tryz.prog w name k zs) (e : Ext w w') : Lib.TabIs Tryz.prog w' name k zs := by
  unfold Lib.TabIs World.var? at *
  cases hg : Program.globalNamed Tryz.prog name with
  | none => rw [hg] at h; exact h
  | some g =>
    rw [hg] at h
    simp only [Option.bind_some] at h ⊢
    cases hb : w.heap[g]? with
    | none => rw [hb] at h; cases h
    | some o =>
      have hlt : g < w.heap.size := (Array.getElem?_eq_some_iff.1 hb).1
      rw [e.same g hlt (fun h => h)]
      exact h
theorem Tabs.ext {w w' : World} (h : Tabs w) (e : Ext w w') : Tabs w' := ⟨tab_ext h.1 e, tab_ext h.2 e⟩
theorem ext_grow {w : World} {k : Nat} {os : Array Obj} : Ext w (Go.Sort.grow (w.drewN k) os) := by
  refine ⟨?_, fun b hb _ => ?_, rfl, rfl⟩
  · show w.heap.size ≤ (w.heap ++ os).size
    simp
  · show (w.heap ++ os)[b]? = w.heap[b]?
    rw [Array.getElem?_append_left hb]
theorem ext_bytes {w : World} {t : Nat} {s : ByteArray} : Ext w (Lib.bytesWorld w t s) := by
  refine ⟨by rw [Lib.bytesWorld_size]; omega, fun b hb _ => Lib.bytesWorld_at_old w t s b hb, ?_, ?_⟩
  · unfold Lib.bytesWorld World.freeze
    split <;> rfl
  · unfold Lib.bytesWorld World.freeze
    split <;> rfl
theorem itoa_calls {d : Int} (h0 : 0 ≤ d) (h1 : d ≤ 1000000) {w : World} (ht : Tabs w) : Calls Tryz.prog 48 #[.int .i64 d] w (fun e w' => ∃ v, e = .returned v ∧ v = str (decS d.toNat) ∧ Ext w w') := by
  refine Calls.mono (Tryz.strconv_Itoa d (by omega) (by omega) w ht.2) ?_
  rintro e w' ⟨rfl, k, os, rfl⟩
  refine ⟨_, rfl, ?_, ext_grow⟩
  rw [decS_itoa h0, str_eq]
theorem trim_calls {s : Tx} (hs : s.length ≤ 1000000) (ha : ∀ c ∈ s, c.toNat < 128) {w : World} (ht : Tabs w) : Calls Tryz.prog 49 #[str s] w (fun e w' => ∃ v, e = .returned v ∧ v = str (Lib.trimSpace s) ∧ Ext w w') := by
  rw [str_eq]
  refine Calls.mono (Tryz.strings_TrimSpace ⟨s.toArray⟩ w (by show s.toArray.size ≤ _; simp; omega) (fun j b hb => ha b (by
    have hb : s[j]? = some b := by simpa using hb
    exact List.mem_of_getElem? hb)) ht.1) ?_
  rintro e w' ⟨rfl, rfl⟩
  exact ⟨_, rfl, by rw [str_eq], ext_bytes⟩
theorem join_calls {xs : List Tx} {sep : Tx} {jv : Value} {w : World} (h : Sl w jv 1 (xs.map str)) (hn : xs.length ≤ 1000000) (hlen : (Lib.join xs sep).length ≤ 1000000) : Calls Tryz.prog 50 #[jv, str sep] w (fun e w' => ∃ v, e = .returned v ∧ v = str (Lib.join xs sep) ∧ Ext w w') := by
  cases xs with
  | nil =>
    rcases h with ⟨rfl, -⟩ | ⟨a, m, c, rfl, h2, h3, h4, h5⟩
    · rw [str_eq]
      refine Calls.mono (Tryz.strings_Join_none none 0 ⟨sep.toArray⟩ w) ?_
      rintro e w' ⟨rfl, rfl⟩
      exact ⟨_, rfl, by rw [str_eq]; rfl, .refl _ _⟩
    · obtain rfl : m = 0 := by simpa using h2.symm
      rw [str_eq]
      refine Calls.mono (Tryz.strings_Join_none (some a) c ⟨sep.toArray⟩ w) ?_
      rintro e w' ⟨rfl, rfl⟩
      exact ⟨_, rfl, by rw [str_eq]; rfl, .refl _ _⟩
  | cons x xs =>
    rcases h with ⟨-, h⟩ | ⟨a, m, c, rfl, h2, h3, h4, h5⟩
    · cases h
    · obtain ⟨bk, off, spot⟩ := a
      have hm : m = (x :: xs).length := by simpa using h2.symm
      subst hm
      have hsp : spot = none := h4 (by simp at h3; omega)
      subst hsp
      have hmap : ((x :: xs).map fun t => (⟨t.toArray⟩ : ByteArray)).map (·.data.toList) = x :: xs := by
        rw [List.map_map]
        have : ((fun b : ByteArray => b.data.toList) ∘ fun t : Tx => (⟨t.toArray⟩ : ByteArray)) = id := by funext t; simp
        rw [this, List.map_id]
      have hlen2 : ((x :: xs).map fun t => (⟨t.toArray⟩ : ByteArray)).length = (x :: xs).length := List.length_map _
      have hblt : bk < w.heap.size := lt_of_row (v := str x) (vs := xs.map str) h5
      have := Tryz.strings_Join bk off c ((x :: xs).map fun t => (⟨t.toArray⟩ : ByteArray)) ⟨sep.toArray⟩ w (fun j y hy => by
        refine h5 j _ ?_
        rw [List.getElem?_map] at hy ⊢
        cases hj : (x :: xs)[j]? with
        | none => rw [hj] at hy; cases hy
        | some t =>
          rw [hj] at hy
          cases hy
          rw [Option.map_some, str_eq]) hblt (by rw [hlen2]; omega) (by rw [hlen2]; exact h3) (by rw [hmap]; show (Lib.join _ sep.toArray.toList).length ≤ _; simp only [List.toList_toArray] at hlen ⊢; omega)
      rw [hlen2, hmap] at this
      rw [str_eq]
      refine Calls.mono this ?_
      rintro e w' ⟨rfl, hb⟩
      refine ⟨_, rfl, ?_, ⟨hb.size, fun b hlt _ => hb.block b hlt, hb.os, hb.output⟩⟩
      rw [str_eq]
end Go.Proofs
