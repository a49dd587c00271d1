/-
  The library's writer of texts (strings.Builder) and Itoa, laid at this program.
-/
import Derived.Test.YtpmjolbnmoejdaaGreatDoorQShelf
import Derived.Test.YtpmjolbnmoejdaaGreatDoorQLD
import Derived.Shelf.Strings.BuilderK
import Derived.Lib.ItoaNum
import Derived.Lib.ItoaLen
import Derived.Lib.LaidTab
set_option linter.unusedVariables false
set_option linter.unusedSimpArgs false
set_option linter.unnecessarySimpa false
set_option maxRecDepth 10000
namespace Go.Proofs
open Go Go.Pd
open Go.Shelf
def Tryz.laysB_ren : Go.Shelf.Ren := ⟨fun | 166 => 43 | 167 => 45 | 240 => 89 | 276 => 110 | n => n, fun | 37 => 96 | 70 => 95 | 72 => 98 | 75 => 100 | 80 => 106 | 164 => 163 | n => n, fun n => n⟩
theorem Tryz.laysB : Go.Proofs.Lays.n166 Tryz.prog Tryz.laysB_ren := {
  mixed := by kernel_rfl
  f166 := Tryz.func43.trans (congrArg some (by kernel_rfl))
  f240 := Tryz.func89.trans (congrArg some (by kernel_rfl))
  f276 := Tryz.func110.trans (congrArg some (by kernel_rfl))
  t0 := Tryz.underlying0
  a0 := Tryz.isAgg0
  z0 := Tryz.sizeOf0
  v0 := Tryz.zeroValue0
  t3 := Tryz.underlying3
  a3 := Tryz.isAgg3
  z3 := Tryz.sizeOf3
  v3 := Tryz.zeroValue3
  t4 := Tryz.underlying4
  a4 := Tryz.isAgg4
  z4 := Tryz.sizeOf4
  v4 := Tryz.zeroValue4
  t9 := Tryz.underlying9
  a9 := Tryz.isAgg9
  z9 := Tryz.sizeOf9
  v9 := Tryz.zeroValue9
  t20 := Tryz.underlying20
  a20 := Tryz.isAgg20
  z20 := Tryz.sizeOf20
  v20 := Tryz.zeroValue20
  t37 := Tryz.underlying96
  a37 := Tryz.isAgg96
  z37 := Tryz.sizeOf96
  v37 := Tryz.zeroValue96
  t70 := Tryz.underlying95
  a70 := Tryz.isAgg95
  z70 := Tryz.sizeOf95
  v70 := Tryz.zeroValue95
  t72 := Tryz.underlying98
  a72 := Tryz.isAgg98
  z72 := Tryz.sizeOf98
  v72 := Tryz.zeroValue98
  t75 := Tryz.underlying100
  a75 := Tryz.isAgg100
  z75 := Tryz.sizeOf100
  v75 := Tryz.zeroValue100
  t164 := Tryz.underlying163
  a164 := Tryz.isAgg163
  z164 := Tryz.sizeOf163
  v164 := Tryz.zeroValue163 }
theorem Tryz.laysC : Go.Proofs.Lays.n167 Tryz.prog Tryz.laysB_ren := {
  mixed := by kernel_rfl
  f167 := Tryz.func45.trans (congrArg some (by kernel_rfl))
  f240 := Tryz.func89.trans (congrArg some (by kernel_rfl))
  f276 := Tryz.func110.trans (congrArg some (by kernel_rfl))
  t0 := Tryz.underlying0
  a0 := Tryz.isAgg0
  z0 := Tryz.sizeOf0
  v0 := Tryz.zeroValue0
  t4 := Tryz.underlying4
  a4 := Tryz.isAgg4
  z4 := Tryz.sizeOf4
  v4 := Tryz.zeroValue4
  t5 := Tryz.underlying5
  a5 := Tryz.isAgg5
  z5 := Tryz.sizeOf5
  v5 := Tryz.zeroValue5
  t9 := Tryz.underlying9
  a9 := Tryz.isAgg9
  z9 := Tryz.sizeOf9
  v9 := Tryz.zeroValue9
  t20 := Tryz.underlying20
  a20 := Tryz.isAgg20
  z20 := Tryz.sizeOf20
  v20 := Tryz.zeroValue20
  t37 := Tryz.underlying96
  a37 := Tryz.isAgg96
  z37 := Tryz.sizeOf96
  v37 := Tryz.zeroValue96
  t70 := Tryz.underlying95
  a70 := Tryz.isAgg95
  z70 := Tryz.sizeOf95
  v70 := Tryz.zeroValue95
  t72 := Tryz.underlying98
  a72 := Tryz.isAgg98
  z72 := Tryz.sizeOf98
  v72 := Tryz.zeroValue98
  t75 := Tryz.underlying100
  a75 := Tryz.isAgg100
  z75 := Tryz.sizeOf100
  v75 := Tryz.zeroValue100
  t164 := Tryz.underlying163
  a164 := Tryz.isAgg163
  z164 := Tryz.sizeOf163
  v164 := Tryz.zeroValue163 }
theorem Tryz.extraB : Builder.Extra Tryz.prog Tryz.laysB_ren := {
  sizeBuilder := by kernel_rfl
  liesBuilder := by kernel_rfl
  t5 := Tryz.underlying5
  a5 := Tryz.isAgg5
  z5 := Tryz.sizeOf5
  v5 := Tryz.zeroValue5
  infoByte := by kernel_rfl
  cellsByte := by kernel_rfl
  sizeByte := by kernel_rfl
  neB5 := by decide }
def Tabs (w : World) : Prop := Lib.TabIs Tryz.prog w "internal/strconv.uint64pow10" .u64 Lib.pow10Tab
theorem tab_ext {w w' : World} {name : String} {k : IntKind} {zs : List Int} (h : Lib.TabIs Tryz.prog w name k zs) (e : Ext w w') : Lib.TabIs Tryz.prog w' name k zs := by
  unfold Lib.TabIs World.var? at *
  cases hg : Program.globalNamed Tryz.prog name with
  | none => rw [hg] at h; exact h
  | some g =>
    rw [hg] at h
    simp only [Option.bind_some] at h ⊢
    cases hb : w.heap[g]? with
    | none => rw [hb] at h; cases h
    | some o =>
      have hlt : g < w.heap.size := (Array.getElem?_eq_some_iff.1 hb).1
      rw [e.same g hlt (fun h => h)]
      exact h
theorem Tabs.ext {w w' : World} (h : Tabs w) (e : Ext w w') : Tabs w' := tab_ext h e
theorem ext_grow {w : World} {k : Nat} {os : Array Obj} : Ext w (Go.Sort.grow (w.drewN k) os) := by
  refine ⟨?_, fun b hb _ => ?_, rfl, rfl⟩
  · show w.heap.size ≤ (w.heap ++ os).size
    simp
  · show (w.heap ++ os)[b]? = w.heap[b]?
    rw [Array.getElem?_append_left hb]
abbrev Tx := List UInt8
theorem itoa_len {d : Int} (h0 : 0 ≤ d) (h1 : d ≤ 1000000) : (Lib.itoa d).length ≤ 21 := Lib.itoa_length_le d (by omega) (by omega)
theorem itoa_calls {d : Int} (h0 : 0 ≤ d) (h1 : d ≤ 1000000) {w : World} (ht : Tabs w) : Calls Tryz.prog 44 #[.int .i64 d] w (fun e w' => ∃ v, e = .returned v ∧ (∃ s : Tx, s.length ≤ 21 ∧ v = str s) ∧ Ext w w') := by
  refine Calls.mono (Tryz.strconv_Itoa d (by omega) (by omega) w ht) ?_
  rintro e w' ⟨rfl, k, os, rfl⟩
  refine ⟨_, rfl, ⟨Lib.itoa d, itoa_len h0 h1, ?_⟩, ext_grow⟩
  rw [str_eq]
/-! ### A builder -/
structure Keep (b : Nat) (w w' : World) : Prop where
  size : w.heap.size ≤ w'.heap.size
  below : ∀ k, k < b → w'.heap[k]? = w.heap[k]?
  os : w'.os = w.os
  out : w'.output = w.output
  others : Lib.OthersKept 5 (some b) w w'
theorem Keep.refl (b : Nat) (w : World) : Keep b w w := ⟨Nat.le_refl _, fun _ _ => rfl, rfl, rfl, Lib.OthersKept.refl _ _ _⟩
theorem Keep.trans {b : Nat} {a c d : World} (h : Keep b a c) (k : Keep b c d) : Keep b a d := ⟨Nat.le_trans h.size k.size, fun i hi => (k.below i hi).trans (h.below i hi), k.os.trans h.os, k.out.trans h.out, h.others.trans k.others⟩
theorem Keep.of {b : Nat} {w w' : World} (h : RowKit.Below b w w') (h2 : Lib.OthersKept 5 (some b) w w') : Keep b w w' := ⟨h.size, h.block, h.os, h.output, h2⟩
theorem Keep.of_ext {b : Nat} {w w' : World} (hb : b ≤ w.heap.size) (e : Ext w w') : Keep b w w' :=
  ⟨e.size, fun k hk => e.same k (by omega) (fun h => h), e.os, e.out, fun k o hk _ _ => by rw [e.same k (Array.getElem?_eq_some_iff.1 hk).1 (fun h => h)]; exact hk⟩
theorem Keep.ext {b : Nat} {w0 w w' : World} (hb : w0.heap.size ≤ b) (h : Ext w0 w) (k : Keep b w w') : Ext w0 w' :=
  ⟨Nat.le_trans h.size k.size, fun i hi hn => (k.below i (by omega)).trans (h.same i hi hn), k.os.trans h.os, k.out.trans h.out⟩
def IsB (b : Nat) (t : Tx) (w : World) : Prop := Lib.IsBuilderF 98 5 b b (Lib.byteCells t) w ∧ b ≤ w.heap.size
theorem bAt_ext {p : Value} {b : Nat} {bs : List Value} {w w' : World} (h : Lib.BuilderAtF 98 5 b b p bs w) (e : Ext w w') : Lib.BuilderAtF 98 5 b b p bs w' := by
  have same : ∀ g o, w.heap[g]? = some o → w'.heap[g]? = some o := fun g o hg => by
    have hlt : g < w.heap.size := (Array.getElem?_eq_some_iff.1 hg).1
    rw [e.same g hlt (fun h => h)]
    exact hg
  obtain ⟨hB, v, hb, ⟨hl, hown⟩, hne⟩ := h
  refine ⟨hB, v, same _ _ hb, ⟨hl, ?_⟩, hne⟩
  rcases hown with h | ⟨g, cap, cur, fz, h1, h2, h3, h4, h5, h6, h7⟩
  · exact .inl h
  · exact .inr ⟨g, cap, cur, fz, h1, h2, same _ _ h3, h4, h5, h6, h7⟩
theorem IsB.ext {b : Nat} {t : Tx} {w w' : World} (h : IsB b t w) (e : Ext w w') : IsB b t w' :=
  ⟨h.1.elim (fun h => .inl (bAt_ext h e)) (fun h => .inr (bAt_ext h e)), Nat.le_trans h.2 e.size⟩
theorem IsB.fresh {b : Nat} {w : World} (h : w.heap[b]? = some (.cells #[.pointer none, .slice none 0 0] 98 (0, 0))) : IsB b [] w :=
  ⟨Lib.IsBuilderF.of (.inl ⟨Nat.le_refl _, _, h, ⟨rfl, .inl ⟨rfl, rfl⟩⟩, nofun⟩), Nat.le_of_lt (Array.getElem?_eq_some_iff.1 h).1⟩
theorem strCells_mk (s : Tx) : Lib.strCells ⟨s.toArray⟩ = Lib.byteCells s := rfl
theorem wstr_calls {b : Nat} {t s : Tx} {w : World} (h : IsB b t w) (hlen : t.length + s.length ≤ 1000000000) : Calls Tryz.prog 43 #[.pointer (some ⟨b, 0, none⟩), str s] w (fun e w' => ∃ v, e = .returned v ∧ IsB b (t ++ s) w' ∧ Keep b w w') := by
  rw [str_eq]
  refine Calls.mono (Any.Builder_WriteString_k Tryz.laysB Tryz.extraB b b (Lib.byteCells t) ⟨s.toArray⟩ w h.1 (by rw [Lib.byteCells_length]; show _ + s.toArray.size ≤ _; simp; omega) h.2) ?_
  rintro e w' ⟨rfl, h1, h2, h3⟩
  refine ⟨_, rfl, ⟨.inr ?_, Nat.le_trans h.2 h2.size⟩, .of h2 h3⟩
  rw [strCells_mk] at h1
  rw [show Lib.byteCells (t ++ s) = Lib.byteCells t ++ Lib.byteCells s from List.map_append]
  exact h1
theorem wbyte_calls {b : Nat} {t : Tx} {c : Nat} (hc : c < 256) {w : World} (h : IsB b t w) (hlen : t.length + 1 ≤ 1000000000) : Calls Tryz.prog 45 #[.pointer (some ⟨b, 0, none⟩), .int .u8 (c : Int)] w (fun e w' => ∃ v, e = .returned v ∧ IsB b (t ++ [UInt8.ofNat c]) w' ∧ Keep b w w') := by
  refine Calls.mono (Any.Builder_WriteByte_k Tryz.laysC Tryz.extraB b b (Lib.byteCells t) (c : Int) w h.1 (by rw [Lib.byteCells_length]; omega) h.2) ?_
  rintro e w' ⟨rfl, h1, h2, h3⟩
  refine ⟨_, rfl, ⟨.inr ?_, Nat.le_trans h.2 h2.size⟩, .of h2 h3⟩
  rw [show Lib.byteCells (t ++ [UInt8.ofNat c]) = Lib.byteCells t ++ [.int .u8 (c : Int)] from by
    unfold Lib.byteCells
    rw [List.map_append]
    congr 1
    simp
    omega]
  exact h1
theorem bstr_calls {b : Nat} {t : Tx} {w : World} (h : IsB b t w) : Calls Tryz.prog 46 #[.pointer (some ⟨b, 0, none⟩)] w (fun e w' => ∃ v, e = .returned v ∧ v = str t ∧ Keep b w w') := by
  refine Calls.mono (Any.Builder_String_any_k Tryz.lays169 Tryz.Builder_Extra_169 b b t w h.1 h.2) ?_
  rintro e w' ⟨rfl, h1, h2, h3⟩
  exact ⟨_, rfl, by rw [str_eq], .of h2 h3⟩
end Go.Proofs
