/-
  Limits: stops in order (the kit's contract of slices.SortFunc at structs).
-/
import Derived.Test.YtpmjolbnmoejdaaGreatDoorQGh
import Derived.Test.YtpmjolbnmoejdaaGreatDoorQLE
import Derived.Test.YtpmjolbnmoejdaaGreatDoorQLays
set_option linter.unusedVariables false
set_option linter.unusedSimpArgs false
set_option linter.unnecessarySimpa false
set_option maxRecDepth 10000
namespace Go.Proofs
open Go Go.Shelf Go.RowKit Go.Lib Go.Sort
open Go.Top (Stop)
abbrev DayStop := { s : Stop // 0 ≤ s.a ∧ s.a ≤ 1000000 }
instance : Inhabited DayStop := ⟨⟨⟨0, 0⟩, by decide⟩⟩
def dsL (x : DayStop) : List Value := [.int .i64 x.1.a, .int .i64 x.1.b]
set_option maxHeartbeats 1000000 in
theorem cmpStop (x y : DayStop) (W : World) : Calls Tryz.prog 73 #[.agg #[.int .i64 x.1.a, .int .i64 x.1.b], .agg #[.int .i64 y.1.a, .int .i64 y.1.b]] W fun e w' => e = .returned (.int .i64 (x.1.a - y.1.a)) ∧ ∃ q os', w' = grow (W.drewN q) os' := by
  have hx := x.2
  have hy := y.2
  have hw : IntKind.i64.wrap (x.1.a - y.1.a) = x.1.a - y.1.a := Go.Pd.wrap_i64 ⟨by omega, by omega⟩
  generalize x.1 = X at *
  generalize y.1 = Y at *
  go_enter Tryz.func73, Tryz.ntmps73
  go_wp2
  go_ret
  exact ⟨rfl, 0, _, by rw [alloc_eq_grow, alloc_eq_grow, grow_grow]; rfl⟩
theorem cmpLaysStop (blk off size : Nat) (w : World) : CmpLays Tryz.prog 73 #[] dsL 2 (fun x y => x.1.a - y.1.a) blk off size w := fun _ _ _ _ x y => cmpStop x y _
theorem ltStop (x y : DayStop) : ltOf (fun x y : DayStop => x.1.a - y.1.a) x y = decide (x.1.a < y.1.a) := by
  unfold ltOf
  by_cases h : x.1.a < y.1.a
  · simp [h]; omega
  · simp [h]; omega
theorem swoStop : SWO (ltOf fun x y : DayStop => x.1.a - y.1.a) where
  irrefl x := by rw [ltStop]; simp
  trans x y z h1 h2 := by rw [ltStop] at *; simp at *; omega
  ntrans x y z h1 h2 := by rw [ltStop] at *; simp at *; omega
theorem dsL_len (x : DayStop) : (dsL x).length = 2 := rfl
theorem flatK_list (d : Array DayStop) : (flatK dsL 2 d).toList = (d.toList.map (·.1)).flatMap stopL := by
  apply List.ext_getElem?
  intro t
  have hlen2 : ((d.toList.map (·.1)).flatMap stopL).length = d.size * 2 := by rw [stopsL_len]; simp
  by_cases ht : t < d.size * 2
  · have h1 : (flatK dsL 2 d).toList[t]? = some (flatK dsL 2 d)[t]! := by
      rw [Array.getElem?_toList, getElem!_pos _ _ (by rw [size_flatK]; exact ht), Array.getElem?_eq_getElem (by rw [size_flatK]; exact ht)]
    rw [h1, get_flatK _ _ _ _ ht]
    have hi : t / 2 < d.size := by omega
    have h2 := Go.Pd.flatten_get (k := 2) (css := (d.toList.map (·.1)).map stopL) (i := t / 2) (j := t % 2) (cs := stopL d[t / 2].1) (by intro cs hcs; obtain ⟨x, -, rfl⟩ := List.mem_map.1 hcs; rfl) (by simp [hi]) (by omega)
    rw [← List.flatMap_def, show t / 2 * 2 + t % 2 = t by omega] at h2
    rw [h2, getElem!_pos d (t / 2) hi]
    rcases Nat.mod_two_eq_zero_or_one t with e | e <;> rw [e] <;> rfl
  · rw [List.getElem?_eq_none (by rw [Array.length_toList, size_flatK]; omega), List.getElem?_eq_none (by rw [hlen2]; omega)]
theorem sort_calls_some {w0 w : World} {M : Nat → Prop} {bl : List (Nat × Obj)} {l : List Stop} {b cap : Nat} {junk : List Value} (hl : Go.Pd.LH w0 M w (bl ++ [(b, .cells (l.flatMap stopL ++ junk).toArray 93 (0, 0))])) (hb : ∀ x ∈ l, 0 ≤ x.a ∧ x.a ≤ 1000000) (hlen : l.length ≤ 100) :
    Calls Tryz.prog 72 #[.slice (some ⟨b, 0, none⟩) l.length cap, .func (.func 73) #[] #[]] w (fun e w' => ∃ v, e = .returned v ∧ ∃ l' : List Stop, l'.Perm l ∧ Go.Top.sortedS l' ∧ Go.Pd.LH w0 M w' (bl ++ [(b, .cells (l'.flatMap stopL ++ junk).toArray 93 (0, 0))])) := by
  obtain ⟨d, hd⟩ : ∃ d : Array DayStop, d.toList.map (·.1) = l := ⟨(l.pmap (fun s h => (⟨s, h⟩ : DayStop)) hb).toArray, by simp [List.map_pmap]⟩
  have hds : d.size = l.length := by rw [← hd]; simp
  have eg : ∀ args w, (callFunc 73 args).run Tryz.prog w = .ok (.enter 73 args) w := enters_of Tryz.func73 (by kernel_rfl) rfl
  have hown : w.heap[b]? = some (.cells (l.flatMap stopL ++ junk).toArray 93 (0, 0)) := hl.own (b, _) (List.mem_append_right _ List.mem_cons_self)
  have hblk : b < w.heap.size := (Array.getElem?_eq_some_iff.1 hown).1
  have hfl : (flatK dsL 2 d).toList = l.flatMap stopL := by rw [flatK_list, hd]
  have hH : HoldsK dsL 2 w b 0 d := by
    intro j hj
    have h1 : (l.flatMap stopL ++ junk)[j]? = some (flatK dsL 2 d)[j]! := by
      rw [← hfl, List.getElem?_append_left (by rw [Array.length_toList]; exact hj), Array.getElem?_toList, getElem!_pos (flatK dsL 2 d) j hj, Array.getElem?_eq_getElem hj]
    refine ⟨?_, ?_⟩
    · unfold World.cell?
      simp only
      rw [hown]
      simp only [Option.isSome_none, Bool.false_eq_true, if_false, Nat.zero_add, List.getElem?_toArray]
      exact h1
    · unfold World.frozen?
      simp only
      rw [hown]
      simp
  have hcon := AnyQ.slices_SortFunc Tryz.sortStop 2 Tryz.isAgg93 Tryz.sizeOf93 dsL dsL_len (fun x v hv => by simp [dsL] at hv; rcases hv with rfl | rfl <;> rfl) (fun x y => x.1.a - y.1.a) swoStop 73 #[] b 0 cap d w eg (cmpLaysStop b 0 d.size w) hH hblk (by omega)
  rw [hds] at hcon
  change Calls Tryz.prog 72 _ _ _ at hcon
  refine hcon.mono ?_
  rintro e w' ⟨rfl, d', n, os, hp, hs, rfl⟩
  refine ⟨_, rfl, d'.toList.map (·.1), ?_, ?_, ?_⟩
  · have h3 := hp.2.2
    have hsz := hp.1
    rw [← hds] at h3
    have e1 : d'.extract 0 d.size = d' := by rw [← hsz]; simp
    have e2 : d.extract 0 d.size = d := by simp
    rw [e1, e2] at h3
    rw [← hd]
    exact h3.map _
  · have hsz := hp.1
    refine List.pairwise_iff_getElem.2 fun i j hi hj hij => ?_
    have hj' : j < d'.size := by simpa using hj
    have hi' : i < d'.size := by omega
    have h4 := hs i j (Nat.zero_le _) hij (by omega)
    rw [getElem!_pos d' j hj', getElem!_pos d' i hi', ltStop, decide_eq_false_iff_not] at h4
    simp only [List.getElem_map, Array.getElem_toList]
    omega
  · have hsz := hp.1
    have hfl' := flatK_list d'
    generalize hL : d'.toList.map (·.1) = l' at *
    have hl'len : (l'.flatMap stopL).length = l.length * 2 := by rw [stopsL_len, ← hL]; simp [hsz, hds]
    have hcells : putCells id 0 (flatK dsL 2 d') (l.flatMap stopL ++ junk).toArray = (l'.flatMap stopL ++ junk).toArray := by
      unfold putCells
      apply Array.ext_getElem?
      intro t
      rw [Array.getElem?_mapIdx, List.getElem?_toArray, List.getElem?_toArray]
      have hFs : (flatK dsL 2 d').size = l.length * 2 := by rw [size_flatK, hsz, hds]
      by_cases ht : t < l.length * 2
      · have h1 : (l'.flatMap stopL ++ junk)[t]? = some (flatK dsL 2 d')[t]! := by
          rw [← hfl', List.getElem?_append_left (by rw [Array.length_toList, hFs]; exact ht), Array.getElem?_toList, getElem!_pos (flatK dsL 2 d') t (by rw [hFs]; exact ht), Array.getElem?_eq_getElem (by rw [hFs]; exact ht)]
        rw [h1, List.getElem?_append_left (by rw [stopsL_len]; exact ht), List.getElem?_eq_getElem (by rw [stopsL_len]; exact ht)]
        simp only [Option.map_some]
        rw [if_pos ⟨Nat.zero_le _, by rw [hFs]; omega⟩]
        rfl
      · rw [List.getElem?_append_right (by rw [stopsL_len]; omega), List.getElem?_append_right (by rw [hl'len]; omega), hl'len, stopsL_len]
        cases junk[t - l.length * 2]? with
        | none => rfl
        | some x =>
          simp only [Option.map_some]
          rw [if_neg (by rw [hFs]; omega)]
    have hset : Go.Pd.SetAt w (putRowK dsL 2 (Go.Sort.ahead w n) b 0 d') b (.cells (l'.flatMap stopL ++ junk).toArray 93 (0, 0)) := by
      refine ⟨?_, rfl, rfl⟩
      show (w.heap.modify b (onCells (putCells id 0 (flatK dsL 2 d')))) = _
      apply Array.ext_getElem?
      intro t
      rw [Array.getElem?_modify, Array.getElem?_setIfInBounds]
      by_cases hbt : b = t
      · subst hbt
        rw [if_pos rfl, if_pos rfl, if_pos hblk, hown]
        simp only [Option.map_some, onCells, hcells]
      · rw [if_neg hbt, if_neg hbt]
    have hi : (bl ++ [(b, Obj.cells (l.flatMap stopL ++ junk).toArray 93 (0, 0))])[bl.length]? = some (b, .cells (l.flatMap stopL ++ junk).toArray 93 (0, 0)) := by simp
    have h5 := hl.put bl.length hi hset
    rw [List.set_append_right _ _ (Nat.le_refl _), Nat.sub_self] at h5
    refine h5.ext ⟨?_, fun k hk _ => ?_, rfl, rfl⟩
    · show _ ≤ ((putRowK dsL 2 (Go.Sort.ahead w n) b 0 d').heap ++ os).size
      rw [Array.size_append]
      omega
    · show ((putRowK dsL 2 (Go.Sort.ahead w n) b 0 d').heap ++ os)[k]? = _
      rw [Array.getElem?_append_left hk]
end Go.Proofs
