/-
  The reference's network: makeSlice; three operations in any order; a new one's memory.
-/
import Derived.Test.YthiiodbjmcafgaaNrG
import Derived.Laws.MakeOwn
set_option linter.unusedVariables false
set_option linter.unusedSimpArgs false
set_option linter.unnecessarySimpa false
set_option maxRecDepth 10000
namespace Go.Pd
variable {P : Program} {r : Option Nat} {n : Nat}
section
variable {ops : Array Oper} {K : St → World → Prop} {X : List PanicEntry → St → World → Prop} {l : List Oper} {s : St} {w w0 : World} {M : Nat → Prop} {bl : List (Nat × Obj)}
variable {d : Nat} {ty : TypeId} {p : String} {af : Array Edge} {g : Option (Nat × Bool)}
theorem made_one (z : Value) (m : Nat) : madeCells #[z] (m * 1) = (List.replicate m z).toArray := by
  apply Array.ext'
  apply List.ext_getElem
  · simp [madeCells]
  · intro i h1 h2
    simp [madeCells, Nat.mod_one]
theorem o_makeSlice {t e bytes m : Nat} {x y : Operand} {z : Value} {kk kc : IntKind} (hl : LH w0 M w bl) (hw : Region.wanted ⟨some d, .makeSlice t x y, ty, p, af, g⟩ (yieldedE ops n s) = true) (hu : P.underlying t = some (.slice e)) (hi : infoT P e = some (1, bytes, 1)) (hz : zeroV P e = some z) (hz1 : z.cells = #[z])
    (hx : rd n s x = .int kk (m : Int)) (hy : rd n s y = .int kc (m : Int)) (hb : bytes * m ≤ 140737488355328) (hm : m ≤ 9223372036854775807)
    (hk : ∀ b w', w0.heap.size ≤ b → LH w0 M w' ((b, .cells (List.replicate m z).toArray e (0, 0)) :: bl) → OpsL P r n ops K X l (s.set d (.slice (some ⟨b, 0, none⟩) m m)) w') : OpsL P r n ops K X (⟨some d, .makeSlice t x y, ty, p, af, g⟩ :: l) s w := by
  obtain ⟨inf, z', hi1, hz', hs1, hs2, hs3⟩ := infoT_some hi
  have hzz : z' = z := by
    unfold zeroV at hz
    rw [hi1] at hz
    simp only [Option.bind_some] at hz
    rw [hz'] at hz
    exact Option.some.inj hz
  subst hzz
  have hr := run_make (P := P) w t e inf z' hu hi1 hz' kk kc (m : Int) (m : Int) (by omega) (by omega) (by have h5 : ((bytes * m : Nat) : Int) ≤ 140737488355328 := (by omega); rw [hs2]; rw [Int.natCast_mul] at h5; omega) (by omega)
  simp only [Int.toNat_natCast] at hr
  rw [hz1, hs1, made_one] at hr
  refine o_val (w' := { w with heap := w.heap.push (.cells (List.replicate m z').toArray e) }) hw ?_ (hk w.heap.size _ hl.upd.size (hl.alloc _))
  rw [Oper.semAt_eq _ _ _ (fun c e => by cases e)]
  simp only [execOp, hx, hy]
  rw [sem_bind hr]
  rfl
end
section
variable {ops : Array Oper} {E T : List Nat} {C2 : World → Prop} {K : St → World → Prop} {X : List PanicEntry → St → World → Prop}
theorem opsT_3 {g : Nat} {D : List Nat} {s : St} {w : World} {i i' i'' : Nat} {o o' o'' : Oper} (ha : avail ops T D = [i, i', i'']) (ho : ops[i]? = some o) (ho' : ops[i']? = some o') (ho'' : ops[i'']? = some o'') (hw : Region.wanted o (yieldedE ops n s) = true) (hw' : Region.wanted o' (yieldedE ops n s) = true) (hw'' : Region.wanted o'' (yieldedE ops n s) = true)
    (h : OpsL P r n ops (fun s w => (C2 w ∨ E.all (fun e => (i :: D).any fun t => anc ops ops.size t e) = true) ∧ OpsT P r n ops E T C2 K (fun c => X c) g (i :: D) s w) (fun c => X c) [o] s w)
    (h' : OpsL P r n ops (fun s w => (C2 w ∨ E.all (fun e => (i' :: D).any fun t => anc ops ops.size t e) = true) ∧ OpsT P r n ops E T C2 K (fun c => X c) g (i' :: D) s w) (fun c => X c) [o'] s w)
    (h'' : OpsL P r n ops (fun s w => (C2 w ∨ E.all (fun e => (i'' :: D).any fun t => anc ops ops.size t e) = true) ∧ OpsT P r n ops E T C2 K (fun c => X c) g (i'' :: D) s w) (fun c => X c) [o''] s w) : OpsT P r n ops E T C2 K (fun c => X c) (g + 1) D s w := by
  intro j hj
  rw [ha] at hj
  rcases List.mem_cons.1 hj with rfl | hj
  · exact opsT_op ho hw h
  rcases List.mem_cons.1 hj with rfl | hj
  · exact opsT_op ho' hw' h'
  · rw [List.mem_singleton.1 hj]
    exact opsT_op ho'' hw'' h''
end
theorem p3_yxz {α : Type} (x y z : α) (l : List α) : (y :: x :: z :: l).Perm (x :: y :: z :: l) := List.Perm.swap x y (z :: l)
theorem p3_xzy {α : Type} (x y z : α) (l : List α) : (x :: z :: y :: l).Perm (x :: y :: z :: l) := (List.Perm.swap y z l).cons x
theorem p3_zxy {α : Type} (x y z : α) (l : List α) : (z :: x :: y :: l).Perm (x :: y :: z :: l) := (List.Perm.swap x z (y :: l)).trans (p3_xzy x y z l)
theorem p3_yzx {α : Type} (x y z : α) (l : List α) : (y :: z :: x :: l).Perm (x :: y :: z :: l) := ((List.Perm.swap x z l).cons y).trans (p3_yxz x y z l)
theorem p3_zyx {α : Type} (x y z : α) (l : List α) : (z :: y :: x :: l).Perm (x :: y :: z :: l) := ((List.Perm.swap x y l).cons z).trans (p3_zxy x y z l)
end Go.Pd
namespace Go.Ne
open Go Go.Pd
theorem flt_const (n : Nat) (z : Value) : flt n (fun _ => [z]) ++ [] = List.replicate n z := by
  rw [List.append_nil]
  unfold flt
  induction n with
  | zero => rfl
  | succ n ih => rw [List.range_succ, List.flatMap_append, ih, List.replicate_succ']; rfl
theorem flt_succ (n : Nat) (f : Nat → List Value) : flt (n + 1) f = flt n f ++ f n := by
  unfold flt
  rw [List.range_succ, List.flatMap_append, List.flatMap_singleton]
def mkR (p : Nat) (hb kb gb qi oi : Nat → Nat) : RefB := ⟨p, 0, 0, [], 0, 0, [], 0, 0, [], .slice none 0 0, [], hb, kb, gb, qi, oi, fun _ _ => 0, fun _ _ => 0, fun _ _ => false, fun _ => .slice none 0 0, fun _ _ => .slice none 0 0, fun _ _ => .slice none 0 0, fun _ _ => [], fun _ => False⟩
def rowsL (R : RefB) (n i : Nat) : List (Nat × Obj) := (List.range (5 * i)).map fun m => R.row n (m / 5) (m % 5)
theorem rowsL_succ (R : RefB) (n i : Nat) : rowsL R n (i + 1) = rowsL R n i ++ [R.row n i 0, R.row n i 1, R.row n i 2, R.row n i 3, R.row n i 4] := by
  unfold rowsL
  rw [show 5 * (i + 1) = 5 * i + 1 + 1 + 1 + 1 + 1 by omega]
  simp only [List.range_succ, List.map_append, List.map_cons, List.map_nil, List.append_assoc, List.cons_append, List.nil_append]
  rw [show 5 * i / 5 = i by omega, show 5 * i % 5 = 0 by omega, show (5 * i + 1) / 5 = i by omega, show (5 * i + 1) % 5 = 1 by omega, show (5 * i + 1 + 1) / 5 = i by omega, show (5 * i + 1 + 1) % 5 = 2 by omega, show (5 * i + 1 + 1 + 1) / 5 = i by omega, show (5 * i + 1 + 1 + 1) % 5 = 3 by omega, show (5 * i + 1 + 1 + 1 + 1) / 5 = i by omega, show (5 * i + 1 + 1 + 1 + 1) % 5 = 4 by omega]
theorem rowsL_congr {R R' : RefB} {n i : Nat} (h : ∀ k kd, k < i → R'.row n k kd = R.row n k kd) : rowsL R' n i = rowsL R n i := by
  unfold rowsL
  refine List.map_congr_left fun m hm => h _ _ ?_
  have := List.mem_range.1 hm
  omega
theorem idx_rows (R : RefB) (n : Nat) : (idxN n).map (R.F n) = [R.top n 0, R.top n 1, R.top n 2, R.top n 3] ++ rowsL R n n := by
  unfold idxN rowsL
  rw [List.range_add, List.map_append, List.map_map]
  congr 1
  refine List.map_congr_left fun m _ => ?_
  show R.F n (4 + m) = _
  unfold RefB.F
  rw [if_neg (by omega), show 4 + m - 4 = m by omega]
end Go.Ne
