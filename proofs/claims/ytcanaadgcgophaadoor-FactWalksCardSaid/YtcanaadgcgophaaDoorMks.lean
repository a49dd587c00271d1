/-
  make of a slice of one-celled things; delete.
-/
import Derived.Test.YtcanaadgcgophaaDoorLA
import Derived.Test.YtcanaadgcgophaaDoorLC
import Derived.Laws.MakeOwn
set_option linter.unusedVariables false
set_option linter.unusedSimpArgs false
set_option linter.unnecessarySimpa false
set_option maxRecDepth 10000
namespace Go.Pd
open Go
section
variable {P : Program} {r : Option Nat} {n : Nat} {ops : Array Oper} {K : St → World → Prop} {X : List PanicEntry → St → World → Prop} {l : List Oper} {s : St} {w w0 : World} {M : Nat → Prop} {bl : List (Nat × Obj)}
variable {d : Nat} {ty : TypeId} {p : String} {af : Array Edge} {g : Option (Nat × Bool)}
theorem made_one (z : Value) (m : Nat) : madeCells #[z] (m * 1) = (List.replicate m z).toArray := by
  apply Array.ext'
  apply List.ext_getElem
  · simp [madeCells]
  · intro i h1 h2
    simp [madeCells, Nat.mod_one]
theorem o_makeSlice {t e bytes m : Nat} {x y : Operand} {z : Value} {kk kc : IntKind} (hl : LH w0 M w bl) (hw : Region.wanted ⟨some d, .makeSlice t x y, ty, p, af, g⟩ (yieldedE ops n s) = true) (hu : P.underlying t = some (.slice e)) (hi : infoT P e = some (1, bytes, 1)) (hz : zeroV P e = some z) (hz1 : z.cells = #[z])
    (hx : rd n s x = .int kk (m : Int)) (hy : rd n s y = .int kc (m : Int)) (hb : bytes * m ≤ 140737488355328) (hm : m ≤ 9223372036854775807)
    (hk : ∀ b w', w0.heap.size ≤ b → LH w0 M w' ((b, .cells (List.replicate m z).toArray e (0, 0)) :: bl) → OpsL P r n ops K X l (s.set d (.slice (some ⟨b, 0, none⟩) m m)) w') : OpsL P r n ops K X (⟨some d, .makeSlice t x y, ty, p, af, g⟩ :: l) s w := by
  obtain ⟨inf, z', hi1, hz', hs1, hs2, hs3⟩ := infoT_some hi
  have hzz : z' = z := by
    unfold zeroV at hz
    rw [hi1] at hz
    simp only [Option.bind_some] at hz
    rw [hz'] at hz
    exact Option.some.inj hz
  subst hzz
  have hr := run_make (P := P) w t e inf z' hu hi1 hz' kk kc (m : Int) (m : Int) (by omega) (by omega) (by have h5 : ((bytes * m : Nat) : Int) ≤ 140737488355328 := (by omega); rw [hs2]; rw [Int.natCast_mul] at h5; omega) (by omega)
  simp only [Int.toNat_natCast] at hr
  rw [hz1, hs1, made_one] at hr
  refine o_val (w' := { w with heap := w.heap.push (.cells (List.replicate m z').toArray e) }) hw ?_ (hk w.heap.size _ hl.upd.size (hl.alloc _))
  rw [Oper.semAt_eq _ _ _ (fun c e => by cases e)]
  simp only [execOp, hx, hy]
  rw [sem_bind hr]
  rfl
end
section
variable {α : Type} [DecidableEq α] {f : α → Value}
variable {P : Program} {r : Option Nat} {n : Nat} {ops : Array Oper} {K : St → World → Prop} {X : List PanicEntry → St → World → Prop} {lo : List Oper} {s : St} {w w0 : World} {M : Nat → Prop} {bl : List (Nat × Obj)}
variable {d : Nat} {ty : TypeId} {p : String} {af : Array Edge} {g : Option (Nat × Bool)}
theorem o_delete {at_ : Array TypeId} {mt kt et : TypeId} {m kx : Operand} {b : Nat} {es : Array MapEntry} {c : Nat} {l : List (α × Value)} (a : α) (hl : LH w0 M w bl) (i : Nat) (hi : bl[i]? = some (b, .map es c)) (hm : MapR f es l) (hk : Key P kt f) (hw : Region.wanted ⟨none, .call ⟨.builtin .delete, #[m, kx], at_⟩, ty, p, af, g⟩ (yieldedE ops n s) = true) (ht : at_[0]? = some mt) (hu : P.underlying mt = some (.map kt et))
    (hx : rd n s m = .map (some b)) (hix : rd n s kx = f a) (hkk : ∀ w' es', MapR f es' (del l a) → LH w0 M w' (bl.set i (b, .map es' c)) → OpsL P r n ops K X lo s w') : OpsL P r n ops K X (⟨none, .call ⟨.builtin .delete, #[m, kx], at_⟩, ty, p, af, g⟩ :: lo) s w := by
  obtain ⟨es', hr, hm'⟩ := run_delete (P := P) (a := a) (ty' := ty) (at_ := at_) ht hu hk hm (hl.get i hi)
  refine o_wanted hw ?_
  unfold OpW
  rw [Oper.semAt_eq _ _ _ (fun c e => by cases e)]
  simp only [execOp, resolve, List.map_toArray, List.map_cons, List.map_nil, hx, hix]
  rw [sem_bind (w' := w) rfl]
  simp only [invoke, builtin]
  rw [sem_bind hr]
  exact hkk _ es' hm' (hl.put i hi ⟨rfl, rfl, rfl⟩)
end
end Go.Pd
