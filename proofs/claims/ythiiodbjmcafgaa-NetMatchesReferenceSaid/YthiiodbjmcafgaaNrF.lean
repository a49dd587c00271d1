/-
  The reference's network: what Deliver needs.
-/
import Derived.Test.YthiiodbjmcafgaaNrE
set_option linter.unusedVariables false
set_option linter.unusedSimpArgs false
set_option linter.unnecessarySimpa false
set_option maxRecDepth 10000
namespace Go.Ne
open Go Go.Pd
def setPr (s : Net) (b a : Nat) (q : Peer) : Net := { s with node := upd s.node b ⟨(s.node b).texts, upd (s.node b).peer a q⟩ }
def setT (s : Net) (b : Nat) (ts : List Tx) : Net := { s with node := upd s.node b ⟨ts, (s.node b).peer⟩ }
theorem setPr_texts (s : Net) (b a : Nat) (q : Peer) (x : Nat) : texts (setPr s b a q) x = texts s x := by
  unfold texts setPr
  by_cases e : x = b
  · subst e; simp only [upd_same]
  · simp only [upd_ne _ _ e]
theorem setPr_peer (s : Net) (b a : Nat) (q : Peer) (x y : Nat) : ((setPr s b a q).node x).peer y = if x = b ∧ y = a then q else (s.node x).peer y := by
  unfold setPr
  by_cases e : x = b
  · subst e
    simp only [upd_same, true_and]
    by_cases e' : y = a
    · subst e'; rw [upd_same, if_pos rfl]
    · rw [upd_ne _ _ e', if_neg e']
  · simp only [upd_ne _ _ e, e, false_and, if_neg, not_false_eq_true]
theorem setT_texts (s : Net) (b : Nat) (ts : List Tx) (x : Nat) : texts (setT s b ts) x = if x = b then ts else texts s x := by
  unfold texts setT
  by_cases e : x = b
  · subst e; simp only [upd_same, if_pos]
  · simp only [upd_ne _ _ e, if_neg e]
theorem setT_peer (s : Net) (b : Nat) (ts : List Tx) (x y : Nat) : ((setT s b ts).node x).peer y = (s.node x).peer y := by
  unfold setT
  by_cases e : x = b
  · subst e; simp only [upd_same]
  · simp only [upd_ne _ _ e]
theorem recv_set (s : Net) (a b : Nat) (m : Msg) : recv s a b m = setT (setPr s b a ⟨max ((s.node b).peer a).heard m.len, max ((s.node b).peer a).known m.heard, m.texts.foldl addT ((s.node b).peer a).got⟩) b (m.texts.foldl addT (s.node b).texts) := by
  unfold recv setT setPr
  congr 1
  funext x
  by_cases e : x = b
  · subst e; simp only [upd_same]
  · simp only [upd_ne _ _ e]
theorem foldT_snoc {l : List Tx} (ts : List Tx) {k : Nat} (hk : k < l.length) : (l.take (k + 1)).foldl addT ts = addT ((l.take k).foldl addT ts) l[k] := by
  rw [List.take_succ_eq_append_getElem hk, List.foldl_append]; rfl
theorem perm3 {α : Type} (A B C : List α) : (A ++ (B ++ C)).Perm (C ++ (A ++ B)) := by
  rw [← List.append_assoc]; exact List.perm_append_comm
theorem foldT_lenR : ∀ (ts l : List Tx), (ts.foldl addT l).length ≤ l.length + ts.length
  | [], l => Nat.le_refl _
  | t :: ts, l => by
    have h1 := foldT_lenR ts (addT l t)
    have h2 := addT_len l t
    rw [List.foldl_cons, List.length_cons]; omega
section
variable {R : RefB} {s : Net} {w w' : World}
theorem SlO.keepD {D : Nat → Prop} {v : Value} {k : Nat} {vs : List Value} (h : SlO D w v k vs) (e : Upd D w w') : SlO D w' v k vs := ⟨h.upd e, h.2⟩
theorem SlO.addD {D : Nat → Prop} {v : Value} {k : Nat} {vs : List Value} {b : Nat} (h : SlO D w v k vs) (e : Ext w w') (hb : w.heap.size ≤ b) : SlO (fun x => D x ∨ x = b) w' v k vs := by
  refine ⟨h.1.ext e, ?_⟩
  by_cases hv : vs = []
  · exact .inl hv
  · right
    cases v with
    | slice a m c => cases a with
      | none => trivial
      | some a =>
        intro hi
        rcases hi with hi | hi
        · exact (h.2.resolve_left hv) hi
        · have := Sl.lt h.1 hv
          omega
    | _ => trivial
theorem QLeaf.map {D D' : Nat → Prop} {v : Value} {l : List (Value × Msg)} {ms : List Msg} (h : QLeaf D w v l ms) (f : ∀ {v : Value} {k : Nat} {vs : List Value}, SlO D w v k vs → SlO D' w' v k vs) : QLeaf D' w' v l ms := ⟨f h.hv, h.hl, fun q hq => f (h.hs q hq)⟩
/-- The leaves, whatever happened to the rest. -/
theorem RefOK.map {R' : RefB} (h : RefOK R s w) (hR : R' = { R with Y := R'.Y }) (hy : ∀ b, R'.Y b → b < w'.heap.size) (f : ∀ {v : Value} {k : Nat} {vs : List Value}, SlO (R.D s.n) w v k vs → SlO (R'.D s.n) w' v k vs) : RefOK R' s w' := by
  rw [hR] at f ⊢
  exact ⟨h.np, fun i hi => f (h.t i hi), fun i j hi hj => f (h.g i j hi hj), fun i j hi hj => (h.q i j hi hj).map f, h.a, h.h, h.k, h.c, hy⟩
theorem D_or (R : RefB) (n b : Nat) : (fun x => R.D n x ∨ x = b) = RefB.D { R with Y := fun x => R.Y x ∨ x = b } n := by
  funext x
  unfold RefB.D
  exact propext or_assoc
theorem SlO.own {n : Nat} {v : Value} {k : Nat} {vs : List Value} {b : Nat} {o : Obj} (hl : LH w (fun _ => False) w' [(b, o)]) (h : SlO (R.D n) w v k vs) : SlO (RefB.D { R with Y := fun x => R.Y x ∨ x = b } n) w' v k vs := by
  rw [← D_or]
  exact SlO.addD h hl.done ((hl.fresh (b, o) (by simp)).elim id fun h => h.elim)
/-- A block of the call's own is set apart. -/
theorem RefOK.own {b : Nat} {o : Obj} (h : RefOK R s w) (hl : LH w (fun _ => False) w' [(b, o)]) : RefOK { R with Y := fun x => R.Y x ∨ x = b } s w' :=
  h.map (R' := { R with Y := fun x => R.Y x ∨ x = b }) rfl (fun x hx => hx.elim (fun h' => Nat.lt_of_lt_of_le (h.ys x h') hl.done.size) fun e => by
    rw [e]; exact hl.lt (p := (b, o)) (by simp)) fun hv => SlO.own hl hv
theorem RefOK.updY (h : RefOK R s w) (e : Upd R.Y w w') : RefOK R s w' := h.map (R' := R) rfl (fun b hb => Nat.lt_of_lt_of_le (h.ys b hb) e.size) fun hv => SlO.keepD hv (e.mono fun b _ hb => .inr hb)
theorem RefOK.less {Y : Nat → Prop} (h : RefOK R s w) (hY : ∀ b, Y b → R.Y b) : RefOK { R with Y := Y } s w := h.map (R' := { R with Y := Y }) rfl (fun b hb => h.ys b (hY b hb)) fun hv => hv.mono fun b hb => hb.imp id (hY b)
theorem RefOK.congr {s' : Net} (h : RefOK R s w) (hn : s'.n = s.n) (ht : ∀ x, texts s' x = texts s x) (hp : ∀ x y, (s'.node x).peer y = (s.node x).peer y) (hq : s'.q = s.q) (ha : s'.all = s.all) (hc : s'.cut = s.cut) : RefOK R s' w := by
  refine ⟨by rw [hn]; exact h.np, fun i hi => ?_, fun i j hi hj => ?_, fun i j hi hj => ?_, by rw [ha]; exact h.a, fun i j hi hj => ?_, fun i j hi hj => ?_, fun i j hi hj => ?_, h.ys⟩
  all_goals rw [hn] at *
  · rw [ht]; exact h.t i hi
  · rw [hp]; exact h.g i j hi hj
  · rw [hq]; exact h.q i j hi hj
  · rw [hp]; exact h.h i j hi hj
  · rw [hp]; exact h.k i j hi hj
  · unfold cutA; rw [hc]; exact h.c i j hi hj
end
/-- A node written whole. -/
theorem RefB.setTv4 {R : RefB} {n i : Nat} {w w' : World} (v : Value) (hi : i < n) (h2 : LH w (Go.Pd.In [R.top n 1]) w' [(R.nb, .cells (putL (flt n (R.nodeC n) ++ R.nj) (0 + i * 4) [v, arrV (R.hb i) n n, arrV (R.kb i) n n, arrV (R.gb i) n n]).toArray 74 (0, 0))]) : ∀ {w0 : World} {M : Nat → Prop}, LH w0 M w (R.bl n) → LH w0 M w' (RefB.bl { R with tv := upd R.tv i v } n) := by
  intro w0 M h
  refine RefB.setTv v hi ?_ h
  have e : putL (flt n (R.nodeC n) ++ R.nj) (i * 4) [v] = putL (flt n (R.nodeC n) ++ R.nj) (0 + i * 4) [v, arrV (R.hb i) n n, arrV (R.kb i) n n, arrV (R.gb i) n n] := by
    have h1 := flt_put (n := n) (f := R.nodeC n) (c := 4) (fun _ => rfl) (us := [v]) (by simp) R.nj hi
    rw [Nat.zero_add] at h1
    rw [h1, flt_put (n := n) (f := R.nodeC n) (c := 4) (fun _ => rfl) (us := [v, arrV (R.hb i) n n, arrV (R.kb i) n n, arrV (R.gb i) n n]) (by simp) R.nj hi]
    rfl
  rw [e]; exact h2
end Go.Ne
namespace Go.Pd
variable {P : Program} {r : Option Nat} {n : Nat}
theorem r_maxN {s : St} {w : World} {d : Nat} {ty : TypeId} {p : String} {af : Array Edge} {g : Option (Nat × Bool)} {ats : Array TypeId} {x y : Operand} {kk : IntKind} {a b : Nat} (hx : rd n s x = .int kk (a : Int)) (hy : rd n s y = .int kk (b : Int)) : (Oper.semAt r (rd n s) ⟨some d, .call ⟨.builtin .max, #[x, y], ats⟩, ty, p, af, g⟩).run P w = .ok (.value (.int kk ((max a b : Nat) : Int))) w := by
  have h := r_max (P := P) (r := r) (w := w) (d := d) (ty := ty) (p := p) (af := af) (g := g) (ats := ats) hx hy
  rwa [show max (a : Int) (b : Int) = ((max a b : Nat) : Int) by omega] at h
end Go.Pd
