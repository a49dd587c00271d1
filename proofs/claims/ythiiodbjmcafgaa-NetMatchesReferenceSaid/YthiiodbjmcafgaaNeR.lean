/-
  A network in memory.
-/
import Derived.Test.YthiiodbjmcafgaaNeA
set_option linter.unusedVariables false
set_option linter.unusedSimpArgs false
set_option linter.unnecessarySimpa false
set_option maxRecDepth 10000
namespace Go.Ne
open Go Go.Pd
abbrev sL (l : List Tx) : List Value := l.map str

/-! ### Nodes -/
structure NodB where
  nb : Nat
  hb : Nat
  tv : Value
  tacc : List (Nat × Obj)
  hes : Array MapEntry
  hc : Nat
  pg : Nat → Nat
  ges : Nat → Array MapEntry
  gc : Nat → Nat
def pcell (pr : Nat → Peer) (pg : Nat → Nat) (n : Nat) (j : Nat) : Value :=
  if j % 3 = 0 then .int .i64 ((pr (j / 3)).heard : Int) else if j % 3 = 1 then .int .i64 ((pr (j / 3)).known : Int) else if j / 3 < n then .map (some (pg (j / 3))) else .map none
def pcells (pr : Nat → Peer) (pg : Nat → Nat) (n : Nat) : List Value := (List.range 24).map (pcell pr pg n)
def nodCells (n : Nat) (d : NodB) (x : Nod) : List Value := d.tv :: .map (some d.hb) :: pcells x.peer d.pg n
def nodA (n : Nat) (d : NodB) (x : Nod) : List (Nat × Obj) := [(d.nb, .cells (nodCells n d x).toArray 61 (0, 0)), (d.hb, .map d.hes d.hc)] ++ d.tacc
def nodBl (n : Nat) (d : NodB) (x : Nod) : List (Nat × Obj) := nodA n d x ++ (List.range n).map fun k => (d.pg k, Obj.map (d.ges k) (d.gc k))
structure NodOK (n : Nat) (d : NodB) (x : Nod) : Prop where
  t : Acc d.tv 1 9 x.texts.length (sL x.texts) d.tacc
  h : MapR str d.hes (boolM x.texts)
  g : ∀ k, k < n → MapR str (d.ges k) (boolM (x.peer k).got)

/-! ### Queues -/
structure QB where
  qb : Nat
  qv : Value
  qacc : List (Nat × Obj)
  l : List (Value × Msg)
def msgC (q : Value × Msg) : List Value := [q.1, .int .i64 (q.2.len : Int), .int .i64 (q.2.heard : Int)]
def qBl (d : QB) : List (Nat × Obj) := (d.qb, .cells #[d.qv] 65 (0, 0)) :: d.qacc
structure QOK (D : Nat → Prop) (w : World) (d : QB) (ms : List Msg) : Prop where
  a : AccO d.qv 3 83 ms.length (d.l.flatMap msgC) d.qacc
  l : d.l.map (·.2) = ms
  s : ∀ q ∈ d.l, SlO D w q.1 1 (sL q.2.texts)

/-! ### The network -/
structure NetB where
  p : Nat
  nv : Value
  nacc : List (Nat × Obj)
  qm : Nat
  cm : Nat
  am : Nat
  qes : Array MapEntry
  qc : Nat
  ql : List ((Nat × Nat) × Value)
  ces : Array MapEntry
  cc : Nat
  ck : List (Nat × Nat)
  aes : Array MapEntry
  ac : Nat
  nd : Nat → NodB
  qu : Nat × Nat → QB
  X : Nat → Prop
def pairs (n : Nat) : List (Nat × Nat) := (List.range n).flatMap fun a => (List.range n).map fun b => (a, b)
theorem mem_pairs {n a b : Nat} : (a, b) ∈ pairs n ↔ a < n ∧ b < n := by simp [pairs]
theorem nodup_pairs (n : Nat) : (pairs n).Nodup := by
  have h : ∀ l : List Nat, l.Nodup → (l.flatMap fun a => (List.range n).map fun b => (a, b)).Nodup := by
    intro l
    induction l with
    | nil => intro _; exact List.nodup_nil
    | cons x l ih =>
      intro hl
      rw [List.nodup_cons] at hl
      rw [List.flatMap_cons, List.nodup_append]
      refine ⟨?_, ih hl.2, ?_⟩
      · exact List.pairwise_map.2 (List.nodup_range.imp fun h e => h (Prod.mk.inj e).2)
      · rintro ⟨a, b⟩ h1 ⟨a', b'⟩ h2 he
        obtain ⟨b1, -, h1⟩ := List.mem_map.1 h1
        obtain ⟨a2, ha2, h2⟩ := List.mem_flatMap.1 h2
        obtain ⟨b2, -, h2⟩ := List.mem_map.1 h2
        have e1 := (Prod.mk.inj h1).1
        have e2 := (Prod.mk.inj h2).1
        have e3 := (Prod.mk.inj he).1
        exact hl.1 (by rw [e1, e3, ← e2]; exact ha2)
  exact h _ List.nodup_range
def boolI (l : List (Nat × Nat)) : List ((Nat × Nat) × Value) := l.map fun q => (q, .bool true)
def NetB.top (D : NetB) : List (Nat × Obj) := [(D.p, .cells #[D.nv, .map (some D.qm), .map (some D.cm), .map (some D.am)] 55 (0, 0)), (D.qm, .map D.qes D.qc), (D.cm, .map D.ces D.cc), (D.am, .map D.aes D.ac)]
def NetB.nods (D : NetB) (s : Net) : List (Nat × Obj) := (List.range s.n).flatMap fun i => nodBl s.n (D.nd i) (s.node i)
def NetB.qs (D : NetB) (n : Nat) : List (Nat × Obj) := (pairs n).flatMap fun q => qBl (D.qu q)
def NetB.bl (D : NetB) (s : Net) : List (Nat × Obj) := D.top ++ (D.nacc ++ (D.nods s ++ D.qs s.n))
/-- The blocks in which no message's texts lie: the network's own, and others. -/
def NetB.D (D : NetB) (s : Net) : Nat → Prop := fun b => Go.Pd.In (D.bl s) b ∨ D.X b
structure NetOK (D : NetB) (s : Net) (w : World) : Prop where
  np : 1 ≤ s.n ∧ s.n ≤ 8
  nv : Acc D.nv 1 56 s.n ((List.range s.n).map fun i => .pointer (some ⟨(D.nd i).nb, 0, none⟩)) D.nacc
  nd : ∀ i, i < s.n → NodOK s.n (D.nd i) (s.node i)
  qm : MapR int2V D.qes D.ql
  qg : ∀ a b, a < s.n → b < s.n → get D.ql (a, b) = some (.pointer (some ⟨(D.qu (a, b)).qb, 0, none⟩))
  qu : ∀ a b, a < s.n → b < s.n → QOK (D.D s) w (D.qu (a, b)) (s.q a b)
  xs : ∀ b, D.X b → b < w.heap.size
  cm : MapR int2V D.ces (boolI D.ck)
  ck : ∀ x y, s.cut x y = decide ((x, y) ∈ D.ck)
  am : MapR str D.aes (boolM s.all)
def NetR (X : Nat → Prop) (s : Net) (p : Nat) (bl : List (Nat × Obj)) (w : World) : Prop := ∃ D : NetB, D.X = X ∧ D.p = p ∧ bl = D.bl s ∧ NetOK D s w ∧ Own w bl

theorem QOK.step {w w' : World} {l l' : List (Nat × Obj)} {X : Nat → Prop} {d : QB} {ms : List Msg} (h : QOK (fun b => Go.Pd.In l b ∨ X b) w d ms) (h2 : LH w (Go.Pd.In l) w' l') : QOK (fun b => Go.Pd.In l' b ∨ X b) w' d ms := ⟨h.a, h.l, fun q hq => (h.s q hq).stepX h2⟩
theorem QOK.ext {D : Nat → Prop} {w w' : World} {d : QB} {ms : List Msg} (h : QOK D w d ms) (e : Ext w w') : QOK D w' d ms := ⟨h.a, h.l, fun q hq => (h.s q hq).ext e⟩
theorem NetOK.ext {D : NetB} {s : Net} {w w' : World} (h : NetOK D s w) (e : Ext w w') : NetOK D s w' := ⟨h.np, h.nv, h.nd, h.qm, h.qg, fun a b ha hb => (h.qu a b ha hb).ext e, fun b hb => Nat.lt_of_lt_of_le (h.xs b hb) e.size, h.cm, h.ck, h.am⟩
theorem NetR.ext {X : Nat → Prop} {s : Net} {p : Nat} {bl : List (Nat × Obj)} {w w' : World} (h : NetR X s p bl w) (e : Ext w w') : NetR X s p bl w' := by
  obtain ⟨D, h0, h1, h2, h3, h4⟩ := h
  exact ⟨D, h0, h1, h2, h3.ext e, (h4.ext e).owned⟩

/-! ### One node -/
def NetB.offN (D : NetB) (s : Net) (i : Nat) : List (Nat × Obj) := ((List.range s.n).erase i).flatMap (fun i => nodBl s.n (D.nd i) (s.node i)) ++ (D.top ++ (D.nacc ++ D.qs s.n))
theorem perm_node (D : NetB) (s : Net) {i : Nat} (hi : i < s.n) : (D.bl s).Perm (nodBl s.n (D.nd i) (s.node i) ++ D.offN s i) := by
  have h1 : (D.nods s).Perm _ := perm_one (fun i => nodBl s.n (D.nd i) (s.node i)) (L := List.range s.n) (x := i) (List.mem_range.2 hi)
  unfold NetB.bl NetB.offN
  have h2 : (D.top ++ (D.nacc ++ (D.nods s ++ D.qs s.n))).Perm (D.nods s ++ (D.top ++ (D.nacc ++ D.qs s.n))) := by
    have e : D.top ++ (D.nacc ++ (D.nods s ++ D.qs s.n)) = (D.top ++ D.nacc) ++ (D.nods s ++ D.qs s.n) := by simp only [List.append_assoc]
    have e2 : D.nods s ++ (D.top ++ (D.nacc ++ D.qs s.n)) = D.nods s ++ ((D.top ++ D.nacc) ++ D.qs s.n) := by simp only [List.append_assoc]
    rw [e, e2]
    exact List.perm_append_comm_assoc _ _ _
  refine h2.trans ?_
  have h3 := h1.append_right (D.top ++ (D.nacc ++ D.qs s.n))
  simpa only [List.append_assoc] using h3
theorem offN_same (D : NetB) (s : Net) (i : Nat) (d' : NodB) (x' : Nod) : NetB.offN { D with nd := upd D.nd i d' } { s with node := upd s.node i x' } i = D.offN s i := by
  unfold NetB.offN
  congr 1
  exact flatMap_other (f := fun i => nodBl s.n (D.nd i) (s.node i)) (g := fun k => nodBl s.n (upd D.nd i d' k) (upd s.node i x' k)) List.nodup_range fun y hy => by
    simp only [upd_ne _ _ hy]

/-- Work at one node. -/
theorem NetOK.node {D : NetB} {s : Net} {w w' w0 : World} {M : Nat → Prop} (h : NetOK D s w) (hl : LH w0 M w (D.bl s)) {i : Nat} (hi : i < s.n) {d' : NodB} {x' : Nod} (h2 : LH w (Go.Pd.In (nodBl s.n (D.nd i) (s.node i))) w' (nodBl s.n d' x')) (hok : NodOK s.n d' x') (hnb : d'.nb = (D.nd i).nb) :
    LH w0 M w' (NetB.bl { D with nd := upd D.nd i d' } { s with node := upd s.node i x' }) ∧ NetOK { D with nd := upd D.nd i d' } { s with node := upd s.node i x' } w' := by
  have hp := perm_node D s hi
  have hp2 := perm_node { D with nd := upd D.nd i d' } { s with node := upd s.node i x' } (i := i) hi
  rw [offN_same] at hp2
  simp only [upd_same] at hp2
  have hall : ∀ {w0 : World} {M : Nat → Prop}, LH w0 M w (D.bl s) → LH w0 M w' (NetB.bl { D with nd := upd D.nd i d' } { s with node := upd s.node i x' }) := fun hl => ((hl.perm hp).focus h2).perm hp2.symm
  refine ⟨hall hl, h.np, ?_, fun k hk => ?_, h.qm, h.qg, fun a b ha hb => (h.qu a b ha hb).step (hall hl.owned), fun b hb => Nat.lt_of_lt_of_le (h.xs b hb) h2.upd.size, h.cm, h.ck, h.am⟩
  · have e : ((List.range s.n).map fun k => Value.pointer (some ⟨(upd D.nd i d' k).nb, 0, none⟩)) = ((List.range s.n).map fun k => Value.pointer (some ⟨(D.nd k).nb, 0, none⟩)) := by
      refine List.map_congr_left fun k _ => ?_
      by_cases e : k = i
      · subst e; rw [upd_same, hnb]
      · rw [upd_ne _ _ e]
    show Acc D.nv 1 _ s.n ((List.range s.n).map fun k => Value.pointer (some ⟨(upd D.nd i d' k).nb, 0, none⟩)) D.nacc
    rw [e]
    exact h.nv
  · show NodOK s.n (upd D.nd i d' k) (upd s.node i x' k)
    by_cases e : k = i
    · subst e; rw [upd_same, upd_same]; exact hok
    · rw [upd_ne _ _ e, upd_ne _ _ e]; exact h.nd k hk

/-! ### One queue -/
def updQ (f : Nat × Nat → QB) (i : Nat × Nat) (v : QB) : Nat × Nat → QB := fun j => if j = i then v else f j
theorem updQ_same (f : Nat × Nat → QB) (i : Nat × Nat) (v : QB) : updQ f i v i = v := if_pos rfl
theorem updQ_ne (f : Nat × Nat → QB) {i j : Nat × Nat} (v : QB) (h : j ≠ i) : updQ f i v j = f j := if_neg h
def NetB.offQ (D : NetB) (s : Net) (i : Nat × Nat) : List (Nat × Obj) := (@List.erase _ instBEqOfDecidableEq (pairs s.n) i).flatMap (fun i => qBl (D.qu i)) ++ (D.top ++ (D.nacc ++ D.nods s))
theorem perm_queue (D : NetB) (s : Net) {i : Nat × Nat} (hi : i ∈ pairs s.n) : (D.bl s).Perm (qBl (D.qu i) ++ D.offQ s i) := by
  have h1 : (D.qs s.n).Perm _ := perm_one (fun i => qBl (D.qu i)) (L := pairs s.n) (x := i) hi
  unfold NetB.bl NetB.offQ
  have h2 : (D.top ++ (D.nacc ++ (D.nods s ++ D.qs s.n))).Perm (D.qs s.n ++ (D.top ++ (D.nacc ++ D.nods s))) := by
    have e : D.top ++ (D.nacc ++ (D.nods s ++ D.qs s.n)) = (D.top ++ (D.nacc ++ D.nods s)) ++ D.qs s.n := by simp only [List.append_assoc]
    rw [e]
    exact List.perm_append_comm
  refine h2.trans ?_
  have h3 := h1.append_right (D.top ++ (D.nacc ++ D.nods s))
  simpa only [List.append_assoc] using h3
theorem offQ_same (D : NetB) (s : Net) (i : Nat × Nat) (d' : QB) (q' : Nat → Nat → List Msg) : NetB.offQ { D with qu := updQ D.qu i d' } { s with q := q' } i = D.offQ s i := by
  unfold NetB.offQ
  congr 1
  exact flatMap_other (f := fun i => qBl (D.qu i)) (g := fun k => qBl (updQ D.qu i d' k)) (nodup_pairs _) fun y hy => by
    simp only [updQ_ne _ _ hy]

/-- Work at one queue. -/
theorem NetOK.queue {D : NetB} {s : Net} {w w' w0 : World} {M : Nat → Prop} (h : NetOK D s w) (hl : LH w0 M w (D.bl s)) {a b : Nat} (ha : a < s.n) (hb : b < s.n) {d' : QB} {ms' : List Msg} (h2 : LH w (Go.Pd.In (qBl (D.qu (a, b)))) w' (qBl d')) (hqb : d'.qb = (D.qu (a, b)).qb)
    (hok : ∀ l', LH w (Go.Pd.In (D.bl s)) w' l' → QOK (fun b => Go.Pd.In l' b ∨ D.X b) w' d' ms') :
    LH w0 M w' (NetB.bl { D with qu := updQ D.qu (a, b) d' } { s with q := upd2 s.q a b ms' }) ∧ NetOK { D with qu := updQ D.qu (a, b) d' } { s with q := upd2 s.q a b ms' } w' := by
  have hp := perm_queue D s (i := (a, b)) (mem_pairs.2 ⟨ha, hb⟩)
  have hp2 := perm_queue { D with qu := updQ D.qu (a, b) d' } { s with q := upd2 s.q a b ms' } (i := (a, b)) (mem_pairs.2 ⟨ha, hb⟩)
  rw [offQ_same] at hp2
  simp only [updQ_same] at hp2
  have hall : ∀ {w0 : World} {M : Nat → Prop}, LH w0 M w (D.bl s) → LH w0 M w' (NetB.bl { D with qu := updQ D.qu (a, b) d' } { s with q := upd2 s.q a b ms' }) := fun hl => ((hl.perm hp).focus h2).perm hp2.symm
  have hl2 := hall hl.owned
  refine ⟨hall hl, h.np, h.nv, h.nd, h.qm, fun x y hx hy => ?_, fun x y hx hy => ?_, fun b hb => Nat.lt_of_lt_of_le (h.xs b hb) h2.upd.size, h.cm, h.ck, h.am⟩
  · show get D.ql (x, y) = some (.pointer (some ⟨(updQ D.qu (a, b) d' (x, y)).qb, 0, none⟩))
    by_cases e : (x, y) = (a, b)
    · rw [e, updQ_same, hqb]; exact h.qg a b ha hb
    · rw [updQ_ne _ _ e]; exact h.qg x y hx hy
  · show QOK _ w' (updQ D.qu (a, b) d' (x, y)) (upd2 s.q a b ms' x y)
    by_cases e : (x, y) = (a, b)
    · obtain ⟨rfl, rfl⟩ := Prod.mk.inj e
      rw [updQ_same, upd2_same]
      exact hok _ hl2
    · rw [updQ_ne _ _ e, upd2_ne _ _ fun h => e (by rw [h.1, h.2])]
      exact (h.qu x y hx hy).step hl2

/-! ### Reading -/
theorem NetOK.head {D : NetB} {s : Net} {w w0 : World} {M : Nat → Prop} (hl : LH w0 M w (D.bl s)) : Row w D.p 0 [D.nv, .map (some D.qm), .map (some D.cm), .map (some D.am)] :=
  hl.rowL (vs := [D.nv, .map (some D.qm), .map (some D.cm), .map (some D.am)]) 0 0 4 rfl
theorem NetOK.sl {D : NetB} {s : Net} {w w0 : World} {M : Nat → Prop} (h : NetOK D s w) (hl : LH w0 M w (D.bl s)) : Sl w D.nv 1 ((List.range s.n).map fun i => .pointer (some ⟨(D.nd i).nb, 0, none⟩)) :=
  LH.acc_sl (l := []) (hl.sub ((List.sublist_append_left _ _).trans (List.sublist_append_right _ _))) h.nv
/-- The slice of nodes, and the pointer in its cell. -/
theorem NetOK.ptr {D : NetB} {s : Net} {w w0 : World} {M : Nat → Prop} (h : NetOK D s w) (hl : LH w0 M w (D.bl s)) : ∃ b o c, D.nv = .slice (some ⟨b, o, none⟩) s.n c ∧ ∀ i, i < s.n → Row w b (o + i * 1) [.pointer (some ⟨(D.nd i).nb, 0, none⟩)] := by
  have hn := h.np
  obtain ⟨b, o, c, h1, h2, h3⟩ := (h.sl hl).ne (m := s.n) (by simp) (by omega) (by omega)
  refine ⟨b, o, c, h1, fun i hi => ?_⟩
  intro j v hj
  cases j with
  | zero =>
    simp at hj
    subst hj
    exact h3 (i * 1) _ (by simp [hi])
  | succ j => simp at hj
theorem NetOK.nodOwn {D : NetB} {s : Net} {w w0 : World} {M : Nat → Prop} (hl : LH w0 M w (D.bl s)) {i : Nat} (hi : i < s.n) : Own w (nodBl s.n (D.nd i) (s.node i)) := ((hl.perm (perm_node D s hi)).sub (List.sublist_append_left _ _)).owned
theorem NetOK.qOwn {D : NetB} {s : Net} {w w0 : World} {M : Nat → Prop} (hl : LH w0 M w (D.bl s)) {a b : Nat} (ha : a < s.n) (hb : b < s.n) : Own w (qBl (D.qu (a, b))) := ((hl.perm (perm_queue D s (mem_pairs.2 ⟨ha, hb⟩))).sub (List.sublist_append_left _ _)).owned
end Go.Ne
