/-
  Rulings and spans in memory.
-/
import Derived.Test.YtbfehpiahmodlaaDoorRA
import Derived.Test.YtbfehpiahmodlaaDoorLX
set_option linter.unusedVariables false
set_option linter.unusedSimpArgs false
set_option linter.unnecessarySimpa false
set_option maxRecDepth 10000
namespace Go.Proofs
open Go Go.Pd Go.Lexs Go.Fin Go.Fo
attribute [local irreducible] OpsL W RetQ OpsQ OpsC

theorem str0 : Value.string ⟨#[]⟩ = str [] := by rw [str_eq]
def rulC (r : Rul.Rul) (kv : Value) : List Value := [str r.id, str r.tgt, .int .i64 r.kind, .int .i64 r.fro, .int .i64 r.til, .int .i64 r.read.op, str r.read.name, .int .i64 r.read.cmp, .int .i64 r.read.num, kv, .int .i64 r.known, .bool r.fin, str r.lifts]
def rulL (p : Rul.Rul × Value) : List Value := rulC p.1 p.2
theorem rulL_len (p : Rul.Rul × Value) : (rulL p).length = 13 := rfl
theorem rulL_flat (ps : List (Rul.Rul × Value)) : (ps.flatMap rulL).length = ps.length * 13 := flat_length rulL_len ps
def spnC (s : Rul.Spn) (kv : Value) : List Value := [.int .i64 s.fro, .int .i64 s.til, .int .i64 s.read.op, str s.read.name, .int .i64 s.read.cmp, .int .i64 s.read.num, kv]
def spnL (p : Rul.Spn × Value) : List Value := spnC p.1 p.2
theorem spnL_len (p : Rul.Spn × Value) : (spnL p).length = 7 := rfl
theorem spnL_flat (ps : List (Rul.Spn × Value)) : (ps.flatMap spnL).length = ps.length * 7 := flat_length spnL_len ps

theorem rulC_one {w : World} {r : Rul.Rul} {kv : Value} (h : KA w r.read.kids kv) : (rulC r kv).all Value.oneCell' = true := by
  obtain ⟨a, c, rfl, -⟩ := h.shape
  simp only [rulC, str_eq]
  rfl
theorem spnC_one {w : World} {s : Rul.Spn} {kv : Value} (h : KA w s.read.kids kv) : (spnC s kv).all Value.oneCell' = true := by
  obtain ⟨a, c, rfl, -⟩ := h.shape
  simp only [spnC, str_eq]
  rfl

/-- A list of rulings anywhere in memory. -/
structure RulsAt (w : World) (l : List Rul.Rul) (v : Value) : Prop where
  ex : ∃ ps : List (Rul.Rul × Value), ps.map (·.1) = l ∧ Sl w v 13 (ps.flatMap rulL) ∧ ∀ p ∈ ps, KA w p.1.read.kids p.2
/-- A list of spans anywhere in memory. -/
structure SpnsAt (w : World) (l : List Rul.Spn) (v : Value) : Prop where
  ex : ∃ ps : List (Rul.Spn × Value), ps.map (·.1) = l ∧ Sl w v 7 (ps.flatMap spnL) ∧ ∀ p ∈ ps, KA w p.1.read.kids p.2

theorem RulsAt.ext {w w' : World} {l : List Rul.Rul} {v : Value} (h : RulsAt w l v) (e : Ext w w') : RulsAt w' l v := by
  obtain ⟨ps, h1, h2, h3⟩ := h.ex
  exact ⟨ps, h1, h2.ext e, fun p hp => (h3 p hp).ext e⟩
theorem SpnsAt.ext {w w' : World} {l : List Rul.Spn} {v : Value} (h : SpnsAt w l v) (e : Ext w w') : SpnsAt w' l v := by
  obtain ⟨ps, h1, h2, h3⟩ := h.ex
  exact ⟨ps, h1, h2.ext e, fun p hp => (h3 p hp).ext e⟩
theorem RulsAt.nil (w : World) : RulsAt w [] (.slice none 0 0) := ⟨[], rfl, Sl.nil _ _, fun _ h => nomatch h⟩
theorem SpnsAt.nil (w : World) : SpnsAt w [] (.slice none 0 0) := ⟨[], rfl, Sl.nil _ _, fun _ h => nomatch h⟩
theorem RulsAt.shape {w : World} {l : List Rul.Rul} {v : Value} (h : RulsAt w l v) : ∃ a c, v = .slice a l.length c ∧ l.length ≤ c := by
  obtain ⟨ps, rfl, h2, -⟩ := h.ex
  rw [List.length_map]
  exact h2.shape (rulL_flat ps) (by omega)
theorem SpnsAt.shape {w : World} {l : List Rul.Spn} {v : Value} (h : SpnsAt w l v) : ∃ a c, v = .slice a l.length c ∧ l.length ≤ c := by
  obtain ⟨ps, rfl, h2, -⟩ := h.ex
  rw [List.length_map]
  exact h2.shape (spnL_flat ps) (by omega)
theorem RulsAt.at {w : World} {l : List Rul.Rul} {a : Option Addr} {m c : Nat} (h : RulsAt w l (.slice a m c)) {i : Nat} (hi : i < l.length) :
    ∃ b o kv, a = some ⟨b, o, none⟩ ∧ Row w b (o + i * 13) (rulC l[i] kv) ∧ KA w l[i].read.kids kv := by
  obtain ⟨ps, rfl, hs, hk⟩ := h.ex
  rw [List.length_map] at hi
  obtain ⟨a', c', h1, h2⟩ := hs.shape (rulL_flat ps) (by omega)
  cases h1
  obtain ⟨b, o, hp, hr⟩ := hs.at (rulL_flat ps) (by omega) (by omega)
  refine ⟨b, o, ps[i].2, hp, ?_, ?_⟩
  · have := hr.elem rulL_len (k := i) (t := ps[i]) (by simp [hi])
    simp only [List.getElem_map]
    exact this
  · simp only [List.getElem_map]
    exact hk _ (List.getElem_mem hi)
theorem SpnsAt.at {w : World} {l : List Rul.Spn} {a : Option Addr} {m c : Nat} (h : SpnsAt w l (.slice a m c)) {i : Nat} (hi : i < l.length) :
    ∃ b o kv, a = some ⟨b, o, none⟩ ∧ Row w b (o + i * 7) (spnC l[i] kv) ∧ KA w l[i].read.kids kv := by
  obtain ⟨ps, rfl, hs, hk⟩ := h.ex
  rw [List.length_map] at hi
  obtain ⟨a', c', h1, h2⟩ := hs.shape (spnL_flat ps) (by omega)
  cases h1
  obtain ⟨b, o, hp, hr⟩ := hs.at (spnL_flat ps) (by omega) (by omega)
  refine ⟨b, o, ps[i].2, hp, ?_, ?_⟩
  · have := hr.elem spnL_len (k := i) (t := ps[i]) (by simp [hi])
    simp only [List.getElem_map]
    exact this
  · simp only [List.getElem_map]
    exact hk _ (List.getElem_mem hi)

/-! ### Lists that a call makes grow -/
/-- Own blocks aside. -/
def Free (w : World) (l : List (Nat × Obj)) (b : Nat) : Prop := b < w.heap.size ∧ b ∉ l.map (·.1)

/-- Some of the own blocks are opened, and handed back. -/
theorem _root_.Go.Pd.LH.frame2 {w0 w w' : World} {M : Nat → Prop} {A L L2 : List (Nat × Obj)} (h : LH w0 M w (A ++ L)) (h2 : LH w (fun b => b ∈ L.map (·.1)) w' L2) : LH w0 M w' (A ++ L2) := by
  have hnd := h.nd
  rw [List.map_append, List.nodup_append] at hnd
  obtain ⟨n1, n2, n3⟩ := hnd
  have hL : ∀ b, b ∈ L.map (·.1) → w0.heap.size ≤ b ∨ M b := fun b hb => by
    obtain ⟨p, hp, rfl⟩ := List.mem_map.1 hb
    exact h.fresh p (List.mem_append_right _ hp)
  refine ⟨h.upd.trans h2.upd fun k hk hm => ?_, fun p hp => ?_, fun p hp => ?_, ?_⟩
  · rcases hL k hm with h' | h'
    · omega
    · exact h'
  · rcases List.mem_append.1 hp with hp | hp
    · rw [h2.upd.same p.1 (h.lt (List.mem_append_left _ hp)) fun hm => n3 p.1 (List.mem_map.2 ⟨p, hp, rfl⟩) p.1 hm rfl]
      exact h.own p (List.mem_append_left _ hp)
    · exact h2.own p hp
  · rcases List.mem_append.1 hp with hp | hp
    · exact h.fresh p (List.mem_append_left _ hp)
    · rcases h2.fresh p hp with h' | h'
      · exact .inl (Nat.le_trans h.upd.size h')
      · exact hL _ h'
  · rw [List.map_append, List.nodup_append]
    refine ⟨n1, h2.nd, fun x hx y hy => ?_⟩
    rintro rfl
    obtain ⟨p, hp, rfl⟩ := List.mem_map.1 hx
    obtain ⟨q, hq, he⟩ := List.mem_map.1 hy
    have hlt := h.lt (List.mem_append_left L hp)
    rcases h2.fresh q hq with h' | h'
    · omega
    · exact n3 _ hx _ h' he.symm

theorem Free.frame {w w' : World} {A L L2 : List (Nat × Obj)} (h2 : LH w (fun b => b ∈ L.map (·.1)) w' L2) {b : Nat} (hb : Free w (A ++ L) b) : Free w' (A ++ L2) b := by
  obtain ⟨h, hn⟩ := hb
  rw [List.map_append, List.mem_append] at hn
  refine ⟨Nat.lt_of_lt_of_le h h2.upd.size, ?_⟩
  rw [List.map_append, List.mem_append]
  rintro (hm | hm)
  · exact hn (.inl hm)
  · obtain ⟨p, hp, rfl⟩ := List.mem_map.1 hm
    rcases h2.fresh p hp with h' | h'
    · omega
    · exact hn (.inr h')
theorem KR.frame {w w' : World} {A L L2 : List (Nat × Obj)} {ks : List Fm} {kv : Value} (h : KR w (Free w (A ++ L)) ks kv) (h2 : LH w (fun b => b ∈ L.map (·.1)) w' L2) : KR w' (Free w' (A ++ L2)) ks kv :=
  (h.upd h2.upd fun b hb hm => hb.2 (by rw [List.map_append]; exact List.mem_append_right _ hm)).mono fun b hb => hb.frame h2
theorem KR.round {w w' : World} {L L2 : List (Nat × Obj)} {ks : List Fm} {kv : Value} (h : KR w (Free w L) ks kv) (h2 : LH w (fun b => b ∈ L.map (·.1)) w' L2) : KR w' (Free w' L2) ks kv := KR.frame (A := []) h h2
theorem KR.ka {w : World} {L : List (Nat × Obj)} {ks : List Fm} {kv : Value} (h : KR w (Free w L) ks kv) : KA w ks kv := h.mono fun _ hb => hb.1
theorem KA.free {w0 w : World} {L : List (Nat × Obj)} {ks : List Fm} {kv : Value} (h : KA w0 ks kv) (hl : LH w0 (fun _ => False) w L) : KR w (Free w L) ks kv :=
  (KR.ext h hl.done).mono fun b hb => ⟨Nat.lt_of_lt_of_le hb hl.done.size, fun hm => by
    rcases hl.id hm with h' | h'
    · omega
    · exact h'⟩

/-- Spans that a call makes grow. -/
def SpAcc (w : World) (bl acc : List (Nat × Obj)) (l : List Rul.Spn) (v : Value) : Prop :=
  ∃ ps : List (Rul.Spn × Value), ps.map (·.1) = l ∧ Acc v 7 50 l.length (ps.flatMap spnL) acc ∧ ∀ p ∈ ps, KR w (Free w (bl ++ acc)) p.1.read.kids p.2
theorem SpAcc.nil (w : World) (bl : List (Nat × Obj)) : SpAcc w bl [] [] (.slice none 0 0) := ⟨[], rfl, Acc.nil _ _, fun _ h => nomatch h⟩
theorem SpAcc.done {w0 w : World} {M : Nat → Prop} {bl acc : List (Nat × Obj)} {l : List Rul.Spn} {v : Value} (h : SpAcc w bl acc l v) (hl : LH w0 M w (bl ++ acc)) : SpnsAt w l v := by
  obtain ⟨ps, h1, h2, h3⟩ := h
  exact ⟨ps, h1, hl.acc_sl h2, fun p hp => (h3 p hp).ka⟩
end Go.Proofs
