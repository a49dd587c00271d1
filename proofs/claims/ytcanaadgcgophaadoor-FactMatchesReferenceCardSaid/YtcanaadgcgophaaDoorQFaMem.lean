/-
  Own blocks that a reader turns; tokens in memory; faults.
-/
import Derived.Test.YtcanaadgcgophaaDoorQLZ
import Derived.Test.YtcanaadgcgophaaDoorQO
import Derived.Test.YtcanaadgcgophaaDoorQLD
import Derived.Test.YtcanaadgcgophaaDoorQFA
set_option linter.unusedVariables false
set_option linter.unusedSimpArgs false
set_option linter.unnecessarySimpa false
set_option maxRecDepth 10000
namespace Go.Pd
open Go
abbrev OneB (lb : Nat) : Nat → Prop := fun b => b ∈ [lb]
theorem sl_updE {M : Nat → Prop} {w w' : World} {v : Value} {k : Nat} {vs : List Value} (h : Sl w v k vs) (e : Upd M w w') (hn : vs ≠ [] → Off M v) : Sl w' v k vs := by
  by_cases hv : vs = []
  · subst hv
    rcases h with h | ⟨a, m, c, h1, h2, h3, h4, h5⟩
    · exact .inl h
    · exact .inr ⟨a, m, c, h1, h2, h3, h4, fun i v hi => by simp at hi⟩
  · exact h.upd e (hn hv)

theorem ext_upd {M : Nat → Prop} {w w' : World} (h : Ext w w') : Upd M w w' := ⟨h.size, fun b hb _ => h.same b hb (fun h => h), h.os, h.out⟩
theorem LH.swap {w0 w w' : World} {M : Nat → Prop} {pb : Nat} {o o' : Obj} {rest : List (Nat × Obj)} (h : LH w0 M w ((pb, o) :: rest)) (h2 : LH w (OneB pb) w' [(pb, o')]) : LH w0 M w' ((pb, o') :: rest) := by
  have hnd := h.nd
  simp only [List.map_cons, List.nodup_cons] at hnd
  refine ⟨h.upd.trans h2.upd fun k hk hM => ?_, fun p hp => ?_, fun p hp => ?_, h.nd⟩
  · rw [List.mem_singleton.1 hM] at hk ⊢
    rcases h.fresh (pb, o) List.mem_cons_self with h1 | h1
    · simp only at h1; omega
    · exact h1
  · rcases List.mem_cons.1 hp with rfl | hp
    · exact h2.own _ List.mem_cons_self
    · have hne : ¬ OneB pb p.1 := fun e => hnd.1 (by rw [← List.mem_singleton.1 e]; exact List.mem_map_of_mem hp)
      rw [h2.upd.same p.1 (h.lt (List.mem_cons_of_mem _ hp)) hne]
      exact h.own p (List.mem_cons_of_mem _ hp)
  · rcases List.mem_cons.1 hp with rfl | hp
    · exact h.fresh (pb, o) List.mem_cons_self
    · exact h.fresh p (List.mem_cons_of_mem _ hp)
theorem LH.one {w0 w : World} {M : Nat → Prop} {pb : Nat} {o : Obj} {rest : List (Nat × Obj)} (h : LH w0 M w ((pb, o) :: rest)) : LH w (OneB pb) w [(pb, o)] := by
  have h1 : LH w0 M w [(pb, o)] := h.sub (by simp)
  exact h1.rb
theorem LH.lose {w0 w w' : World} {M : Nat → Prop} {pb : Nat} {o : Obj} {rest : List (Nat × Obj)} (h : LH w0 M w ((pb, o) :: rest)) (u : Upd (OneB pb) w w') : LH w0 M w' rest := by
  have hnd := h.nd
  simp only [List.map_cons, List.nodup_cons] at hnd
  refine ⟨h.upd.trans u fun k hk hM => ?_, fun p hp => ?_, fun p hp => h.fresh p (List.mem_cons_of_mem _ hp), hnd.2⟩
  · rw [List.mem_singleton.1 hM] at hk ⊢
    rcases h.fresh (pb, o) List.mem_cons_self with h1 | h1
    · simp only at h1; omega
    · exact h1
  · have hne : ¬ OneB pb p.1 := fun e => hnd.1 (by rw [← List.mem_singleton.1 e]; exact List.mem_map_of_mem hp)
    rw [u.same p.1 (h.lt (List.mem_cons_of_mem _ hp)) hne]
    exact h.own p (List.mem_cons_of_mem _ hp)
theorem row_block {w : World} {b o : Nat} {cs : Array Value} {T : TypeId} {vs : List Value} (h : w.heap[b]? = some (.cells cs T (0, 0))) (hr : Row w b o vs) {i : Nat} {v : Value} (hi : vs[i]? = some v) : cs[o + i]? = some v := by
  have h1 := hr i v hi
  unfold World.cell? at h1
  rw [h] at h1
  simpa using h1
end Go.Pd
namespace Go.Proofs
open Go Go.Pd Go.Fac
open Go.Lexs (Tok)
attribute [local irreducible] OpsL W RetQ OpsQ OpsC
theorem str_nil : str [] = .string ⟨#[]⟩ := by rw [str_eq]
def psL (tv : Value) (i en : Int) : List Value := [tv, .int .i64 i, .int .i64 en]
def psB (pb : Nat) (tv : Value) (i en : Int) : Nat × Obj := (pb, .cells (psL tv i en).toArray 60 (0, 0))
def faultV (e a : Int) : Value := .iface 99 (.agg #[.int .i64 e, .int .i64 a])
def faultC (e a : Int) : List PanicEntry := [{ v := faultV e a, recovered := false }]
def TK (w : World) (pb : Nat) (tv : Value) (ts : List Tok) : Prop := Sl w tv 4 (toksL ts) ∧ (toksL ts ≠ [] → Off (OneB pb) tv) ∧ ts.length ≤ 5000
theorem TK.upd {w w' : World} {pb : Nat} {tv : Value} {ts : List Tok} (h : TK w pb tv ts) (e : Upd (OneB pb) w w') : TK w' pb tv ts := ⟨sl_updE h.1 e h.2.1, h.2⟩
theorem tokL_len (t : Tok) : (tokL t).length = 4 := rfl
theorem toksL_len (ts : List Tok) : (toksL ts).length = ts.length * 4 := flat_length tokL_len ts
theorem TK.shape {w : World} {pb : Nat} {tv : Value} {ts : List Tok} (h : TK w pb tv ts) : ∃ a c, tv = .slice a ts.length c ∧ ts.length ≤ c := h.1.shape (toksL_len ts) (by omega)
theorem TK.at {w : World} {pb c : Nat} {a : Option Addr} {ts : List Tok} (h : TK w pb (.slice a ts.length c) ts) {i : Nat} (hi : i < ts.length) : ∃ b o, a = some ⟨b, o, none⟩ ∧ Row w b (o + i * 4) (tokL ts[i]) := by
  obtain ⟨b, o, hp, hr⟩ := h.1.at (toksL_len ts) (by omega) (by omega)
  exact ⟨b, o, hp, hr.elem tokL_len (k := i) (t := ts[i]) (by simp [hi])⟩
end Go.Proofs
