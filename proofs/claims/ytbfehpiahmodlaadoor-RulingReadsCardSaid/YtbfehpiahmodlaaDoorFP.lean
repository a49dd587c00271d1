/-
  Formulas: Terms (the program's, the reference's).
-/
import Derived.Test.YtbfehpiahmodlaaDoorFC
import Derived.Test.YtbfehpiahmodlaaDoorRA
import Derived.Test.YtbfehpiahmodlaaDoorLD
import Derived.Test.YtbfehpiahmodlaaDoorFA
import Derived.Test.YtbfehpiahmodlaaDoorFF
set_option linter.unusedVariables false
set_option linter.unusedSimpArgs false
set_option linter.unnecessarySimpa false
set_option maxRecDepth 10000
namespace Go.Fo
open Go.Lexs Go.Fin
theorem addT_len (l : List (List UInt8)) (f : Fm) : (addT l f).length ≤ l.length + 1 := by unfold addT; split <;> simp
theorem foldT_len : ∀ (p : List Fm) (l : List (List UInt8)), (p.foldl addT l).length ≤ l.length + p.length
  | [], l => by simp
  | f :: p, l => by
    have h1 := foldT_len p (addT l f)
    have h2 := addT_len l f
    simp only [List.foldl_cons, List.length_cons]
    omega
theorem foldT_preL (ks : List Fm) (i : Nat) (hi : i < ks.length) (l : List (List UInt8)) : (preL (ks.take (i + 1))).foldl addT l = (pre ks[i]).foldl addT ((preL (ks.take i)).foldl addT l) := by
  rw [List.take_succ_eq_append_getElem hi, preL_snoc, List.foldl_append]
end Go.Fo

namespace Go.Proofs
open Go Go.Pd Go.Lexs Go.Fin Go.Fo
attribute [local irreducible] OpsL W RetQ OpsQ OpsC

theorem KR.atG {w : World} {G : Nat → Prop} {ks : List Fm} {a : Option Addr} {m c : Nat} (h : KR w G ks (.slice a m c)) {i : Nat} (hi : i < ks.length) :
    ∃ b o kv, a = some ⟨b, o, none⟩ ∧ G b ∧ Row w b (o + i * 5) (fmL ks[i] kv) ∧ KR w G ks[i].kids kv := by
  obtain ⟨b, o, kv, rfl, hr, hk⟩ := h.at hi
  refine ⟨b, o, kv, rfl, ?_, hr, hk⟩
  cases h with
  | mk ps he hs hg _ => exact Classical.not_not.1 (hg fun h => by subst h; subst he; simp at hi)

theorem strsL_snoc (T : List (List UInt8)) (s : List UInt8) : strsL (T ++ [s]) = strsL T ++ [str s] := by simp [strsL, strL]
theorem str_one (s : List UInt8) : ([str s] : List Value).all Value.oneCell' = true := strL_one s

def teL (f : Fm) (kv out : Value) (b1 b3 bn D L : Nat) (rec : Loop) : List (Nat × Obj) :=
  [(L, .loop rec), (D, .deferred (some [])), (bn, .cells ([.int .i64 (f).op, str (f).name, .int .i64 (f).cmp, .int .i64 (f).num, kv] : List Value).toArray 25 (0, 0)), (b3, .cells #[out] 58 (0, 0)), (b1, .cells ([.int .i64 (f).op, str (f).name, .int .i64 (f).cmp, .int .i64 (f).num, kv] : List Value).toArray 25 (0, 0))]

end Go.Proofs

/-
  Formulas: Expand (the program's, the reference's).
-/
set_option linter.unusedVariables false
set_option linter.unusedSimpArgs false
set_option linter.unnecessarySimpa false
set_option maxRecDepth 10000
namespace Go.Fo
mutual
theorem expand_cnt (s : List UInt8) (b : Fm) : ∀ f : Fm, cnt (expand s b f) ≤ cnt f * cnt b
  | .node o n c m ks => by
    have hb := cnt_pos b
    simp only [expand]
    split
    · simp only [cnt]; exact Nat.le_mul_of_pos_left _ (by omega)
    · simp only [cnt]
      have := expandL_cnt s b ks
      rw [Nat.add_mul]; omega
theorem expandL_cnt (s : List UInt8) (b : Fm) : ∀ ks : List Fm, cntL (expandL s b ks) ≤ cntL ks * cnt b
  | [] => by simp [expandL, cntL]
  | k :: ks => by
    have h1 := expand_cnt s b k
    have h2 := expandL_cnt s b ks
    simp only [expandL, cntL, Nat.add_mul]; omega
end
end Go.Fo

namespace Go.Proofs
open Go Go.Pd Go.Lexs Go.Fin Go.Fo
attribute [local irreducible] OpsL W RetQ OpsQ OpsC

/-- What a function that replaces a term answers. -/
def ExC (P : Program) (F : FuncId) (s : List UInt8) (y : Fm) (f : Fm) : Prop := ∀ (w : World) (G : Nat → Prop) (kv yv : Value), KR w G f.kids kv → KR w G y.kids yv → (∀ b, G b → b < w.heap.size) → cnt f ≤ 1000000 →
  Calls P F #[.agg (fmL f kv).toArray, str s, .agg (fmL y yv).toArray] w (fun e w' => ∃ x, e = .returned x ∧ (∃ kv', x = .agg (fmL (expand s y f) kv').toArray ∧ KR w' (fun b => (G b ∨ w.heap.size ≤ b) ∧ b < w'.heap.size) (expand s y f).kids kv') ∧ Ext w w')

theorem KR.of_acc {w0 w : World} {M G' : Nat → Prop} {l acc : List (Nat × Obj)} {v : Value} {m : Nat} {ps : List (Fm × Value)} {ks : List Fm} (hl : LH w0 M w (l ++ acc)) (ha : Acc v 5 25 m (ps.flatMap kidL) acc) (he : ps.map (·.1) = ks) (hg : ∀ b, b ∈ acc.map (·.1) → G' b) (h : ∀ p ∈ ps, KR w G' p.1.kids p.2) : KR w G' ks v := by
  refine .mk ps he (hl.acc_sl ha) (fun _ => ?_) h
  rcases ha with ⟨-, ⟨rfl, -, -⟩ | ⟨b, cap, cur, rfl, rfl, -⟩⟩
  · trivial
  · exact fun hn => hn (hg b (by simp))

end Go.Proofs

/-
  Formulas: the reference's Expand.
-/
set_option linter.unusedVariables false
set_option linter.unusedSimpArgs false
set_option linter.unnecessarySimpa false
set_option maxRecDepth 10000
namespace Go.Proofs
open Go Go.Pd Go.Lexs Go.Fin Go.Fo
attribute [local irreducible] OpsL W RetQ OpsQ OpsC

end Go.Proofs

/-
  Formulas: are two lists of texts one (the reference's Names).
-/
set_option linter.unusedVariables false
set_option linter.unusedSimpArgs false
set_option linter.unnecessarySimpa false
set_option maxRecDepth 10000
namespace Go.Proofs
open Go Go.Pd Go.Lexs Go.Fin Go.Fo
attribute [local irreducible] OpsL W RetQ OpsQ OpsC

end Go.Proofs

/-
  Formulas: how often is a term named; is a formula small (the reference).
-/
set_option linter.unusedVariables false
set_option linter.unusedSimpArgs false
set_option linter.unnecessarySimpa false
set_option maxRecDepth 10000
namespace Go.Fo
open Go.Lexs Go.Fin
mutual
def tms (s : List UInt8) : Fm → Nat
  | .node o n _ _ ks => (if o = 4 ∧ n = s then 1 else 0) + tmsL s ks
def tmsL (s : List UInt8) : List Fm → Nat
  | [] => 0
  | k :: ks => tms s k + tmsL s ks
end
theorem tms_eq (s : List UInt8) (f : Fm) : tms s f = (if f.op = 4 ∧ f.name = s then 1 else 0) + tmsL s f.kids := by cases f; rfl
theorem tmsL_snoc (s : List UInt8) (a : List Fm) (k : Fm) : tmsL s (a ++ [k]) = tmsL s a + tms s k := by
  induction a with
  | nil => simp [tmsL]
  | cons x a ih => simp only [List.cons_append, tmsL, ih]; omega
theorem tmsL_le_of {s : List UInt8} {ks : List Fm} (h : ∀ k ∈ ks, tms s k ≤ cnt k) : tmsL s ks ≤ cntL ks := by
  induction ks with
  | nil => simp [tmsL]
  | cons k ks ih =>
    have h1 := h k List.mem_cons_self
    have h2 := ih fun x hx => h x (List.mem_cons_of_mem _ hx)
    simp only [tmsL, cntL]; omega
theorem tms_le (s : List UInt8) : ∀ f : Fm, tms s f ≤ cnt f := Fm.ind fun f ih => by
  rw [tms_eq, cnt_eq]
  have := tmsL_le_of ih
  split <;> omega
theorem tmsL_le (s : List UInt8) (ks : List Fm) : tmsL s ks ≤ cntL ks := tmsL_le_of fun k _ => tms_le s k
end Go.Fo

namespace Go.Proofs
open Go Go.Pd Go.Lexs Go.Fin Go.Fo
attribute [local irreducible] OpsL W RetQ OpsQ OpsC

end Go.Proofs

/-
  Formulas: the helpers of the statements.
-/
set_option linter.unusedVariables false
set_option linter.unusedSimpArgs false
set_option linter.unnecessarySimpa false
set_option maxRecDepth 10000
namespace Go.Fo
open Go.Lexs Go.Fin
def fewB (F : List Fact) (c : List Int) (T : List (List UInt8)) : Bool := decide (F.length ≤ 40 ∧ c.length ≤ 60 ∧ T.length ≤ 40 ∧ ∀ s ∈ T, s.length ≤ 60)
def namedB (s : List UInt8) (f : Fm) : Bool := (pre f).any fun x => decide (x.op = 3 ∧ x.name = s)
def namedL (s : List UInt8) (ks : List Fm) : Bool := (preL ks).any fun x => decide (x.op = 3 ∧ x.name = s)
def bareE (x : Fm) : Bool := decide (x.op = 4 → x.kids.length = 0 ∧ x.cmp = 0 ∧ x.num = 0)
def plainB (f : Fm) : Bool := (pre f).all bareE
def plainL (ks : List Fm) : Bool := (preL ks).all bareE
def goodB (F : List Fact) (c : List Int) (f : Fm) : Bool := decide (cnt f ≤ 60 ∧ dep f ≤ 16) && (fitsB F c && decide (checkE F (fun s => (termsOf f).contains s) f = 0))
theorem namedB_eq (s : List UInt8) (f : Fm) : namedB s f = (decide (f.op = 3 ∧ f.name = s) || namedL s f.kids) := by unfold namedB namedL; rw [pre_eq]; rfl
theorem plainB_eq (f : Fm) : plainB f = (bareE f && plainL f.kids) := by unfold plainB plainL; rw [pre_eq]; rfl
theorem namedL_split {s : List UInt8} {ks : List Fm} {i : Nat} (hi : i < ks.length) (h0 : namedL s (ks.take i) = false) : (namedB s ks[i] = true → namedL s ks = true) ∧ (namedB s ks[i] = false → namedL s (ks.take (i + 1)) = false) := by
  unfold namedL namedB at *
  refine ⟨fun h => ?_, fun h => ?_⟩
  · rw [preL_split' hi, List.any_append, List.any_append, h]; simp
  · rw [List.take_succ_eq_append_getElem hi, preL_snoc, List.any_append, h0, h]; rfl
theorem plainL_split {ks : List Fm} {i : Nat} (hi : i < ks.length) (h0 : plainL (ks.take i) = true) : (plainB ks[i] = false → plainL ks = false) ∧ (plainB ks[i] = true → plainL (ks.take (i + 1)) = true) := by
  unfold plainL plainB at *
  refine ⟨fun h => ?_, fun h => ?_⟩
  · rw [preL_split' hi, List.all_append, List.all_append, h]; simp
  · rw [List.take_succ_eq_append_getElem hi, preL_snoc, List.all_append, h0, h]; rfl
end Go.Fo

namespace Go.Proofs
open Go Go.Pd Go.Lexs Go.Fin Go.Fo
attribute [local irreducible] OpsL W RetQ OpsQ OpsC

theorem str_nil : str [] = Value.string ⟨#[]⟩ := by rw [str_eq]

end Go.Proofs

/-
  Formulas: the laws, in plain Lean.
-/
set_option linter.unusedVariables false
set_option linter.unusedSimpArgs false
set_option linter.unnecessarySimpa false
set_option maxRecDepth 10000
namespace Go.Fo
open Go.Lexs Go.Fin

theorem firstE_mem {F : List Fact} {known : List UInt8 → Bool} : ∀ {l : List Fm}, firstE F known l = 0 ↔ ∀ x ∈ l, nodeE F known x = 0
  | [] => by simp [firstE]
  | f :: l => by
    simp only [firstE, List.forall_mem_cons]
    by_cases h : nodeE F known f = 0
    · simp [h, firstE_mem]
    · simp [h]
theorem nodeE_mono {F : List Fact} {known : List UInt8 → Bool} {x : Fm} (h : nodeE F known x = 0) : nodeE F (fun _ => true) x = 0 := by
  unfold nodeE at *
  split at h
  · cases h
  · rename_i h1
    rw [if_neg h1]
    split at h
    · cases h
    · rename_i h2
      rw [if_neg h2]
      split at h
      · cases h
      · rename_i h3
        rw [if_neg]
        rintro (h4 | h4)
        · exact h3 (.inl h4)
        · exact absurd h4.2 (by simp)
theorem right_of {F : List Fact} {known : List UInt8 → Bool} {f : Fm} (h : firstE F known (pre f) = 0) : Right F f := firstE_mem.2 fun x hx => nodeE_mono (firstE_mem.1 h x hx)

theorem checkE_zero {F : List Fact} {known : List UInt8 → Bool} {f : Fm} : checkE F known f = 0 ↔ cnt f ≤ 200 ∧ dep f ≤ 20 ∧ firstE F known (pre f) = 0 := by
  unfold checkE
  split
  · rename_i h
    constructor
    · intro h'; cases h'
    · rintro ⟨h1, h2, -⟩; omega
  · rename_i h
    exact ⟨fun h' => ⟨by omega, by omega, h'⟩, fun h' => h'.2.2⟩

theorem goodB_iff {F : List Fact} {c : List Int} {f : Fm} : goodB F c f = true ↔ (cnt f ≤ 60 ∧ dep f ≤ 16) ∧ fitsB F c = true ∧ checkE F (fun s => (termsOf f).contains s) f = 0 := by
  unfold goodB
  simp only [Bool.and_eq_true, decide_eq_true_eq]
theorem good_right {F : List Fact} {c : List Int} {f : Fm} (h : goodB F c f = true) : Right F f := right_of (checkE_zero.1 (goodB_iff.1 h).2.2).2.2

theorem holdsB_eval {F : List Fact} {c : List Int} {T : List (List UInt8)} {f : Fm} (h1 : cnt f ≤ 200) (h2 : dep f ≤ 20) (h3 : Right F f) (h4 : fitsB F c = true) : holdsB F c T f = eval F c T f := by
  unfold holdsB
  rw [decide_eq_true (checkE_zero.2 ⟨h1, h2, h3⟩), h4, Bool.true_and, Bool.true_and]


def bth (op : Int) (l : List Fm) : Fm := .node op [] 0 0 l
def tst (s : List UInt8) (cm n : Int) : Fm := .node 3 s cm n []

theorem mem_preL {x : Fm} : ∀ {ks : List Fm}, x ∈ preL ks → ∃ i, ∃ hi : i < ks.length, x ∈ pre ks[i]
  | [], h => by simp [preL] at h
  | k :: ks, h => by
    simp only [preL, List.mem_append] at h
    rcases h with h | h
    · exact ⟨0, by simp, h⟩
    · obtain ⟨i, hi, h1⟩ := mem_preL h
      exact ⟨i + 1, by simp; omega, by simpa using h1⟩
theorem right_bth {F : List Fact} {op : Int} {ks : List Fm} (ho : (op = 5 ∧ ks.length = 1) ∨ ((op = 6 ∨ op = 7) ∧ 2 ≤ ks.length)) (h : ∀ k ∈ ks, Right F k) : Right F (bth op ks) := by
  refine firstE_mem.2 fun x hx => ?_
  rw [pre_eq] at hx
  rcases List.mem_cons.1 hx with rfl | hx
  · have hf : formed (bth op ks) = true := by
      unfold formed bth
      simp only [Fm.op, Fm.name, Fm.cmp, Fm.num, Fm.kids]
      rcases ho with ⟨rfl, h⟩ | ⟨rfl | rfl, h⟩ <;> simp [h]
    unfold nodeE
    rw [hf, if_neg (by decide), if_neg (by simp only [bth, Fm.op]; omega), if_neg (by simp only [bth, Fm.op]; omega)]
  · replace hx : x ∈ preL ks := hx
    obtain ⟨i, hi, hxi⟩ := mem_preL hx
    exact firstE_mem.1 (h _ (List.getElem_mem hi)) x hxi

theorem cnt_bth (op : Int) (ks : List Fm) : cnt (bth op ks) = 1 + cntL ks := rfl
theorem dep_bth (op : Int) (ks : List Fm) : dep (bth op ks) = depL ks + 1 := rfl
theorem eval_not (F : List Fact) (c : List Int) (T : List (List UInt8)) (f : Fm) : eval F c T (bth 5 [f]) = !(eval F c T f) := by rw [eval_eq]; simp [bth, Fm.op, Fm.kids, evalFirst]
theorem eval_and (F : List Fact) (c : List Int) (T : List (List UInt8)) (f g : Fm) : eval F c T (bth 6 [f, g]) = (eval F c T f && eval F c T g) := by rw [eval_eq]; simp [bth, Fm.op, Fm.kids]
theorem eval_or (F : List Fact) (c : List Int) (T : List (List UInt8)) (f g : Fm) : eval F c T (bth 7 [f, g]) = (eval F c T f || eval F c T g) := by rw [eval_eq]; simp [bth, Fm.op, Fm.kids]

/-! ### Tests -/
theorem idx_at {F : List Fact} (h : validD F = true) {i : Nat} (hi : i < F.length) : idx F F[i].name = some i := by
  refine idx_some hi rfl fun j hj hji he => ?_
  unfold validD at h
  simp only [Bool.and_eq_true, decide_eq_true_eq] at h
  have hnd := h.1.2
  have h1 : (F.map (·.name))[j]? = (F.map (·.name))[i]? := by simp [hj, hi, he]
  have := (List.getElem?_inj (by simpa using hj) hnd).1 h1
  omega
theorem valid_nm {F : List Fact} (h : validD F = true) {i : Nat} (hi : i < F.length) : Nm F[i].name = true := by
  unfold validD at h
  simp only [Bool.and_eq_true, List.all_eq_true] at h
  exact ((factOk_iff _).1 (h.1.1 _ (List.getElem_mem hi))).2

theorem holds_tst {F : List Fact} {c : List Int} {T : List (List UInt8)} {i : Nat} {k n : Int} (hv : fitsB F c = true) (hi : i < F.length) (hc : i < c.length) (h0 : 0 ≤ n) (h1 : n ≤ 1000000) : holdsB F c T (tst F[i].name k n) = (decide (1 ≤ k ∧ k ≤ 6) && cmpB c[i] k n) := by
  have hvd : validD F = true := by unfold fitsB at hv; exact (Bool.and_eq_true_iff.1 hv).1
  have hix := idx_at hvd hi
  have hnm := valid_nm hvd hi
  by_cases hk : 1 ≤ k ∧ k ≤ 6
  · have hR : Right F (tst F[i].name k n) := by
      refine firstE_mem.2 fun x hx => ?_
      rw [pre_eq] at hx
      simp only [tst, Fm.kids, preL, List.mem_singleton] at hx
      subst hx
      unfold nodeE
      have hf : formed (.node 3 F[i].name k n []) = true := by unfold formed; simp [Fm.op, Fm.name, Fm.cmp, Fm.num, Fm.kids, hnm, hk.1, hk.2]
      rw [hf, if_neg (by decide), if_neg (by simp only [Fm.op, Fm.num]; omega), if_neg]
      simp only [Fm.op, Fm.name, hix]
      rintro (⟨-, h⟩ | ⟨h, -⟩)
      · cases h
      · omega
    rw [holdsB_eval (by simp [tst, cnt, cntL]) (by simp [tst, dep, depL]) hR hv, eval_eq, decide_eq_true hk, Bool.true_and]
    simp only [tst, Fm.op, Fm.name, Fm.cmp, Fm.num, if_true]
    unfold valAt
    rw [hix]
    simp [List.getD, hc]
  · have hf : formed (tst F[i].name k n) = false := by
      unfold formed tst
      simp only [Fm.op, Fm.name, Fm.cmp, Fm.num, Fm.kids]
      by_cases h : 1 ≤ k
      · have : ¬ k ≤ 6 := fun h' => hk ⟨h, h'⟩
        simp [this]
      · simp [h]
    have hn : nodeE F (fun _ => true) (tst F[i].name k n) = 1 := by unfold nodeE; rw [hf, if_pos rfl]
    have hck : checkE F (fun _ => true) (tst F[i].name k n) ≠ 0 := fun h => by
      have := firstE_mem.1 (checkE_zero.1 h).2.2 (tst F[i].name k n) (by rw [pre_eq]; exact List.mem_cons_self)
      rw [hn] at this
      cases this
    unfold holdsB
    rw [decide_eq_false hck, decide_eq_false hk]
    rfl
end Go.Fo

/-
  Formulas: the statements' good.
-/
set_option linter.unusedVariables false
set_option linter.unusedSimpArgs false
set_option linter.unnecessarySimpa false
set_option maxRecDepth 10000
namespace Go.Proofs
open Go Go.Pd Go.Lexs Go.Fin Go.Fo
attribute [local irreducible] OpsL W RetQ OpsQ OpsC

end Go.Proofs

/-
  Formulas: the statements' examples.
-/
set_option linter.unusedVariables false
set_option linter.unusedSimpArgs false
set_option linter.unnecessarySimpa false
set_option maxRecDepth 10000
namespace Go.Proofs
open Go Go.Pd Go.Lexs Go.Fin Go.Fo
attribute [local irreducible] OpsL W RetQ OpsQ OpsC

def F0 : List Fact := [⟨[97, 103, 101], 2, 0, 150⟩, ⟨[109, 101, 109, 98, 101, 114], 1, 0, 1⟩]
def c0 : List Int := [20, 0]
def sAge : List UInt8 := [97, 103, 101]
def sMem : List UInt8 := [109, 101, 109, 98, 101, 114]
def sAd : List UInt8 := [97, 100, 117, 108, 116]
def f0 : Fm := bth 6 [tst sAge 6 18, bth 5 [tst sMem 1 1]]
def ad0 : Fm := .node 4 sAd 0 0 []
def yg0 : Fm := tst sAge 3 18

theorem ex1 : holdsB F0 c0 [] f0 = true := by decide +kernel
theorem ex2 : holdsB F0 c0 [sAd] ad0 = true := by decide +kernel
theorem ex3 : holdsB F0 c0 [] ad0 = false := by decide +kernel
theorem ex4 : holdsB F0 c0 [] yg0 = false := by decide +kernel
theorem ex5 : checkE F0 (fun s => ([] : List (List UInt8)).contains s) (tst sAge 1 1000001) = 10 := by decide +kernel
theorem ex6 : checkE F0 (fun s => ([] : List (List UInt8)).contains s) ad0 = 7 := by decide +kernel
theorem ex7 : checkE F0 (fun s => ([] : List (List UInt8)).contains s) f0 = 0 := by decide +kernel
theorem ex8 : checkE F0 (fun s => ([] : List (List UInt8)).contains s) (bth 6 [f0]) = 1 := by decide +kernel
theorem ex9 : fitsB F0 c0 = true := by decide +kernel
theorem ex10 : termsOf (bth 7 [ad0, f0, ad0]) = [sAd] := by decide +kernel
theorem ex11 : expand sAd yg0 ad0 = yg0 := by decide +kernel
theorem ex12 : cnt f0 = 4 ∧ dep f0 = 3 := by decide +kernel
theorem ex13 : f0 ≠ ad0 := by decide +kernel

end Go.Proofs

/-
  The statement FormulaMatchesReference, walked.
-/
set_option linter.unusedVariables false
set_option linter.unusedSimpArgs false
set_option linter.unnecessarySimpa false
set_option maxRecDepth 10000
namespace Go.Proofs
open Go Go.Pd Go.Lexs Go.Fin Go.Fo
attribute [local irreducible] OpsL W RetQ OpsQ OpsC

theorem FmIn.texty {w : World} {f : Fm} {kv : Value} (h : FmIn w f kv) : Texty (pre f) := fun x hx => by have := h.t x hx; omega

/-- A domain, a case and terms that came in. -/
structure DcIn (w : World) (F : List Fact) (c : List Int) (T : List (List UInt8)) (dv cv tv : Value) : Prop where
  sd : Sl w dv 4 (factsL F)
  sc : Sl w cv 1 (intsL c)
  st : Sl w tv 1 (strsL T)
  nF : F.length ≤ 140737488351232
  nC : c.length ≤ 140737488351232
  nT : T.length ≤ 140737488351232
  tF : ∀ f ∈ F, f.name.length ≤ 140737488351232
  tT : ∀ s ∈ T, s.length ≤ 140737488351232
theorem DcIn.ext {w w' : World} {F : List Fact} {c : List Int} {T : List (List UInt8)} {dv cv tv : Value} (h : DcIn w F c T dv cv tv) (e : Ext w w') : DcIn w' F c T dv cv tv := ⟨h.sd.ext e, h.sc.ext e, h.st.ext e, h.nF, h.nC, h.nT, h.tF, h.tT⟩

theorem texty_expand (s : List UInt8) (y : Fm) : ∀ f : Fm, Texty (pre f) → Texty (pre y) → Texty (pre (expand s y f)) := by
  refine Fm.ind ?_
  intro f ih hf hy
  rw [expand_eq]
  split
  · exact hy
  · intro x hx
    rw [pre_eq] at hx hf
    rcases List.mem_cons.1 hx with rfl | hx
    · exact hf f List.mem_cons_self
    · have : ∀ ks : List Fm, (∀ k ∈ ks, Texty (pre (expand s y k))) → ∀ x ∈ preL (ks.map (expand s y)), x.name.length ≤ 9223372036854775806 := by
        intro ks
        induction ks with
        | nil => intro _ x hx; simp [preL] at hx
        | cons k ks ihk =>
          intro hk x hx
          simp only [List.map_cons, preL, List.mem_append] at hx
          rcases hx with hx | hx
          · exact hk k List.mem_cons_self x hx
          · exact ihk (fun q hq => hk q (List.mem_cons_of_mem _ hq)) x hx
      refine this f.kids (fun k hk => ih k hk (fun x hx => hf x ?_) hy) x hx
      refine List.mem_cons_of_mem _ ?_
      obtain ⟨i, hi, rfl⟩ := List.mem_iff_getElem.1 hk
      rw [preL_split' hi]
      simp [hx]

end Go.Proofs

/-
  Formulas, domains, cases, lists of texts that came in.
-/
set_option linter.unusedVariables false
set_option linter.unusedSimpArgs false
set_option linter.unnecessarySimpa false
set_option maxRecDepth 10000
namespace Go.Proofs
open Go Go.Pd Go.Lexs Go.Fin Go.Fo

section
variable {H : Type} {enc : TypeId × Value → H} {W : World}

def DomIn (w : World) (F : List Fact) (dv : Value) : Prop := Sl w dv 4 (factsL F) ∧ F.length ≤ 140737488351232 ∧ ∀ f ∈ F, f.name.length ≤ 140737488351232

theorem open_dom {r : Go.Reach} {base n : Nat} {v : Value} (hv : Value.okWide Tryd.prog W r base 30 v) (h : Rd enc Tryd.prog W n 30 v.cells.toList) : ∃ x : List Fact × Value, v = .agg #[x.2] ∧ DomIn W x.1 x.2 := by
  obtain ⟨cs, rfl, -⟩ := okWide_agg hv (by kernel_rfl)
  have hs : flatSh Tryd.prog 3 30 = some [.slc 28] := by kernel_rfl
  obtain ⟨hl, hc⟩ := Rd.flat 3 hs h
  obtain ⟨l⟩ := cs
  match l, hl with
  | [c0], _ =>
    have h0 : Rd enc Tryd.prog W n 28 [c0] := hc 0 _ c0 rfl rfl
    obtain ⟨L, h1, h2, h3⟩ := Rd.list (f := factL) (Q := fun f => f.name.length ≤ 140737488351232) Tryd.underlying28 (show Tryd.prog.cellsOf 83 = 4 by kernel_rfl) (by decide) (by decide +kernel) h0 fun n' cs hr => by
      have hs : flatSh Tryd.prog 3 83 = some [.str, .int .i64, .int .i64, .int .i64] := by kernel_rfl
      obtain ⟨hl, hc⟩ := Rd.flat 3 hs hr
      match cs, hl with
      | [c0, c1, c2, c3], _ =>
        obtain ⟨s0, rfl, h0⟩ := hc 0 _ c0 rfl rfl
        obtain ⟨z1, rfl, -⟩ := hc 1 _ c1 rfl rfl
        obtain ⟨z2, rfl, -⟩ := hc 2 _ c2 rfl rfl
        obtain ⟨z3, rfl, -⟩ := hc 3 _ c3 rfl rfl
        exact ⟨⟨s0, z1, z2, z3⟩, rfl, h0⟩
    exact ⟨(L, c0), rfl, h1, h2, h3⟩

def CaseIn (w : World) (c : List Int) (cv : Value) : Prop := Sl w cv 1 (intsL c) ∧ c.length ≤ 140737488351232
theorem open_case {r : Go.Reach} {base n : Nat} {v : Value} (hv : Value.okWide Tryd.prog W r base 32 v) (h : Rd enc Tryd.prog W n 32 v.cells.toList) : ∃ c : List Int, CaseIn W c v := by
  obtain ⟨L, h1, h2, -⟩ := Rd.sl (f := intL) (Q := fun _ => True) Tryd.underlying32 (show Tryd.prog.cellsOf 3 = 1 by kernel_rfl) (by decide) (by decide +kernel) hv h fun n' cs hr => by
    have hs : flatSh Tryd.prog 3 3 = some [.int .i64] := by kernel_rfl
    obtain ⟨hl, hc⟩ := Rd.flat 3 hs hr
    match cs, hl with
    | [c0], _ =>
      obtain ⟨z0, rfl, -⟩ := hc 0 _ c0 rfl rfl
      exact ⟨z0, rfl, trivial⟩
  exact ⟨L, h1, h2⟩

def StrsIn (w : World) (T : List (List UInt8)) (tv : Value) : Prop := Sl w tv 1 (strsL T) ∧ T.length ≤ 140737488351232 ∧ ∀ s ∈ T, s.length ≤ 140737488351232
theorem open_strs {r : Go.Reach} {base n : Nat} {v : Value} (hv : Value.okWide Tryd.prog W r base 58 v) (h : Rd enc Tryd.prog W n 58 v.cells.toList) : ∃ T : List (List UInt8), StrsIn W T v :=
  Rd.sl (f := strL) (Q := fun s => s.length ≤ 140737488351232) Tryd.underlying58 (show Tryd.prog.cellsOf 9 = 1 by kernel_rfl) (by decide) (by decide +kernel) hv h fun n' cs hr => by
    have hs : flatSh Tryd.prog 3 9 = some [.str] := by kernel_rfl
    obtain ⟨hl, hc⟩ := Rd.flat 3 hs hr
    match cs, hl with
    | [c0], _ =>
      obtain ⟨s0, rfl, h0⟩ := hc 0 _ c0 rfl rfl
      exact ⟨s0, rfl, h0⟩
end
end Go.Proofs
