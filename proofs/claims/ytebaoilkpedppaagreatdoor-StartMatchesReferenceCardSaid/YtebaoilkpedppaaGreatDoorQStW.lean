/-
  Conditions of commencement: the canonical text, and that it is read back; plain Lean.
-/
import Derived.Test.YtebaoilkpedppaaGreatDoorQLX
import Derived.Test.YtebaoilkpedppaaGreatDoorQP2
import Derived.Test.YtebaoilkpedppaaGreatDoorQSA
import Derived.Test.YtebaoilkpedppaaGreatDoorQStPb
set_option linter.unusedVariables false
set_option linter.unusedSimpArgs false
set_option linter.unnecessarySimpa false
set_option maxRecDepth 10000
namespace Go.Sta
open Go.Lexs
/-! ### Digits -/
def decS (n : Nat) : Tx := if h : n < 10 then [(48 + n).toUInt8] else decS (n / 10) ++ [(48 + n % 10).toUInt8]
theorem decS_small {n : Nat} (h : n < 10) : decS n = [(48 + n).toUInt8] := by rw [decS, dif_pos h]
theorem decS_big {n : Nat} (h : ¬ n < 10) : decS n = decS (n / 10) ++ [(48 + n % 10).toUInt8] := by rw [decS, dif_neg h]
theorem value_snoc (s : List UInt8) (c : UInt8) : value (s ++ [c]) = 10 * value s + (c.toNat - 48) := by
  simp [value, List.foldl_append]
theorem decS_len (k : Nat) : ∀ n, n < 10 ^ (k + 1) → (decS n).length ≤ k + 1 := by
  induction k with
  | zero => intro n h; rw [decS_small (by omega)]; simp
  | succ k ih =>
    intro n h
    by_cases h10 : n < 10
    · rw [decS_small h10]; simp
    · rw [decS_big h10, List.length_append]
      have := ih (n / 10) (by rw [Nat.pow_succ] at h; omega)
      simp only [List.length_singleton]
      omega
/-! ### The canonical text -/
def wordS (op : Int) : Tx := if op = 1 then [97, 108, 119, 97, 121, 115] else if op = 2 then [110, 101, 118, 101, 114] else if op = 3 then [100, 97, 121] else if op = 4 then [111, 114, 100, 101, 114] else if op = 5 then [101, 118, 101, 110, 116] else if op = 6 then [98, 101, 103, 117, 110] else [111, 118, 101, 114]
def sepS (op : Int) : Tx := if op = 8 then kAnd else kOr
def paren (inner : Bool) (t : Tx) : Tx := if inner then 40 :: t ++ [41] else t
mutual
def wr : Bool → Sn → Tx
  | inner, .node op name day ks => if op = 3 then wordS 3 ++ 32 :: decS day.toNat else if op < 3 then wordS op else if op ≤ 7 then wordS op ++ 32 :: name else paren inner (wrL (sepS op) ks)
def wrL (sep : Tx) : List Sn → Tx
  | [] => []
  | k :: ks => wr true k ++ wrT sep ks
def wrT (sep : Tx) : List Sn → Tx
  | [] => []
  | k :: ks => 32 :: sep ++ 32 :: (wr true k ++ wrT sep ks)
end
theorem wr_eq (inner : Bool) (s : Sn) : wr inner s = if s.op = 3 then wordS 3 ++ 32 :: decS s.day.toNat else if s.op < 3 then wordS s.op else if s.op ≤ 7 then wordS s.op ++ 32 :: s.name else paren inner (wrL (sepS s.op) s.kids) := by
  cases s
  simp only [wr]
  rfl
/-! ### Its tokens -/
def tw (w : Tx) : Tok := ⟨1, w, 0, 0⟩
def tp (c : UInt8) : Tok := ⟨3, [c], 0, 0⟩
def tn (n : Nat) : Tok := ⟨2, decS n, n, 0⟩
def parenT (inner : Bool) (l : List Tok) : List Tok := if inner then tp 40 :: l ++ [tp 41] else l
mutual
def tk : Bool → Sn → List Tok
  | inner, .node op name day ks => if op = 3 then [tw (wordS 3), tn day.toNat] else if op < 3 then [tw (wordS op)] else if op ≤ 7 then [tw (wordS op), tw name] else parenT inner (tkL (sepS op) ks)
def tkL (sep : Tx) : List Sn → List Tok
  | [] => []
  | k :: ks => tk true k ++ tkT sep ks
def tkT (sep : Tx) : List Sn → List Tok
  | [] => []
  | k :: ks => tw sep :: (tk true k ++ tkT sep ks)
end
theorem tk_eq (inner : Bool) (s : Sn) : tk inner s = if s.op = 3 then [tw (wordS 3), tn s.day.toNat] else if s.op < 3 then [tw (wordS s.op)] else if s.op ≤ 7 then [tw (wordS s.op), tw s.name] else parenT inner (tkL (sepS s.op) s.kids) := by
  cases s
  simp only [tk]
  rfl
/-! ### Lexing it -/
/-! ### Reading it -/
def NoT (w : Tx) (r : List Tok) : Prop := isT w r = false
theorem sevTail_no {w : Tx} {read : List Tok → Rd Sn} {r : List Tok} (h : NoT w r) (n : Nat) (acc : List Sn) : sevTail w read n acc r = .ok acc r := by
  cases n with
  | zero => rfl
  | succ n => simp only [sevTail]; rw [h]; rfl
/-! ### Valid ones -/
theorem wordS_ok : ∀ op : Int, (wordS op).all isWord = true ∧ hd (wordS op) = 3 ∧ (wordS op).length ≤ 6 := by
  intro op
  unfold wordS
  (repeat' split) <;> decide
theorem isLet_eq (c : UInt8) : isLet c = isLetter c := rfl
theorem nameB_ok {t : Tx} (h : nameB t = true) : t.all isWord = true ∧ hd t = 3 ∧ t.length ≤ 24 := by
  cases t with
  | nil => cases h
  | cons c l =>
    simp only [nameB, Bool.and_eq_true, decide_eq_true_eq] at h
    obtain ⟨⟨h1, h2⟩, h3⟩ := h
    have hc : cls c = 3 := by rw [isLet_eq] at h1; simp [cls, h1]
    have hw : ∀ d : UInt8, (isLet d || isDig d) = true → isWord d = true := by
      intro d hd
      rw [Bool.or_eq_true] at hd
      rcases hd with hd | hd
      · rw [isLet_eq] at hd; simp [isWord, cls, hd]
      · unfold isDig at hd
        rw [Bool.or_eq_true] at hd
        rcases hd with hd | hd
        · have : cls d = 4 := cls_digit hd
          simp [isWord, this]
        · rw [beq_iff_eq] at hd; subst hd; decide
    refine ⟨?_, hc, by simpa using h3⟩
    rw [List.all_cons, Bool.and_eq_true]
    refine ⟨by simp [isWord, hc], ?_⟩
    rw [List.all_eq_true] at h2 ⊢
    exact fun d hd => hw d (h2 d hd)
theorem node_cases {s : Sn} (h : okB s = true) : (s.op = 3 ∧ s.name = [] ∧ s.kids = [] ∧ 0 ≤ s.day ∧ s.day ≤ 1000000) ∨ (s.op ≠ 3 ∧ 1 ≤ s.op ∧ s.op < 3 ∧ s.name = [] ∧ s.kids = [] ∧ s.day = 0) ∨ (3 < s.op ∧ s.op ≤ 7 ∧ nameB s.name = true ∧ s.kids = [] ∧ s.day = 0) ∨ ((s.op = 8 ∨ s.op = 9) ∧ s.name = [] ∧ 2 ≤ s.kids.length ∧ s.day = 0 ∧ ∀ k ∈ s.kids, okB k = true) := by
  rw [okB_eq, Bool.and_eq_true] at h
  obtain ⟨n1, n2, n3, n4⟩ := (nodeB_iff s).1 h.1
  unfold named at n2
  unfold many at n4
  by_cases h3 : s.op = 3
  · rw [decide_eq_false (by omega), if_neg (by decide), decide_eq_true_eq] at n2 n4
    exact .inl ⟨h3, n2, n4, by omega, by omega⟩
  by_cases h2 : s.op < 3
  · rw [decide_eq_false (by omega), if_neg (by decide), decide_eq_true_eq] at n2 n4
    exact .inr (.inl ⟨h3, n1.1, h2, n2, n4, by omega⟩)
  by_cases h7 : s.op ≤ 7
  · rw [decide_eq_true (by omega), if_pos rfl] at n2
    rw [decide_eq_false (by omega), if_neg (by decide), decide_eq_true_eq] at n4
    exact .inr (.inr (.inl ⟨by omega, h7, n2, n4, by omega⟩))
  · rw [decide_eq_false (by omega), if_neg (by decide), decide_eq_true_eq] at n2
    rw [decide_eq_true (by omega), if_pos rfl, decide_eq_true_eq] at n4
    exact .inr (.inr (.inr ⟨by omega, n2, n4, by omega, okL_mem h.2⟩))
/-! ### How long it is -/
theorem tkT_len (sep : Tx) : ∀ (ks : List Sn), (∀ k ∈ ks, dep k ≤ (tk true k).length ∧ (tk true k).length + 1 ≤ 5 * cnt k) → (tkT sep ks).length ≤ 5 * cntL ks ∧ depL ks ≤ (tkT sep ks).length
  | [], _ => by simp [tkT, cntL, depL]
  | k :: ks, h => by
    have h1 := h k List.mem_cons_self
    have h2 := tkT_len sep ks fun q hq => h q (List.mem_cons_of_mem _ hq)
    simp only [tkT, cntL, depL, List.length_cons, List.length_append]
    omega
theorem tkL_len (sep : Tx) (ks : List Sn) (h : ∀ k ∈ ks, dep k ≤ (tk true k).length ∧ (tk true k).length + 1 ≤ 5 * cnt k) : (tkL sep ks).length ≤ 5 * cntL ks ∧ depL ks ≤ (tkL sep ks).length := by
  cases ks with
  | nil => simp [tkL, cntL, depL]
  | cons k ks =>
    have h1 := h k List.mem_cons_self
    have h2 := tkT_len sep ks fun q hq => h q (List.mem_cons_of_mem _ hq)
    simp only [tkL, cntL, depL, List.length_append]
    omega
theorem tk_len : ∀ (s : Sn), okB s = true → dep s ≤ (tk true s).length ∧ (tk true s).length + 1 ≤ 5 * cnt s := Sn.ind fun s ih h => by
  have hc := node_cases h
  rw [tk_eq, dep_eq, cnt_eq]
  rcases hc with ⟨h1, h2, h3, h4, h5⟩ | ⟨h1, h2, h3, h4, h5, h6⟩ | ⟨h1, h2, h3, h4, h5⟩ | ⟨h1, -, -, -, h7⟩
  · rw [if_pos h1, h3]; simp [depL, cntL]
  · rw [if_neg h1, if_pos h3, h5]; simp [depL, cntL]
  · rw [if_neg (by omega), if_neg (by omega), if_pos h2, h4]; simp [depL, cntL]
  · rw [if_neg (by omega), if_neg (by omega), if_neg (by omega)]
    have := tkL_len (sepS s.op) s.kids fun k hk => ih k hk (h7 k hk)
    simp only [parenT, if_true, List.length_append, List.length_cons, List.length_nil]
    omega
theorem wrT_len (op : Int) : ∀ (ks : List Sn), (∀ k ∈ ks, (wr true k).length + 5 ≤ 40 * cnt k) → (wrT (sepS op) ks).length ≤ 40 * cntL ks
  | [], _ => by simp [wrT, cntL]
  | k :: ks, h => by
    have h1 := h k List.mem_cons_self
    have h2 := wrT_len op ks fun q hq => h q (List.mem_cons_of_mem _ hq)
    have h3 : (sepS op).length ≤ 3 := by unfold sepS; split <;> decide
    simp only [wrT, cntL, List.length_cons, List.length_append]
    omega
theorem wrL_len (op : Int) (ks : List Sn) (h : ∀ k ∈ ks, (wr true k).length + 5 ≤ 40 * cnt k) : (wrL (sepS op) ks).length ≤ 40 * cntL ks := by
  cases ks with
  | nil => simp [wrL]
  | cons k ks =>
    have h1 := h k List.mem_cons_self
    have h2 := wrT_len op ks fun q hq => h q (List.mem_cons_of_mem _ hq)
    simp only [wrL, cntL, List.length_append]
    omega
theorem wr_len : ∀ (s : Sn), okB s = true → (wr true s).length + 5 ≤ 40 * cnt s := Sn.ind fun s ih h => by
  have hc := node_cases h
  rw [wr_eq, cnt_eq]
  rcases hc with ⟨h1, h2, h3, h4, h5⟩ | ⟨h1, h2, h3, h4, h5, h6⟩ | ⟨h1, h2, h3, h4, h5⟩ | ⟨h1, -, -, -, h7⟩
  · have h8 := (wordS_ok 3).2.2
    have h9 := decS_len 6 s.day.toNat (by omega)
    rw [if_pos h1]
    simp only [List.length_append, List.length_cons]
    omega
  · have h8 := (wordS_ok s.op).2.2
    rw [if_neg h1, if_pos h3]
    omega
  · have h8 := (wordS_ok s.op).2.2
    have h9 := (nameB_ok h3).2.2
    rw [if_neg (by omega), if_neg (by omega), if_pos h2]
    simp only [List.length_append, List.length_cons]
    omega
  · rw [if_neg (by omega), if_neg (by omega), if_neg (by omega)]
    have := wrL_len s.op s.kids fun k hk => ih k hk (h7 k hk)
    simp only [paren, if_true, List.length_append, List.length_cons, List.length_nil]
    omega
def textS (s : Sn) : Tx := wr false s
end Go.Sta
