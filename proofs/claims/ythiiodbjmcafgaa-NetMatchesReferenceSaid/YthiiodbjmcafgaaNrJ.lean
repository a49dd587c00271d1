/-
  Both networks among what a caller has.
-/
import Derived.Test.YthiiodbjmcafgaaNrI
import Derived.Test.YthiiodbjmcafgaaNeQ
set_option linter.unusedVariables false
set_option linter.unusedSimpArgs false
set_option linter.unnecessarySimpa false
set_option maxRecDepth 10000
namespace Go.Ne
open Go Go.Pd
/-- What one got from another has no text twice. -/
def GN (s : Net) : Prop := ∀ a b, ((s.node a).peer b).got.Nodup
theorem GN.of {s s' : Net} (h : GN s) (hn : s'.node = s.node) : GN s' := fun a b => by rw [hn]; exact h a b
theorem GN.new (n : Nat) : GN (new n) := fun _ _ => List.nodup_nil
theorem GN.put {s : Net} (h : GN s) (i : Nat) (t : Tx) : GN (put s i t) := by
  unfold Ne.put
  split
  · exact h
  · intro a b
    by_cases e : a = i
    · subst e; simp only [upd_same]; exact h a b
    · simp only [upd_ne _ _ e]; exact h a b
theorem GN.send {s : Net} (h : GN s) (a b : Nat) : GN (send s a b) := h.of (send_node s a b)
theorem GN.setCut {s : Net} (h : GN s) (a b : Nat) (off : Bool) : GN (setCut s a b off) := h.of (setCut_node s a b off)
theorem GN.recv {s : Net} (h : GN s) (a b : Nat) (m : Msg) : GN (recv s a b m) := fun x y => by
  rw [recv_peer]
  split
  · exact nodup_foldT (h b a)
  · exact h x y
theorem GN.deliver {s : Net} (h : GN s) (a b : Nat) (lost again : Bool) : GN (deliver s a b lost again) := by
  unfold Ne.deliver
  split
  · cases s.q a b with
    | nil => exact h
    | cons m ms =>
      have h1 : GN (if (again && !lost) = true then s else { s with q := upd2 s.q a b ms }) := by
        split
        · exact h
        · exact h.of rfl
      show GN (if lost = true then _ else Ne.recv _ a b m)
      split
      · exact h1
      · exact h1.recv _ _ _
  · exact h
theorem GN.len {s : Net} (h : GN s) (hb : Bd s) (a b : Nat) : ((s.node a).peer b).got.length ≤ 1000 := Nat.le_trans (sub_len (h a b) (hb.inv.k2 a b)) (hb.len b)
end Go.Ne
namespace Go.Proofs
open Go Go.Pd Go.Ne
attribute [local irreducible] OpsL W RetQ OpsQ OpsC
theorem RefR.other {s : Net} {p : Nat} {bl bl' rl : List (Nat × Obj)} {w w' : World} (h : RefR (Go.Pd.In bl) s p rl w) (hl : LH w (Go.Pd.In bl) w' bl') (ho : Own w' rl) : RefR (Go.Pd.In bl') s p rl w' := by
  obtain ⟨R, hY, rfl, rfl, hok, hown⟩ := h
  refine ⟨{ R with Y := Go.Pd.In bl' }, rfl, rfl, rfl, ?_, ho⟩
  refine hok.map (R' := { R with Y := Go.Pd.In bl' }) rfl (fun b hb => hl.idlt hb) fun hv => ?_
  unfold RefB.D at hv
  rw [hY] at hv
  exact (hv.comm.stepX hl).comm
theorem NetR.other {s : Net} {p : Nat} {bl rl rl' : List (Nat × Obj)} {w w' : World} (h : NetR (Go.Pd.In rl) s p bl w) (hl : LH w (Go.Pd.In rl) w' rl') (ho : Own w' bl) : NetR (Go.Pd.In rl') s p bl w' := by
  obtain ⟨D, hX, rfl, rfl, hok, hown⟩ := h
  refine ⟨{ D with X := Go.Pd.In rl' }, rfl, rfl, rfl, ⟨hok.np, hok.nv, hok.nd, hok.qm, hok.qg, fun a b ha hb => ?_, fun b hb => hl.idlt hb, hok.cm, hok.ck, hok.am⟩, ho⟩
  have hq := hok.qu a b ha hb
  refine ⟨hq.a, hq.l, fun q hq' => ?_⟩
  have hv := hq.s q hq'
  unfold NetB.D at hv
  rw [hX] at hv
  exact (hv.comm.stepX hl).comm
/-- Both networks, and blocks of the caller's own. -/
def HasB (w0 : World) (sn sr : Net) (p r : Nat) (ex : List (Nat × Obj)) (w : World) : Prop := (Bd sn ∧ Bd sr ∧ GN sr) ∧ ∃ bl rl, LH w0 (fun _ => False) w (bl ++ (rl ++ ex)) ∧ NetR (Go.Pd.In rl) sn p bl w ∧ RefR (Go.Pd.In bl) sr r rl w
section
variable {w0 : World} {sn sr : Net} {p r : Nat} {ex : List (Nat × Obj)} {w : World}
theorem HasB.ext {w' : World} (h : HasB w0 sn sr p r ex w) (e : Ext w w') : HasB w0 sn sr p r ex w' := by
  obtain ⟨h0, bl, rl, h1, h2, h3⟩ := h
  exact ⟨h0, bl, rl, h1.ext e, h2.ext e, h3.ext e⟩
theorem HasB.done (h : HasB w0 sn sr p r ex w) : Ext w0 w := by
  obtain ⟨h0, bl, rl, h1, h2, h3⟩ := h
  exact h1.done
theorem HasB.own (h : HasB w0 sn sr p r ex w) : LH w0 (fun _ => False) w ex := by
  obtain ⟨h0, bl, rl, h1, h2, h3⟩ := h
  exact h1.sub ((List.sublist_append_right _ _).trans (List.sublist_append_right _ _))
/-- More of the caller's own. -/
theorem HasB.more {w' : World} {l : List (Nat × Obj)} (h : HasB w0 sn sr p r ex w) (hl : LH w (fun _ => False) w' l) : HasB w0 sn sr p r (ex ++ l) w' := by
  obtain ⟨h0, bl, rl, h1, h2, h3⟩ := h
  refine ⟨h0, bl, rl, ?_, h2.ext hl.done, h3.ext hl.done⟩
  have := (h1.join hl).perm List.perm_append_comm
  simpa only [List.append_assoc] using this
theorem HasB.less (h : HasB w0 sn sr p r ex w) {l : List (Nat × Obj)} (hs : l.Sublist ex) : HasB w0 sn sr p r l w := by
  obtain ⟨h0, bl, rl, h1, h2, h3⟩ := h
  exact ⟨h0, bl, rl, h1.sub ((List.Sublist.refl bl).append ((List.Sublist.refl rl).append hs)), h2, h3⟩
theorem HasB.net {s' : Net} {w' : World} (h0 : Bd sn ∧ Bd sr ∧ GN sr) {bl rl : List (Nat × Obj)} (h1 : LH w0 (fun _ => False) w (bl ++ (rl ++ ex))) (h3 : RefR (Go.Pd.In bl) sr r rl w) (hb : Bd s') (hA : After (Go.Pd.In rl) s' p bl w w') : HasB w0 s' sr p r ex w' := by
  obtain ⟨bl', h4, h5⟩ := hA
  have h6 := h1.focus h4
  exact ⟨⟨hb, h0.2⟩, bl', rl, h6, h5, RefR.other h3 h4 ((h6.sub ((List.sublist_append_left _ _).trans (List.sublist_append_right _ _))).owned)⟩
theorem HasB.ref {s' : Net} {w' : World} (h0 : Bd sn ∧ Bd sr ∧ GN sr) {bl rl : List (Nat × Obj)} (h1 : LH w0 (fun _ => False) w (bl ++ (rl ++ ex))) (h2 : NetR (Go.Pd.In rl) sn p bl w) (hb : Bd s') (hg : GN s') (hA : AftR (Go.Pd.In bl) s' r rl w w') : HasB w0 sn s' p r ex w' := by
  obtain ⟨rl', h4, h5⟩ := hA
  have hp : (bl ++ (rl ++ ex)).Perm (rl ++ (bl ++ ex)) := List.perm_append_comm_assoc _ _ _
  have h6 := (h1.perm hp).focus h4
  have h7 := h6.perm (List.perm_append_comm_assoc rl' bl ex)
  exact ⟨⟨h0.1, hb, hg⟩, bl, rl', h7, NetR.other h2 h4 ((h7.sub (List.sublist_append_left _ _)).owned), h5⟩
theorem HasB.put (h : HasB w0 sn sr p r ex w) (i : Nat) (t : Tx) (ht : t.length ≤ 1000000) : Calls Try.prog 13 #[.pointer (some ⟨p, 0, none⟩), .int .i64 (i : Int), str t] w (fun e w' => ∃ v, e = .returned v ∧ v = .int .i64 (putE sn i t : Int) ∧ HasB w0 (put sn i t) sr p r ex w') := by
  obtain ⟨h0, bl, rl, h1, h2, h3⟩ := h
  refine (put_calls h2 i t (fun a => Nat.le_trans (h0.1.len a) (by omega)) (by omega)).mono ?_
  rintro e w' ⟨v, rfl, rfl, hA⟩
  exact ⟨_, rfl, rfl, .net h0 h1 h3 (h0.1.put i t) hA⟩
theorem HasB.send (h : HasB w0 sn sr p r ex w) (a b : Nat) : Calls Try.prog 15 #[.pointer (some ⟨p, 0, none⟩), .int .i64 (a : Int), .int .i64 (b : Int)] w (fun e w' => ∃ v, e = .returned v ∧ v = .int .i64 (sendE sn a b : Int) ∧ HasB w0 (send sn a b) sr p r ex w') := by
  obtain ⟨h0, bl, rl, h1, h2, h3⟩ := h
  refine (send_calls h2 a b (fun a => Nat.le_trans (h0.1.len a) (by omega)) h0.1.q).mono ?_
  rintro e w' ⟨v, rfl, rfl, hA⟩
  exact ⟨_, rfl, rfl, .net h0 h1 h3 (h0.1.send a b) hA⟩
theorem HasB.deliver (h : HasB w0 sn sr p r ex w) (a b : Nat) (lost again : Bool) : Calls Try.prog 17 #[.pointer (some ⟨p, 0, none⟩), .int .i64 (a : Int), .int .i64 (b : Int), .bool lost, .bool again] w (fun e w' => ∃ v, e = .returned v ∧ v = .bool (delivB sn a b) ∧ HasB w0 (deliver sn a b lost again) sr p r ex w') := by
  obtain ⟨h0, bl, rl, h1, h2, h3⟩ := h
  refine (deliver_calls h2 a b lost again (fun a => Nat.le_trans (h0.1.len a) (by omega)) (fun x y m hm => Nat.le_trans (h0.1.m x y m hm) (by omega))).mono ?_
  rintro e w' ⟨v, rfl, rfl, hA⟩
  exact ⟨_, rfl, rfl, .net h0 h1 h3 (h0.1.deliver a b lost again) hA⟩
theorem HasB.cut (h : HasB w0 sn sr p r ex w) (a b : Nat) (off : Bool) : Calls Try.prog 19 #[.pointer (some ⟨p, 0, none⟩), .int .i64 (a : Int), .int .i64 (b : Int), .bool off] w (fun e w' => ∃ v, e = .returned v ∧ v = .int .i64 (setE sn a b : Int) ∧ HasB w0 (setCut sn a b off) sr p r ex w') := by
  obtain ⟨h0, bl, rl, h1, h2, h3⟩ := h
  refine (cut_calls h2 a b off).mono ?_
  rintro e w' ⟨v, rfl, rfl, hA⟩
  exact ⟨_, rfl, rfl, .net h0 h1 h3 (h0.1.setCut a b off) hA⟩
theorem HasB.putR (h : HasB w0 sn sr p r ex w) (i : Nat) (t : Tx) (ht : t.length ≤ 1000000) : Calls Try.prog 14 #[.pointer (some ⟨r, 0, none⟩), .int .i64 (i : Int), str t] w (fun e w' => ∃ v, e = .returned v ∧ v = .int .i64 (putE sr i t : Int) ∧ HasB w0 sn (Ne.put sr i t) p r ex w') := by
  obtain ⟨h0, bl, rl, h1, h2, h3⟩ := h
  refine (putR_calls h3 i t (fun a => Nat.le_trans (h0.2.1.len a) (by omega)) h0.2.1.al (by omega)).mono ?_
  rintro e w' ⟨v, rfl, rfl, hA⟩
  exact ⟨_, rfl, rfl, .ref h0 h1 h2 (h0.2.1.put i t) (h0.2.2.put i t) hA⟩
theorem HasB.sendR (h : HasB w0 sn sr p r ex w) (a b : Nat) : Calls Try.prog 16 #[.pointer (some ⟨r, 0, none⟩), .int .i64 (a : Int), .int .i64 (b : Int)] w (fun e w' => ∃ v, e = .returned v ∧ v = .int .i64 (sendE sr a b : Int) ∧ HasB w0 sn (Ne.send sr a b) p r ex w') := by
  obtain ⟨h0, bl, rl, h1, h2, h3⟩ := h
  refine (sendR_calls h3 a b h0.2.1 (fun x y => Nat.le_trans (h0.2.2.len h0.2.1 x y) (by omega))).mono ?_
  rintro e w' ⟨v, rfl, rfl, hA⟩
  exact ⟨_, rfl, rfl, .ref h0 h1 h2 (h0.2.1.send a b) (h0.2.2.send a b) hA⟩
theorem HasB.deliverR (h : HasB w0 sn sr p r ex w) (a b : Nat) (lost again : Bool) : Calls Try.prog 18 #[.pointer (some ⟨r, 0, none⟩), .int .i64 (a : Int), .int .i64 (b : Int), .bool lost, .bool again] w (fun e w' => ∃ v, e = .returned v ∧ v = .bool (delivB sr a b) ∧ HasB w0 sn (Ne.deliver sr a b lost again) p r ex w') := by
  obtain ⟨h0, bl, rl, h1, h2, h3⟩ := h
  refine (deliverR_calls h3 a b lost again h0.2.1 (fun x y => Nat.le_trans (h0.2.2.len h0.2.1 x y) (by omega))).mono ?_
  rintro e w' ⟨v, rfl, rfl, hA⟩
  exact ⟨_, rfl, rfl, .ref h0 h1 h2 (h0.2.1.deliver a b lost again) (h0.2.2.deliver a b lost again) hA⟩
theorem HasB.cutR (h : HasB w0 sn sr p r ex w) (a b : Nat) (off : Bool) : Calls Try.prog 20 #[.pointer (some ⟨r, 0, none⟩), .int .i64 (a : Int), .int .i64 (b : Int), .bool off] w (fun e w' => ∃ v, e = .returned v ∧ v = .int .i64 (setE sr a b : Int) ∧ HasB w0 sn (setCut sr a b off) p r ex w') := by
  obtain ⟨h0, bl, rl, h1, h2, h3⟩ := h
  refine (cutR_calls h3 a b off).mono ?_
  rintro e w' ⟨v, rfl, rfl, hA⟩
  exact ⟨_, rfl, rfl, .ref h0 h1 h2 (h0.2.1.setCut a b off) (h0.2.2.setCut a b off) hA⟩
/-- Slices read; nothing else changes. -/
theorem HasB.has (h : HasB w0 sn sr p r ex w) (i : Nat) : Calls Try.prog 22 #[.pointer (some ⟨p, 0, none⟩), .int .i64 (i : Int)] w (fun e w' => ∃ v, e = .returned v ∧ Sl w' v 1 (strL (Ne.has sn i)) ∧ Ext w w') := by
  obtain ⟨h0, bl, rl, h1, h2, h3⟩ := h
  refine (has_calls h2 i (fun a => Nat.le_trans (h0.1.len a) (by omega))).mono ?_
  rintro e w' ⟨v, rfl, hF⟩
  exact ⟨v, rfl, hF.sl⟩
theorem HasB.lacks (h : HasB w0 sn sr p r ex w) (a b : Nat) : Calls Try.prog 24 #[.pointer (some ⟨p, 0, none⟩), .int .i64 (a : Int), .int .i64 (b : Int)] w (fun e w' => ∃ v, e = .returned v ∧ Sl w' v 1 (strL (Ne.lacks sn a b)) ∧ Ext w w') := by
  obtain ⟨h0, bl, rl, h1, h2, h3⟩ := h
  refine (lacks_calls h2 a b (fun a => Nat.le_trans (h0.1.len a) (by omega))).mono ?_
  rintro e w' ⟨v, rfl, hF⟩
  exact ⟨v, rfl, hF.sl⟩
theorem HasB.hasR (h : HasB w0 sn sr p r ex w) (i : Nat) : Calls Try.prog 23 #[.pointer (some ⟨r, 0, none⟩), .int .i64 (i : Int)] w (fun e w' => ∃ v, e = .returned v ∧ Sl w' v 1 (strL (Ne.has sr i)) ∧ Ext w w') := by
  obtain ⟨h0, bl, rl, h1, h2, h3⟩ := h
  refine (hasR_calls h3 i).mono ?_
  rintro e w' ⟨v, rfl, hv, he⟩
  exact ⟨v, rfl, hv.1, he⟩
theorem HasB.lacksR (h : HasB w0 sn sr p r ex w) (a b : Nat) : Calls Try.prog 25 #[.pointer (some ⟨r, 0, none⟩), .int .i64 (a : Int), .int .i64 (b : Int)] w (fun e w' => ∃ v, e = .returned v ∧ Sl w' v 1 (strL (Ne.lacks sr a b)) ∧ Ext w w') := by
  obtain ⟨h0, bl, rl, h1, h2, h3⟩ := h
  refine (lacksR_calls h3 a b h0.2.1 (fun x y => Nat.le_trans (h0.2.2.len h0.2.1 x y) (by omega))).mono ?_
  rintro e w' ⟨v, rfl, hF⟩
  exact ⟨v, rfl, hF.sl⟩
end
end Go.Proofs
