/- Joined of CoreI, Place, CoreA, CoreB, CoreC, CoreE, CoreF, CoreX, CoreJ, CoreK, CoreY, CoreL. -/
import Derived.Test.YtnjdepojmnniaaaGreatDoorQ29
import Derived.Test.YtnjdepojmnniaaaGreatDoorRows
import Derived.Test.YtnjdepojmnniaaaGreatDoorQ04
import Derived.Test.YtnjdepojmnniaaaGreatDoorQ19
import Derived.Test.YtnjdepojmnniaaaGreatDoorQ02
import Derived.Outline

set_option linter.unusedSimpArgs false
set_option linter.unusedVariables false

/- WHAT A CORE DOES WITH A MESSAGE, with a command, with a snapshot, in plain words: no memory, no program. -/
namespace Go.Proofs.YtnjdepojmnniaaaGreatDoor
open Go Go.RowKit

/-! Messages. -/
def wrongHead (c : CoreD) (m : MsgD) : Bool :=
  !inD m.kind 1 5 || m.«to» != c.id || !inD m.frm 1 c.conf.nodes || m.frm == c.id || !inD m.term 1 1099511627776 || !inD m.a 0 1099511627776 || !inD m.b 0 1099511627776 || !inD m.c 0 1099511627776 || decide (8 < m.entries.length)
def wrongD (c : CoreD) (m : MsgD) : Bool := wrongHead c m || m.entries.any fun e => !inD e.term 1 m.term
def answerD (c : CoreD) (m : MsgD) (ok : Bool) (a : Int) : List MsgD := [saysD c { msg0 with kind := 4, ok := ok, a := a } m.frm]
def stepD (c : CoreD) (m : MsgD) : CoreD := if c.term < m.term then { risesD c m.term 0 with role := 0, leader := 0 } else c
def lastTerm (c : CoreD) : Int := (atD c (lastD c)).1
def askedOk (c : CoreD) (m : MsgD) : Bool :=
  m.term == c.term && (c.vote == 0 || c.vote == m.frm) && c.role == 0 && (decide (lastTerm c < m.b) || m.b == lastTerm c && decide (lastD c ≤ m.a))
def askedC (c : CoreD) (m : MsgD) : CoreD := if askedOk c m then { risesD c c.term m.frm with patience := 0 } else c
def askedD (c : CoreD) (m : MsgD) : CoreD × List MsgD := (askedC c m, [saysD (askedC c m) { msg0 with kind := 2, ok := askedOk c m } m.frm])
def lead0 (c : CoreD) : CoreD := { c with role := 2, leader := c.id, patience := 0, matc := List.replicate 8 0, next := List.replicate 8 (lastD c + 1) }
def leadD (c : CoreD) : CoreD := if c.l.length < 5096 then putD (lead0 c) { term := c.term, cmd := false, data := [] } else lead0 c
def votedC (c : CoreD) (m : MsgD) : CoreD := { c with votes := c.votes.set m.frm.toNat true }
def votedD (c : CoreD) (m : MsgD) : CoreD × List MsgD :=
  if m.term ≠ c.term ∨ c.role ≠ 1 ∨ m.ok = false then (c, [])
  else if ((votedC c m).votes.count true : Int) ≤ c.conf.nodes / 2 then (votedC c m, [])
  else (leadD (votedC c m), othersD (leadD (votedC c m)) (sendD (leadD (votedC c m))))
/-- How many have an index (but itself): the nodes up «to» k. -/
def haveD (c : CoreD) (i : Int) : Nat → Int
  | 0 => 1
  | k + 1 => haveD c i k + (if ((k + 1 : Nat) : Int) ≠ c.id ∧ i ≤ c.matc.getD (k + 1) 0 then 1 else 0)
def agreesTo (c : CoreD) : Nat → Int
  | 0 => c.commit
  | k + 1 => if (atD c (c.commit + (k + 1 : Nat))).1 = c.term ∧ c.conf.nodes / 2 < haveD c (c.commit + (k + 1 : Nat)) c.conf.nodes.toNat then c.commit + (k + 1 : Nat) else agreesTo c k
def agreesD (c : CoreD) : CoreD := { c with commit := agreesTo c (lastD c - c.commit).toNat }
def appNo (c : CoreD) (m : MsgD) : CoreD :=
  { c with next := c.next.set m.frm.toNat (max (c.matc.getD m.frm.toNat 0 + 1) (if m.a < c.next.getD m.frm.toNat 0 - 1 - 1 then m.a + 1 else c.next.getD m.frm.toNat 0 - 1)) }
def appYes0 (c : CoreD) (m : MsgD) : CoreD := { c with matc := c.matc.set m.frm.toNat (max (c.matc.getD m.frm.toNat 0) m.a) }
def appYes (c : CoreD) (m : MsgD) : CoreD := { appYes0 c m with next := c.next.set m.frm.toNat (max (c.next.getD m.frm.toNat 0) ((appYes0 c m).matc.getD m.frm.toNat 0 + 1)) }
def appendedD (c : CoreD) (m : MsgD) : CoreD × List MsgD :=
  if m.term ≠ c.term ∨ c.role ≠ 2 ∨ (m.ok = true ∧ lastD c < m.a) then (c, [])
  else if m.ok = false then (appNo c m, [sendD (appNo c m) m.frm])
  else (agreesD (appYes c m), [])
/-- Entries behind an index: from the first on that is another one, they take the place of what stands there; none: they may not. -/
def putsD (c : CoreD) (a : Int) : List Ent → Option CoreD
  | [] => some c
  | e :: r =>
    if (atD c (a + 1)).2 = true ∧ (atD c (a + 1)).1 = e.term then putsD c (a + 1) r
    else if a + 1 ≤ c.commit ∨ 5096 < a - c.base + (r.length + 1) then none
    else some ((e :: r).foldl putD { c with l := c.l.take (a - c.base).toNat })
def fitD (c : CoreD) (a b : Int) (passed : Bool) : Bool := (atD c a).2 && (passed || (atD c a).1 == b)
def appendAt (c : CoreD) (m : MsgD) (a : Int) (l : List Ent) (passed : Bool) : CoreD × List MsgD :=
  if fitD c a m.b passed then
    match putsD c a l with
    | none => (c, [])
    | some c' => ({ c' with commit := max c.commit (min m.c (a + l.length)) }, answerD c m true (a + l.length))
  else (c, answerD c m false (max c.commit (min (lastD c) (a - 1))))
def appendD (c : CoreD) (m : MsgD) : CoreD × List MsgD :=
  if c.base ≤ m.a then appendAt c m m.a m.entries false
  else if c.base - m.a < m.entries.length then appendAt c m c.base (m.entries.drop (c.base - m.a).toNat) true
  else (c, answerD c m true c.base)
def standsD (c : CoreD) (i : Int) (data : List UInt8) : CoreD := { c with l := c.l.drop (i - c.base).toNat, base := i, baseTerm := (atD c i).1, snap := data }
def takesD (c : CoreD) (m : MsgD) : CoreD × List MsgD :=
  if m.a ≤ c.commit then (c, answerD c m true c.commit)
  else ({ (if (atD c m.a).2 = true ∧ (atD c m.a).1 = m.b then standsD c m.a m.data else { c with l := [], base := m.a, baseTerm := m.b, snap := m.data }) with commit := m.a, tsnap := true }, answerD c m true m.a)
def followD (c : CoreD) (m : MsgD) : CoreD := { c with role := 0, leader := m.frm, patience := 0 }
def snapNo (m : MsgD) : Bool := m.kind == 5 && (!inD m.a 1 549755813888 || !inD m.b 1 m.term)
def heardD (c : CoreD) (m : MsgD) : CoreD × List MsgD :=
  if m.kind = 1 then askedD c m
  else if m.kind = 2 then votedD c m
  else if m.kind = 4 then appendedD c m
  else if m.term < c.term then (c, answerD c m false (lastD c))
  else if c.role = 2 ∨ snapNo m = true then (c, [])
  else if m.kind = 5 then takesD (followD c m) m
  else appendD (followD c m) m
def hearD (c : CoreD) (m : MsgD) : CoreD × List MsgD := if wrongD c m then (c, []) else heardD (stepD c m) m

/-! The other calls. -/
def askC (c : CoreD) (data : List UInt8) : CoreD := putD c { term := c.term, cmd := true, data := data }
def askD (c : CoreD) (data : List UInt8) : CoreD × Int × List MsgD × Int :=
  if c.role ≠ 2 then (c, 0, [], 24)
  else if 4096 ≤ c.l.length then (c, 0, [], 2)
  else (askC c data, lastD (askC c data), othersD (askC c data) (sendD (askC c data)), 0)
def compactD (c : CoreD) (i : Int) (data : List UInt8) : CoreD × Int := if i ≤ c.base ∨ c.commit < i then (c, 1) else (standsD c i data, 0)
def changesD (c : CoreD) : CoreD × Bool × Int × Bool := ({ c with hard := false, frm := 0, tsnap := false }, c.hard, (if 0 < c.frm then max c.frm (c.base + 1) else c.frm), c.tsnap)

theorem wrongHead_no {c : CoreD} {m : MsgD} (h : wrongHead c m = false) : (1 ≤ m.kind ∧ m.kind ≤ 5) ∧ m.«to» = c.id ∧ (1 ≤ m.frm ∧ m.frm ≤ c.conf.nodes) ∧ m.frm ≠ c.id ∧ (1 ≤ m.term ∧ m.term ≤ 1099511627776) ∧ (0 ≤ m.a ∧ m.a ≤ 1099511627776) ∧ (0 ≤ m.b ∧ m.b ≤ 1099511627776) ∧ (0 ≤ m.c ∧ m.c ≤ 1099511627776) ∧ m.entries.length ≤ 8 := by
  simp only [wrongHead, inD, Bool.or_eq_false_iff, Bool.not_eq_false', Bool.and_eq_true, decide_eq_true_eq, bne_eq_false_iff_eq, beq_eq_false_iff_ne, decide_eq_false_iff_not] at h
  obtain ⟨⟨⟨⟨⟨⟨⟨⟨h1, h2⟩, h3⟩, h4⟩, h5⟩, h6⟩, h7⟩, h8⟩, h9⟩ := h
  exact ⟨h1, h2, h3, h4, h5, h6, h7, h8, by omega⟩

end Go.Proofs.YtnjdepojmnniaaaGreatDoor

/- Place and Bytes of the laws; plain.List of bytes. -/
namespace Go.Proofs.YtnjdepojmnniaaaGreatDoor
open Go Go.RowKit

/-- Which place a number is. -/
def placeOf (v n : Int) : Int := if v.tmod n < 0 then v.tmod n + n else v.tmod n
theorem placeOf_bd (v n : Int) (h : 0 < n) : 0 ≤ placeOf v n ∧ placeOf v n < n := by
  have a1 : v.tmod n < n := Int.tmod_lt_of_pos v h
  have a2 := Int.lt_tmod_of_pos v h
  unfold placeOf
  split <;> omega

set_option maxHeartbeats 400000 in
theorem place_any (v n : Int) (w : World) (h0 : 0 < n) (h1 : n ≤ 1000000000) (_wv : (Lit.int .i64 v).wf = true) :
    Calls Tryz.prog 8 #[.int .i64 v, .int .i64 n] w fun e w' => e = .returned (.int .i64 (placeOf v n)) ∧ w' = w := by
  have hn : n ≠ 0 := by omega
  have a1 : v.tmod n < n := Int.tmod_lt_of_pos v h0
  have a2 : -n < v.tmod n := by have := Int.lt_tmod_of_pos v h0; omega
  by_cases hc : v.tmod n < 0
  · go_enter Tryz.func8, Tryz.ntmps8
    go_wp2
    go_ret
    exact ⟨by simp [placeOf, hc], rfl⟩
  · go_enter Tryz.func8, Tryz.ntmps8
    go_wp2
    go_ret
    have e : placeOf v n = v.tmod n := by rw [placeOf, if_neg (by omega)]
    exact ⟨by rw [e]; rfl, rfl⟩

theorem place_is (p v n : Int) (w : World) (h0 : 0 < n) (h1 : n ≤ 1000000000) (wv : (Lit.int .i64 v).wf = true) (hp : placeOf v n = p) :
    Calls Tryz.prog 8 #[.int .i64 v, .int .i64 n] w fun e w' => e = .returned (.int .i64 p) ∧ w' = w := by rw [← hp]; exact place_any v n w h0 h1 wv


/-- What a copy of bytes leaves. -/
def Copied (bs : List UInt8) (w : World) (e : Ending) (w' : World) : Prop := ∃ a c, e = .returned (.slice a bs.length c) ∧ w'.ownsRow w.heap.size 5 1 (.slice a bs.length c) bs.length (u8s bs) ∧ Keeps [] w w'
theorem Copied.bytes {bs : List UInt8} {w w' : World} {P : Nat → Prop} {a : Option Addr} {c : Nat} (h : w'.ownsRow w.heap.size 5 1 (.slice a bs.length c) bs.length (u8s bs)) (hP : ∀ b, w.heap.size ≤ b → b < w'.heap.size → P b) : BytesAt w' P (.slice a bs.length c) bs := BytesAt.ofOwn h rfl hP

set_option maxHeartbeats 400000 in
theorem lawBytes_any (v : Value) (bs : List UInt8) (w : World) (hr : Reads w 1 v bs.length (u8s bs)) (hb : bs.length ≤ 140737488355328) : Calls Tryz.prog 56 #[v] w (Copied bs w) := by
  obtain ⟨i0, hi, hz0, hz1, hz2⟩ := info_parts Tryz.infoU8
  go_enter Tryz.func56, Tryz.ntmps56
  go_wp2_with (at_builtin; refine wpList_append_copy _ rfl (.tmp 3) 36 rfl 5 i0 (.int .u8 0) 1 1 Tryz.underlying36 hi hz0 hz1 hz2 rfl (by decide) v bs.length (u8s bs) rfl hr (u8s_one bs) (by omega) (le_maxLen (by omega)) ?_)
  intro v' w' h1 h2
  obtain ⟨a, c, hv⟩ := len_form h1
  have H := hid hv
  clear hv
  go_wp2
  go_ret
  exact ⟨a, c, congrArg Ending.returned H.out, by rw [← H.out]; exact h1, Keeps.ofGrown h2 (fun _ h => by cases h)⟩

end Go.Proofs.YtnjdepojmnniaaaGreatDoor

/- Package core's, its reference's smallest functions; which configs may be. -/
namespace Go.Proofs.YtnjdepojmnniaaaGreatDoor
open Go Go.RowKit

/-- The cells of a config. -/
def confV (c : ConfD) : Value := .agg #[.int .i64 c.nodes, .int .i64 c.clients, .int .i64 c.heart, .int .i64 c.lo, .int .i64 c.range, .int .i64 c.sessions, .int .i64 c.snap, .int .i64 c.room, .int .i64 c.retry]

theorem ret_bool {a b : Bool} (h : a = b) : Ending.returned (.bool a) = .returned (.bool b) := by rw [h]
theorem ret_int {k : IntKind} {a b : Int} (h : a = b) : Ending.returned (.int k a) = .returned (.int k b) := by rw [h]

theorem ret_ib {k : IntKind} {a a' : Int} {b b' : Bool} (h : a = a') (g : b = b') : Ending.returned (.tuple #[.int k a, .bool b]) = .returned (.tuple #[.int k a', .bool b']) := by rw [h, g]

/-- An index that a fact tells. -/
theorem wpList_index {P : Program} {ops : Array Oper} {rest : List Oper} {o : Oper} {a : Act} {w : World} {Q : Exit → Act → World → Prop} (hgd : o.guard = none) (t : TypeId) (x i : Operand) (ho : o.op = .index t x i) (vx vi v : Value) (hx : a.eval x = vx) (hi : a.eval i = vi)
    (hrun : (Instr.index t vx vi).run P w = .ok v w) (h : wpList P ops Q rest (a.put o.dst v) w) : wpList P ops Q (o :: rest) a w := by
  refine wpList_plain hgd fun K hK => ?_
  unfold Oper.wp execOp
  simp only [ho, Sem.run_bind, Sem.run_pure, Result.andThen_ok, hx, hi, hrun]
  exact hK _ _ h

/-- The table's rows as the code makes them. -/
def ConfD.rowW (c : ConfD) : Nat → Int × Int × Int
  | 3 => (c.lo, wrap64 (c.heart + 1), 1000)
  | k => c.row k
theorem ConfD.rowW_eq (c : ConfD) (k : Nat) (h : c.mayTo k = true) : c.rowW k = c.row k := by
  unfold ConfD.rowW
  split
  · simp [ConfD.mayTo, ConfD.ok, ConfD.row, inD] at h
    rw [IntWalk.wrap64_in _ ⟨by omega, by omega⟩]
    rfl
  · rfl

end Go.Proofs.YtnjdepojmnniaaaGreatDoor

/- How entries, messages, a core lie in memory; the smallest methods. -/
namespace Go.Proofs.YtnjdepojmnniaaaGreatDoor
open Go Go.RowKit

def entV (e : Ent) (v : Value) : Value := .agg #[.int .i64 e.term, .bool e.cmd, v]
def entL : Lay Ent where
  size := 3
  pos := by decide
  at_ w P cs e := ∃ v, cs = [.int .i64 e.term, .bool e.cmd, v] ∧ BytesAt w P v e.data
  len := fun ⟨v, e, _⟩ => by rw [e]; rfl
  one := fun ⟨v, e, h⟩ u hu => by
    rw [e] at hu
    obtain ⟨a, c, rfl⟩ := h.form
    simp at hu
    rcases hu with rfl | rfl | rfl <;> rfl
  keep := fun ⟨v, e, h⟩ k hP => ⟨v, e, h.keep k hP⟩
  mono := fun ⟨v, e, h⟩ hP => ⟨v, e, h.mono hP⟩

def msgV (m : MsgD) (ev dv : Value) : Value := .agg #[.int .i64 m.kind, .int .i64 m.frm, .int .i64 m.«to», .int .i64 m.term, .int .i64 m.a, .int .i64 m.b, .int .i64 m.c, .bool m.ok, ev, dv]
def msgL : Lay MsgD where
  size := 10
  pos := by decide
  at_ w P cs m := ∃ ev dv, cs = [.int .i64 m.kind, .int .i64 m.frm, .int .i64 m.«to», .int .i64 m.term, .int .i64 m.a, .int .i64 m.b, .int .i64 m.c, .bool m.ok, ev, dv] ∧ ListAt entL w P ev m.entries ∧ BytesAt w P dv m.data
  len := fun ⟨ev, dv, e, _⟩ => by rw [e]; rfl
  one := fun ⟨ev, dv, e, h1, h2⟩ u hu => by
    rw [e] at hu
    obtain ⟨a, c, rfl⟩ := h1.form
    obtain ⟨a2, c2, rfl⟩ := h2.form
    simp at hu
    rcases hu with rfl | rfl | rfl | rfl | rfl | rfl | rfl | rfl | rfl | rfl <;> rfl
  keep := fun ⟨ev, dv, e, h1, h2⟩ k hP => ⟨ev, dv, e, h1.keep k hP, h2.keep k hP⟩
  mono := fun ⟨ev, dv, e, h1, h2⟩ hP => ⟨ev, dv, e, h1.mono hP, h2.mono hP⟩

theorem Tryz.infoEnt : (Tryz.prog.info? 109).map (fun i => (i.zero, i.size, i.bytes)) = some (some (.agg #[.int .i64 0, .bool false, .slice none 0 0]), 3, 40) := by kernel_rfl
theorem Tryz.infoMsg : (Tryz.prog.info? 38).map (fun i => (i.zero, i.size, i.bytes)) = some (some (.agg #[.int .i64 0, .int .i64 0, .int .i64 0, .int .i64 0, .int .i64 0, .int .i64 0, .int .i64 0, .bool false, .slice none 0 0, .slice none 0 0]), 10, 112) := by kernel_rfl

/-! A core. -/
def bools (l : List Bool) : List Value := l.map Value.bool
def ints (l : List Int) : List Value := l.map (Value.int .i64)
def confCells (c : ConfD) : List Value := [.int .i64 c.nodes, .int .i64 c.clients, .int .i64 c.heart, .int .i64 c.lo, .int .i64 c.range, .int .i64 c.sessions, .int .i64 c.snap, .int .i64 c.room, .int .i64 c.retry]
def tailCells (c : CoreD) : List Value := bools c.votes ++ (ints c.next ++ (ints c.matc ++ [.bool c.hard, .int .i64 c.frm, .bool c.tsnap]))
def coreCells (c : CoreD) (lv sv : Value) : List Value :=
  .int .i64 c.conf.nodes :: .int .i64 c.conf.clients :: .int .i64 c.conf.heart :: .int .i64 c.conf.lo :: .int .i64 c.conf.range :: .int .i64 c.conf.sessions :: .int .i64 c.conf.snap :: .int .i64 c.conf.room :: .int .i64 c.conf.retry ::
  .int .i64 c.id :: .int .i64 c.term :: .int .i64 c.vote :: .int .i64 c.role :: .int .i64 c.leader :: .int .i64 c.commit :: .int .i64 c.base :: .int .i64 c.baseTerm :: lv :: sv :: .int .i64 c.draw :: .int .i64 c.patience :: tailCells c

/-- What a core's blocks are not. -/
def Off (n : Nat) (lv : Value) (b : Nat) : Prop := b ≠ n ∧ b ∉ ownB lv

section
/-- An entry's cells. -/
theorem OwnAt.ent {w : World} {B : Nat} {P : Nat → Prop} {lv : Value} {l : List Ent} (h : OwnAt entL 109 w B P lv l) {j : Nat} {e : Ent} (he : l[j]? = some e) : ∃ g k v, lv = .slice (some ⟨g, 0, none⟩) l.length k ∧ l.length ≤ k ∧ k ≤ maxLen ∧ w.cell? ⟨g, j * 3, none⟩ = some (.int .i64 e.term) ∧ w.cell? ⟨g, j * 3 + 1, none⟩ = some (.bool e.cmd) ∧ w.cell? ⟨g, j * 3 + 2, none⟩ = some v ∧ BytesAt w P v e.data := by
  have hj : j < l.length := (List.getElem?_eq_some_iff.1 he).1
  obtain ⟨css, h1, h2⟩ := h
  rcases h2.2 with ⟨_, h0⟩ | ⟨g, k, cur, rfl, _, _, hk, hm, _⟩
  · omega
  · have hl : ListAt entL w (fun _ => True) (.slice (some ⟨g, 0, none⟩) l.length k) l := ⟨css, h1.mono (fun _ _ _ => trivial), Reads.ofOwn h2, fun _ _ _ => trivial⟩
    obtain ⟨cs, h3, h4⟩ := hl.get he
    have hc : css[j]? = some (css[j]'(by rw [h1.1]; exact hj)) := List.getElem?_eq_getElem _
    obtain ⟨v, e1, h5⟩ := h1.2 j _ _ hc he
    refine ⟨g, k, v, rfl, hk, hm, ?_, ?_, ?_, h5⟩
    all_goals
      rw [h2.cellAt _ (by show _ < _ * 3; omega)]
    · have := flatten_get (n := 3) h1.lens hc (j := 0) (by omega)
      rw [e1] at this
      simpa using this
    · have := flatten_get (n := 3) h1.lens hc (j := 1) (by omega)
      rw [e1] at this
      simpa using this
    · have := flatten_get (n := 3) h1.lens hc (j := 2) (by omega)
      rw [e1] at this
      simpa using this

end

end Go.Proofs.YtnjdepojmnniaaaGreatDoor

/- Entry, From, Snapshot; Draw; what a core says. -/
namespace Go.Proofs.YtnjdepojmnniaaaGreatDoor
open Go Go.RowKit



section
theorem entD_some {c : CoreD} {i : Int} {e : Ent} (h : entD c i = some e) : ∃ j : Nat, i = c.base + 1 + j ∧ c.l[j]? = some e ∧ i ≤ lastD c := by
  unfold entD at h
  split at h
  · cases h
  · refine ⟨(i - c.base - 1).toNat, by omega, h, by omega⟩

/-- What Entry, asked for an entry that is there, leaves. -/
def EntryYes (e : Ent) (w : World) (x : Ending) (w' : World) : Prop := ∃ a k, x = .returned (.tuple #[entV e (.slice a e.data.length k), .bool true]) ∧ BytesAt w' (fun b => w.heap.size ≤ b) (.slice a e.data.length k) e.data ∧ Keeps [] w w'

theorem EntryYes.mk {e : Ent} {w w' w1 : World} {x : Ending} {a : Option Addr} {k : Nat} (hx : x = .returned (.tuple #[entV e (.slice a e.data.length k), .bool true])) (hB : w.heap.size ≤ w1.heap.size) (ho : w'.ownsRow w1.heap.size 5 1 (.slice a e.data.length k) e.data.length (u8s e.data)) (hk : Keeps [] w w') : EntryYes e w x w' :=
  ⟨a, k, hx, BytesAt.ofOwn ho rfl (fun b h1 _ => Nat.le_trans hB h1), hk⟩

end

end Go.Proofs.YtnjdepojmnniaaaGreatDoor

/- From. -/
namespace Go.Proofs.YtnjdepojmnniaaaGreatDoor
open Go Go.RowKit

/-- Entries in new memory: the row is the call's own; so are the entries' bytes. -/
def FreshEnts (w w' : World) (v : Value) (l : List Ent) : Prop := OwnAt entL 109 w' w.heap.size (fun b => w.heap.size ≤ b ∧ b ∉ ownB v) v l
def FromPost (l : List Ent) (w : World) (e : Ending) (w' : World) : Prop := ∃ a k, e = .returned (.slice a l.length k) ∧ FreshEnts w w' (.slice a l.length k) l ∧ Keeps [] w w'

theorem own_cap {w : World} {base e size n c : Nat} {a : Option Addr} {xs : List Value} (h : w.ownsRow base e size (.slice a n c) n xs) (hn : 0 < n) : n ≤ c ∧ c ≤ maxLen := by
  rcases h.2 with ⟨h0, _⟩ | ⟨g, cap, cur, hv, _, _, h1, h2, _⟩
  · simp at h0; omega
  · simp at hv
    obtain ⟨_, rfl⟩ := hv
    exact ⟨h1, h2⟩

theorem fromD_at {c : CoreD} {i : Int} {s : Nat} (h : max i (c.base + 1) = c.base + 1 + s) : fromD c i = c.l.drop s := by
  unfold fromD
  rw [h, show (c.base + 1 + (s : Int) - c.base - 1).toNat = s by omega]

theorem FromPost.nil {l : List Ent} {w w' : World} (hl : l = []) (k : Keeps [] w w') : FromPost l w (.returned (.slice none 0 0)) w' := by
  subst hl
  exact ⟨none, 0, rfl, OwnAt.nil _ _ _ _, k⟩

section
end

end Go.Proofs.YtnjdepojmnniaaaGreatDoor

/- What becomes of a core's memory where a field is written, where an entry comes behind its log. -/
namespace Go.Proofs.YtnjdepojmnniaaaGreatDoor
open Go Go.RowKit

/-- An entry in new memory, as 'own' leaves it, as one element of a list. -/
theorem ent_elem {w w1 : World} {e : Ent} {a : Option Addr} {q : Nat} {P : Nat → Prop} (ho : w1.ownsRow w.heap.size 5 1 (.slice a e.data.length q) e.data.length (u8s e.data)) (hP : ∀ b, w.heap.size ≤ b → P b) : ∀ wx, Keeps [] w1 wx → entL.at_ wx P [.int .i64 e.term, .bool e.cmd, .slice a e.data.length q] e :=
  fun _ kx => ⟨_, rfl, BytesAt.k (BytesAt.ofOwn ho rfl (fun b hb _ => hP b hb)) kx⟩

theorem blk9 {w : World} {b : Nat} {x0 x1 x2 x3 x4 x5 x6 x7 x8 : Value} {t : TypeId} (h : w.heap[b]? = some (.cells #[x0, x1, x2, x3, x4, x5, x6, x7, x8] t (0, 0))) :
    (w.cell? ⟨b, 0, none⟩ = some x0 ∧ w.cell? ⟨b, 1, none⟩ = some x1 ∧ w.cell? ⟨b, 2, none⟩ = some x2 ∧ w.cell? ⟨b, 3, none⟩ = some x3 ∧ w.cell? ⟨b, 4, none⟩ = some x4 ∧ w.cell? ⟨b, 5, none⟩ = some x5 ∧ w.cell? ⟨b, 6, none⟩ = some x6 ∧ w.cell? ⟨b, 7, none⟩ = some x7 ∧ w.cell? ⟨b, 8, none⟩ = some x8) ∧ ∀ i, w.frozen? ⟨b, i, none⟩ = false :=
  ⟨⟨cell_of_block h 0, cell_of_block h 1, cell_of_block h 2, cell_of_block h 3, cell_of_block h 4, cell_of_block h 5, cell_of_block h 6, cell_of_block h 7, cell_of_block h 8⟩, fun i => frozen_of_row w b i _ _ h⟩

/-- The first conditions of New. -/
def headD (cf : ConfD) (id term vote base baseTerm : Int) (n : Nat) : Bool :=
  cf.may && inD id 1 cf.nodes && inD term 0 1099511627776 && inD vote 0 cf.nodes && inD base 0 1099511622680 && inD baseTerm 0 1099511627776 && decide (n ≤ 5096)
theorem mayNew_head (cf : ConfD) (id term vote base baseTerm : Int) (l : List Ent) : mayNewD cf id term vote base baseTerm l = (headD cf id term vote base baseTerm l.length && l.all fun e => inD e.term 1 1099511627776) := rfl

end Go.Proofs.YtnjdepojmnniaaaGreatDoor

/- What a core says; Draw; rises. -/
namespace Go.Proofs.YtnjdepojmnniaaaGreatDoor
open Go Go.RowKit

/-- A block's cells are no other block's. -/
theorem cDraw_bd (c : CoreD) (v : Int) (h : CoreOk c) : CoreOk (drawD c v) := by
  have hm := (ConfD.may_iff c.conf).1 h.may
  exact { may := h.may, id := h.id, term := h.term, base := h.base, baseTerm := h.baseTerm, len := h.len, last := h.last, commit := h.commit, draw := ⟨by show 0 ≤ max _ _; omega, by show max _ _ ≤ _; omega⟩, votes := h.votes, next := h.next, matc := h.matc, nexts := h.nexts, matcs := h.matcs, ents := h.ents, frm := h.frm, data := h.data, snap := h.snap }

theorem bools_set (l : List Bool) (i : Nat) (b : Bool) : (bools l).set i (.bool b) = bools (l.set i b) := by simp [bools, List.map_set]
theorem ints_set (l : List Int) (i : Nat) (b : Int) : (ints l).set i (.int .i64 b) = ints (l.set i b) := by simp [ints, List.map_set]
/-- The last cells of a core. -/
theorem tail_get (c : CoreD) (hv : c.votes.length = 8) (hn : c.next.length = 8) (hm : c.matc.length = 8) : (tailCells c)[24]? = some (.bool c.hard) ∧ (tailCells c)[25]? = some (.int .i64 c.frm) ∧ (tailCells c)[26]? = some (.bool c.tsnap) := by
  unfold tailCells bools ints
  refine ⟨?_, ?_, ?_⟩ <;>
  · rw [List.getElem?_append_right (by simp; omega), List.getElem?_append_right (by simp; omega), List.getElem?_append_right (by simp; omega)]
    simp [hv, hn, hm]
theorem tail_hard (c : CoreD) (hv : c.votes.length = 8) (hn : c.next.length = 8) (hm : c.matc.length = 8) (b : Bool) : (tailCells c).set 24 (.bool b) = tailCells { c with hard := b } := by
  unfold tailCells bools ints
  rw [List.set_append_right _ _ (by simp; omega), List.set_append_right _ _ (by simp; omega), List.set_append_right _ _ (by simp; omega)]
  simp [hv, hn, hm]
theorem tail_frm (c : CoreD) (hv : c.votes.length = 8) (hn : c.next.length = 8) (hm : c.matc.length = 8) (b : Int) : (tailCells c).set 25 (.int .i64 b) = tailCells { c with frm := b } := by
  unfold tailCells bools ints
  rw [List.set_append_right _ _ (by simp; omega), List.set_append_right _ _ (by simp; omega), List.set_append_right _ _ (by simp; omega)]
  simp [hv, hn, hm]
theorem tail_tsnap (c : CoreD) (hv : c.votes.length = 8) (hn : c.next.length = 8) (hm : c.matc.length = 8) (b : Bool) : (tailCells c).set 26 (.bool b) = tailCells { c with tsnap := b } := by
  unfold tailCells bools ints
  rw [List.set_append_right _ _ (by simp; omega), List.set_append_right _ _ (by simp; omega), List.set_append_right _ _ (by simp; omega)]
  simp [hv, hn, hm]
theorem tail_votes (c : CoreD) (hv : c.votes.length = 8) (i : Nat) (hi : i < 8) (b : Bool) : (tailCells c).set i (.bool b) = tailCells { c with votes := c.votes.set i b } := by
  unfold tailCells
  rw [List.set_append_left _ _ (by simp [bools]; omega), bools_set]
theorem tail_next (c : CoreD) (hv : c.votes.length = 8) (hn : c.next.length = 8) (i : Nat) (hi : i < 8) (b : Int) : (tailCells c).set (8 + i) (.int .i64 b) = tailCells { c with next := c.next.set i b } := by
  unfold tailCells
  rw [List.set_append_right _ _ (by simp [bools]; omega), List.set_append_left _ _ (by simp [bools, ints]; omega), show 8 + i - (bools c.votes).length = i by simp [bools]; omega, ints_set]
theorem tail_matc (c : CoreD) (hv : c.votes.length = 8) (hn : c.next.length = 8) (hm : c.matc.length = 8) (i : Nat) (hi : i < 8) (b : Int) : (tailCells c).set (16 + i) (.int .i64 b) = tailCells { c with matc := c.matc.set i b } := by
  unfold tailCells
  rw [List.set_append_right _ _ (by simp [bools]; omega), List.set_append_right _ _ (by simp [bools, ints]; omega), List.set_append_left _ _ (by simp [bools, ints]; omega), show 16 + i - (bools c.votes).length - (ints c.next).length = i by simp [bools, ints]; omega, ints_set]
theorem set21 (c : CoreD) (lv sv v : Value) (i : Nat) : (coreCells c lv sv).set (21 + i) v =
  .int .i64 c.conf.nodes :: .int .i64 c.conf.clients :: .int .i64 c.conf.heart :: .int .i64 c.conf.lo :: .int .i64 c.conf.range :: .int .i64 c.conf.sessions :: .int .i64 c.conf.snap :: .int .i64 c.conf.room :: .int .i64 c.conf.retry ::
  .int .i64 c.id :: .int .i64 c.term :: .int .i64 c.vote :: .int .i64 c.role :: .int .i64 c.leader :: .int .i64 c.commit :: .int .i64 c.base :: .int .i64 c.baseTerm :: lv :: sv :: .int .i64 c.draw :: .int .i64 c.patience :: (tailCells c).set i v := by
  unfold coreCells
  rw [show 21 + i = i + 21 by omega]
  rfl
theorem get21 (c : CoreD) (lv sv : Value) (i : Nat) : (coreCells c lv sv)[21 + i]? = (tailCells c)[i]? := by
  unfold coreCells
  rw [show 21 + i = i + 21 by omega]
  rfl

theorem risesD_ok {c : CoreD} {t v : Int} (h : CoreOk c) (ht : 0 ≤ t ∧ t ≤ 1099511627776) : CoreOk (risesD c t v) :=
  { may := h.may, id := h.id, term := ht, base := h.base, baseTerm := h.baseTerm, len := h.len, last := h.last, commit := h.commit, draw := h.draw, votes := h.votes, next := h.next, matc := h.matc, nexts := h.nexts, matcs := h.matcs, ents := h.ents, frm := h.frm, data := h.data, snap := h.snap }

end Go.Proofs.YtnjdepojmnniaaaGreatDoor

/- wrong: is it no message? (Printed by gen_wrong.py.) -/
namespace Go.Proofs.YtnjdepojmnniaaaGreatDoor
open Go Go.RowKit

end Go.Proofs.YtnjdepojmnniaaaGreatDoor

/- wrong, the entries. (Printed by gen_wrong.py.) -/
namespace Go.Proofs.YtnjdepojmnniaaaGreatDoor
open Go Go.RowKit

end Go.Proofs.YtnjdepojmnniaaaGreatDoor

/- The votes that are asked for: the closure of Tick, others with it. -/
namespace Go.Proofs.YtnjdepojmnniaaaGreatDoor
open Go Go.RowKit

/-- Messages in new memory. -/
def FreshMsgs (w w' : World) (v : Value) (l : List MsgD) : Prop := OwnAt msgL 38 w' w.heap.size (fun b => w.heap.size ≤ b ∧ b ∉ ownB v) v l
def MsgsPost (l : List MsgD) (w : World) (e : Ending) (w' : World) : Prop := ∃ a q, e = .returned (.slice a l.length q) ∧ FreshMsgs w w' (.slice a l.length q) l ∧ Keeps [] w w'

theorem othersTo_skip {id : Int} {k : Nat} (h : ((k : Nat) : Int) + 1 = id) : othersTo id (k + 1) = othersTo id k := by
  rw [othersTo, if_pos (by omega)]
theorem othersTo_take {id : Int} {k : Nat} (h : ¬ ((k : Nat) : Int) + 1 = id) : othersTo id (k + 1) = othersTo id k ++ [(k : Int) + 1] := by
  rw [othersTo, if_neg (by omega)]
  simp
theorem othersTo_len (id : Int) : ∀ k, (othersTo id k).length ≤ k
  | 0 => Nat.le_refl _
  | k + 1 => by
    have := othersTo_len id k
    unfold othersTo
    split
    · omega
    · simp; omega

def votMsg (c : CoreD) (tm «to» : Int) : MsgD := { kind := 1, frm := c.id, «to» := «to», term := c.term, a := lastD c, b := tm, c := 0, ok := false, entries := [], data := [] }

end Go.Proofs.YtnjdepojmnniaaaGreatDoor

/- What a core's calls give: messages in new memory; answer; asked. -/
namespace Go.Proofs.YtnjdepojmnniaaaGreatDoor
open Go Go.RowKit

/-- Messages in new memory, off the core. -/
def MsgsAt (w w' : World) (n : Nat) (lv v : Value) (l : List MsgD) : Prop :=
  OwnAt msgL 38 w' w.heap.size (fun b => (w.heap.size ≤ b ∧ Off n lv b) ∧ b ∉ ownB v) v l ∧ ∀ b ∈ ownB v, Off n lv b
theorem MsgsAt.nil (w w' : World) (n : Nat) (lv : Value) : MsgsAt w w' n lv (.slice none 0 0) [] := ⟨OwnAt.nil _ _ _ _, fun b hb => by simp [mem_ownB, Value.ownBlock] at hb⟩
theorem MsgsAt.list {w w' : World} {n : Nat} {lv v : Value} {l : List MsgD} (h : MsgsAt w w' n lv v l) : ListAt msgL w' (fun b => w.heap.size ≤ b ∧ Off n lv b) v l :=
  OwnAt.list h.1 (fun _ _ hb => hb.1) (fun b hb => ⟨(OwnAt.ge h.1 b hb).1, h.2 b hb⟩)

theorem ListAt.nilOf {α : Type} {L : Lay α} {w : World} {P : Nat → Prop} {a : Option Addr} {n c : Nat} {l : List α} (h : ListAt L w P (.slice a n c) l) : n = l.length := by
  obtain ⟨x, y, e⟩ := h.form
  simp at e
  exact e.2.1
/-- One message, in a row of its own. -/
theorem msgs_one {w w1 : World} {m : MsgD} {ev dv : Value} (k : Keeps [] w w1) (he : ListAt entL w1 (fun b => w.heap.size ≤ b) ev m.entries) (hd : BytesAt w1 (fun b => w.heap.size ≤ b) dv m.data) :
    MsgsPost [m] w (.returned (.slice (some ⟨w1.heap.size, 0, none⟩) 1 1)) (w1.alloc (.cells #[.int .i64 m.kind, .int .i64 m.frm, .int .i64 m.«to», .int .i64 m.term, .int .i64 m.a, .int .i64 m.b, .int .i64 m.c, .bool m.ok, ev, dv] 38)) := by
  have k1 : Keeps [] w1 (w1.alloc (.cells #[.int .i64 m.kind, .int .i64 m.frm, .int .i64 m.«to», .int .i64 m.term, .int .i64 m.a, .int .i64 m.b, .int .i64 m.c, .bool m.ok, ev, dv] 38)) := (Keeps.refl _ _).alloc _
  have e1 := (he.mono (P' := fun b => w.heap.size ≤ b ∧ b < w1.heap.size) (fun b h1 h2 => ⟨h2, h1⟩)).k k1
  have d1 := (hd.mono (P' := fun b => w.heap.size ≤ b ∧ b < w1.heap.size) (fun b h1 h2 => ⟨h2, h1⟩)).k k1
  have hb : ∀ b, b ∈ ownB (.slice (some ⟨w1.heap.size, 0, none⟩) 1 1) → b = w1.heap.size := fun b hb => by simpa [mem_ownB, Value.ownBlock, eq_comm] using hb
  have hP : ∀ b, w.heap.size ≤ b ∧ b < w1.heap.size → w.heap.size ≤ b ∧ b ∉ ownB (.slice (some ⟨w1.heap.size, 0, none⟩) 1 1) := fun b h => ⟨h.1, fun h2 => by have := hb b h2; omega⟩
  refine ⟨_, _, rfl, ⟨[[.int .i64 m.kind, .int .i64 m.frm, .int .i64 m.«to», .int .i64 m.term, .int .i64 m.a, .int .i64 m.b, .int .i64 m.c, .bool m.ok, ev, dv]], ElemsAt.one1 ⟨ev, dv, rfl, e1.mono (fun b _ h => hP b h), d1.mono (fun b _ h => hP b h)⟩, ?_⟩, k.trans k1 (fun _ _ h => h)⟩
  exact World.ownsRow_lit (size := 10) w1 _ 1 k.size (le_maxLen (by omega)) rfl

end Go.Proofs.YtnjdepojmnniaaaGreatDoor
