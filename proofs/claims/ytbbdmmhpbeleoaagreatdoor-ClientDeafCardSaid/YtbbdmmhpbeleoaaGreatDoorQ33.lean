/- Joined of CoreD, CoreI, CoreA, CoreB, CoreC, CoreE, CoreF, CoreX, CoreJ, CoreK, CoreY. -/
import Derived.WalkKit
import Derived.Test.YtbbdmmhpbeleoaaGreatDoorQ32
import Derived.Test.YtbbdmmhpbeleoaaGreatDoorQ02
import Derived.Outline
import Derived.Test.YtbbdmmhpbeleoaaGreatDoorQ04

set_option linter.unusedSimpArgs false
set_option linter.unusedVariables false

/- WHAT A CORE IS AND DOES, in plain words: no memory, no program. -/
namespace Go.Proofs.YtbbdmmhpbeleoaaGreatDoor
open Go Go.RowKit

structure Ent where
  term : Int
  cmd : Bool
  data : List UInt8

structure MsgD where
  kind : Int
  frm : Int
  «to» : Int
  term : Int
  a : Int
  b : Int
  c : Int
  ok : Bool
  entries : List Ent
  data : List UInt8

structure ConfD where
  nodes : Int
  clients : Int
  heart : Int
  lo : Int
  range : Int
  sessions : Int
  snap : Int
  room : Int
  retry : Int

structure CoreD where
  conf : ConfD
  id : Int
  term : Int
  vote : Int
  role : Int
  leader : Int
  commit : Int
  base : Int
  baseTerm : Int
  l : List Ent
  snap : List UInt8
  draw : Int
  patience : Int
  votes : List Bool
  next : List Int
  matc : List Int
  hard : Bool
  frm : Int
  tsnap : Bool
  /-- Blocks that it never reads nor writes: others write there. (No part of the core: a word of the proofs.) -/
  ban : Nat → Prop := fun _ => False

def inD (v a b : Int) : Bool := decide (a ≤ v) && decide (v ≤ b)
def ConfD.row (c : ConfD) : Nat → Int × Int × Int
  | 0 => (c.nodes, 3, 7)
  | 1 => (c.clients, 0, 8)
  | 2 => (c.heart, 1, 100)
  | 3 => (c.lo, c.heart + 1, 1000)
  | 4 => (c.range, 0, 1000)
  | 5 => (c.sessions, 1, 16)
  | 6 => (c.snap, 1, 1000)
  | 7 => (c.room, 0, 512)
  | _ => (c.retry, 1, 1000)
def ConfD.ok (c : ConfD) (k : Nat) : Bool := inD (c.row k).1 (c.row k).2.1 (c.row k).2.2
def ConfD.mayTo (c : ConfD) : Nat → Bool
  | 0 => true
  | k + 1 => c.mayTo k && c.ok k
def ConfD.may (c : ConfD) : Bool := c.mayTo 9

theorem ConfD.may_iff (c : ConfD) : c.may = true ↔ (3 ≤ c.nodes ∧ c.nodes ≤ 7) ∧ (0 ≤ c.clients ∧ c.clients ≤ 8) ∧ (1 ≤ c.heart ∧ c.heart ≤ 100) ∧ (c.heart + 1 ≤ c.lo ∧ c.lo ≤ 1000) ∧ (0 ≤ c.range ∧ c.range ≤ 1000) ∧ (1 ≤ c.sessions ∧ c.sessions ≤ 16) ∧ (1 ≤ c.snap ∧ c.snap ≤ 1000) ∧ (0 ≤ c.room ∧ c.room ≤ 512) ∧ (1 ≤ c.retry ∧ c.retry ≤ 1000) := by
  simp [ConfD.may, ConfD.mayTo, ConfD.ok, ConfD.row, inD, and_assoc]
theorem ConfD.mayTo_mono (c : ConfD) (k : Nat) : ∀ j, c.mayTo (k + j) = true → c.mayTo k = true
  | 0, h => h
  | j + 1, h => by
    simp only [ConfD.mayTo, Bool.and_eq_true] at h
    exact c.mayTo_mono k j h.1
theorem ConfD.not_may {c : ConfD} {k : Nat} (hk : k < 9) (h : c.ok k = false) : c.may = false := by
  cases hm : c.may with
  | false => rfl
  | true =>
    have := c.mayTo_mono (k + 1) (9 - (k + 1)) (by rw [show k + 1 + (9 - (k + 1)) = 9 by omega]; exact hm)
    simp [ConfD.mayTo, h] at this

/-! The log. -/
def lastD (c : CoreD) : Int := c.base + c.l.length
def atD (c : CoreD) (i : Int) : Int × Bool :=
  if i = c.base then (c.baseTerm, true) else if i < c.base ∨ lastD c < i then (0, false) else (((c.l[(i - c.base - 1).toNat]?).map (·.term)).getD 0, true)
def entD (c : CoreD) (i : Int) : Option Ent := if i ≤ c.base ∨ lastD c < i then none else c.l[(i - c.base - 1).toNat]?
def fromD (c : CoreD) (i : Int) : List Ent := c.l.drop (max i (c.base + 1) - c.base - 1).toNat

def newD (cf : ConfD) (id term vote base baseTerm : Int) (l : List Ent) : CoreD :=
  { conf := cf, id := id, term := term, vote := vote, role := 0, leader := 0, commit := base, base := base, baseTerm := baseTerm, l := l, snap := [], draw := min ((id - 1) * (cf.heart + 6)) cf.range, patience := 0,
    votes := List.replicate 8 false, next := List.replicate 8 0, matc := List.replicate 8 0, hard := false, frm := 0, tsnap := false }
def mayNewD (cf : ConfD) (id term vote base baseTerm : Int) (l : List Ent) : Bool :=
  cf.may && inD id 1 cf.nodes && inD term 0 1099511627776 && inD vote 0 cf.nodes && inD base 0 1099511622680 && inD baseTerm 0 1099511627776 && decide (l.length ≤ 5096) && l.all fun e => inD e.term 1 1099511627776

def drawD (c : CoreD) (v : Int) : CoreD := { c with draw := max 0 (min v c.conf.range) }
def risesD (c : CoreD) (term vote : Int) : CoreD := { c with hard := c.hard || term != c.term || vote != c.vote, term := term, vote := vote }
def turnD (c : CoreD) (i : Int) : CoreD := { c with frm := if c.frm = 0 ∨ i < c.frm then i else c.frm }
def putD (c : CoreD) (e : Ent) : CoreD := turnD { c with l := c.l ++ [e] } (lastD c + 1)
def saysD (c : CoreD) (m : MsgD) («to» : Int) : MsgD := { m with frm := c.id, «to» := «to», term := c.term }
def msg0 : MsgD := { kind := 0, frm := 0, «to» := 0, term := 0, a := 0, b := 0, c := 0, ok := false, entries := [], data := [] }
def sendD (c : CoreD) («to» : Int) : MsgD :=
  let next := c.next.getD «to».toNat 0
  if next ≤ c.base then saysD c { msg0 with kind := 5, a := c.base, b := c.baseTerm, data := c.snap } «to»
  else saysD c { msg0 with kind := 3, a := next - 1, b := (atD c (next - 1)).1, c := c.commit, entries := (fromD c next).take 8 } «to»
/-- The other nodes' numbers. -/
def othersTo (id : Int) : Nat → List Int
  | 0 => []
  | k + 1 => if ((k + 1 : Nat) : Int) = id then othersTo id k else othersTo id k ++ [((k + 1 : Nat) : Int)]
def othersD (c : CoreD) (f : Int → MsgD) : List MsgD := (othersTo c.id c.conf.nodes.toNat).map f
def voteMsg (c : CoreD) («to» : Int) : MsgD := saysD c { msg0 with kind := 1, a := lastD c, b := (atD c (lastD c)).1 } «to»
def runD (c : CoreD) : CoreD := { risesD c (c.term + 1) c.id with role := 1, leader := 0, patience := 0, votes := (List.replicate 8 false).set c.id.toNat true }
def tickD (c0 : CoreD) : CoreD × List MsgD :=
  let c := { c0 with patience := c0.patience + 1 }
  if c.role = 2 then
    if c.patience < c.conf.heart then (c, [])
    else
      let c := { c with patience := 0 }
      (c, othersD c (sendD c))
  else if c.patience < c.conf.lo + c.draw ∨ 1099511627776 ≤ c.term then (c, [])
  else (runD c, othersD (runD c) (voteMsg (runD c)))

/-- What holds of every core: no number is too great. -/
structure CoreOk (c : CoreD) : Prop where
  may : c.conf.may = true
  id : 1 ≤ c.id ∧ c.id ≤ c.conf.nodes
  term : 0 ≤ c.term ∧ c.term ≤ 1099511627776
  base : 0 ≤ c.base ∧ c.base ≤ c.commit
  baseTerm : 0 ≤ c.baseTerm ∧ c.baseTerm ≤ 1099511627776
  len : c.l.length ≤ 5096
  last : c.base + c.l.length ≤ 2199023255552
  commit : c.commit ≤ c.base + c.l.length
  draw : 0 ≤ c.draw ∧ c.draw ≤ 1000
  votes : c.votes.length = 8
  next : c.next.length = 8
  matc : c.matc.length = 8
  nexts : ∀ x ∈ c.next, 0 ≤ x ∧ x ≤ 2199023255553
  matcs : ∀ x ∈ c.matc, 0 ≤ x ∧ x ≤ 2199023255552
  ents : ∀ e ∈ c.l, 0 ≤ e.term ∧ e.term ≤ 1099511627776
  frm : 0 ≤ c.frm ∧ c.frm ≤ 2199023255553
  data : ∀ e ∈ c.l, e.data.length ≤ 1000000
  snap : c.snap.length ≤ 1000000

theorem newD_ok {cf : ConfD} {id term vote base baseTerm : Int} {l : List Ent} (h : mayNewD cf id term vote base baseTerm l = true) (hd : ∀ e ∈ l, e.data.length ≤ 1000000) : CoreOk (newD cf id term vote base baseTerm l) := by
  simp only [mayNewD, inD, Bool.and_eq_true, decide_eq_true_eq, List.all_eq_true] at h
  obtain ⟨⟨⟨⟨⟨⟨⟨h1, h2⟩, h3⟩, h4⟩, h5⟩, h6⟩, h7⟩, h8⟩ := h
  have hm := (ConfD.may_iff cf).1 h1
  have h9 : 0 ≤ (id - 1) * (cf.heart + 6) := Int.mul_nonneg (by omega) (by omega)
  exact { may := h1, id := h2, term := h3, base := ⟨h5.1, Int.le_refl _⟩, baseTerm := h6, len := h7, last := by show base + (l.length : Int) ≤ _; omega, commit := by show base ≤ base + _; omega,
          draw := ⟨by show 0 ≤ min _ _; omega, by show min _ _ ≤ _; omega⟩, votes := rfl, next := rfl, matc := rfl, nexts := by simp [newD], matcs := by simp [newD], ents := fun e he => by have := h8 e he; omega, frm := by simp [newD], data := hd, snap := by simp [newD] }

end Go.Proofs.YtbbdmmhpbeleoaaGreatDoor

/- WHAT A CORE DOES WITH A MESSAGE, with a command, with a snapshot, in plain words: no memory, no program. -/
namespace Go.Proofs.YtbbdmmhpbeleoaaGreatDoor
open Go Go.RowKit

/-! Messages. -/
def wrongHead (c : CoreD) (m : MsgD) : Bool :=
  !inD m.kind 1 5 || m.«to» != c.id || !inD m.frm 1 c.conf.nodes || m.frm == c.id || !inD m.term 1 1099511627776 || !inD m.a 0 1099511627776 || !inD m.b 0 1099511627776 || !inD m.c 0 1099511627776 || decide (8 < m.entries.length)
def wrongD (c : CoreD) (m : MsgD) : Bool := wrongHead c m || m.entries.any fun e => !inD e.term 1 m.term
def answerD (c : CoreD) (m : MsgD) (ok : Bool) (a : Int) : List MsgD := [saysD c { msg0 with kind := 4, ok := ok, a := a } m.frm]
def stepD (c : CoreD) (m : MsgD) : CoreD := if c.term < m.term then { risesD c m.term 0 with role := 0, leader := 0 } else c
def lastTerm (c : CoreD) : Int := (atD c (lastD c)).1
def askedOk (c : CoreD) (m : MsgD) : Bool :=
  m.term == c.term && (c.vote == 0 || c.vote == m.frm) && c.role == 0 && (decide (lastTerm c < m.b) || m.b == lastTerm c && decide (lastD c ≤ m.a))
def askedC (c : CoreD) (m : MsgD) : CoreD := if askedOk c m then { risesD c c.term m.frm with patience := 0 } else c
def askedD (c : CoreD) (m : MsgD) : CoreD × List MsgD := (askedC c m, [saysD (askedC c m) { msg0 with kind := 2, ok := askedOk c m } m.frm])
def lead0 (c : CoreD) : CoreD := { c with role := 2, leader := c.id, patience := 0, matc := List.replicate 8 0, next := List.replicate 8 (lastD c + 1) }
def leadD (c : CoreD) : CoreD := if c.l.length < 5096 then putD (lead0 c) { term := c.term, cmd := false, data := [] } else lead0 c
def votedC (c : CoreD) (m : MsgD) : CoreD := { c with votes := c.votes.set m.frm.toNat true }
def votedD (c : CoreD) (m : MsgD) : CoreD × List MsgD :=
  if m.term ≠ c.term ∨ c.role ≠ 1 ∨ m.ok = false then (c, [])
  else if ((votedC c m).votes.count true : Int) ≤ c.conf.nodes / 2 then (votedC c m, [])
  else (leadD (votedC c m), othersD (leadD (votedC c m)) (sendD (leadD (votedC c m))))
/-- How many have an index (but itself): the nodes up «to» k. -/
def haveD (c : CoreD) (i : Int) : Nat → Int
  | 0 => 1
  | k + 1 => haveD c i k + (if ((k + 1 : Nat) : Int) ≠ c.id ∧ i ≤ c.matc.getD (k + 1) 0 then 1 else 0)
def agreesTo (c : CoreD) : Nat → Int
  | 0 => c.commit
  | k + 1 => if (atD c (c.commit + (k + 1 : Nat))).1 = c.term ∧ c.conf.nodes / 2 < haveD c (c.commit + (k + 1 : Nat)) c.conf.nodes.toNat then c.commit + (k + 1 : Nat) else agreesTo c k
def agreesD (c : CoreD) : CoreD := { c with commit := agreesTo c (lastD c - c.commit).toNat }
def appNo (c : CoreD) (m : MsgD) : CoreD :=
  { c with next := c.next.set m.frm.toNat (max (c.matc.getD m.frm.toNat 0 + 1) (if m.a < c.next.getD m.frm.toNat 0 - 1 - 1 then m.a + 1 else c.next.getD m.frm.toNat 0 - 1)) }
def appYes0 (c : CoreD) (m : MsgD) : CoreD := { c with matc := c.matc.set m.frm.toNat (max (c.matc.getD m.frm.toNat 0) m.a) }
def appYes (c : CoreD) (m : MsgD) : CoreD := { appYes0 c m with next := c.next.set m.frm.toNat (max (c.next.getD m.frm.toNat 0) ((appYes0 c m).matc.getD m.frm.toNat 0 + 1)) }
def appendedD (c : CoreD) (m : MsgD) : CoreD × List MsgD :=
  if m.term ≠ c.term ∨ c.role ≠ 2 ∨ (m.ok = true ∧ lastD c < m.a) then (c, [])
  else if m.ok = false then (appNo c m, [sendD (appNo c m) m.frm])
  else (agreesD (appYes c m), [])
/-- Entries behind an index: from the first on that is another one, they take the place of what stands there; none: they may not. -/
def putsD (c : CoreD) (a : Int) : List Ent → Option CoreD
  | [] => some c
  | e :: r =>
    if (atD c (a + 1)).2 = true ∧ (atD c (a + 1)).1 = e.term then putsD c (a + 1) r
    else if a + 1 ≤ c.commit ∨ 5096 < a - c.base + (r.length + 1) then none
    else some ((e :: r).foldl putD { c with l := c.l.take (a - c.base).toNat })
def fitD (c : CoreD) (a b : Int) (passed : Bool) : Bool := (atD c a).2 && (passed || (atD c a).1 == b)
def appendAt (c : CoreD) (m : MsgD) (a : Int) (l : List Ent) (passed : Bool) : CoreD × List MsgD :=
  if fitD c a m.b passed then
    match putsD c a l with
    | none => (c, [])
    | some c' => ({ c' with commit := max c.commit (min m.c (a + l.length)) }, answerD c m true (a + l.length))
  else (c, answerD c m false (max c.commit (min (lastD c) (a - 1))))
def appendD (c : CoreD) (m : MsgD) : CoreD × List MsgD :=
  if c.base ≤ m.a then appendAt c m m.a m.entries false
  else if c.base - m.a < m.entries.length then appendAt c m c.base (m.entries.drop (c.base - m.a).toNat) true
  else (c, answerD c m true c.base)
def standsD (c : CoreD) (i : Int) (data : List UInt8) : CoreD := { c with l := c.l.drop (i - c.base).toNat, base := i, baseTerm := (atD c i).1, snap := data }
def takesD (c : CoreD) (m : MsgD) : CoreD × List MsgD :=
  if m.a ≤ c.commit then (c, answerD c m true c.commit)
  else ({ (if (atD c m.a).2 = true ∧ (atD c m.a).1 = m.b then standsD c m.a m.data else { c with l := [], base := m.a, baseTerm := m.b, snap := m.data }) with commit := m.a, tsnap := true }, answerD c m true m.a)
def followD (c : CoreD) (m : MsgD) : CoreD := { c with role := 0, leader := m.frm, patience := 0 }
def snapNo (m : MsgD) : Bool := m.kind == 5 && (!inD m.a 1 549755813888 || !inD m.b 1 m.term)
def heardD (c : CoreD) (m : MsgD) : CoreD × List MsgD :=
  if m.kind = 1 then askedD c m
  else if m.kind = 2 then votedD c m
  else if m.kind = 4 then appendedD c m
  else if m.term < c.term then (c, answerD c m false (lastD c))
  else if c.role = 2 ∨ snapNo m = true then (c, [])
  else if m.kind = 5 then takesD (followD c m) m
  else appendD (followD c m) m
def hearD (c : CoreD) (m : MsgD) : CoreD × List MsgD := if wrongD c m then (c, []) else heardD (stepD c m) m

/-! The other calls. -/
def askC (c : CoreD) (data : List UInt8) : CoreD := putD c { term := c.term, cmd := true, data := data }
def askD (c : CoreD) (data : List UInt8) : CoreD × Int × List MsgD × Int :=
  if c.role ≠ 2 then (c, 0, [], 24)
  else if 4096 ≤ c.l.length then (c, 0, [], 2)
  else (askC c data, lastD (askC c data), othersD (askC c data) (sendD (askC c data)), 0)
def compactD (c : CoreD) (i : Int) (data : List UInt8) : CoreD × Int := if i ≤ c.base ∨ c.commit < i then (c, 1) else (standsD c i data, 0)
def changesD (c : CoreD) : CoreD × Bool × Int × Bool := ({ c with hard := false, frm := 0, tsnap := false }, c.hard, (if 0 < c.frm then max c.frm (c.base + 1) else c.frm), c.tsnap)

theorem wrongHead_no {c : CoreD} {m : MsgD} (h : wrongHead c m = false) : (1 ≤ m.kind ∧ m.kind ≤ 5) ∧ m.«to» = c.id ∧ (1 ≤ m.frm ∧ m.frm ≤ c.conf.nodes) ∧ m.frm ≠ c.id ∧ (1 ≤ m.term ∧ m.term ≤ 1099511627776) ∧ (0 ≤ m.a ∧ m.a ≤ 1099511627776) ∧ (0 ≤ m.b ∧ m.b ≤ 1099511627776) ∧ (0 ≤ m.c ∧ m.c ≤ 1099511627776) ∧ m.entries.length ≤ 8 := by
  simp only [wrongHead, inD, Bool.or_eq_false_iff, Bool.not_eq_false', Bool.and_eq_true, decide_eq_true_eq, bne_eq_false_iff_eq, beq_eq_false_iff_ne, decide_eq_false_iff_not] at h
  obtain ⟨⟨⟨⟨⟨⟨⟨⟨h1, h2⟩, h3⟩, h4⟩, h5⟩, h6⟩, h7⟩, h8⟩, h9⟩ := h
  exact ⟨h1, h2, h3, h4, h5, h6, h7, h8, by omega⟩

end Go.Proofs.YtbbdmmhpbeleoaaGreatDoor

/- Package core's, its reference's smallest functions; which configs may be. -/
namespace Go.Proofs.YtbbdmmhpbeleoaaGreatDoor
open Go Go.RowKit

/-- The cells of a config. -/
def confV (c : ConfD) : Value := .agg #[.int .i64 c.nodes, .int .i64 c.clients, .int .i64 c.heart, .int .i64 c.lo, .int .i64 c.range, .int .i64 c.sessions, .int .i64 c.snap, .int .i64 c.room, .int .i64 c.retry]

theorem ret_bool {a b : Bool} (h : a = b) : Ending.returned (.bool a) = .returned (.bool b) := by rw [h]
theorem ret_int {k : IntKind} {a b : Int} (h : a = b) : Ending.returned (.int k a) = .returned (.int k b) := by rw [h]

theorem ret_ib {k : IntKind} {a a' : Int} {b b' : Bool} (h : a = a') (g : b = b') : Ending.returned (.tuple #[.int k a, .bool b]) = .returned (.tuple #[.int k a', .bool b']) := by rw [h, g]

/-- An index that a fact tells. -/
theorem wpList_index {P : Program} {ops : Array Oper} {rest : List Oper} {o : Oper} {a : Act} {w : World} {Q : Exit → Act → World → Prop} (hgd : o.guard = none) (t : TypeId) (x i : Operand) (ho : o.op = .index t x i) (vx vi v : Value) (hx : a.eval x = vx) (hi : a.eval i = vi)
    (hrun : (Instr.index t vx vi).run P w = .ok v w) (h : wpList P ops Q rest (a.put o.dst v) w) : wpList P ops Q (o :: rest) a w := by
  refine wpList_plain hgd fun K hK => ?_
  unfold Oper.wp execOp
  simp only [ho, Sem.run_bind, Sem.run_pure, Result.andThen_ok, hx, hi, hrun]
  exact hK _ _ h

/-- The table's rows as the code makes them. -/
def ConfD.rowW (c : ConfD) : Nat → Int × Int × Int
  | 3 => (c.lo, wrap64 (c.heart + 1), 1000)
  | k => c.row k
theorem ConfD.rowW_eq (c : ConfD) (k : Nat) (h : c.mayTo k = true) : c.rowW k = c.row k := by
  unfold ConfD.rowW
  split
  · simp [ConfD.mayTo, ConfD.ok, ConfD.row, inD] at h
    rw [IntWalk.wrap64_in _ ⟨by omega, by omega⟩]
    rfl
  · rfl

end Go.Proofs.YtbbdmmhpbeleoaaGreatDoor

/- How entries, messages, a core lie in memory; the smallest methods. -/
namespace Go.Proofs.YtbbdmmhpbeleoaaGreatDoor
open Go Go.RowKit

def entV (e : Ent) (v : Value) : Value := .agg #[.int .i64 e.term, .bool e.cmd, v]
def entL : Lay Ent where
  size := 3
  pos := by decide
  at_ w P cs e := ∃ v, cs = [.int .i64 e.term, .bool e.cmd, v] ∧ BytesAt w P v e.data
  len := fun ⟨v, e, _⟩ => by rw [e]; rfl
  one := fun ⟨v, e, h⟩ u hu => by
    rw [e] at hu
    obtain ⟨a, c, rfl⟩ := h.form
    simp at hu
    rcases hu with rfl | rfl | rfl <;> rfl
  keep := fun ⟨v, e, h⟩ k hP => ⟨v, e, h.keep k hP⟩
  mono := fun ⟨v, e, h⟩ hP => ⟨v, e, h.mono hP⟩

def msgV (m : MsgD) (ev dv : Value) : Value := .agg #[.int .i64 m.kind, .int .i64 m.frm, .int .i64 m.«to», .int .i64 m.term, .int .i64 m.a, .int .i64 m.b, .int .i64 m.c, .bool m.ok, ev, dv]
def msgL : Lay MsgD where
  size := 10
  pos := by decide
  at_ w P cs m := ∃ ev dv, cs = [.int .i64 m.kind, .int .i64 m.frm, .int .i64 m.«to», .int .i64 m.term, .int .i64 m.a, .int .i64 m.b, .int .i64 m.c, .bool m.ok, ev, dv] ∧ ListAt entL w P ev m.entries ∧ BytesAt w P dv m.data
  len := fun ⟨ev, dv, e, _⟩ => by rw [e]; rfl
  one := fun ⟨ev, dv, e, h1, h2⟩ u hu => by
    rw [e] at hu
    obtain ⟨a, c, rfl⟩ := h1.form
    obtain ⟨a2, c2, rfl⟩ := h2.form
    simp at hu
    rcases hu with rfl | rfl | rfl | rfl | rfl | rfl | rfl | rfl | rfl | rfl <;> rfl
  keep := fun ⟨ev, dv, e, h1, h2⟩ k hP => ⟨ev, dv, e, h1.keep k hP, h2.keep k hP⟩
  mono := fun ⟨ev, dv, e, h1, h2⟩ hP => ⟨ev, dv, e, h1.mono hP, h2.mono hP⟩

theorem Tryz.infoEnt : (Tryz.prog.info? 118).map (fun i => (i.zero, i.size, i.bytes)) = some (some (.agg #[.int .i64 0, .bool false, .slice none 0 0]), 3, 40) := by kernel_rfl
theorem Tryz.infoMsg : (Tryz.prog.info? 57).map (fun i => (i.zero, i.size, i.bytes)) = some (some (.agg #[.int .i64 0, .int .i64 0, .int .i64 0, .int .i64 0, .int .i64 0, .int .i64 0, .int .i64 0, .bool false, .slice none 0 0, .slice none 0 0]), 10, 112) := by kernel_rfl

/-! A core. -/
def bools (l : List Bool) : List Value := l.map Value.bool
def ints (l : List Int) : List Value := l.map (Value.int .i64)
def confCells (c : ConfD) : List Value := [.int .i64 c.nodes, .int .i64 c.clients, .int .i64 c.heart, .int .i64 c.lo, .int .i64 c.range, .int .i64 c.sessions, .int .i64 c.snap, .int .i64 c.room, .int .i64 c.retry]
def tailCells (c : CoreD) : List Value := bools c.votes ++ (ints c.next ++ (ints c.matc ++ [.bool c.hard, .int .i64 c.frm, .bool c.tsnap]))
def coreCells (c : CoreD) (lv sv : Value) : List Value :=
  .int .i64 c.conf.nodes :: .int .i64 c.conf.clients :: .int .i64 c.conf.heart :: .int .i64 c.conf.lo :: .int .i64 c.conf.range :: .int .i64 c.conf.sessions :: .int .i64 c.conf.snap :: .int .i64 c.conf.room :: .int .i64 c.conf.retry ::
  .int .i64 c.id :: .int .i64 c.term :: .int .i64 c.vote :: .int .i64 c.role :: .int .i64 c.leader :: .int .i64 c.commit :: .int .i64 c.base :: .int .i64 c.baseTerm :: lv :: sv :: .int .i64 c.draw :: .int .i64 c.patience :: tailCells c

/-- What a core's blocks are not. -/
def Off (n : Nat) (lv : Value) (b : Nat) : Prop := b ≠ n ∧ b ∉ ownB lv

section
/-- An entry's cells. -/
theorem OwnAt.ent {w : World} {B : Nat} {P : Nat → Prop} {lv : Value} {l : List Ent} (h : OwnAt entL 118 w B P lv l) {j : Nat} {e : Ent} (he : l[j]? = some e) : ∃ g k v, lv = .slice (some ⟨g, 0, none⟩) l.length k ∧ l.length ≤ k ∧ k ≤ maxLen ∧ w.cell? ⟨g, j * 3, none⟩ = some (.int .i64 e.term) ∧ w.cell? ⟨g, j * 3 + 1, none⟩ = some (.bool e.cmd) ∧ w.cell? ⟨g, j * 3 + 2, none⟩ = some v ∧ BytesAt w P v e.data := by
  have hj : j < l.length := (List.getElem?_eq_some_iff.1 he).1
  obtain ⟨css, h1, h2⟩ := h
  rcases h2.2 with ⟨_, h0⟩ | ⟨g, k, cur, rfl, _, _, hk, hm, _⟩
  · omega
  · have hl : ListAt entL w (fun _ => True) (.slice (some ⟨g, 0, none⟩) l.length k) l := ⟨css, h1.mono (fun _ _ _ => trivial), Reads.ofOwn h2, fun _ _ _ => trivial⟩
    obtain ⟨cs, h3, h4⟩ := hl.get he
    have hc : css[j]? = some (css[j]'(by rw [h1.1]; exact hj)) := List.getElem?_eq_getElem _
    obtain ⟨v, e1, h5⟩ := h1.2 j _ _ hc he
    refine ⟨g, k, v, rfl, hk, hm, ?_, ?_, ?_, h5⟩
    all_goals
      rw [h2.cellAt _ (by show _ < _ * 3; omega)]
    · have := flatten_get (n := 3) h1.lens hc (j := 0) (by omega)
      rw [e1] at this
      simpa using this
    · have := flatten_get (n := 3) h1.lens hc (j := 1) (by omega)
      rw [e1] at this
      simpa using this
    · have := flatten_get (n := 3) h1.lens hc (j := 2) (by omega)
      rw [e1] at this
      simpa using this

end

end Go.Proofs.YtbbdmmhpbeleoaaGreatDoor

/- Entry, From, Snapshot; Draw; what a core says. -/
namespace Go.Proofs.YtbbdmmhpbeleoaaGreatDoor
open Go Go.RowKit



section
theorem entD_some {c : CoreD} {i : Int} {e : Ent} (h : entD c i = some e) : ∃ j : Nat, i = c.base + 1 + j ∧ c.l[j]? = some e ∧ i ≤ lastD c := by
  unfold entD at h
  split at h
  · cases h
  · refine ⟨(i - c.base - 1).toNat, by omega, h, by omega⟩

/-- What Entry, asked for an entry that is there, leaves. -/
def EntryYes (e : Ent) (w : World) (x : Ending) (w' : World) : Prop := ∃ a k, x = .returned (.tuple #[entV e (.slice a e.data.length k), .bool true]) ∧ BytesAt w' (fun b => w.heap.size ≤ b) (.slice a e.data.length k) e.data ∧ Keeps [] w w'

theorem EntryYes.mk {e : Ent} {w w' w1 : World} {x : Ending} {a : Option Addr} {k : Nat} (hx : x = .returned (.tuple #[entV e (.slice a e.data.length k), .bool true])) (hB : w.heap.size ≤ w1.heap.size) (ho : w'.ownsRow w1.heap.size 5 1 (.slice a e.data.length k) e.data.length (u8s e.data)) (hk : Keeps [] w w') : EntryYes e w x w' :=
  ⟨a, k, hx, BytesAt.ofOwn ho rfl (fun b h1 _ => Nat.le_trans hB h1), hk⟩

end

end Go.Proofs.YtbbdmmhpbeleoaaGreatDoor

/- From. -/
namespace Go.Proofs.YtbbdmmhpbeleoaaGreatDoor
open Go Go.RowKit

/-- Entries in new memory: the row is the call's own; so are the entries' bytes. -/
def FreshEnts (w w' : World) (v : Value) (l : List Ent) : Prop := OwnAt entL 118 w' w.heap.size (fun b => w.heap.size ≤ b ∧ b ∉ ownB v) v l
def FromPost (l : List Ent) (w : World) (e : Ending) (w' : World) : Prop := ∃ a k, e = .returned (.slice a l.length k) ∧ FreshEnts w w' (.slice a l.length k) l ∧ Keeps [] w w'

theorem own_cap {w : World} {base e size n c : Nat} {a : Option Addr} {xs : List Value} (h : w.ownsRow base e size (.slice a n c) n xs) (hn : 0 < n) : n ≤ c ∧ c ≤ maxLen := by
  rcases h.2 with ⟨h0, _⟩ | ⟨g, cap, cur, hv, _, _, h1, h2, _⟩
  · simp at h0; omega
  · simp at hv
    obtain ⟨_, rfl⟩ := hv
    exact ⟨h1, h2⟩

theorem fromD_at {c : CoreD} {i : Int} {s : Nat} (h : max i (c.base + 1) = c.base + 1 + s) : fromD c i = c.l.drop s := by
  unfold fromD
  rw [h, show (c.base + 1 + (s : Int) - c.base - 1).toNat = s by omega]

theorem FromPost.nil {l : List Ent} {w w' : World} (hl : l = []) (k : Keeps [] w w') : FromPost l w (.returned (.slice none 0 0)) w' := by
  subst hl
  exact ⟨none, 0, rfl, OwnAt.nil _ _ _ _, k⟩

section
end

end Go.Proofs.YtbbdmmhpbeleoaaGreatDoor

/- What becomes of a core's memory where a field is written, where an entry comes behind its log. -/
namespace Go.Proofs.YtbbdmmhpbeleoaaGreatDoor
open Go Go.RowKit

/-- An entry in new memory, as 'own' leaves it, as one element of a list. -/
theorem ent_elem {w w1 : World} {e : Ent} {a : Option Addr} {q : Nat} {P : Nat → Prop} (ho : w1.ownsRow w.heap.size 5 1 (.slice a e.data.length q) e.data.length (u8s e.data)) (hP : ∀ b, w.heap.size ≤ b → P b) : ∀ wx, Keeps [] w1 wx → entL.at_ wx P [.int .i64 e.term, .bool e.cmd, .slice a e.data.length q] e :=
  fun _ kx => ⟨_, rfl, BytesAt.k (BytesAt.ofOwn ho rfl (fun b hb _ => hP b hb)) kx⟩

theorem blk9 {w : World} {b : Nat} {x0 x1 x2 x3 x4 x5 x6 x7 x8 : Value} {t : TypeId} (h : w.heap[b]? = some (.cells #[x0, x1, x2, x3, x4, x5, x6, x7, x8] t (0, 0))) :
    (w.cell? ⟨b, 0, none⟩ = some x0 ∧ w.cell? ⟨b, 1, none⟩ = some x1 ∧ w.cell? ⟨b, 2, none⟩ = some x2 ∧ w.cell? ⟨b, 3, none⟩ = some x3 ∧ w.cell? ⟨b, 4, none⟩ = some x4 ∧ w.cell? ⟨b, 5, none⟩ = some x5 ∧ w.cell? ⟨b, 6, none⟩ = some x6 ∧ w.cell? ⟨b, 7, none⟩ = some x7 ∧ w.cell? ⟨b, 8, none⟩ = some x8) ∧ ∀ i, w.frozen? ⟨b, i, none⟩ = false :=
  ⟨⟨cell_of_block h 0, cell_of_block h 1, cell_of_block h 2, cell_of_block h 3, cell_of_block h 4, cell_of_block h 5, cell_of_block h 6, cell_of_block h 7, cell_of_block h 8⟩, fun i => frozen_of_row w b i _ _ h⟩

/-- The first conditions of New. -/
def headD (cf : ConfD) (id term vote base baseTerm : Int) (n : Nat) : Bool :=
  cf.may && inD id 1 cf.nodes && inD term 0 1099511627776 && inD vote 0 cf.nodes && inD base 0 1099511622680 && inD baseTerm 0 1099511627776 && decide (n ≤ 5096)
theorem mayNew_head (cf : ConfD) (id term vote base baseTerm : Int) (l : List Ent) : mayNewD cf id term vote base baseTerm l = (headD cf id term vote base baseTerm l.length && l.all fun e => inD e.term 1 1099511627776) := rfl

end Go.Proofs.YtbbdmmhpbeleoaaGreatDoor

/- What a core says; Draw; rises. -/
namespace Go.Proofs.YtbbdmmhpbeleoaaGreatDoor
open Go Go.RowKit

/-- A block's cells are no other block's. -/
theorem cDraw_bd (c : CoreD) (v : Int) (h : CoreOk c) : CoreOk (drawD c v) := by
  have hm := (ConfD.may_iff c.conf).1 h.may
  exact { may := h.may, id := h.id, term := h.term, base := h.base, baseTerm := h.baseTerm, len := h.len, last := h.last, commit := h.commit, draw := ⟨by show 0 ≤ max _ _; omega, by show max _ _ ≤ _; omega⟩, votes := h.votes, next := h.next, matc := h.matc, nexts := h.nexts, matcs := h.matcs, ents := h.ents, frm := h.frm, data := h.data, snap := h.snap }

theorem bools_set (l : List Bool) (i : Nat) (b : Bool) : (bools l).set i (.bool b) = bools (l.set i b) := by simp [bools, List.map_set]
theorem ints_set (l : List Int) (i : Nat) (b : Int) : (ints l).set i (.int .i64 b) = ints (l.set i b) := by simp [ints, List.map_set]
/-- The last cells of a core. -/
theorem tail_get (c : CoreD) (hv : c.votes.length = 8) (hn : c.next.length = 8) (hm : c.matc.length = 8) : (tailCells c)[24]? = some (.bool c.hard) ∧ (tailCells c)[25]? = some (.int .i64 c.frm) ∧ (tailCells c)[26]? = some (.bool c.tsnap) := by
  unfold tailCells bools ints
  refine ⟨?_, ?_, ?_⟩ <;>
  · rw [List.getElem?_append_right (by simp; omega), List.getElem?_append_right (by simp; omega), List.getElem?_append_right (by simp; omega)]
    simp [hv, hn, hm]
theorem tail_hard (c : CoreD) (hv : c.votes.length = 8) (hn : c.next.length = 8) (hm : c.matc.length = 8) (b : Bool) : (tailCells c).set 24 (.bool b) = tailCells { c with hard := b } := by
  unfold tailCells bools ints
  rw [List.set_append_right _ _ (by simp; omega), List.set_append_right _ _ (by simp; omega), List.set_append_right _ _ (by simp; omega)]
  simp [hv, hn, hm]
theorem tail_frm (c : CoreD) (hv : c.votes.length = 8) (hn : c.next.length = 8) (hm : c.matc.length = 8) (b : Int) : (tailCells c).set 25 (.int .i64 b) = tailCells { c with frm := b } := by
  unfold tailCells bools ints
  rw [List.set_append_right _ _ (by simp; omega), List.set_append_right _ _ (by simp; omega), List.set_append_right _ _ (by simp; omega)]
  simp [hv, hn, hm]
theorem tail_tsnap (c : CoreD) (hv : c.votes.length = 8) (hn : c.next.length = 8) (hm : c.matc.length = 8) (b : Bool) : (tailCells c).set 26 (.bool b) = tailCells { c with tsnap := b } := by
  unfold tailCells bools ints
  rw [List.set_append_right _ _ (by simp; omega), List.set_append_right _ _ (by simp; omega), List.set_append_right _ _ (by simp; omega)]
  simp [hv, hn, hm]
theorem tail_votes (c : CoreD) (hv : c.votes.length = 8) (i : Nat) (hi : i < 8) (b : Bool) : (tailCells c).set i (.bool b) = tailCells { c with votes := c.votes.set i b } := by
  unfold tailCells
  rw [List.set_append_left _ _ (by simp [bools]; omega), bools_set]
theorem tail_next (c : CoreD) (hv : c.votes.length = 8) (hn : c.next.length = 8) (i : Nat) (hi : i < 8) (b : Int) : (tailCells c).set (8 + i) (.int .i64 b) = tailCells { c with next := c.next.set i b } := by
  unfold tailCells
  rw [List.set_append_right _ _ (by simp [bools]; omega), List.set_append_left _ _ (by simp [bools, ints]; omega), show 8 + i - (bools c.votes).length = i by simp [bools]; omega, ints_set]
theorem tail_matc (c : CoreD) (hv : c.votes.length = 8) (hn : c.next.length = 8) (hm : c.matc.length = 8) (i : Nat) (hi : i < 8) (b : Int) : (tailCells c).set (16 + i) (.int .i64 b) = tailCells { c with matc := c.matc.set i b } := by
  unfold tailCells
  rw [List.set_append_right _ _ (by simp [bools]; omega), List.set_append_right _ _ (by simp [bools, ints]; omega), List.set_append_left _ _ (by simp [bools, ints]; omega), show 16 + i - (bools c.votes).length - (ints c.next).length = i by simp [bools, ints]; omega, ints_set]
theorem set21 (c : CoreD) (lv sv v : Value) (i : Nat) : (coreCells c lv sv).set (21 + i) v =
  .int .i64 c.conf.nodes :: .int .i64 c.conf.clients :: .int .i64 c.conf.heart :: .int .i64 c.conf.lo :: .int .i64 c.conf.range :: .int .i64 c.conf.sessions :: .int .i64 c.conf.snap :: .int .i64 c.conf.room :: .int .i64 c.conf.retry ::
  .int .i64 c.id :: .int .i64 c.term :: .int .i64 c.vote :: .int .i64 c.role :: .int .i64 c.leader :: .int .i64 c.commit :: .int .i64 c.base :: .int .i64 c.baseTerm :: lv :: sv :: .int .i64 c.draw :: .int .i64 c.patience :: (tailCells c).set i v := by
  unfold coreCells
  rw [show 21 + i = i + 21 by omega]
  rfl
theorem get21 (c : CoreD) (lv sv : Value) (i : Nat) : (coreCells c lv sv)[21 + i]? = (tailCells c)[i]? := by
  unfold coreCells
  rw [show 21 + i = i + 21 by omega]
  rfl

theorem risesD_ok {c : CoreD} {t v : Int} (h : CoreOk c) (ht : 0 ≤ t ∧ t ≤ 1099511627776) : CoreOk (risesD c t v) :=
  { may := h.may, id := h.id, term := ht, base := h.base, baseTerm := h.baseTerm, len := h.len, last := h.last, commit := h.commit, draw := h.draw, votes := h.votes, next := h.next, matc := h.matc, nexts := h.nexts, matcs := h.matcs, ents := h.ents, frm := h.frm, data := h.data, snap := h.snap }

end Go.Proofs.YtbbdmmhpbeleoaaGreatDoor

/- wrong: is it no message? (Printed by gen_wrong.py.) -/
namespace Go.Proofs.YtbbdmmhpbeleoaaGreatDoor
open Go Go.RowKit

end Go.Proofs.YtbbdmmhpbeleoaaGreatDoor

/- wrong, the entries. (Printed by gen_wrong.py.) -/
namespace Go.Proofs.YtbbdmmhpbeleoaaGreatDoor
open Go Go.RowKit

end Go.Proofs.YtbbdmmhpbeleoaaGreatDoor

/- The votes that are asked for: the closure of Tick, others with it. -/
namespace Go.Proofs.YtbbdmmhpbeleoaaGreatDoor
open Go Go.RowKit

/-- Messages in new memory. -/
def FreshMsgs (w w' : World) (v : Value) (l : List MsgD) : Prop := OwnAt msgL 57 w' w.heap.size (fun b => w.heap.size ≤ b ∧ b ∉ ownB v) v l
def MsgsPost (l : List MsgD) (w : World) (e : Ending) (w' : World) : Prop := ∃ a q, e = .returned (.slice a l.length q) ∧ FreshMsgs w w' (.slice a l.length q) l ∧ Keeps [] w w'

theorem othersTo_skip {id : Int} {k : Nat} (h : ((k : Nat) : Int) + 1 = id) : othersTo id (k + 1) = othersTo id k := by
  rw [othersTo, if_pos (by omega)]
theorem othersTo_take {id : Int} {k : Nat} (h : ¬ ((k : Nat) : Int) + 1 = id) : othersTo id (k + 1) = othersTo id k ++ [(k : Int) + 1] := by
  rw [othersTo, if_neg (by omega)]
  simp
theorem othersTo_len (id : Int) : ∀ k, (othersTo id k).length ≤ k
  | 0 => Nat.le_refl _
  | k + 1 => by
    have := othersTo_len id k
    unfold othersTo
    split
    · omega
    · simp; omega

def votMsg (c : CoreD) (tm «to» : Int) : MsgD := { kind := 1, frm := c.id, «to» := «to», term := c.term, a := lastD c, b := tm, c := 0, ok := false, entries := [], data := [] }

end Go.Proofs.YtbbdmmhpbeleoaaGreatDoor
