/- WHAT A CORE DOES WITH A MESSAGE, with a command, with a snapshot, in plain words: no memory, no program. -/
import Derived.Test.YtpppoajnbhipeaaCoreD
namespace Go.Proofs.Ytpppoajnbhipeaa
open Go Go.RowKit

/-! Messages. -/
def wrongHead (c : CoreD) (m : MsgD) : Bool :=
  !inD m.kind 1 5 || m.to != c.id || !inD m.frm 1 c.conf.nodes || m.frm == c.id || !inD m.term 1 1099511627776 || !inD m.a 0 1099511627776 || !inD m.b 0 1099511627776 || !inD m.c 0 1099511627776 || decide (8 < m.entries.length)
def wrongD (c : CoreD) (m : MsgD) : Bool := wrongHead c m || m.entries.any fun e => !inD e.term 1 m.term
def answerD (c : CoreD) (m : MsgD) (ok : Bool) (a : Int) : List MsgD := [saysD c { msg0 with kind := 4, ok := ok, a := a } m.frm]
def stepD (c : CoreD) (m : MsgD) : CoreD := if c.term < m.term then { risesD c m.term 0 with role := 0, leader := 0 } else c
def lastTerm (c : CoreD) : Int := (atD c (lastD c)).1
def askedOk (c : CoreD) (m : MsgD) : Bool :=
  m.term == c.term && (c.vote == 0 || c.vote == m.frm) && c.role == 0 && (decide (lastTerm c < m.b) || m.b == lastTerm c && decide (lastD c ≤ m.a))
def askedC (c : CoreD) (m : MsgD) : CoreD := if askedOk c m then { risesD c c.term m.frm with patience := 0 } else c
def askedD (c : CoreD) (m : MsgD) : CoreD × List MsgD := (askedC c m, [saysD (askedC c m) { msg0 with kind := 2, ok := askedOk c m } m.frm])
def lead0 (c : CoreD) : CoreD := { c with role := 2, leader := c.id, patience := 0, matc := List.replicate 8 0, next := List.replicate 8 (lastD c + 1) }
def leadD (c : CoreD) : CoreD := if c.l.length < 5096 then putD (lead0 c) { term := c.term, cmd := false, data := [] } else lead0 c
def votedC (c : CoreD) (m : MsgD) : CoreD := { c with votes := c.votes.set m.frm.toNat true }
def votedD (c : CoreD) (m : MsgD) : CoreD × List MsgD :=
  if m.term ≠ c.term ∨ c.role ≠ 1 ∨ m.ok = false then (c, [])
  else if ((votedC c m).votes.count true : Int) ≤ c.conf.nodes / 2 then (votedC c m, [])
  else (leadD (votedC c m), othersD (leadD (votedC c m)) (sendD (leadD (votedC c m))))
/-- How many have an index (but itself): the nodes up to k. -/
def haveD (c : CoreD) (i : Int) : Nat → Int
  | 0 => 1
  | k + 1 => haveD c i k + (if ((k + 1 : Nat) : Int) ≠ c.id ∧ i ≤ c.matc.getD (k + 1) 0 then 1 else 0)
def agreesTo (c : CoreD) : Nat → Int
  | 0 => c.commit
  | k + 1 => if (atD c (c.commit + (k + 1 : Nat))).1 = c.term ∧ c.conf.nodes / 2 < haveD c (c.commit + (k + 1 : Nat)) c.conf.nodes.toNat then c.commit + (k + 1 : Nat) else agreesTo c k
def agreesD (c : CoreD) : CoreD := { c with commit := agreesTo c (lastD c - c.commit).toNat }
def appNo (c : CoreD) (m : MsgD) : CoreD :=
  { c with next := c.next.set m.frm.toNat (max (c.matc.getD m.frm.toNat 0 + 1) (if m.a < c.next.getD m.frm.toNat 0 - 1 - 1 then m.a + 1 else c.next.getD m.frm.toNat 0 - 1)) }
def appYes0 (c : CoreD) (m : MsgD) : CoreD := { c with matc := c.matc.set m.frm.toNat (max (c.matc.getD m.frm.toNat 0) m.a) }
def appYes (c : CoreD) (m : MsgD) : CoreD := { appYes0 c m with next := c.next.set m.frm.toNat (max (c.next.getD m.frm.toNat 0) ((appYes0 c m).matc.getD m.frm.toNat 0 + 1)) }
def appendedD (c : CoreD) (m : MsgD) : CoreD × List MsgD :=
  if m.term ≠ c.term ∨ c.role ≠ 2 ∨ (m.ok = true ∧ lastD c < m.a) then (c, [])
  else if m.ok = false then (appNo c m, [sendD (appNo c m) m.frm])
  else (agreesD (appYes c m), [])
/-- Entries behind an index: from the first on that is another one, they take the place of what stands there; none: they may not. -/
def putsD (c : CoreD) (a : Int) : List Ent → Option CoreD
  | [] => some c
  | e :: r =>
    if (atD c (a + 1)).2 = true ∧ (atD c (a + 1)).1 = e.term then putsD c (a + 1) r
    else if a + 1 ≤ c.commit ∨ 5096 < a - c.base + (r.length + 1) then none
    else some ((e :: r).foldl putD { c with l := c.l.take (a - c.base).toNat })
def fitD (c : CoreD) (a b : Int) (passed : Bool) : Bool := (atD c a).2 && (passed || (atD c a).1 == b)
def appendAt (c : CoreD) (m : MsgD) (a : Int) (l : List Ent) (passed : Bool) : CoreD × List MsgD :=
  if fitD c a m.b passed then
    match putsD c a l with
    | none => (c, [])
    | some c' => ({ c' with commit := max c.commit (min m.c (a + l.length)) }, answerD c m true (a + l.length))
  else (c, answerD c m false (max c.commit (min (lastD c) (a - 1))))
def appendD (c : CoreD) (m : MsgD) : CoreD × List MsgD :=
  if c.base ≤ m.a then appendAt c m m.a m.entries false
  else if c.base - m.a < m.entries.length then appendAt c m c.base (m.entries.drop (c.base - m.a).toNat) true
  else (c, answerD c m true c.base)
def standsD (c : CoreD) (i : Int) (data : List UInt8) : CoreD := { c with l := c.l.drop (i - c.base).toNat, base := i, baseTerm := (atD c i).1, snap := data }
def takesD (c : CoreD) (m : MsgD) : CoreD × List MsgD :=
  if m.a ≤ c.commit then (c, answerD c m true c.commit)
  else ({ (if (atD c m.a).2 = true ∧ (atD c m.a).1 = m.b then standsD c m.a m.data else { c with l := [], base := m.a, baseTerm := m.b, snap := m.data }) with commit := m.a, tsnap := true }, answerD c m true m.a)
def followD (c : CoreD) (m : MsgD) : CoreD := { c with role := 0, leader := m.frm, patience := 0 }
def snapNo (m : MsgD) : Bool := m.kind == 5 && (!inD m.a 1 549755813888 || !inD m.b 1 m.term)
def heardD (c : CoreD) (m : MsgD) : CoreD × List MsgD :=
  if m.kind = 1 then askedD c m
  else if m.kind = 2 then votedD c m
  else if m.kind = 4 then appendedD c m
  else if m.term < c.term then (c, answerD c m false (lastD c))
  else if c.role = 2 ∨ snapNo m = true then (c, [])
  else if m.kind = 5 then takesD (followD c m) m
  else appendD (followD c m) m
def hearD (c : CoreD) (m : MsgD) : CoreD × List MsgD := if wrongD c m then (c, []) else heardD (stepD c m) m

/-! The other calls. -/
def askC (c : CoreD) (data : List UInt8) : CoreD := putD c { term := c.term, cmd := true, data := data }
def askD (c : CoreD) (data : List UInt8) : CoreD × Int × List MsgD × Int :=
  if c.role ≠ 2 then (c, 0, [], 24)
  else if 4096 ≤ c.l.length then (c, 0, [], 2)
  else (askC c data, lastD (askC c data), othersD (askC c data) (sendD (askC c data)), 0)
def compactD (c : CoreD) (i : Int) (data : List UInt8) : CoreD × Int := if i ≤ c.base ∨ c.commit < i then (c, 1) else (standsD c i data, 0)
def changesD (c : CoreD) : CoreD × Bool × Int × Bool := ({ c with hard := false, frm := 0, tsnap := false }, c.hard, (if 0 < c.frm then max c.frm (c.base + 1) else c.frm), c.tsnap)

theorem wrongHead_no {c : CoreD} {m : MsgD} (h : wrongHead c m = false) : (1 ≤ m.kind ∧ m.kind ≤ 5) ∧ m.to = c.id ∧ (1 ≤ m.frm ∧ m.frm ≤ c.conf.nodes) ∧ m.frm ≠ c.id ∧ (1 ≤ m.term ∧ m.term ≤ 1099511627776) ∧ (0 ≤ m.a ∧ m.a ≤ 1099511627776) ∧ (0 ≤ m.b ∧ m.b ≤ 1099511627776) ∧ (0 ≤ m.c ∧ m.c ≤ 1099511627776) ∧ m.entries.length ≤ 8 := by
  simp only [wrongHead, inD, Bool.or_eq_false_iff, Bool.not_eq_false', Bool.and_eq_true, decide_eq_true_eq, bne_eq_false_iff_eq, beq_eq_false_iff_ne, decide_eq_false_iff_not] at h
  obtain ⟨⟨⟨⟨⟨⟨⟨⟨h1, h2⟩, h3⟩, h4⟩, h5⟩, h6⟩, h7⟩, h8⟩, h9⟩ := h
  exact ⟨h1, h2, h3, h4, h5, h6, h7, h8, by omega⟩

end Go.Proofs.Ytpppoajnbhipeaa
