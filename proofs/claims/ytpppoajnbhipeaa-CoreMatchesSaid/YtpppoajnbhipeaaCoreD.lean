/- WHAT A CORE IS AND DOES, in plain words: no memory, no program. -/
import Derived.WalkKit
namespace Go.Proofs.Ytpppoajnbhipeaa
open Go Go.RowKit

structure Ent where
  term : Int
  cmd : Bool
  data : List UInt8

structure MsgD where
  kind : Int
  frm : Int
  to : Int
  term : Int
  a : Int
  b : Int
  c : Int
  ok : Bool
  entries : List Ent
  data : List UInt8

structure ConfD where
  nodes : Int
  clients : Int
  heart : Int
  lo : Int
  range : Int
  sessions : Int
  snap : Int
  room : Int
  retry : Int

structure CoreD where
  conf : ConfD
  id : Int
  term : Int
  vote : Int
  role : Int
  leader : Int
  commit : Int
  base : Int
  baseTerm : Int
  l : List Ent
  snap : List UInt8
  draw : Int
  patience : Int
  votes : List Bool
  next : List Int
  matc : List Int
  hard : Bool
  frm : Int
  tsnap : Bool
  /-- Blocks that it never reads nor writes: others write there. (No part of the core: a word of the proofs.) -/
  ban : Nat → Prop := fun _ => False

def inD (v a b : Int) : Bool := decide (a ≤ v) && decide (v ≤ b)
def ConfD.row (c : ConfD) : Nat → Int × Int × Int
  | 0 => (c.nodes, 3, 7)
  | 1 => (c.clients, 0, 8)
  | 2 => (c.heart, 1, 100)
  | 3 => (c.lo, c.heart + 1, 1000)
  | 4 => (c.range, 0, 1000)
  | 5 => (c.sessions, 1, 16)
  | 6 => (c.snap, 1, 1000)
  | 7 => (c.room, 0, 512)
  | _ => (c.retry, 1, 1000)
def ConfD.ok (c : ConfD) (k : Nat) : Bool := inD (c.row k).1 (c.row k).2.1 (c.row k).2.2
def ConfD.mayTo (c : ConfD) : Nat → Bool
  | 0 => true
  | k + 1 => c.mayTo k && c.ok k
def ConfD.may (c : ConfD) : Bool := c.mayTo 9

theorem ConfD.may_iff (c : ConfD) : c.may = true ↔ (3 ≤ c.nodes ∧ c.nodes ≤ 7) ∧ (0 ≤ c.clients ∧ c.clients ≤ 8) ∧ (1 ≤ c.heart ∧ c.heart ≤ 100) ∧ (c.heart + 1 ≤ c.lo ∧ c.lo ≤ 1000) ∧ (0 ≤ c.range ∧ c.range ≤ 1000) ∧ (1 ≤ c.sessions ∧ c.sessions ≤ 16) ∧ (1 ≤ c.snap ∧ c.snap ≤ 1000) ∧ (0 ≤ c.room ∧ c.room ≤ 512) ∧ (1 ≤ c.retry ∧ c.retry ≤ 1000) := by
  simp [ConfD.may, ConfD.mayTo, ConfD.ok, ConfD.row, inD, and_assoc]
theorem ConfD.mayTo_mono (c : ConfD) (k : Nat) : ∀ j, c.mayTo (k + j) = true → c.mayTo k = true
  | 0, h => h
  | j + 1, h => by
    simp only [ConfD.mayTo, Bool.and_eq_true] at h
    exact c.mayTo_mono k j h.1
theorem ConfD.not_may {c : ConfD} {k : Nat} (hk : k < 9) (h : c.ok k = false) : c.may = false := by
  cases hm : c.may with
  | false => rfl
  | true =>
    have := c.mayTo_mono (k + 1) (9 - (k + 1)) (by rw [show k + 1 + (9 - (k + 1)) = 9 by omega]; exact hm)
    simp [ConfD.mayTo, h] at this

/-! The log. -/
def lastD (c : CoreD) : Int := c.base + c.l.length
def atD (c : CoreD) (i : Int) : Int × Bool :=
  if i = c.base then (c.baseTerm, true) else if i < c.base ∨ lastD c < i then (0, false) else (((c.l[(i - c.base - 1).toNat]?).map (·.term)).getD 0, true)
def entD (c : CoreD) (i : Int) : Option Ent := if i ≤ c.base ∨ lastD c < i then none else c.l[(i - c.base - 1).toNat]?
def fromD (c : CoreD) (i : Int) : List Ent := c.l.drop (max i (c.base + 1) - c.base - 1).toNat

def newD (cf : ConfD) (id term vote base baseTerm : Int) (l : List Ent) : CoreD :=
  { conf := cf, id := id, term := term, vote := vote, role := 0, leader := 0, commit := base, base := base, baseTerm := baseTerm, l := l, snap := [], draw := min ((id - 1) * (cf.heart + 6)) cf.range, patience := 0,
    votes := List.replicate 8 false, next := List.replicate 8 0, matc := List.replicate 8 0, hard := false, frm := 0, tsnap := false }
def mayNewD (cf : ConfD) (id term vote base baseTerm : Int) (l : List Ent) : Bool :=
  cf.may && inD id 1 cf.nodes && inD term 0 1099511627776 && inD vote 0 cf.nodes && inD base 0 1099511622680 && inD baseTerm 0 1099511627776 && decide (l.length ≤ 5096) && l.all fun e => inD e.term 1 1099511627776

def drawD (c : CoreD) (v : Int) : CoreD := { c with draw := max 0 (min v c.conf.range) }
def risesD (c : CoreD) (term vote : Int) : CoreD := { c with hard := c.hard || term != c.term || vote != c.vote, term := term, vote := vote }
def turnD (c : CoreD) (i : Int) : CoreD := { c with frm := if c.frm = 0 ∨ i < c.frm then i else c.frm }
def putD (c : CoreD) (e : Ent) : CoreD := turnD { c with l := c.l ++ [e] } (lastD c + 1)
def saysD (c : CoreD) (m : MsgD) (to : Int) : MsgD := { m with frm := c.id, to := to, term := c.term }
def msg0 : MsgD := { kind := 0, frm := 0, to := 0, term := 0, a := 0, b := 0, c := 0, ok := false, entries := [], data := [] }
def sendD (c : CoreD) (to : Int) : MsgD :=
  let next := c.next.getD to.toNat 0
  if next ≤ c.base then saysD c { msg0 with kind := 5, a := c.base, b := c.baseTerm, data := c.snap } to
  else saysD c { msg0 with kind := 3, a := next - 1, b := (atD c (next - 1)).1, c := c.commit, entries := (fromD c next).take 8 } to
/-- The other nodes' numbers. -/
def othersTo (id : Int) : Nat → List Int
  | 0 => []
  | k + 1 => if ((k + 1 : Nat) : Int) = id then othersTo id k else othersTo id k ++ [((k + 1 : Nat) : Int)]
def othersD (c : CoreD) (f : Int → MsgD) : List MsgD := (othersTo c.id c.conf.nodes.toNat).map f
def voteMsg (c : CoreD) (to : Int) : MsgD := saysD c { msg0 with kind := 1, a := lastD c, b := (atD c (lastD c)).1 } to
def runD (c : CoreD) : CoreD := { risesD c (c.term + 1) c.id with role := 1, leader := 0, patience := 0, votes := (List.replicate 8 false).set c.id.toNat true }
def tickD (c0 : CoreD) : CoreD × List MsgD :=
  let c := { c0 with patience := c0.patience + 1 }
  if c.role = 2 then
    if c.patience < c.conf.heart then (c, [])
    else
      let c := { c with patience := 0 }
      (c, othersD c (sendD c))
  else if c.patience < c.conf.lo + c.draw ∨ 1099511627776 ≤ c.term then (c, [])
  else (runD c, othersD (runD c) (voteMsg (runD c)))

/-- What holds of every core: no number is too great. -/
structure CoreOk (c : CoreD) : Prop where
  may : c.conf.may = true
  id : 1 ≤ c.id ∧ c.id ≤ c.conf.nodes
  term : 0 ≤ c.term ∧ c.term ≤ 1099511627776
  base : 0 ≤ c.base ∧ c.base ≤ c.commit
  baseTerm : 0 ≤ c.baseTerm ∧ c.baseTerm ≤ 1099511627776
  len : c.l.length ≤ 5096
  last : c.base + c.l.length ≤ 2199023255552
  commit : c.commit ≤ c.base + c.l.length
  draw : 0 ≤ c.draw ∧ c.draw ≤ 1000
  votes : c.votes.length = 8
  next : c.next.length = 8
  matc : c.matc.length = 8
  nexts : ∀ x ∈ c.next, 0 ≤ x ∧ x ≤ 2199023255553
  matcs : ∀ x ∈ c.matc, 0 ≤ x ∧ x ≤ 2199023255552
  ents : ∀ e ∈ c.l, 0 ≤ e.term ∧ e.term ≤ 1099511627776
  frm : 0 ≤ c.frm ∧ c.frm ≤ 2199023255553
  data : ∀ e ∈ c.l, e.data.length ≤ 1000000
  snap : c.snap.length ≤ 1000000

theorem newD_ok {cf : ConfD} {id term vote base baseTerm : Int} {l : List Ent} (h : mayNewD cf id term vote base baseTerm l = true) (hd : ∀ e ∈ l, e.data.length ≤ 1000000) : CoreOk (newD cf id term vote base baseTerm l) := by
  simp only [mayNewD, inD, Bool.and_eq_true, decide_eq_true_eq, List.all_eq_true] at h
  obtain ⟨⟨⟨⟨⟨⟨⟨h1, h2⟩, h3⟩, h4⟩, h5⟩, h6⟩, h7⟩, h8⟩ := h
  have hm := (ConfD.may_iff cf).1 h1
  have h9 : 0 ≤ (id - 1) * (cf.heart + 6) := Int.mul_nonneg (by omega) (by omega)
  exact { may := h1, id := h2, term := h3, base := ⟨h5.1, Int.le_refl _⟩, baseTerm := h6, len := h7, last := by show base + (l.length : Int) ≤ _; omega, commit := by show base ≤ base + _; omega,
          draw := ⟨by show 0 ≤ min _ _; omega, by show min _ _ ≤ _; omega⟩, votes := rfl, next := rfl, matc := rfl, nexts := by simp [newD], matcs := by simp [newD], ents := fun e he => by have := h8 e he; omega, frm := by simp [newD], data := hd, snap := by simp [newD] }

end Go.Proofs.Ytpppoajnbhipeaa
