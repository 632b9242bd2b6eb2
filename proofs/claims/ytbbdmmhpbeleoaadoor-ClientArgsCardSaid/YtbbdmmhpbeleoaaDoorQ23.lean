/- Joined of CoreA, CoreB, CoreC, CoreE, CoreF, CoreX, CoreJ, CoreK, CoreY, CoreL, ClA. -/
import Derived.Test.YtbbdmmhpbeleoaaDoorQ22
import Derived.Test.YtbbdmmhpbeleoaaDoorQ02
import Derived.Outline
import Derived.Test.YtbbdmmhpbeleoaaDoorQ04

set_option linter.unusedSimpArgs false
set_option linter.unusedVariables false

/- Package core's, its reference's smallest functions; which configs may be. -/
namespace Go.Proofs.YtbbdmmhpbeleoaaDoor
open Go Go.RowKit

/-- The cells of a config. -/
def confV (c : ConfD) : Value := .agg #[.int .i64 c.nodes, .int .i64 c.clients, .int .i64 c.heart, .int .i64 c.lo, .int .i64 c.range, .int .i64 c.sessions, .int .i64 c.snap, .int .i64 c.room, .int .i64 c.retry]

theorem ret_bool {a b : Bool} (h : a = b) : Ending.returned (.bool a) = .returned (.bool b) := by rw [h]
theorem ret_int {k : IntKind} {a b : Int} (h : a = b) : Ending.returned (.int k a) = .returned (.int k b) := by rw [h]

theorem ret_ib {k : IntKind} {a a' : Int} {b b' : Bool} (h : a = a') (g : b = b') : Ending.returned (.tuple #[.int k a, .bool b]) = .returned (.tuple #[.int k a', .bool b']) := by rw [h, g]

/-- An index that a fact tells. -/
theorem wpList_index {P : Program} {ops : Array Oper} {rest : List Oper} {o : Oper} {a : Act} {w : World} {Q : Exit → Act → World → Prop} (hgd : o.guard = none) (t : TypeId) (x i : Operand) (ho : o.op = .index t x i) (vx vi v : Value) (hx : a.eval x = vx) (hi : a.eval i = vi)
    (hrun : (Instr.index t vx vi).run P w = .ok v w) (h : wpList P ops Q rest (a.put o.dst v) w) : wpList P ops Q (o :: rest) a w := by
  refine wpList_plain hgd fun K hK => ?_
  unfold Oper.wp execOp
  simp only [ho, Sem.run_bind, Sem.run_pure, Result.andThen_ok, hx, hi, hrun]
  exact hK _ _ h

/-- The table's rows as the code makes them. -/
def ConfD.rowW (c : ConfD) : Nat → Int × Int × Int
  | 3 => (c.lo, wrap64 (c.heart + 1), 1000)
  | k => c.row k
theorem ConfD.rowW_eq (c : ConfD) (k : Nat) (h : c.mayTo k = true) : c.rowW k = c.row k := by
  unfold ConfD.rowW
  split
  · simp [ConfD.mayTo, ConfD.ok, ConfD.row, inD] at h
    rw [IntWalk.wrap64_in _ ⟨by omega, by omega⟩]
    rfl
  · rfl

end Go.Proofs.YtbbdmmhpbeleoaaDoor

/- How entries, messages, a core lie in memory; the smallest methods. -/
namespace Go.Proofs.YtbbdmmhpbeleoaaDoor
open Go Go.RowKit

def entV (e : Ent) (v : Value) : Value := .agg #[.int .i64 e.term, .bool e.cmd, v]
def entL : Lay Ent where
  size := 3
  pos := by decide
  at_ w P cs e := ∃ v, cs = [.int .i64 e.term, .bool e.cmd, v] ∧ BytesAt w P v e.data
  len := fun ⟨v, e, _⟩ => by rw [e]; rfl
  one := fun ⟨v, e, h⟩ u hu => by
    rw [e] at hu
    obtain ⟨a, c, rfl⟩ := h.form
    simp at hu
    rcases hu with rfl | rfl | rfl <;> rfl
  keep := fun ⟨v, e, h⟩ k hP => ⟨v, e, h.keep k hP⟩
  mono := fun ⟨v, e, h⟩ hP => ⟨v, e, h.mono hP⟩

def msgV (m : MsgD) (ev dv : Value) : Value := .agg #[.int .i64 m.kind, .int .i64 m.frm, .int .i64 m.«to», .int .i64 m.term, .int .i64 m.a, .int .i64 m.b, .int .i64 m.c, .bool m.ok, ev, dv]
def msgL : Lay MsgD where
  size := 10
  pos := by decide
  at_ w P cs m := ∃ ev dv, cs = [.int .i64 m.kind, .int .i64 m.frm, .int .i64 m.«to», .int .i64 m.term, .int .i64 m.a, .int .i64 m.b, .int .i64 m.c, .bool m.ok, ev, dv] ∧ ListAt entL w P ev m.entries ∧ BytesAt w P dv m.data
  len := fun ⟨ev, dv, e, _⟩ => by rw [e]; rfl
  one := fun ⟨ev, dv, e, h1, h2⟩ u hu => by
    rw [e] at hu
    obtain ⟨a, c, rfl⟩ := h1.form
    obtain ⟨a2, c2, rfl⟩ := h2.form
    simp at hu
    rcases hu with rfl | rfl | rfl | rfl | rfl | rfl | rfl | rfl | rfl | rfl <;> rfl
  keep := fun ⟨ev, dv, e, h1, h2⟩ k hP => ⟨ev, dv, e, h1.keep k hP, h2.keep k hP⟩
  mono := fun ⟨ev, dv, e, h1, h2⟩ hP => ⟨ev, dv, e, h1.mono hP, h2.mono hP⟩

theorem Tryd.infoEnt : (Tryd.prog.info? 172).map (fun i => (i.zero, i.size, i.bytes)) = some (some (.agg #[.int .i64 0, .bool false, .slice none 0 0]), 3, 40) := by kernel_rfl
theorem Tryd.infoMsg : (Tryd.prog.info? 46).map (fun i => (i.zero, i.size, i.bytes)) = some (some (.agg #[.int .i64 0, .int .i64 0, .int .i64 0, .int .i64 0, .int .i64 0, .int .i64 0, .int .i64 0, .bool false, .slice none 0 0, .slice none 0 0]), 10, 112) := by kernel_rfl

/-! A core. -/
def bools (l : List Bool) : List Value := l.map Value.bool
def ints (l : List Int) : List Value := l.map (Value.int .i64)
def confCells (c : ConfD) : List Value := [.int .i64 c.nodes, .int .i64 c.clients, .int .i64 c.heart, .int .i64 c.lo, .int .i64 c.range, .int .i64 c.sessions, .int .i64 c.snap, .int .i64 c.room, .int .i64 c.retry]
def tailCells (c : CoreD) : List Value := bools c.votes ++ (ints c.next ++ (ints c.matc ++ [.bool c.hard, .int .i64 c.frm, .bool c.tsnap]))
def coreCells (c : CoreD) (lv sv : Value) : List Value :=
  .int .i64 c.conf.nodes :: .int .i64 c.conf.clients :: .int .i64 c.conf.heart :: .int .i64 c.conf.lo :: .int .i64 c.conf.range :: .int .i64 c.conf.sessions :: .int .i64 c.conf.snap :: .int .i64 c.conf.room :: .int .i64 c.conf.retry ::
  .int .i64 c.id :: .int .i64 c.term :: .int .i64 c.vote :: .int .i64 c.role :: .int .i64 c.leader :: .int .i64 c.commit :: .int .i64 c.base :: .int .i64 c.baseTerm :: lv :: sv :: .int .i64 c.draw :: .int .i64 c.patience :: tailCells c

/-- What a core's blocks are not. -/
def Off (n : Nat) (lv : Value) (b : Nat) : Prop := b ≠ n ∧ b ∉ ownB lv

section
/-- An entry's cells. -/
theorem OwnAt.ent {w : World} {B : Nat} {P : Nat → Prop} {lv : Value} {l : List Ent} (h : OwnAt entL 172 w B P lv l) {j : Nat} {e : Ent} (he : l[j]? = some e) : ∃ g k v, lv = .slice (some ⟨g, 0, none⟩) l.length k ∧ l.length ≤ k ∧ k ≤ maxLen ∧ w.cell? ⟨g, j * 3, none⟩ = some (.int .i64 e.term) ∧ w.cell? ⟨g, j * 3 + 1, none⟩ = some (.bool e.cmd) ∧ w.cell? ⟨g, j * 3 + 2, none⟩ = some v ∧ BytesAt w P v e.data := by
  have hj : j < l.length := (List.getElem?_eq_some_iff.1 he).1
  obtain ⟨css, h1, h2⟩ := h
  rcases h2.2 with ⟨_, h0⟩ | ⟨g, k, cur, rfl, _, _, hk, hm, _⟩
  · omega
  · have hl : ListAt entL w (fun _ => True) (.slice (some ⟨g, 0, none⟩) l.length k) l := ⟨css, h1.mono (fun _ _ _ => trivial), Reads.ofOwn h2, fun _ _ _ => trivial⟩
    obtain ⟨cs, h3, h4⟩ := hl.get he
    have hc : css[j]? = some (css[j]'(by rw [h1.1]; exact hj)) := List.getElem?_eq_getElem _
    obtain ⟨v, e1, h5⟩ := h1.2 j _ _ hc he
    refine ⟨g, k, v, rfl, hk, hm, ?_, ?_, ?_, h5⟩
    all_goals
      rw [h2.cellAt _ (by show _ < _ * 3; omega)]
    · have := flatten_get (n := 3) h1.lens hc (j := 0) (by omega)
      rw [e1] at this
      simpa using this
    · have := flatten_get (n := 3) h1.lens hc (j := 1) (by omega)
      rw [e1] at this
      simpa using this
    · have := flatten_get (n := 3) h1.lens hc (j := 2) (by omega)
      rw [e1] at this
      simpa using this

end

end Go.Proofs.YtbbdmmhpbeleoaaDoor

/- Entry, From, Snapshot; Draw; what a core says. -/
namespace Go.Proofs.YtbbdmmhpbeleoaaDoor
open Go Go.RowKit



section
theorem entD_some {c : CoreD} {i : Int} {e : Ent} (h : entD c i = some e) : ∃ j : Nat, i = c.base + 1 + j ∧ c.l[j]? = some e ∧ i ≤ lastD c := by
  unfold entD at h
  split at h
  · cases h
  · refine ⟨(i - c.base - 1).toNat, by omega, h, by omega⟩

/-- What Entry, asked for an entry that is there, leaves. -/
def EntryYes (e : Ent) (w : World) (x : Ending) (w' : World) : Prop := ∃ a k, x = .returned (.tuple #[entV e (.slice a e.data.length k), .bool true]) ∧ BytesAt w' (fun b => w.heap.size ≤ b) (.slice a e.data.length k) e.data ∧ Keeps [] w w'

theorem EntryYes.mk {e : Ent} {w w' w1 : World} {x : Ending} {a : Option Addr} {k : Nat} (hx : x = .returned (.tuple #[entV e (.slice a e.data.length k), .bool true])) (hB : w.heap.size ≤ w1.heap.size) (ho : w'.ownsRow w1.heap.size 5 1 (.slice a e.data.length k) e.data.length (u8s e.data)) (hk : Keeps [] w w') : EntryYes e w x w' :=
  ⟨a, k, hx, BytesAt.ofOwn ho rfl (fun b h1 _ => Nat.le_trans hB h1), hk⟩

end

end Go.Proofs.YtbbdmmhpbeleoaaDoor

/- From. -/
namespace Go.Proofs.YtbbdmmhpbeleoaaDoor
open Go Go.RowKit

/-- Entries in new memory: the row is the call's own; so are the entries' bytes. -/
def FreshEnts (w w' : World) (v : Value) (l : List Ent) : Prop := OwnAt entL 172 w' w.heap.size (fun b => w.heap.size ≤ b ∧ b ∉ ownB v) v l
def FromPost (l : List Ent) (w : World) (e : Ending) (w' : World) : Prop := ∃ a k, e = .returned (.slice a l.length k) ∧ FreshEnts w w' (.slice a l.length k) l ∧ Keeps [] w w'

theorem own_cap {w : World} {base e size n c : Nat} {a : Option Addr} {xs : List Value} (h : w.ownsRow base e size (.slice a n c) n xs) (hn : 0 < n) : n ≤ c ∧ c ≤ maxLen := by
  rcases h.2 with ⟨h0, _⟩ | ⟨g, cap, cur, hv, _, _, h1, h2, _⟩
  · simp at h0; omega
  · simp at hv
    obtain ⟨_, rfl⟩ := hv
    exact ⟨h1, h2⟩

theorem fromD_at {c : CoreD} {i : Int} {s : Nat} (h : max i (c.base + 1) = c.base + 1 + s) : fromD c i = c.l.drop s := by
  unfold fromD
  rw [h, show (c.base + 1 + (s : Int) - c.base - 1).toNat = s by omega]

theorem FromPost.nil {l : List Ent} {w w' : World} (hl : l = []) (k : Keeps [] w w') : FromPost l w (.returned (.slice none 0 0)) w' := by
  subst hl
  exact ⟨none, 0, rfl, OwnAt.nil _ _ _ _, k⟩

section
end

end Go.Proofs.YtbbdmmhpbeleoaaDoor

/- What becomes of a core's memory where a field is written, where an entry comes behind its log. -/
namespace Go.Proofs.YtbbdmmhpbeleoaaDoor
open Go Go.RowKit

/-- An entry in new memory, as 'own' leaves it, as one element of a list. -/
theorem ent_elem {w w1 : World} {e : Ent} {a : Option Addr} {q : Nat} {P : Nat → Prop} (ho : w1.ownsRow w.heap.size 5 1 (.slice a e.data.length q) e.data.length (u8s e.data)) (hP : ∀ b, w.heap.size ≤ b → P b) : ∀ wx, Keeps [] w1 wx → entL.at_ wx P [.int .i64 e.term, .bool e.cmd, .slice a e.data.length q] e :=
  fun _ kx => ⟨_, rfl, BytesAt.k (BytesAt.ofOwn ho rfl (fun b hb _ => hP b hb)) kx⟩

theorem blk9 {w : World} {b : Nat} {x0 x1 x2 x3 x4 x5 x6 x7 x8 : Value} {t : TypeId} (h : w.heap[b]? = some (.cells #[x0, x1, x2, x3, x4, x5, x6, x7, x8] t (0, 0))) :
    (w.cell? ⟨b, 0, none⟩ = some x0 ∧ w.cell? ⟨b, 1, none⟩ = some x1 ∧ w.cell? ⟨b, 2, none⟩ = some x2 ∧ w.cell? ⟨b, 3, none⟩ = some x3 ∧ w.cell? ⟨b, 4, none⟩ = some x4 ∧ w.cell? ⟨b, 5, none⟩ = some x5 ∧ w.cell? ⟨b, 6, none⟩ = some x6 ∧ w.cell? ⟨b, 7, none⟩ = some x7 ∧ w.cell? ⟨b, 8, none⟩ = some x8) ∧ ∀ i, w.frozen? ⟨b, i, none⟩ = false :=
  ⟨⟨cell_of_block h 0, cell_of_block h 1, cell_of_block h 2, cell_of_block h 3, cell_of_block h 4, cell_of_block h 5, cell_of_block h 6, cell_of_block h 7, cell_of_block h 8⟩, fun i => frozen_of_row w b i _ _ h⟩

/-- The first conditions of New. -/
def headD (cf : ConfD) (id term vote base baseTerm : Int) (n : Nat) : Bool :=
  cf.may && inD id 1 cf.nodes && inD term 0 1099511627776 && inD vote 0 cf.nodes && inD base 0 1099511622680 && inD baseTerm 0 1099511627776 && decide (n ≤ 5096)
theorem mayNew_head (cf : ConfD) (id term vote base baseTerm : Int) (l : List Ent) : mayNewD cf id term vote base baseTerm l = (headD cf id term vote base baseTerm l.length && l.all fun e => inD e.term 1 1099511627776) := rfl

end Go.Proofs.YtbbdmmhpbeleoaaDoor

/- What a core says; Draw; rises. -/
namespace Go.Proofs.YtbbdmmhpbeleoaaDoor
open Go Go.RowKit

/-- A block's cells are no other block's. -/
theorem cDraw_bd (c : CoreD) (v : Int) (h : CoreOk c) : CoreOk (drawD c v) := by
  have hm := (ConfD.may_iff c.conf).1 h.may
  exact { may := h.may, id := h.id, term := h.term, base := h.base, baseTerm := h.baseTerm, len := h.len, last := h.last, commit := h.commit, draw := ⟨by show 0 ≤ max _ _; omega, by show max _ _ ≤ _; omega⟩, votes := h.votes, next := h.next, matc := h.matc, nexts := h.nexts, matcs := h.matcs, ents := h.ents, frm := h.frm, data := h.data, snap := h.snap }

theorem bools_set (l : List Bool) (i : Nat) (b : Bool) : (bools l).set i (.bool b) = bools (l.set i b) := by simp [bools, List.map_set]
theorem ints_set (l : List Int) (i : Nat) (b : Int) : (ints l).set i (.int .i64 b) = ints (l.set i b) := by simp [ints, List.map_set]
/-- The last cells of a core. -/
theorem tail_get (c : CoreD) (hv : c.votes.length = 8) (hn : c.next.length = 8) (hm : c.matc.length = 8) : (tailCells c)[24]? = some (.bool c.hard) ∧ (tailCells c)[25]? = some (.int .i64 c.frm) ∧ (tailCells c)[26]? = some (.bool c.tsnap) := by
  unfold tailCells bools ints
  refine ⟨?_, ?_, ?_⟩ <;>
  · rw [List.getElem?_append_right (by simp; omega), List.getElem?_append_right (by simp; omega), List.getElem?_append_right (by simp; omega)]
    simp [hv, hn, hm]
theorem tail_hard (c : CoreD) (hv : c.votes.length = 8) (hn : c.next.length = 8) (hm : c.matc.length = 8) (b : Bool) : (tailCells c).set 24 (.bool b) = tailCells { c with hard := b } := by
  unfold tailCells bools ints
  rw [List.set_append_right _ _ (by simp; omega), List.set_append_right _ _ (by simp; omega), List.set_append_right _ _ (by simp; omega)]
  simp [hv, hn, hm]
theorem tail_frm (c : CoreD) (hv : c.votes.length = 8) (hn : c.next.length = 8) (hm : c.matc.length = 8) (b : Int) : (tailCells c).set 25 (.int .i64 b) = tailCells { c with frm := b } := by
  unfold tailCells bools ints
  rw [List.set_append_right _ _ (by simp; omega), List.set_append_right _ _ (by simp; omega), List.set_append_right _ _ (by simp; omega)]
  simp [hv, hn, hm]
theorem tail_tsnap (c : CoreD) (hv : c.votes.length = 8) (hn : c.next.length = 8) (hm : c.matc.length = 8) (b : Bool) : (tailCells c).set 26 (.bool b) = tailCells { c with tsnap := b } := by
  unfold tailCells bools ints
  rw [List.set_append_right _ _ (by simp; omega), List.set_append_right _ _ (by simp; omega), List.set_append_right _ _ (by simp; omega)]
  simp [hv, hn, hm]
theorem tail_votes (c : CoreD) (hv : c.votes.length = 8) (i : Nat) (hi : i < 8) (b : Bool) : (tailCells c).set i (.bool b) = tailCells { c with votes := c.votes.set i b } := by
  unfold tailCells
  rw [List.set_append_left _ _ (by simp [bools]; omega), bools_set]
theorem tail_next (c : CoreD) (hv : c.votes.length = 8) (hn : c.next.length = 8) (i : Nat) (hi : i < 8) (b : Int) : (tailCells c).set (8 + i) (.int .i64 b) = tailCells { c with next := c.next.set i b } := by
  unfold tailCells
  rw [List.set_append_right _ _ (by simp [bools]; omega), List.set_append_left _ _ (by simp [bools, ints]; omega), show 8 + i - (bools c.votes).length = i by simp [bools]; omega, ints_set]
theorem tail_matc (c : CoreD) (hv : c.votes.length = 8) (hn : c.next.length = 8) (hm : c.matc.length = 8) (i : Nat) (hi : i < 8) (b : Int) : (tailCells c).set (16 + i) (.int .i64 b) = tailCells { c with matc := c.matc.set i b } := by
  unfold tailCells
  rw [List.set_append_right _ _ (by simp [bools]; omega), List.set_append_right _ _ (by simp [bools, ints]; omega), List.set_append_left _ _ (by simp [bools, ints]; omega), show 16 + i - (bools c.votes).length - (ints c.next).length = i by simp [bools, ints]; omega, ints_set]
theorem set21 (c : CoreD) (lv sv v : Value) (i : Nat) : (coreCells c lv sv).set (21 + i) v =
  .int .i64 c.conf.nodes :: .int .i64 c.conf.clients :: .int .i64 c.conf.heart :: .int .i64 c.conf.lo :: .int .i64 c.conf.range :: .int .i64 c.conf.sessions :: .int .i64 c.conf.snap :: .int .i64 c.conf.room :: .int .i64 c.conf.retry ::
  .int .i64 c.id :: .int .i64 c.term :: .int .i64 c.vote :: .int .i64 c.role :: .int .i64 c.leader :: .int .i64 c.commit :: .int .i64 c.base :: .int .i64 c.baseTerm :: lv :: sv :: .int .i64 c.draw :: .int .i64 c.patience :: (tailCells c).set i v := by
  unfold coreCells
  rw [show 21 + i = i + 21 by omega]
  rfl
theorem get21 (c : CoreD) (lv sv : Value) (i : Nat) : (coreCells c lv sv)[21 + i]? = (tailCells c)[i]? := by
  unfold coreCells
  rw [show 21 + i = i + 21 by omega]
  rfl

theorem risesD_ok {c : CoreD} {t v : Int} (h : CoreOk c) (ht : 0 ≤ t ∧ t ≤ 1099511627776) : CoreOk (risesD c t v) :=
  { may := h.may, id := h.id, term := ht, base := h.base, baseTerm := h.baseTerm, len := h.len, last := h.last, commit := h.commit, draw := h.draw, votes := h.votes, next := h.next, matc := h.matc, nexts := h.nexts, matcs := h.matcs, ents := h.ents, frm := h.frm, data := h.data, snap := h.snap }

end Go.Proofs.YtbbdmmhpbeleoaaDoor

/- wrong: is it no message? (Printed by gen_wrong.py.) -/
namespace Go.Proofs.YtbbdmmhpbeleoaaDoor
open Go Go.RowKit

end Go.Proofs.YtbbdmmhpbeleoaaDoor

/- wrong, the entries. (Printed by gen_wrong.py.) -/
namespace Go.Proofs.YtbbdmmhpbeleoaaDoor
open Go Go.RowKit

end Go.Proofs.YtbbdmmhpbeleoaaDoor

/- The votes that are asked for: the closure of Tick, others with it. -/
namespace Go.Proofs.YtbbdmmhpbeleoaaDoor
open Go Go.RowKit

/-- Messages in new memory. -/
def FreshMsgs (w w' : World) (v : Value) (l : List MsgD) : Prop := OwnAt msgL 46 w' w.heap.size (fun b => w.heap.size ≤ b ∧ b ∉ ownB v) v l
def MsgsPost (l : List MsgD) (w : World) (e : Ending) (w' : World) : Prop := ∃ a q, e = .returned (.slice a l.length q) ∧ FreshMsgs w w' (.slice a l.length q) l ∧ Keeps [] w w'

theorem othersTo_skip {id : Int} {k : Nat} (h : ((k : Nat) : Int) + 1 = id) : othersTo id (k + 1) = othersTo id k := by
  rw [othersTo, if_pos (by omega)]
theorem othersTo_take {id : Int} {k : Nat} (h : ¬ ((k : Nat) : Int) + 1 = id) : othersTo id (k + 1) = othersTo id k ++ [(k : Int) + 1] := by
  rw [othersTo, if_neg (by omega)]
  simp
theorem othersTo_len (id : Int) : ∀ k, (othersTo id k).length ≤ k
  | 0 => Nat.le_refl _
  | k + 1 => by
    have := othersTo_len id k
    unfold othersTo
    split
    · omega
    · simp; omega

def votMsg (c : CoreD) (tm «to» : Int) : MsgD := { kind := 1, frm := c.id, «to» := «to», term := c.term, a := lastD c, b := tm, c := 0, ok := false, entries := [], data := [] }

end Go.Proofs.YtbbdmmhpbeleoaaDoor

/- What a core's calls give: messages in new memory; answer; asked. -/
namespace Go.Proofs.YtbbdmmhpbeleoaaDoor
open Go Go.RowKit

/-- Messages in new memory, off the core. -/
def MsgsAt (w w' : World) (n : Nat) (lv v : Value) (l : List MsgD) : Prop :=
  OwnAt msgL 46 w' w.heap.size (fun b => (w.heap.size ≤ b ∧ Off n lv b) ∧ b ∉ ownB v) v l ∧ ∀ b ∈ ownB v, Off n lv b
theorem MsgsAt.nil (w w' : World) (n : Nat) (lv : Value) : MsgsAt w w' n lv (.slice none 0 0) [] := ⟨OwnAt.nil _ _ _ _, fun b hb => by simp [mem_ownB, Value.ownBlock] at hb⟩
theorem MsgsAt.list {w w' : World} {n : Nat} {lv v : Value} {l : List MsgD} (h : MsgsAt w w' n lv v l) : ListAt msgL w' (fun b => w.heap.size ≤ b ∧ Off n lv b) v l :=
  OwnAt.list h.1 (fun _ _ hb => hb.1) (fun b hb => ⟨(OwnAt.ge h.1 b hb).1, h.2 b hb⟩)

theorem ListAt.nilOf {α : Type} {L : Lay α} {w : World} {P : Nat → Prop} {a : Option Addr} {n c : Nat} {l : List α} (h : ListAt L w P (.slice a n c) l) : n = l.length := by
  obtain ⟨x, y, e⟩ := h.form
  simp at e
  exact e.2.1
/-- One message, in a row of its own. -/
theorem msgs_one {w w1 : World} {m : MsgD} {ev dv : Value} (k : Keeps [] w w1) (he : ListAt entL w1 (fun b => w.heap.size ≤ b) ev m.entries) (hd : BytesAt w1 (fun b => w.heap.size ≤ b) dv m.data) :
    MsgsPost [m] w (.returned (.slice (some ⟨w1.heap.size, 0, none⟩) 1 1)) (w1.alloc (.cells #[.int .i64 m.kind, .int .i64 m.frm, .int .i64 m.«to», .int .i64 m.term, .int .i64 m.a, .int .i64 m.b, .int .i64 m.c, .bool m.ok, ev, dv] 46)) := by
  have k1 : Keeps [] w1 (w1.alloc (.cells #[.int .i64 m.kind, .int .i64 m.frm, .int .i64 m.«to», .int .i64 m.term, .int .i64 m.a, .int .i64 m.b, .int .i64 m.c, .bool m.ok, ev, dv] 46)) := (Keeps.refl _ _).alloc _
  have e1 := (he.mono (P' := fun b => w.heap.size ≤ b ∧ b < w1.heap.size) (fun b h1 h2 => ⟨h2, h1⟩)).k k1
  have d1 := (hd.mono (P' := fun b => w.heap.size ≤ b ∧ b < w1.heap.size) (fun b h1 h2 => ⟨h2, h1⟩)).k k1
  have hb : ∀ b, b ∈ ownB (.slice (some ⟨w1.heap.size, 0, none⟩) 1 1) → b = w1.heap.size := fun b hb => by simpa [mem_ownB, Value.ownBlock, eq_comm] using hb
  have hP : ∀ b, w.heap.size ≤ b ∧ b < w1.heap.size → w.heap.size ≤ b ∧ b ∉ ownB (.slice (some ⟨w1.heap.size, 0, none⟩) 1 1) := fun b h => ⟨h.1, fun h2 => by have := hb b h2; omega⟩
  refine ⟨_, _, rfl, ⟨[[.int .i64 m.kind, .int .i64 m.frm, .int .i64 m.«to», .int .i64 m.term, .int .i64 m.a, .int .i64 m.b, .int .i64 m.c, .bool m.ok, ev, dv]], ElemsAt.one1 ⟨ev, dv, rfl, e1.mono (fun b _ h => hP b h), d1.mono (fun b _ h => hP b h)⟩, ?_⟩, k.trans k1 (fun _ _ h => h)⟩
  exact World.ownsRow_lit (size := 10) w1 _ 1 k.size (le_maxLen (by omega)) rfl

end Go.Proofs.YtbbdmmhpbeleoaaDoor

/- A client: plain; how it lies in memory; what it tells. -/
namespace Go.Proofs.YtbbdmmhpbeleoaaDoor
open Go Go.RowKit

structure CliD where
  conf : ConfD
  id : Int
  node : Int
  session : Int
  seq : Int
  request : Int
  waited : Int
  call : CmdD
  last : MsgD
  does : Nat
  reply : ReplyD
/-- The same message goes «to» a node. -/
def againD (c : CliD) (node : Int) : CliD × List MsgD := ({ c with node := node, waited := 0 }, [⟨c.last.kind, c.last.frm, node, c.last.term, c.last.a, c.last.b, c.last.c, c.last.ok, c.last.entries, c.last.data⟩])
/-- What it asks: for a session, or for the call. -/
def cAskC (c : CliD) : CmdD := if 0 < c.session then { c.call with session := c.session, seq := c.seq + 1 } else oneC
def cAskedC (c : CliD) : CliD :=
  { c with seq := if 0 < c.session then c.seq + 1 else c.seq, does := if 0 < c.session then 2 else 1, request := c.request + 1, last := ⟨6, c.id, 0, 0, 0, 0, c.request + 1, false, [], putC (cAskC c)⟩ }
def cAskD (c : CliD) : CliD × List MsgD := againD (cAskedC c) c.node
/-- A call: what it is then, its messages, its error. -/
def callD (c : CliD) (x : CmdD) : CliD × List MsgD × Int :=
  if c.does ≠ 0 then (c, [], 20)
  else if x.kind = 1 ∨ checkC { x with session := 1, seq := 1 } = false then (c, [], 1)
  else if 1099511627775 ≤ c.seq ∨ 1099511627775 ≤ c.request then (c, [], 2)
  else ((cAskD { c with call := { x with session := 1, seq := 1 } }).1, (cAskD { c with call := { x with session := 1, seq := 1 } }).2, 0)
def ctickD (c : CliD) : CliD × List MsgD :=
  if c.does = 0 then (c, [])
  else if c.waited + 1 < c.conf.retry then ({ c with waited := c.waited + 1 }, [])
  else againD { c with waited := c.waited + 1 } (c.node.tmod c.conf.nodes + 1)
def openedD (c : CliD) (r : ReplyD) : CliD × List MsgD × Bool :=
  if r.err ≠ 0 ∨ r.n < 1 then (c, [], false) else ((cAskD { c with session := r.n, seq := 0 }).1, (cAskD { c with session := r.n, seq := 0 }).2, false)
def overD (c : CliD) (r : ReplyD) : CliD × List MsgD × Bool := ({ c with reply := r, does := 0, session := if r.err = 16 then 0 else c.session }, [], true)
/-- Is a message an answer «to» what it asked last? -/
def deafD (c : CliD) (m : MsgD) : Bool := c.does == 0 || m.kind != 7 || m.«to» != c.id || decide (m.frm < 1) || decide (c.conf.nodes < m.frm) || m.c != c.request
def chearD (c : CliD) (m : MsgD) : CliD × List MsgD × Bool :=
  if deafD c m = true then (c, [], false)
  else if m.ok = false then
    if m.a < 1 ∨ c.conf.nodes < m.a ∨ m.a = c.node then (c, [], false) else ((againD c m.a).1, (againD c m.a).2, false)
  else if (getR m.data).2 = false then (c, [], false)
  else if c.does = 1 then openedD c (getR m.data).1 else overD c (getR m.data).1

/-- What holds of a client at all times. -/
structure CliOk (c : CliD) : Prop where
  nodes : 3 ≤ c.conf.nodes ∧ c.conf.nodes ≤ 7
  retry : 1 ≤ c.conf.retry ∧ c.conf.retry ≤ 1000000
  waited : 0 ≤ c.waited ∧ c.waited ≤ c.conf.retry
  node : 1 ≤ c.node ∧ c.node ≤ c.conf.nodes
  session : 0 ≤ c.session ∧ c.session ≤ 1099511627776
  seq : 0 ≤ c.seq ∧ c.seq ≤ 1099511627776
  request : 0 ≤ c.request ∧ c.request ≤ 1099511627777
  call : CmdW c.call
  data : c.last.data.length ≤ 3000000
  does : c.does ≤ 2
  first : c.does = 1 → c.session = 0 ∧ c.request ≤ 1099511627776

def cmdCells (c : CmdD) : List Value := [.int .i64 c.kind, .int .i64 c.session, .int .i64 c.seq, .string c.field, .int .i64 c.version, .int .i64 c.value.kind, .int .i64 c.value.n, .string c.value.s]
def replyCells (r : ReplyD) : List Value := [.int .i64 r.err, .int .i64 r.n, .int .i64 r.value.kind, .int .i64 r.value.n, .string r.value.s]
def cliCells (c : CliD) (dv fv : Value) : Array Value := #[.int .i64 c.conf.nodes, .int .i64 c.conf.clients, .int .i64 c.conf.heart, .int .i64 c.conf.lo, .int .i64 c.conf.range, .int .i64 c.conf.sessions, .int .i64 c.conf.snap, .int .i64 c.conf.room, .int .i64 c.conf.retry,
  .int .i64 c.id, .int .i64 c.node, .int .i64 c.session, .int .i64 c.seq, .int .i64 c.request, .int .i64 c.waited,
  .int .i64 c.call.kind, .int .i64 c.call.session, .int .i64 c.call.seq, .string c.call.field, .int .i64 c.call.version, .int .i64 c.call.value.kind, .int .i64 c.call.value.n, .string c.call.value.s,
  .int .i64 c.last.kind, .int .i64 c.last.frm, .int .i64 c.last.«to», .int .i64 c.last.term, .int .i64 c.last.a, .int .i64 c.last.b, .int .i64 c.last.c, .bool c.last.ok, .slice none 0 0, dv,
  fv, .int .i64 c.reply.err, .int .i64 c.reply.n, .int .i64 c.reply.value.kind, .int .i64 c.reply.value.n, .string c.reply.value.s]

/-- What an answer does: a closure over the client's own variable. -/
def NextAt (w : World) (n : Nat) (Q : Nat → Prop) (does : Nat) (fv : Value) : Prop :=
  (does = 0 ∧ fv = .nilFunc) ∨
  (∃ f g, (does = 1 ∧ f = 47 ∨ does = 2 ∧ f = 49) ∧ fv = .func (.func f) #[] #[.pointer (some ⟨g, 0, none⟩)] ∧ w.heap[g]? = some (.cells #[.pointer (some ⟨n, 0, none⟩)] 35 (0, 0)) ∧ Q g)
structure CliAt (w : World) (n : Nat) (Q : Nat → Prop) (c : CliD) (dv fv : Value) : Prop where
  row : w.heap[n]? = some (.cells (cliCells c dv fv) 63 (0, 0))
  data : BytesAt w Q dv c.last.data
  ents : c.last.entries = []
  next : NextAt w n Q c.does fv
  off : ¬ Q n

theorem NextAt.keep {G : List Nat} {w w' : World} {n : Nat} {Q : Nat → Prop} {d : Nat} {fv : Value} (h : NextAt w n Q d fv) (k : Keeps G w w') (hQ : ∀ b, Q b → b ∉ G) : NextAt w' n Q d fv := by
  rcases h with h | ⟨f, g, h1, h2, h3, h4⟩
  · exact .inl h
  · exact .inr ⟨f, g, h1, h2, (k.block _ (Array.getElem?_eq_some_iff.1 h3).1 (hQ _ h4)).trans h3, h4⟩
theorem CliAt.keep {G : List Nat} {w w' : World} {n : Nat} {Q : Nat → Prop} {c : CliD} {dv fv : Value} (h : CliAt w n Q c dv fv) (k : Keeps G w w') (hn : n ∉ G) (hQ : ∀ b, Q b → b ∉ G) : CliAt w' n Q c dv fv :=
  ⟨(k.block _ (Array.getElem?_eq_some_iff.1 h.row).1 hn).trans h.row, h.data.keep k hQ, h.ents, h.next.keep k hQ, h.off⟩
theorem CliAt.k {w w' : World} {n : Nat} {Q : Nat → Prop} {c : CliD} {dv fv : Value} (h : CliAt w n Q c dv fv) (k : Keeps [] w w') : CliAt w' n Q c dv fv := h.keep k (by simp) (by simp)
theorem CliAt.lt {w : World} {n : Nat} {Q : Nat → Prop} {c : CliD} {dv fv : Value} (h : CliAt w n Q c dv fv) : n < w.heap.size := (Array.getElem?_eq_some_iff.1 h.row).1
/-- Cells of its own row are written anew; what it asked last, and what an answer does, stay. -/
theorem CliAt.set {w w' : World} {n : Nat} {Q : Nat → Prop} {c c' : CliD} {dv fv : Value} (h : CliAt w n Q c dv fv) (k : Keeps [n] w w') (hr : w'.heap[n]? = some (.cells (cliCells c' dv fv) 63 (0, 0))) (hl : c'.last.data = c.last.data) (he : c'.last.entries = []) (hd : c'.does = c.does) : CliAt w' n Q c' dv fv := by
  have hQ : ∀ b, Q b → b ∉ [n] := fun b hb hm => by simp at hm; subst hm; exact h.off hb
  exact ⟨hr, by rw [hl]; exact h.data.keep k hQ, he, by rw [hd]; exact h.next.keep k hQ, h.off⟩
def CliPost (n : Nat) (Q : Nat → Prop) (c' : CliD) (l : List MsgD) (w : World) (v : Value) (w' : World) : Prop :=
  ∃ a q dv fv, v = .slice a l.length q ∧ CliAt w' n Q c' dv fv ∧ ListAt msgL w' (fun b => w.heap.size ≤ b) (.slice a l.length q) l ∧ Keeps [n] w w'
theorem CliPost.silent {n : Nat} {Q : Nat → Prop} {c : CliD} {w w' : World} {dv fv : Value} (h : CliAt w' n Q c dv fv) (k : Keeps [n] w w') : CliPost n Q c [] w (.slice none 0 0) w' :=
  ⟨none, 0, dv, fv, rfl, h, ListAt.nil _ _ _ _, k⟩

section
variable {w : World} {n : Nat} {Q : Nat → Prop} {c : CliD} {dv fv : Value} (h : CliAt w n Q c dv fv)
include h
theorem CliAt.cell (i : Nat) : w.cell? ⟨n, i, none⟩ = (cliCells c dv fv)[i]? := cell_of_block h.row i
theorem CliAt.free (i : Nat) : w.frozen? ⟨n, i, none⟩ = false := frozen_of_row w n i _ _ h.row

set_option maxRecDepth 100000 in
theorem clBusy_any : Calls Tryd.prog 14 #[.pointer (some ⟨n, 0, none⟩)] w fun e w' => e = .returned (.bool (c.does != 0)) ∧ Keeps [] w w' := by
  have x33 : w.cell? ⟨n, 33, none⟩ = some fv := h.cell 33
  have hN := h.next
  clear h
  rcases hN with ⟨h0, rfl⟩ | ⟨f, g, hd, rfl, -, -⟩
  · rw [h0]
    have b0 : ∀ w : World, Sem.run Tryd.prog (binOp BinOp.neq 61 Value.nilFunc Value.nilFunc) w = Result.ok (.bool false) w := fun _ => by kernel_rfl
    go_enter Tryd.func14, Tryd.ntmps14
    go_wp2_with fail
    go_ret
    exact ⟨rfl, Keeps.K⟩
  · have hd0 : (c.does != 0) = true := by simp; omega
    rw [hd0]
    clear hd hd0
    have b0 : ∀ w : World, Sem.run Tryd.prog (binOp BinOp.neq 61 (.func (.func f) #[] #[.pointer (some ⟨g, 0, none⟩)]) Value.nilFunc) w = Result.ok (.bool true) w := fun _ => by kernel_rfl
    go_enter Tryd.func14, Tryd.ntmps14
    go_wp2_with fail
    go_ret
    exact ⟨rfl, Keeps.K⟩
set_option maxRecDepth 100000 in
theorem clSession_any : Calls Tryd.prog 34 #[.pointer (some ⟨n, 0, none⟩)] w fun e w' => e = .returned (.int .i64 c.session) ∧ Keeps [] w w' := by
  have x11 : w.cell? ⟨n, 11, none⟩ = some (.int .i64 c.session) := h.cell 11
  clear h
  go_enter Tryd.func34, Tryd.ntmps34
  go_wp2_with fail
  go_ret
  exact ⟨rfl, Keeps.K⟩
set_option maxRecDepth 100000 in
theorem clSeq_any : Calls Tryd.prog 35 #[.pointer (some ⟨n, 0, none⟩)] w fun e w' => e = .returned (.int .i64 c.seq) ∧ Keeps [] w w' := by
  have x12 : w.cell? ⟨n, 12, none⟩ = some (.int .i64 c.seq) := h.cell 12
  clear h
  go_enter Tryd.func35, Tryd.ntmps35
  go_wp2_with fail
  go_ret
  exact ⟨rfl, Keeps.K⟩
end

end Go.Proofs.YtbbdmmhpbeleoaaDoor
