/- Joined of CoreB, CoreC, CoreE. -/
import Derived.Test.YtpppoajnbhipeaaQ02

/- How entries, messages, a core lie in memory; the smallest methods. -/
namespace Go.Proofs.Ytpppoajnbhipeaa
open Go Go.RowKit

def entV (e : Ent) (v : Value) : Value := .agg #[.int .i64 e.term, .bool e.cmd, v]
def entL : Lay Ent where
  size := 3
  pos := by decide
  at_ w P cs e := ∃ v, cs = [.int .i64 e.term, .bool e.cmd, v] ∧ BytesAt w P v e.data
  len := fun ⟨v, e, _⟩ => by rw [e]; rfl
  one := fun ⟨v, e, h⟩ u hu => by
    rw [e] at hu
    obtain ⟨a, c, rfl⟩ := h.form
    simp at hu
    rcases hu with rfl | rfl | rfl <;> rfl
  keep := fun ⟨v, e, h⟩ k hP => ⟨v, e, h.keep k hP⟩
  mono := fun ⟨v, e, h⟩ hP => ⟨v, e, h.mono hP⟩

def msgV (m : MsgD) (ev dv : Value) : Value := .agg #[.int .i64 m.kind, .int .i64 m.frm, .int .i64 m.to, .int .i64 m.term, .int .i64 m.a, .int .i64 m.b, .int .i64 m.c, .bool m.ok, ev, dv]
def msgL : Lay MsgD where
  size := 10
  pos := by decide
  at_ w P cs m := ∃ ev dv, cs = [.int .i64 m.kind, .int .i64 m.frm, .int .i64 m.to, .int .i64 m.term, .int .i64 m.a, .int .i64 m.b, .int .i64 m.c, .bool m.ok, ev, dv] ∧ ListAt entL w P ev m.entries ∧ BytesAt w P dv m.data
  len := fun ⟨ev, dv, e, _⟩ => by rw [e]; rfl
  one := fun ⟨ev, dv, e, h1, h2⟩ u hu => by
    rw [e] at hu
    obtain ⟨a, c, rfl⟩ := h1.form
    obtain ⟨a2, c2, rfl⟩ := h2.form
    simp at hu
    rcases hu with rfl | rfl | rfl | rfl | rfl | rfl | rfl | rfl | rfl | rfl <;> rfl
  keep := fun ⟨ev, dv, e, h1, h2⟩ k hP => ⟨ev, dv, e, h1.keep k hP, h2.keep k hP⟩
  mono := fun ⟨ev, dv, e, h1, h2⟩ hP => ⟨ev, dv, e, h1.mono hP, h2.mono hP⟩

theorem Try.infoEnt : (Try.prog.info? 59).map (fun i => (i.zero, i.size, i.bytes)) = some (some (.agg #[.int .i64 0, .bool false, .slice none 0 0]), 3, 40) := by kernel_rfl
theorem Try.infoMsg : (Try.prog.info? 40).map (fun i => (i.zero, i.size, i.bytes)) = some (some (.agg #[.int .i64 0, .int .i64 0, .int .i64 0, .int .i64 0, .int .i64 0, .int .i64 0, .int .i64 0, .bool false, .slice none 0 0, .slice none 0 0]), 10, 112) := by kernel_rfl

/-! A core. -/
def bools (l : List Bool) : List Value := l.map Value.bool
def ints (l : List Int) : List Value := l.map (Value.int .i64)
def confCells (c : ConfD) : List Value := [.int .i64 c.nodes, .int .i64 c.clients, .int .i64 c.heart, .int .i64 c.lo, .int .i64 c.range, .int .i64 c.sessions, .int .i64 c.snap, .int .i64 c.room, .int .i64 c.retry]
def tailCells (c : CoreD) : List Value := bools c.votes ++ (ints c.next ++ (ints c.matc ++ [.bool c.hard, .int .i64 c.frm, .bool c.tsnap]))
def coreCells (c : CoreD) (lv sv : Value) : List Value :=
  .int .i64 c.conf.nodes :: .int .i64 c.conf.clients :: .int .i64 c.conf.heart :: .int .i64 c.conf.lo :: .int .i64 c.conf.range :: .int .i64 c.conf.sessions :: .int .i64 c.conf.snap :: .int .i64 c.conf.room :: .int .i64 c.conf.retry ::
  .int .i64 c.id :: .int .i64 c.term :: .int .i64 c.vote :: .int .i64 c.role :: .int .i64 c.leader :: .int .i64 c.commit :: .int .i64 c.base :: .int .i64 c.baseTerm :: lv :: sv :: .int .i64 c.draw :: .int .i64 c.patience :: tailCells c

def CoreBlk (w : World) (n : Nat) (c : CoreD) (lv sv : Value) : Prop := w.heap[n]? = some (.cells (coreCells c lv sv).toArray 89 (0, 0))

theorem CoreBlk.cell {w : World} {n : Nat} {c : CoreD} {lv sv : Value} (h : CoreBlk w n c lv sv) (i : Nat) : w.cell? ⟨n, i, none⟩ = (coreCells c lv sv)[i]? := by
  rw [cell_of_block h i]; simp
theorem CoreBlk.free {w : World} {n : Nat} {c : CoreD} {lv sv : Value} (h : CoreBlk w n c lv sv) (i : Nat) : w.frozen? ⟨n, i, none⟩ = false := frozen_of_row w n i _ _ h
theorem CoreBlk.lt {w : World} {n : Nat} {c : CoreD} {lv sv : Value} (h : CoreBlk w n c lv sv) : n < w.heap.size := (Array.getElem?_eq_some_iff.1 h).1
theorem CoreBlk.keep {w w' : World} {n : Nat} {c : CoreD} {lv sv : Value} {G : List Nat} (h : CoreBlk w n c lv sv) (k : Keeps G w w') (hn : n ∉ G) : CoreBlk w' n c lv sv := (k.block n h.lt hn).trans h

/-- What a core's blocks are not. -/
def Off (n : Nat) (lv : Value) (b : Nat) : Prop := b ≠ n ∧ b ∉ ownB lv

structure CoreAt (w : World) (B n : Nat) (c : CoreD) (lv sv : Value) : Prop where
  blk : CoreBlk w n c lv sv
  own : OwnAt entL 59 w B (fun b => Off n lv b ∧ ¬ c.ban b) lv c.l
  snap : BytesAt w (fun b => Off n lv b ∧ ¬ c.ban b) sv c.snap
  apart : n ∉ ownB lv
  base : B ≤ n
  old : ∀ b, c.ban b → b < w.heap.size
  free : ¬ c.ban n ∧ ∀ b ∈ ownB lv, ¬ c.ban b
  ok : CoreOk c

theorem CoreAt.keepB {w w' : World} {B n : Nat} {c : CoreD} {lv sv : Value} {G : List Nat} (h : CoreAt w B n c lv sv) (k : Keeps G w w') (hn : n ∉ G) (hv : ∀ b ∈ ownB lv, b ∉ G) (hG : ∀ b ∈ G, ¬ Off n lv b ∨ c.ban b ∨ w.heap.size ≤ b) : CoreAt w' B n c lv sv := by
  have hP : ∀ b, ((Off n lv b ∧ ¬ c.ban b) ∧ b < w.heap.size) → b ∉ G := fun b hb hb' => by
    rcases hG b hb' with h | h | h
    · exact h hb.1.1
    · exact hb.1.2 h
    · omega
  exact { blk := h.blk.keep k hn, own := ((h.own.mono (P' := fun b => (Off n lv b ∧ ¬ c.ban b) ∧ b < w.heap.size) (fun b h1 h2 => ⟨h2, h1⟩)).keep k hv hP).mono (fun b _ h => h.1),
          snap := ((h.snap.mono (P' := fun b => (Off n lv b ∧ ¬ c.ban b) ∧ b < w.heap.size) (fun b h1 h2 => ⟨h2, h1⟩)).keep k hP).mono (fun b _ h => h.1), apart := h.apart, base := h.base, old := fun b hb => Nat.lt_of_lt_of_le (h.old b hb) k.size, free := h.free, ok := h.ok }
theorem CoreAt.keep {w w' : World} {B n : Nat} {c : CoreD} {lv sv : Value} {G : List Nat} (h : CoreAt w B n c lv sv) (k : Keeps G w w') (hn : n ∉ G) (hv : ∀ b ∈ ownB lv, b ∉ G) (hG : ∀ b ∈ G, ¬ Off n lv b ∨ w.heap.size ≤ b) : CoreAt w' B n c lv sv :=
  h.keepB k hn hv (fun b hb => (hG b hb).imp (fun h => h) .inr)
/-- Blocks that came since are none of its own. -/
theorem CoreAt.banned {w w' : World} {B n : Nat} {c : CoreD} {lv sv : Value} (h : CoreAt w B n c lv sv) (k : Keeps [] w w') (X : Nat → Prop) (hX : ∀ b, X b → w.heap.size ≤ b ∧ b < w'.heap.size) (hl : ∀ b ∈ n :: ownB lv, b < w.heap.size) : CoreAt w' B n { c with ban := fun b => c.ban b ∨ X b } lv sv := by
  have nb : ∀ b, b < w.heap.size → ¬ c.ban b → ¬ (c.ban b ∨ X b) := fun b h1 h2 h3 => by
    rcases h3 with h3 | h3
    · exact h2 h3
    · have := (hX b h3).1; omega
  exact { blk := h.blk.keep k (by simp), own := ((h.own.mono (P' := fun b => Off n lv b ∧ ¬ (c.ban b ∨ X b)) (fun b h1 h2 => ⟨h2.1, nb b h1 h2.2⟩)).k k), snap := ((h.snap.mono (P' := fun b => Off n lv b ∧ ¬ (c.ban b ∨ X b)) (fun b h1 h2 => ⟨h2.1, nb b h1 h2.2⟩)).k k), apart := h.apart, base := h.base,
          old := fun b hb => by
            rcases hb with hb | hb
            · exact Nat.lt_of_lt_of_le (h.old b hb) k.size
            · exact (hX b hb).2
          free := ⟨nb n (hl n (by simp)) h.free.1, fun b hb => nb b (hl b (List.mem_cons_of_mem _ hb)) (h.free.2 b hb)⟩
          ok := { may := h.ok.may, id := h.ok.id, term := h.ok.term, base := h.ok.base, baseTerm := h.ok.baseTerm, len := h.ok.len, last := h.ok.last, commit := h.ok.commit, draw := h.ok.draw, votes := h.ok.votes, next := h.ok.next, matc := h.ok.matc, nexts := h.ok.nexts, matcs := h.ok.matcs, ents := h.ok.ents, frm := h.ok.frm, data := h.ok.data, snap := h.ok.snap } }
theorem CoreAt.k {w w' : World} {B n : Nat} {c : CoreD} {lv sv : Value} (h : CoreAt w B n c lv sv) (k : Keeps [] w w') : CoreAt w' B n c lv sv := h.keep k (by simp) (fun _ _ h => by cases h) (fun _ h => by cases h)
theorem CoreAt.form {w : World} {B n : Nat} {c : CoreD} {lv sv : Value} (h : CoreAt w B n c lv sv) : ∃ a k, lv = .slice a c.l.length k := h.own.form

set_option maxHeartbeats 400000 in
theorem own_any (e : Ent) (v : Value) (w : World) (hr : Reads w 1 v e.data.length (u8s e.data)) (hb : e.data.length ≤ 140737488355328) :
    Calls Try.prog 47 #[entV e v] w fun x w' => ∃ a c, x = .returned (entV e (.slice a e.data.length c)) ∧ w'.ownsRow w.heap.size 5 1 (.slice a e.data.length c) e.data.length (u8s e.data) ∧ Keeps [] w w' := by
  unfold entV
  have HR : Hid (∀ o, Reads (w.alloc o) 1 v e.data.length (u8s e.data)) := fun o => hr.keeps ((Keeps.refl [] w).alloc o) (fun _ _ h => by cases h)
  clear hr
  go_enter Try.func47, Try.ntmps47
  go_wp2_with fail
  refine (listB_any v e.data _ ((HR.out _).keeps ((Keeps.refl [] _).alloc _) (fun _ _ h => by cases h)) hb).mono ?_
  rintro x w1 ⟨a, c, rfl, o1, k1⟩
  have c0 : w1.cell? ⟨w.heap.size, 0, none⟩ = some (.int .i64 e.term) := (k1.cell (by simp; omega) (by simp)).trans (by simp)
  have c1 : w1.cell? ⟨w.heap.size, 1, none⟩ = some (.bool e.cmd) := (k1.cell (by simp; omega) (by simp)).trans (by simp)
  have c2 : w1.cell? ⟨w.heap.size, 2, none⟩ = some v := (k1.cell (by simp; omega) (by simp)).trans (by simp)
  have f2 : w1.frozen? ⟨w.heap.size, 2, none⟩ = false := (k1.frozen (by simp; omega) (by simp)).trans (by simp)
  have d0 : w1.cell? ⟨w.heap.size + 1, 0, none⟩ = some (.int .i64 0) := (k1.cell (by simp) (by simp)).trans (by simp)
  have d1 : w1.cell? ⟨w.heap.size + 1, 1, none⟩ = some (.bool false) := (k1.cell (by simp) (by simp)).trans (by simp)
  have d2 : w1.cell? ⟨w.heap.size + 1, 2, none⟩ = some (.slice none 0 0) := (k1.cell (by simp) (by simp)).trans (by simp)
  have g0 : w1.frozen? ⟨w.heap.size + 1, 0, none⟩ = false := (k1.frozen (by simp) (by simp)).trans (by simp)
  have g1 : w1.frozen? ⟨w.heap.size + 1, 1, none⟩ = false := (k1.frozen (by simp) (by simp)).trans (by simp)
  have g2 : w1.frozen? ⟨w.heap.size + 1, 2, none⟩ = false := (k1.frozen (by simp) (by simp)).trans (by simp)
  have O1 := hid o1
  have K1 := hid k1
  have Z1 : Hid (w.heap.size + 2 ≤ w1.heap.size) := by have := k1.size; simp at this; exact this
  clear o1 k1
  go_wp2_with fail
  have KF : Keeps [w.heap.size, w.heap.size + 1] w1 ((((w1.setCell ⟨w.heap.size, 2, none⟩ (.slice a e.data.length c)).setCell ⟨w.heap.size + 1, 0, none⟩ (.int .i64 e.term)).setCell ⟨w.heap.size + 1, 1, none⟩ (.bool e.cmd)).setCell ⟨w.heap.size + 1, 2, none⟩ (.slice a e.data.length c)) :=
    ((((Keeps.refl _ _).setCell (.inl (by simp)) _).setCell (.inl (by simp)) _).setCell (.inl (by simp)) _).setCell (.inl (by simp)) _
  refine bodyPost_ret (v := .agg #[.int .i64 e.term, .bool e.cmd, .slice a e.data.length c]) (by simp [results, Try.results47, go_sem, d0, d1, d2]) rfl ⟨a, c, rfl, ownsRow_base (ownsRow_keeps O1.out KF (fun b hb hb' => ?_)) (by simp; omega), ?_⟩
  · have := (ownB_ge O1.out b hb).1
    simp at this hb'
    omega
  · exact ((((Keeps.refl [] w).alloc _).alloc _).trans K1.out (fun _ _ h => h)).trans KF (fun b hb hb' => by simp at hb'; omega)

/-! What is asked of a core without turning it. -/
section
variable (w : World) (B n : Nat) (c : CoreD) (lv sv : Value) (h : CoreAt w B n c lv sv)
include h

set_option maxHeartbeats 400000 in
theorem cTerm_any : Calls Try.prog 29 #[.pointer (some ⟨n, 0, none⟩)] w fun e w' => e = .returned (.int .i64 c.term) ∧ w' = w := by
  have h1 : w.cell? ⟨n, 10, none⟩ = some (.int .i64 c.term) := h.blk.cell 10
  clear h
  go_enter Try.func29, Try.ntmps29
  go_wp2
  go_ret
  exact ⟨rfl, rfl⟩

set_option maxHeartbeats 400000 in
theorem cVote_any : Calls Try.prog 23 #[.pointer (some ⟨n, 0, none⟩)] w fun e w' => e = .returned (.int .i64 c.vote) ∧ w' = w := by
  have h1 : w.cell? ⟨n, 11, none⟩ = some (.int .i64 c.vote) := h.blk.cell 11
  clear h
  go_enter Try.func23, Try.ntmps23
  go_wp2
  go_ret
  exact ⟨rfl, rfl⟩

set_option maxHeartbeats 400000 in
theorem cRole_any : Calls Try.prog 32 #[.pointer (some ⟨n, 0, none⟩)] w fun e w' => e = .returned (.int .i64 c.role) ∧ w' = w := by
  have h1 : w.cell? ⟨n, 12, none⟩ = some (.int .i64 c.role) := h.blk.cell 12
  clear h
  go_enter Try.func32, Try.ntmps32
  go_wp2
  go_ret
  exact ⟨rfl, rfl⟩

set_option maxHeartbeats 400000 in
theorem cLeader_any : Calls Try.prog 33 #[.pointer (some ⟨n, 0, none⟩)] w fun e w' => e = .returned (.int .i64 c.leader) ∧ w' = w := by
  have h1 : w.cell? ⟨n, 13, none⟩ = some (.int .i64 c.leader) := h.blk.cell 13
  clear h
  go_enter Try.func33, Try.ntmps33
  go_wp2
  go_ret
  exact ⟨rfl, rfl⟩

set_option maxHeartbeats 400000 in
theorem cCommit_any : Calls Try.prog 30 #[.pointer (some ⟨n, 0, none⟩)] w fun e w' => e = .returned (.int .i64 c.commit) ∧ w' = w := by
  have h1 : w.cell? ⟨n, 14, none⟩ = some (.int .i64 c.commit) := h.blk.cell 14
  clear h
  go_enter Try.func30, Try.ntmps30
  go_wp2
  go_ret
  exact ⟨rfl, rfl⟩

set_option maxHeartbeats 400000 in
theorem cBase_any : Calls Try.prog 35 #[.pointer (some ⟨n, 0, none⟩)] w fun e w' => e = .returned (.tuple #[.int .i64 c.base, .int .i64 c.baseTerm]) ∧ ∃ k, w' = w.drewN k := by
  have h1 : w.cell? ⟨n, 15, none⟩ = some (.int .i64 c.base) := h.blk.cell 15
  have h2 : w.cell? ⟨n, 16, none⟩ = some (.int .i64 c.baseTerm) := h.blk.cell 16
  clear h
  go_enter Try.func35, Try.ntmps35
  go_wp2
  go_quiet (fail)
  go_wp2
  go_ret2
  exact ⟨rfl, _, rfl⟩

set_option maxHeartbeats 400000 in
theorem cLast_any : Calls Try.prog 25 #[.pointer (some ⟨n, 0, none⟩)] w fun e w' => e = .returned (.int .i64 (lastD c)) ∧ ∃ k, w' = w.drewN k := by
  obtain ⟨a, k, hf⟩ := h.form
  have h1 : w.cell? ⟨n, 15, none⟩ = some (.int .i64 c.base) := h.blk.cell 15
  have h2 : w.cell? ⟨n, 17, none⟩ = some (.slice a c.l.length k) := (h.blk.cell 17).trans (by rw [hf]; rfl)
  have b1 := h.ok.base.1
  have b2 := h.ok.last
  have b3 := h.ok.len
  clear h hf
  go_enter Try.func25, Try.ntmps25
  go_wp2
  go_quiet (fail)
  go_wp2
  go_ret
  exact ⟨rfl, _, rfl⟩

omit h in
/-- An entry's cells. -/
theorem OwnAt.ent {w : World} {B : Nat} {P : Nat → Prop} {lv : Value} {l : List Ent} (h : OwnAt entL 59 w B P lv l) {j : Nat} {e : Ent} (he : l[j]? = some e) : ∃ g k v, lv = .slice (some ⟨g, 0, none⟩) l.length k ∧ l.length ≤ k ∧ k ≤ maxLen ∧ w.cell? ⟨g, j * 3, none⟩ = some (.int .i64 e.term) ∧ w.cell? ⟨g, j * 3 + 1, none⟩ = some (.bool e.cmd) ∧ w.cell? ⟨g, j * 3 + 2, none⟩ = some v ∧ BytesAt w P v e.data := by
  have hj : j < l.length := (List.getElem?_eq_some_iff.1 he).1
  obtain ⟨css, h1, h2⟩ := h
  rcases h2.2 with ⟨_, h0⟩ | ⟨g, k, cur, rfl, _, _, hk, hm, _⟩
  · omega
  · have hl : ListAt entL w (fun _ => True) (.slice (some ⟨g, 0, none⟩) l.length k) l := ⟨css, h1.mono (fun _ _ _ => trivial), Reads.ofOwn h2, fun _ _ _ => trivial⟩
    obtain ⟨cs, h3, h4⟩ := hl.get he
    have hc : css[j]? = some (css[j]'(by rw [h1.1]; exact hj)) := List.getElem?_eq_getElem _
    obtain ⟨v, e1, h5⟩ := h1.2 j _ _ hc he
    refine ⟨g, k, v, rfl, hk, hm, ?_, ?_, ?_, h5⟩
    all_goals
      rw [h2.cellAt _ (by show _ < _ * 3; omega)]
    · have := flatten_get (n := 3) h1.lens hc (j := 0) (by omega)
      rw [e1] at this
      simpa using this
    · have := flatten_get (n := 3) h1.lens hc (j := 1) (by omega)
      rw [e1] at this
      simpa using this
    · have := flatten_get (n := 3) h1.lens hc (j := 2) (by omega)
      rw [e1] at this
      simpa using this

set_option maxHeartbeats 800000 in
theorem cAt_any (i : Int) (b1 : -4611686018427387904 ≤ i) (b2 : i ≤ 4611686018427387904) : Calls Try.prog 24 #[.pointer (some ⟨n, 0, none⟩), .int .i64 i] w fun e w' => e = .returned (.tuple #[.int .i64 (atD c i).1, .bool (atD c i).2]) ∧ ∃ k, w' = w.drewN k := by
  have h1 : w.cell? ⟨n, 15, none⟩ = some (.int .i64 c.base) := h.blk.cell 15
  have h2 : w.cell? ⟨n, 16, none⟩ = some (.int .i64 c.baseTerm) := h.blk.cell 16
  have o1 := h.ok.base.1
  have o2 := h.ok.last
  have o3 := h.ok.len
  by_cases hb : i = c.base
  · subst hb
    clear h
    go_enter Try.func24, Try.ntmps24
    go_wp2
    go_ret2
    exact ⟨ret_ib (by simp [atD]) (by simp [atD]), 0, rfl⟩
  · by_cases hlt : i < c.base
    · have HE : Hid (atD c i = (0, false)) := by show _ = _; unfold atD; rw [if_neg hb, if_pos (.inl hlt)]
      clear h
      have hb' : (i == c.base) = false := by simpa using hb
      go_enter Try.func24, Try.ntmps24
      go_wp2
      go_ret2
      exact ⟨ret_ib (congrArg Prod.fst HE.out).symm (congrArg Prod.snd HE.out).symm, 0, rfl⟩
    · have hb' : (i == c.base) = false := by simpa using hb
      have HL := hid (cLast_any w B n c lv sv h)
      by_cases hgt : lastD c < i
      · have HE : Hid (atD c i = (0, false)) := by show _ = _; unfold atD; rw [if_neg hb, if_pos (.inr hgt)]
        clear h
        go_enter Try.func24, Try.ntmps24
        go_wp2_with (go_at_call 25; go_must (refine HL.out.mono ?_; rintro e w' ⟨rfl, k, rfl⟩))
        go_ret2
        exact ⟨ret_ib (congrArg Prod.fst HE.out).symm (congrArg Prod.snd HE.out).symm, k, rfl⟩
      · obtain ⟨j, hj⟩ : ∃ j : Nat, i = c.base + 1 + j := ⟨(i - c.base - 1).toNat, by omega⟩
        have hjl : j < c.l.length := by unfold lastD at hgt; omega
        obtain ⟨e, he⟩ : ∃ e, c.l[j]? = some e := ⟨c.l[j], List.getElem?_eq_getElem hjl⟩
        obtain ⟨g, k, v, hf, _, _, e0, _⟩ := h.own.ent he
        have HE : Hid (atD c i = (e.term, true)) := by
          show _ = _
          unfold atD
          rw [if_neg hb, if_neg (by omega), show (i - c.base - 1).toNat = j by omega, he]
          rfl
        have h3 : w.cell? ⟨n, 17, none⟩ = some (.slice (some ⟨g, 0, none⟩) c.l.length k) := (h.blk.cell 17).trans (by rw [hf]; rfl)
        have w1 : IntKind.i64.wrap (i - c.base) = i - c.base := IntWalk.i64_in _ (by omega)
        have w2 : IntKind.i64.wrap (i - c.base - 1) = (j : Int) := by rw [IntWalk.i64_in _ (by omega)]; omega
        have j0 : (0 : Int) ≤ (j : Int) := Int.natCast_nonneg _
        have j1 : (j : Int) < (c.l.length : Int) := by omega
        have g1 : ¬ i < c.base := hlt
        have g2 : i ≤ lastD c := by omega
        clear h hf he hgt hj hjl
        go_enter Try.func24, Try.ntmps24
        go_wp2_with (go_at_call 25; go_must (refine HL.out.mono ?_; rintro e w' ⟨rfl, k, rfl⟩))
        go_quiet (fail)
        go_wp2
        go_ret2
        exact ⟨ret_ib (congrArg Prod.fst HE.out).symm (congrArg Prod.snd HE.out).symm, _, World.drewN_drewN ..⟩
end

end Go.Proofs.Ytpppoajnbhipeaa

/- Entry, From, Snapshot; Draw; what a core says. -/
namespace Go.Proofs.Ytpppoajnbhipeaa
open Go Go.RowKit

/-- A block known whole: its cells; none is frozen. -/
theorem blk3 {w : World} {b : Nat} {x0 x1 x2 : Value} {t : TypeId} (h : w.heap[b]? = some (.cells #[x0, x1, x2] t (0, 0))) :
    (w.cell? ⟨b, 0, none⟩ = some x0 ∧ w.cell? ⟨b, 1, none⟩ = some x1 ∧ w.cell? ⟨b, 2, none⟩ = some x2) ∧ ∀ i, w.frozen? ⟨b, i, none⟩ = false :=
  ⟨⟨cell_of_block h 0, cell_of_block h 1, cell_of_block h 2⟩, fun i => frozen_of_row w b i _ _ h⟩
theorem blk10 {w : World} {b : Nat} {x0 x1 x2 x3 x4 x5 x6 x7 x8 x9 : Value} {t : TypeId} (h : w.heap[b]? = some (.cells #[x0, x1, x2, x3, x4, x5, x6, x7, x8, x9] t (0, 0))) :
    (w.cell? ⟨b, 0, none⟩ = some x0 ∧ w.cell? ⟨b, 1, none⟩ = some x1 ∧ w.cell? ⟨b, 2, none⟩ = some x2 ∧ w.cell? ⟨b, 3, none⟩ = some x3 ∧ w.cell? ⟨b, 4, none⟩ = some x4 ∧ w.cell? ⟨b, 5, none⟩ = some x5 ∧ w.cell? ⟨b, 6, none⟩ = some x6 ∧ w.cell? ⟨b, 7, none⟩ = some x7 ∧ w.cell? ⟨b, 8, none⟩ = some x8 ∧ w.cell? ⟨b, 9, none⟩ = some x9) ∧ ∀ i, w.frozen? ⟨b, i, none⟩ = false :=
  ⟨⟨cell_of_block h 0, cell_of_block h 1, cell_of_block h 2, cell_of_block h 3, cell_of_block h 4, cell_of_block h 5, cell_of_block h 6, cell_of_block h 7, cell_of_block h 8, cell_of_block h 9⟩, fun i => frozen_of_row w b i _ _ h⟩

section
variable (w : World) (B n : Nat) (c : CoreD) (lv sv : Value) (h : CoreAt w B n c lv sv)
include h

set_option maxHeartbeats 400000 in
theorem cSnapshot_any : Calls Try.prog 36 #[.pointer (some ⟨n, 0, none⟩)] w (Copied c.snap w) := by
  have h1 : w.cell? ⟨n, 18, none⟩ = some sv := h.blk.cell 18
  have HB : Hid (Reads w 1 sv c.snap.length (u8s c.snap)) := h.snap.1
  have hb := h.ok.snap
  clear h
  go_enter Try.func36, Try.ntmps36
  go_wp2_with fail
  refine (listB_any sv c.snap _ HB.out (by omega)).mono ?_
  rintro e w1 ⟨a, k, rfl, o1, k1⟩
  have O1 := hid o1
  have K1 := hid k1
  clear o1 k1
  go_wp2_with fail
  go_ret
  exact ⟨a, k, rfl, O1.out, K1.out⟩

omit h in
theorem entD_some {c : CoreD} {i : Int} {e : Ent} (h : entD c i = some e) : ∃ j : Nat, i = c.base + 1 + j ∧ c.l[j]? = some e ∧ i ≤ lastD c := by
  unfold entD at h
  split at h
  · cases h
  · refine ⟨(i - c.base - 1).toNat, by omega, h, by omega⟩

set_option maxHeartbeats 800000 in
theorem cEntry_no (i : Int) (hn : entD c i = none) : Calls Try.prog 42 #[.pointer (some ⟨n, 0, none⟩), .int .i64 i] w fun e w' => e = .returned (.tuple #[entV ⟨0, false, []⟩ (.slice none 0 0), .bool false]) ∧ Keeps [] w w' := by
  have h1 : w.cell? ⟨n, 15, none⟩ = some (.int .i64 c.base) := h.blk.cell 15
  have hlt := h.blk.lt
  by_cases hb : i ≤ c.base
  · clear h hn
    go_enter Try.func42, Try.ntmps42
    go_wp2
    refine bodyPost_ret (v := .tuple #[entV ⟨0, false, []⟩ (.slice none 0 0), .bool false]) (by simp [results, Try.results42, go_sem, entV]) rfl ⟨rfl, ?_⟩
    exact Keeps.K
  · have HL : Hid (∀ o, Calls Try.prog 25 #[.pointer (some ⟨n, 0, none⟩)] (w.alloc o) fun e w' => e = .returned (.int .i64 (lastD c)) ∧ ∃ k, w' = (w.alloc o).drewN k) := fun o => cLast_any _ B n c lv sv (h.k ((Keeps.refl [] w).alloc o))
    have hgt : lastD c < i := by
      unfold entD at hn
      split at hn
      · omega
      · have hl := List.getElem?_eq_none_iff.1 hn
        unfold lastD
        omega
    clear h hn
    go_enter Try.func42, Try.ntmps42
    go_wp2_with (go_at_call 25; go_must (refine (HL.out _).mono ?_; rintro e w' ⟨rfl, k, rfl⟩))
    refine bodyPost_ret (v := .tuple #[entV ⟨0, false, []⟩ (.slice none 0 0), .bool false]) (by simp [results, Try.results42, go_sem, entV]) rfl ⟨rfl, ?_⟩
    exact Keeps.K

/-- What Entry, asked for an entry that is there, leaves. -/
def EntryYes (e : Ent) (w : World) (x : Ending) (w' : World) : Prop := ∃ a k, x = .returned (.tuple #[entV e (.slice a e.data.length k), .bool true]) ∧ BytesAt w' (fun b => w.heap.size ≤ b) (.slice a e.data.length k) e.data ∧ Keeps [] w w'

omit h in
theorem EntryYes.mk {e : Ent} {w w' w1 : World} {x : Ending} {a : Option Addr} {k : Nat} (hx : x = .returned (.tuple #[entV e (.slice a e.data.length k), .bool true])) (hB : w.heap.size ≤ w1.heap.size) (ho : w'.ownsRow w1.heap.size 5 1 (.slice a e.data.length k) e.data.length (u8s e.data)) (hk : Keeps [] w w') : EntryYes e w x w' :=
  ⟨a, k, hx, BytesAt.ofOwn ho rfl (fun b h1 _ => Nat.le_trans hB h1), hk⟩

set_option maxHeartbeats 800000 in
theorem cEntry_yes (i : Int) (e : Ent) (hs : entD c i = some e) : Calls Try.prog 42 #[.pointer (some ⟨n, 0, none⟩), .int .i64 i] w (EntryYes e w) := by
  have h1 : w.cell? ⟨n, 15, none⟩ = some (.int .i64 c.base) := h.blk.cell 15
  have hlt := h.blk.lt
  have HL : Hid (∀ o, Calls Try.prog 25 #[.pointer (some ⟨n, 0, none⟩)] (w.alloc o) fun e w' => e = .returned (.int .i64 (lastD c)) ∧ ∃ k, w' = (w.alloc o).drewN k) := fun o => cLast_any _ B n c lv sv (h.k ((Keeps.refl [] w).alloc o))
  obtain ⟨j, hj, he, hi⟩ := entD_some hs
  have hjl : j < c.l.length := (List.getElem?_eq_some_iff.1 he).1
  have o1 := h.ok.base.1
  have o2 := h.ok.last
  have o3 := h.ok.len
  have o4 := h.ok.data e (List.mem_of_getElem? he)
  obtain ⟨g, k, v, hf, _, _, e0, e1, e2, eb⟩ := h.own.ent he
  have EB : Hid (Reads w 1 v e.data.length (u8s e.data)) := eb.1
  have h3 : w.cell? ⟨n, 17, none⟩ = some (.slice (some ⟨g, 0, none⟩) c.l.length k) := (h.blk.cell 17).trans (by rw [hf]; rfl)
  have hb : ¬ i ≤ c.base := by omega
  have hgl : g < w.heap.size := World.block_lt_of_cell? _ _ e0
  have w1 : IntKind.i64.wrap (i - c.base) = i - c.base := IntWalk.i64_in _ (by omega)
  have w2 : IntKind.i64.wrap (i - c.base - 1) = (j : Int) := by rw [IntWalk.i64_in _ (by omega)]; omega
  have j0 : (0 : Int) ≤ (j : Int) := Int.natCast_nonneg _
  have j1 : (j : Int) < (c.l.length : Int) := by omega
  clear h hf he hs hj hjl eb
  go_enter Try.func42, Try.ntmps42
  go_wp2_with (go_at_call 25; go_must (refine (HL.out _).mono ?_; rintro e w' ⟨rfl, kd, rfl⟩))
  refine Plan.wp_region_plan (fun w' => w'.cell? ⟨n, 15, none⟩ = some (.int .i64 c.base) ∧ w'.cell? ⟨n, 17, none⟩ = some (.slice (some ⟨g, 0, none⟩) c.l.length k) ∧ w'.cell? ⟨g, j * 3, none⟩ = some (.int .i64 e.term) ∧ w'.cell? ⟨g, j * 3 + 1, none⟩ = some (.bool e.cmd) ∧ w'.cell? ⟨g, j * 3 + 2, none⟩ = some v) 11 [(true, 0), (true, 1), (true, 2), (true, 3), (true, 4), (true, 5), (true, 6), (true, 7), (true, 8), (true, 9), (true, 10)] (by kernel_rfl) (by as_aux_lemma => kernel_rfl) (by kernel_rfl) (fun _ _ _ _ _ h => h) ?_ (fun hS => ?_)
  (· go_simp)
  simp only [Plan.pick, List.append_eq, List.cons_append, List.nil_append, Plan.g1, Plan.g2, Option.getD_some, List.drop_succ_cons, List.drop_zero]
  repeat (first | (refine Plan.take (v := ?_) (a' := ?_) (by rfl) ?_ ?_ ?_; rotate_left 2; (· (intro w' hS'; (try dsimp only at hS'); go_simp; try with_reducible rfl)); (· (simp only [Act.put, List.setIfInBounds_toArray, List.set_cons_zero, List.set_cons_succ]; try with_reducible rfl))) | (refine Plan.pass (a' := ?_) (by rfl) ?_ ?_; rotate_left 1; (· (simp only [Act.put, List.setIfInBounds_toArray, List.set_cons_zero, List.set_cons_succ]; try with_reducible rfl))))
  refine Plan.fin ?_
  go_wp2_with fail
  refine (own_any e v _ (EB.out.keeps (((Keeps.refl [] w).alloc _).drewN _).drew (fun _ _ h => by cases h)) (by omega)).mono ?_
  rintro x w3 ⟨a, q, rfl, ho, hk⟩
  unfold entV
  obtain ⟨⟨c0, c1, c2⟩, f3⟩ := blk3 ((hk.block w.heap.size (by simp) (by simp)).trans (heap_alloc_new w _))
  have HO := hid ho
  have HK := hid hk
  clear ho hk
  go_wp2_with fail
  refine bodyPost_ret (v := .tuple #[entV e (.slice a e.data.length q), .bool true]) (by simp [results, Try.results42, go_sem, entV, c0, c1, c2]) rfl ?_
  have K3 : Keeps [] w w3 := ((((Keeps.refl [] w).alloc _).drewN _).drew).trans HK.out (fun _ _ h => h)
  have Z := HK.out.size
  refine EntryYes.mk (w1 := (((w.alloc _).drewN kd).drew)) rfl (by simp) (ownsRow_keeps (F := [w.heap.size]) HO.out ?_ (fun b hb hb' => ?_)) ?_
  (· exact Keeps.K)
  (· have := (ownB_ge HO.out b hb).1; simp at this hb'; omega)
  exact Keeps.K
end

end Go.Proofs.Ytpppoajnbhipeaa

/- From. -/
namespace Go.Proofs.Ytpppoajnbhipeaa
open Go Go.RowKit

/-- Entries in new memory: the row is the call's own; so are the entries' bytes. -/
def FreshEnts (w w' : World) (v : Value) (l : List Ent) : Prop := OwnAt entL 59 w' w.heap.size (fun b => w.heap.size ≤ b ∧ b ∉ ownB v) v l
def FromPost (l : List Ent) (w : World) (e : Ending) (w' : World) : Prop := ∃ a k, e = .returned (.slice a l.length k) ∧ FreshEnts w w' (.slice a l.length k) l ∧ Keeps [] w w'

theorem own_cap {w : World} {base e size n c : Nat} {a : Option Addr} {xs : List Value} (h : w.ownsRow base e size (.slice a n c) n xs) (hn : 0 < n) : n ≤ c ∧ c ≤ maxLen := by
  rcases h.2 with ⟨h0, _⟩ | ⟨g, cap, cur, hv, _, _, h1, h2, _⟩
  · simp at h0; omega
  · simp at hv
    obtain ⟨_, rfl⟩ := hv
    exact ⟨h1, h2⟩

theorem fromD_at {c : CoreD} {i : Int} {s : Nat} (h : max i (c.base + 1) = c.base + 1 + s) : fromD c i = c.l.drop s := by
  unfold fromD
  rw [h, show (c.base + 1 + (s : Int) - c.base - 1).toNat = s by omega]

theorem FromPost.nil {l : List Ent} {w w' : World} (hl : l = []) (k : Keeps [] w w') : FromPost l w (.returned (.slice none 0 0)) w' := by
  subst hl
  exact ⟨none, 0, rfl, OwnAt.nil _ _ _ _, k⟩

section
variable (w : World) (B n : Nat) (c : CoreD) (lv sv : Value) (h : CoreAt w B n c lv sv)
include h

set_option maxRecDepth 100000 in
set_option maxHeartbeats 1600000 in
theorem cFrom_any (i : Int) (b1 : -4611686018427387904 ≤ i) (b2 : i ≤ 4611686018427387904) : Calls Try.prog 28 #[.pointer (some ⟨n, 0, none⟩), .int .i64 i] w (FromPost (fromD c i) w) := by
  obtain ⟨it, hi0, hz0, hz1, hz2⟩ := info_parts Try.infoEnt
  have h1 : w.cell? ⟨n, 15, none⟩ = some (.int .i64 c.base) := h.blk.cell 15
  have HL : Hid (Calls Try.prog 25 #[.pointer (some ⟨n, 0, none⟩)] w fun e w' => e = .returned (.int .i64 (lastD c)) ∧ ∃ k, w' = w.drewN k) := cLast_any _ B n c lv sv h
  have o1 := h.ok.base.1
  have o2 := h.ok.last
  have o3 := h.ok.len
  obtain ⟨s, hs⟩ : ∃ s : Nat, max i (c.base + 1) = c.base + 1 + s := ⟨(max i (c.base + 1) - c.base - 1).toNat, by omega⟩
  have HF := hid (fromD_at hs)
  by_cases hgt : lastD c < c.base + 1 + s
  · have HE : Hid (fromD c i = []) := by
      show _ = _
      rw [HF.out]
      exact List.drop_eq_nil_of_le (by unfold lastD at hgt; omega)
    clear h
    rcases (show (i ≤ c.base + 1 ∧ lastD c < c.base + 1) ∨ (c.base + 1 < i ∧ lastD c < i) by omega) with ⟨hm, hg⟩ | ⟨hm, hg⟩
    all_goals
      clear hs hgt
      go_enter Try.func28, Try.ntmps28
      go_wp2_with (go_at_call 25; go_must (refine HL.out.mono ?_; rintro e w' ⟨rfl, kd, rfl⟩))
      all_goals
        go_ret
        exact FromPost.nil HE.out ((Keeps.refl _ _).drewN _)
  · have hsl : s < c.l.length := by unfold lastD at hgt; omega
    obtain ⟨e0, he0⟩ : ∃ e, c.l[s]? = some e := ⟨c.l[s], List.getElem?_eq_getElem hsl⟩
    obtain ⟨g, cap, v0, hf, hcl, hcm, ec, _⟩ := h.own.ent he0
    have hgl : g < w.heap.size := World.block_lt_of_cell? _ _ ec
    have HD : Hid (∀ (j : Nat) (e : Ent), c.l[j]? = some e → ∃ av cv, w.cell? ⟨g, j * 3, none⟩ = some (.int .i64 e.term) ∧ w.cell? ⟨g, j * 3 + 1, none⟩ = some (.bool e.cmd) ∧ w.cell? ⟨g, j * 3 + 2, none⟩ = some (.slice av e.data.length cv) ∧ Reads w 1 (.slice av e.data.length cv) e.data.length (u8s e.data) ∧ e.data.length ≤ 1000000) := fun j e he => by
      obtain ⟨g', k', v, hf', _, _, x0, x1, x2, xb⟩ := h.own.ent he
      rw [hf] at hf'
      simp at hf'
      obtain ⟨⟨rfl, _⟩, _⟩ := hf'
      obtain ⟨av, cv, rfl⟩ := xb.form
      exact ⟨av, cv, x0, x1, x2, xb.1, h.ok.data e (List.mem_of_getElem? he)⟩
    have h2 : w.cell? ⟨n, 17, none⟩ = some (.slice (some ⟨g, 0, none⟩) c.l.length cap) := (h.blk.cell 17).trans (by rw [hf]; rfl)
    obtain ⟨m, hm⟩ : ∃ m, c.l.length = s + m := ⟨c.l.length - s, by omega⟩
    have HM := hid hm
    have hc63 : (cap : Int) ≤ 9223372036854775807 := by unfold maxLen at hcm; omega
    have s0 : (0 : Int) ≤ (s : Int) := Int.natCast_nonneg _
    have s1 : (s : Int) ≤ (c.l.length : Int) := by omega
    have s2 : (s : Int) ≤ (cap : Int) := by omega
    have sc : ¬ cap = s := by omega
    have sc1 : s ≤ cap := by omega
    have sc2 : s ≤ c.l.length := by omega
    clear h hf he0 ec hcm
    obtain ⟨x, hx⟩ : ∃ x, x = c.base + 1 + (s : Int) := ⟨_, rfl⟩
    have w1 : IntKind.i64.wrap (x - c.base) = x - c.base := IntWalk.i64_in _ (by omega)
    have w2 : IntKind.i64.wrap (x - c.base - 1) = (s : Int) := by rw [IntWalk.i64_in _ (by omega)]; omega
    have hle : x ≤ lastD c := by omega
    rcases (show (i < x ∧ c.base + 1 = x) ∨ (c.base + 1 = x ∧ i = x) ∨ (¬ i ≤ c.base + 1 ∧ i = x) by omega) with ⟨hm1, hm2⟩ | ⟨hm1, hm2⟩ | ⟨hm1, hm2⟩
    rotate_left 1
    subst hm2
    rotate_left 1
    subst hm2
    all_goals
      clear hs hgt hm hx
      go_enter Try.func28, Try.ntmps28
      go_wp2_with (go_at_call 25; go_must (refine HL.out.mono ?_; rintro e w' ⟨rfl, kd, rfl⟩))
      all_goals
        go_quiet (fail)
        go_wp2_with fail
        clear w1 w2
        go_loopw [5, 33] (fun v i wr => ∃ (k : Nat) (a : Option Addr) (q : Nat), k ≤ m ∧ v = .slice a k q ∧ i = .int .i64 k ∧ Hid (FreshEnts w wr (.slice a k q) ((c.l.drop s).take k) ∧ Keeps [] w wr)) (fun _ i _ => m - (intOf i).toNat)
        case atStart => exact ⟨0, none, 0, Nat.zero_le _, rfl, rfl, by rw [List.take_zero]; exact OwnAt.nil _ _ _ _, ((Keeps.refl [] w).drewN _).drewN _⟩
        case round =>
          obtain ⟨k, a, q, hk, rfl, rfl, HW⟩ := hrel
          by_cases hlt : k < m
          · have i0 : (0 : Int) ≤ (k : Int) := Int.natCast_nonneg _
            have hmm : m ≤ 5096 := by have := HM.out; omega
            have i1 : (k : Int) < ((c.l.length - s : Nat) : Int) := by have := HM.out; omega
            have i2 : k < c.l.length - s := by have := HM.out; omega
            obtain ⟨e, he⟩ : ∃ e, c.l[s + k]? = some e := ⟨c.l[s + k]'(by have := HM.out; omega), List.getElem?_eq_getElem _⟩
            obtain ⟨av, cv, x0, x1, x2, xr, xl⟩ := HD.out (s + k) e he
            rw [Nat.add_mul] at x0 x1 x2
            have y0 := HW.out.2.cellSome x0 (by simp)
            have y1 := HW.out.2.cellSome x1 (by simp)
            have y2 := HW.out.2.cellSome x2 (by simp)
            have XR : Hid (Reads wr 1 (.slice av e.data.length cv) e.data.length (u8s e.data)) := xr.keeps HW.out.2 (fun _ _ h => by cases h)
            have HT : Hid ((c.l.drop s).take (k + 1) = (c.l.drop s).take k ++ [e]) := by
              show _ = _
              rw [List.take_add_one, List.getElem?_drop, he]
              rfl
            have HTL : Hid (((c.l.drop s).take k).length = k) := by
              show _ = _
              have := HM.out
              simp
              omega
            clear x0 x1 x2 xr he
            go_wp2_with fail
            refine (own_any e _ _ (XR.out.keeps ((Keeps.refl [] wr).alloc _) (fun _ _ h => by cases h)) (by omega)).mono ?_
            rintro z w3 ⟨a3, q3, rfl, ho, hk3⟩
            unfold entV
            have K3 : Hid (Keeps [] wr w3) := ((Keeps.refl [] wr).alloc _).trans hk3 (fun _ _ h => h)
            have HOW : Hid (OwnAt entL 59 w3 w.heap.size (fun b => w.heap.size ≤ b ∧ b ∉ ownB (.slice a k q)) (.slice a k q) ((c.l.drop s).take k)) := OwnAt.k HW.out.1 K3.out
            have HEL : Hid (∀ wx, Keeps [] w3 wx → entL.at_ wx (fun b => wr.heap.size ≤ b) [.int .i64 e.term, .bool e.cmd, .slice a3 e.data.length q3] e) := fun wx kx => ⟨_, rfl, BytesAt.k (BytesAt.ofOwn ho rfl (fun b hb _ => by simp at hb; omega)) kx⟩
            have HBB : Hid (∀ b, wr.heap.size ≤ b → w.heap.size ≤ b ∧ b ∉ ownB (.slice a k q)) := fun b hb => ⟨Nat.le_trans HW.out.2.size hb, fun hb' => by have := (OwnAt.ge HW.out.1 b hb').2; omega⟩
            have HZ : Hid (w.heap.size ≤ w3.heap.size) := Nat.le_trans HW.out.2.size K3.out.size
            clear ho hk3
            go_wp2_with (at_builtin; go_must (refine wpList_append_off (L := entL) (PB := fun b => wr.heap.size ≤ b) _ (by rfl) _ _ _ (by rfl) w.heap.size 59 it _ 40 Try.underlying35 hi0 hz0 hz1 hz2 rfl (R := fun b => w.heap.size ≤ b) (.slice a k q) (by rfl) ((c.l.drop s).take k) [e] k HTL.out [[.int .i64 e.term, .bool e.cmd, .slice a3 e.data.length q3]] (HOW.out.k ((Keeps.refl [] _).alloc _)) (.slice _ _ _) (by rfl) 1 rfl (ElemsAt.one1 (HEL.out _ ((Keeps.refl [] _).alloc _))) (Reads.one1 (heap_alloc_new _ _) rfl) (by omega) (le_maxLen (by omega)) (by exact Nat.le_trans HZ.out ((Keeps.refl [] _).alloc _).size) (fun b _ hb => HBB.out b hb) ?_; intro a4 q4 w4 ho4 hk4 hv4))
            go_roundw
            case rel =>
              refine ⟨k + 1, a4, q4, by omega, rfl, by go_num, ?_, ?_⟩
              · rw [HT.out]
                exact ho4.out
              · refine (HW.out.2.trans K3.out (fun _ _ h => h)).trans (((Keeps.refl _ _).alloc _).trans hk4.out (fun _ _ h => h)) (fun b hb hb' => ?_)
                have := (OwnAt.ge HOW.out b hb').1
                omega
            case measure => simp [intOf]; omega
          · have hkm : k = m := by omega
            subst hkm
            have i1 : ((c.l.length - s : Nat) : Int) ≤ (k : Int) := by have := HM.out; omega
            have HT : Hid ((c.l.drop s).take k = c.l.drop s) := by
              show _ = _
              have := HM.out
              exact List.take_of_length_le (by simp; omega)
            have HLN : Hid ((c.l.drop s).length = k) := by show _ = _; have := HM.out; simp; omega
            go_wp2_with fail
            go_ret
            refine ⟨a, q, ?_, ?_, HW.out.2⟩
            · rw [HF.out, HLN.out]; rfl
            · have := HW.out.1
              rw [HT.out] at this
              rw [HF.out, HLN.out]
              exact this
end

end Go.Proofs.Ytpppoajnbhipeaa
