/- How entries, messages, a core lie in memory; the smallest methods. -/
import Derived.Test.YtpppoajnbhipeaaCoreA
namespace Go.Proofs.Ytpppoajnbhipeaa
open Go Go.RowKit

def entV (e : Ent) (v : Value) : Value := .agg #[.int .i64 e.term, .bool e.cmd, v]
def entL : Lay Ent where
  size := 3
  pos := by decide
  at_ w P cs e := ∃ v, cs = [.int .i64 e.term, .bool e.cmd, v] ∧ BytesAt w P v e.data
  len := fun ⟨v, e, _⟩ => by rw [e]; rfl
  one := fun ⟨v, e, h⟩ u hu => by
    rw [e] at hu
    obtain ⟨a, c, rfl⟩ := h.form
    simp at hu
    rcases hu with rfl | rfl | rfl <;> rfl
  keep := fun ⟨v, e, h⟩ k hP => ⟨v, e, h.keep k hP⟩
  mono := fun ⟨v, e, h⟩ hP => ⟨v, e, h.mono hP⟩

def msgV (m : MsgD) (ev dv : Value) : Value := .agg #[.int .i64 m.kind, .int .i64 m.frm, .int .i64 m.to, .int .i64 m.term, .int .i64 m.a, .int .i64 m.b, .int .i64 m.c, .bool m.ok, ev, dv]
def msgL : Lay MsgD where
  size := 10
  pos := by decide
  at_ w P cs m := ∃ ev dv, cs = [.int .i64 m.kind, .int .i64 m.frm, .int .i64 m.to, .int .i64 m.term, .int .i64 m.a, .int .i64 m.b, .int .i64 m.c, .bool m.ok, ev, dv] ∧ ListAt entL w P ev m.entries ∧ BytesAt w P dv m.data
  len := fun ⟨ev, dv, e, _⟩ => by rw [e]; rfl
  one := fun ⟨ev, dv, e, h1, h2⟩ u hu => by
    rw [e] at hu
    obtain ⟨a, c, rfl⟩ := h1.form
    obtain ⟨a2, c2, rfl⟩ := h2.form
    simp at hu
    rcases hu with rfl | rfl | rfl | rfl | rfl | rfl | rfl | rfl | rfl | rfl <;> rfl
  keep := fun ⟨ev, dv, e, h1, h2⟩ k hP => ⟨ev, dv, e, h1.keep k hP, h2.keep k hP⟩
  mono := fun ⟨ev, dv, e, h1, h2⟩ hP => ⟨ev, dv, e, h1.mono hP, h2.mono hP⟩

theorem Try.infoEnt : (Try.prog.info? 59).map (fun i => (i.zero, i.size, i.bytes)) = some (some (.agg #[.int .i64 0, .bool false, .slice none 0 0]), 3, 40) := by kernel_rfl
theorem Try.infoMsg : (Try.prog.info? 40).map (fun i => (i.zero, i.size, i.bytes)) = some (some (.agg #[.int .i64 0, .int .i64 0, .int .i64 0, .int .i64 0, .int .i64 0, .int .i64 0, .int .i64 0, .bool false, .slice none 0 0, .slice none 0 0]), 10, 112) := by kernel_rfl

/-! A core. -/
def bools (l : List Bool) : List Value := l.map Value.bool
def ints (l : List Int) : List Value := l.map (Value.int .i64)
def confCells (c : ConfD) : List Value := [.int .i64 c.nodes, .int .i64 c.clients, .int .i64 c.heart, .int .i64 c.lo, .int .i64 c.range, .int .i64 c.sessions, .int .i64 c.snap, .int .i64 c.room, .int .i64 c.retry]
def tailCells (c : CoreD) : List Value := bools c.votes ++ (ints c.next ++ (ints c.matc ++ [.bool c.hard, .int .i64 c.frm, .bool c.tsnap]))
def coreCells (c : CoreD) (lv sv : Value) : List Value :=
  .int .i64 c.conf.nodes :: .int .i64 c.conf.clients :: .int .i64 c.conf.heart :: .int .i64 c.conf.lo :: .int .i64 c.conf.range :: .int .i64 c.conf.sessions :: .int .i64 c.conf.snap :: .int .i64 c.conf.room :: .int .i64 c.conf.retry ::
  .int .i64 c.id :: .int .i64 c.term :: .int .i64 c.vote :: .int .i64 c.role :: .int .i64 c.leader :: .int .i64 c.commit :: .int .i64 c.base :: .int .i64 c.baseTerm :: lv :: sv :: .int .i64 c.draw :: .int .i64 c.patience :: tailCells c

def CoreBlk (w : World) (n : Nat) (c : CoreD) (lv sv : Value) : Prop := w.heap[n]? = some (.cells (coreCells c lv sv).toArray 89 (0, 0))

theorem CoreBlk.cell {w : World} {n : Nat} {c : CoreD} {lv sv : Value} (h : CoreBlk w n c lv sv) (i : Nat) : w.cell? ⟨n, i, none⟩ = (coreCells c lv sv)[i]? := by
  rw [cell_of_block h i]; simp
theorem CoreBlk.free {w : World} {n : Nat} {c : CoreD} {lv sv : Value} (h : CoreBlk w n c lv sv) (i : Nat) : w.frozen? ⟨n, i, none⟩ = false := frozen_of_row w n i _ _ h
theorem CoreBlk.lt {w : World} {n : Nat} {c : CoreD} {lv sv : Value} (h : CoreBlk w n c lv sv) : n < w.heap.size := (Array.getElem?_eq_some_iff.1 h).1
theorem CoreBlk.keep {w w' : World} {n : Nat} {c : CoreD} {lv sv : Value} {G : List Nat} (h : CoreBlk w n c lv sv) (k : Keeps G w w') (hn : n ∉ G) : CoreBlk w' n c lv sv := (k.block n h.lt hn).trans h

/-- What a core's blocks are not. -/
def Off (n : Nat) (lv : Value) (b : Nat) : Prop := b ≠ n ∧ b ∉ ownB lv

structure CoreAt (w : World) (B n : Nat) (c : CoreD) (lv sv : Value) : Prop where
  blk : CoreBlk w n c lv sv
  own : OwnAt entL 59 w B (fun b => Off n lv b ∧ ¬ c.ban b) lv c.l
  snap : BytesAt w (fun b => Off n lv b ∧ ¬ c.ban b) sv c.snap
  apart : n ∉ ownB lv
  base : B ≤ n
  old : ∀ b, c.ban b → b < w.heap.size
  free : ¬ c.ban n ∧ ∀ b ∈ ownB lv, ¬ c.ban b
  ok : CoreOk c

theorem CoreAt.keepB {w w' : World} {B n : Nat} {c : CoreD} {lv sv : Value} {G : List Nat} (h : CoreAt w B n c lv sv) (k : Keeps G w w') (hn : n ∉ G) (hv : ∀ b ∈ ownB lv, b ∉ G) (hG : ∀ b ∈ G, ¬ Off n lv b ∨ c.ban b ∨ w.heap.size ≤ b) : CoreAt w' B n c lv sv := by
  have hP : ∀ b, ((Off n lv b ∧ ¬ c.ban b) ∧ b < w.heap.size) → b ∉ G := fun b hb hb' => by
    rcases hG b hb' with h | h | h
    · exact h hb.1.1
    · exact hb.1.2 h
    · omega
  exact { blk := h.blk.keep k hn, own := ((h.own.mono (P' := fun b => (Off n lv b ∧ ¬ c.ban b) ∧ b < w.heap.size) (fun b h1 h2 => ⟨h2, h1⟩)).keep k hv hP).mono (fun b _ h => h.1),
          snap := ((h.snap.mono (P' := fun b => (Off n lv b ∧ ¬ c.ban b) ∧ b < w.heap.size) (fun b h1 h2 => ⟨h2, h1⟩)).keep k hP).mono (fun b _ h => h.1), apart := h.apart, base := h.base, old := fun b hb => Nat.lt_of_lt_of_le (h.old b hb) k.size, free := h.free, ok := h.ok }
theorem CoreAt.keep {w w' : World} {B n : Nat} {c : CoreD} {lv sv : Value} {G : List Nat} (h : CoreAt w B n c lv sv) (k : Keeps G w w') (hn : n ∉ G) (hv : ∀ b ∈ ownB lv, b ∉ G) (hG : ∀ b ∈ G, ¬ Off n lv b ∨ w.heap.size ≤ b) : CoreAt w' B n c lv sv :=
  h.keepB k hn hv (fun b hb => (hG b hb).imp (fun h => h) .inr)
/-- Blocks that came since are none of its own. -/
theorem CoreAt.banned {w w' : World} {B n : Nat} {c : CoreD} {lv sv : Value} (h : CoreAt w B n c lv sv) (k : Keeps [] w w') (X : Nat → Prop) (hX : ∀ b, X b → w.heap.size ≤ b ∧ b < w'.heap.size) (hl : ∀ b ∈ n :: ownB lv, b < w.heap.size) : CoreAt w' B n { c with ban := fun b => c.ban b ∨ X b } lv sv := by
  have nb : ∀ b, b < w.heap.size → ¬ c.ban b → ¬ (c.ban b ∨ X b) := fun b h1 h2 h3 => by
    rcases h3 with h3 | h3
    · exact h2 h3
    · have := (hX b h3).1; omega
  exact { blk := h.blk.keep k (by simp), own := ((h.own.mono (P' := fun b => Off n lv b ∧ ¬ (c.ban b ∨ X b)) (fun b h1 h2 => ⟨h2.1, nb b h1 h2.2⟩)).k k), snap := ((h.snap.mono (P' := fun b => Off n lv b ∧ ¬ (c.ban b ∨ X b)) (fun b h1 h2 => ⟨h2.1, nb b h1 h2.2⟩)).k k), apart := h.apart, base := h.base,
          old := fun b hb => by
            rcases hb with hb | hb
            · exact Nat.lt_of_lt_of_le (h.old b hb) k.size
            · exact (hX b hb).2
          free := ⟨nb n (hl n (by simp)) h.free.1, fun b hb => nb b (hl b (List.mem_cons_of_mem _ hb)) (h.free.2 b hb)⟩
          ok := { may := h.ok.may, id := h.ok.id, term := h.ok.term, base := h.ok.base, baseTerm := h.ok.baseTerm, len := h.ok.len, last := h.ok.last, commit := h.ok.commit, draw := h.ok.draw, votes := h.ok.votes, next := h.ok.next, matc := h.ok.matc, nexts := h.ok.nexts, matcs := h.ok.matcs, ents := h.ok.ents, frm := h.ok.frm, data := h.ok.data, snap := h.ok.snap } }
theorem CoreAt.k {w w' : World} {B n : Nat} {c : CoreD} {lv sv : Value} (h : CoreAt w B n c lv sv) (k : Keeps [] w w') : CoreAt w' B n c lv sv := h.keep k (by simp) (fun _ _ h => by cases h) (fun _ h => by cases h)
theorem CoreAt.form {w : World} {B n : Nat} {c : CoreD} {lv sv : Value} (h : CoreAt w B n c lv sv) : ∃ a k, lv = .slice a c.l.length k := h.own.form

set_option maxHeartbeats 400000 in
theorem own_any (e : Ent) (v : Value) (w : World) (hr : Reads w 1 v e.data.length (u8s e.data)) (hb : e.data.length ≤ 140737488355328) :
    Calls Try.prog 47 #[entV e v] w fun x w' => ∃ a c, x = .returned (entV e (.slice a e.data.length c)) ∧ w'.ownsRow w.heap.size 5 1 (.slice a e.data.length c) e.data.length (u8s e.data) ∧ Keeps [] w w' := by
  unfold entV
  have HR : Hid (∀ o, Reads (w.alloc o) 1 v e.data.length (u8s e.data)) := fun o => hr.keeps ((Keeps.refl [] w).alloc o) (fun _ _ h => by cases h)
  clear hr
  go_enter Try.func47, Try.ntmps47
  go_wp2_with fail
  refine (listB_any v e.data _ ((HR.out _).keeps ((Keeps.refl [] _).alloc _) (fun _ _ h => by cases h)) hb).mono ?_
  rintro x w1 ⟨a, c, rfl, o1, k1⟩
  have c0 : w1.cell? ⟨w.heap.size, 0, none⟩ = some (.int .i64 e.term) := (k1.cell (by simp; omega) (by simp)).trans (by simp)
  have c1 : w1.cell? ⟨w.heap.size, 1, none⟩ = some (.bool e.cmd) := (k1.cell (by simp; omega) (by simp)).trans (by simp)
  have c2 : w1.cell? ⟨w.heap.size, 2, none⟩ = some v := (k1.cell (by simp; omega) (by simp)).trans (by simp)
  have f2 : w1.frozen? ⟨w.heap.size, 2, none⟩ = false := (k1.frozen (by simp; omega) (by simp)).trans (by simp)
  have d0 : w1.cell? ⟨w.heap.size + 1, 0, none⟩ = some (.int .i64 0) := (k1.cell (by simp) (by simp)).trans (by simp)
  have d1 : w1.cell? ⟨w.heap.size + 1, 1, none⟩ = some (.bool false) := (k1.cell (by simp) (by simp)).trans (by simp)
  have d2 : w1.cell? ⟨w.heap.size + 1, 2, none⟩ = some (.slice none 0 0) := (k1.cell (by simp) (by simp)).trans (by simp)
  have g0 : w1.frozen? ⟨w.heap.size + 1, 0, none⟩ = false := (k1.frozen (by simp) (by simp)).trans (by simp)
  have g1 : w1.frozen? ⟨w.heap.size + 1, 1, none⟩ = false := (k1.frozen (by simp) (by simp)).trans (by simp)
  have g2 : w1.frozen? ⟨w.heap.size + 1, 2, none⟩ = false := (k1.frozen (by simp) (by simp)).trans (by simp)
  have O1 := hid o1
  have K1 := hid k1
  have Z1 : Hid (w.heap.size + 2 ≤ w1.heap.size) := by have := k1.size; simp at this; exact this
  clear o1 k1
  go_wp2_with fail
  have KF : Keeps [w.heap.size, w.heap.size + 1] w1 ((((w1.setCell ⟨w.heap.size, 2, none⟩ (.slice a e.data.length c)).setCell ⟨w.heap.size + 1, 0, none⟩ (.int .i64 e.term)).setCell ⟨w.heap.size + 1, 1, none⟩ (.bool e.cmd)).setCell ⟨w.heap.size + 1, 2, none⟩ (.slice a e.data.length c)) :=
    ((((Keeps.refl _ _).setCell (.inl (by simp)) _).setCell (.inl (by simp)) _).setCell (.inl (by simp)) _).setCell (.inl (by simp)) _
  refine bodyPost_ret (v := .agg #[.int .i64 e.term, .bool e.cmd, .slice a e.data.length c]) (by simp [results, Try.results47, go_sem, d0, d1, d2]) rfl ⟨a, c, rfl, ownsRow_base (ownsRow_keeps O1.out KF (fun b hb hb' => ?_)) (by simp; omega), ?_⟩
  · have := (ownB_ge O1.out b hb).1
    simp at this hb'
    omega
  · exact ((((Keeps.refl [] w).alloc _).alloc _).trans K1.out (fun _ _ h => h)).trans KF (fun b hb hb' => by simp at hb'; omega)

/-! What is asked of a core without turning it. -/
section
variable (w : World) (B n : Nat) (c : CoreD) (lv sv : Value) (h : CoreAt w B n c lv sv)
include h

set_option maxHeartbeats 400000 in
theorem cTerm_any : Calls Try.prog 29 #[.pointer (some ⟨n, 0, none⟩)] w fun e w' => e = .returned (.int .i64 c.term) ∧ w' = w := by
  have h1 : w.cell? ⟨n, 10, none⟩ = some (.int .i64 c.term) := h.blk.cell 10
  clear h
  go_enter Try.func29, Try.ntmps29
  go_wp2
  go_ret
  exact ⟨rfl, rfl⟩

set_option maxHeartbeats 400000 in
theorem cVote_any : Calls Try.prog 23 #[.pointer (some ⟨n, 0, none⟩)] w fun e w' => e = .returned (.int .i64 c.vote) ∧ w' = w := by
  have h1 : w.cell? ⟨n, 11, none⟩ = some (.int .i64 c.vote) := h.blk.cell 11
  clear h
  go_enter Try.func23, Try.ntmps23
  go_wp2
  go_ret
  exact ⟨rfl, rfl⟩

set_option maxHeartbeats 400000 in
theorem cRole_any : Calls Try.prog 32 #[.pointer (some ⟨n, 0, none⟩)] w fun e w' => e = .returned (.int .i64 c.role) ∧ w' = w := by
  have h1 : w.cell? ⟨n, 12, none⟩ = some (.int .i64 c.role) := h.blk.cell 12
  clear h
  go_enter Try.func32, Try.ntmps32
  go_wp2
  go_ret
  exact ⟨rfl, rfl⟩

set_option maxHeartbeats 400000 in
theorem cLeader_any : Calls Try.prog 33 #[.pointer (some ⟨n, 0, none⟩)] w fun e w' => e = .returned (.int .i64 c.leader) ∧ w' = w := by
  have h1 : w.cell? ⟨n, 13, none⟩ = some (.int .i64 c.leader) := h.blk.cell 13
  clear h
  go_enter Try.func33, Try.ntmps33
  go_wp2
  go_ret
  exact ⟨rfl, rfl⟩

set_option maxHeartbeats 400000 in
theorem cCommit_any : Calls Try.prog 30 #[.pointer (some ⟨n, 0, none⟩)] w fun e w' => e = .returned (.int .i64 c.commit) ∧ w' = w := by
  have h1 : w.cell? ⟨n, 14, none⟩ = some (.int .i64 c.commit) := h.blk.cell 14
  clear h
  go_enter Try.func30, Try.ntmps30
  go_wp2
  go_ret
  exact ⟨rfl, rfl⟩

set_option maxHeartbeats 400000 in
theorem cBase_any : Calls Try.prog 35 #[.pointer (some ⟨n, 0, none⟩)] w fun e w' => e = .returned (.tuple #[.int .i64 c.base, .int .i64 c.baseTerm]) ∧ ∃ k, w' = w.drewN k := by
  have h1 : w.cell? ⟨n, 15, none⟩ = some (.int .i64 c.base) := h.blk.cell 15
  have h2 : w.cell? ⟨n, 16, none⟩ = some (.int .i64 c.baseTerm) := h.blk.cell 16
  clear h
  go_enter Try.func35, Try.ntmps35
  go_wp2
  go_quiet (fail)
  go_wp2
  go_ret2
  exact ⟨rfl, _, rfl⟩

set_option maxHeartbeats 400000 in
theorem cLast_any : Calls Try.prog 25 #[.pointer (some ⟨n, 0, none⟩)] w fun e w' => e = .returned (.int .i64 (lastD c)) ∧ ∃ k, w' = w.drewN k := by
  obtain ⟨a, k, hf⟩ := h.form
  have h1 : w.cell? ⟨n, 15, none⟩ = some (.int .i64 c.base) := h.blk.cell 15
  have h2 : w.cell? ⟨n, 17, none⟩ = some (.slice a c.l.length k) := (h.blk.cell 17).trans (by rw [hf]; rfl)
  have b1 := h.ok.base.1
  have b2 := h.ok.last
  have b3 := h.ok.len
  clear h hf
  go_enter Try.func25, Try.ntmps25
  go_wp2
  go_quiet (fail)
  go_wp2
  go_ret
  exact ⟨rfl, _, rfl⟩

omit h in
/-- An entry's cells. -/
theorem OwnAt.ent {w : World} {B : Nat} {P : Nat → Prop} {lv : Value} {l : List Ent} (h : OwnAt entL 59 w B P lv l) {j : Nat} {e : Ent} (he : l[j]? = some e) : ∃ g k v, lv = .slice (some ⟨g, 0, none⟩) l.length k ∧ l.length ≤ k ∧ k ≤ maxLen ∧ w.cell? ⟨g, j * 3, none⟩ = some (.int .i64 e.term) ∧ w.cell? ⟨g, j * 3 + 1, none⟩ = some (.bool e.cmd) ∧ w.cell? ⟨g, j * 3 + 2, none⟩ = some v ∧ BytesAt w P v e.data := by
  have hj : j < l.length := (List.getElem?_eq_some_iff.1 he).1
  obtain ⟨css, h1, h2⟩ := h
  rcases h2.2 with ⟨_, h0⟩ | ⟨g, k, cur, rfl, _, _, hk, hm, _⟩
  · omega
  · have hl : ListAt entL w (fun _ => True) (.slice (some ⟨g, 0, none⟩) l.length k) l := ⟨css, h1.mono (fun _ _ _ => trivial), Reads.ofOwn h2, fun _ _ _ => trivial⟩
    obtain ⟨cs, h3, h4⟩ := hl.get he
    have hc : css[j]? = some (css[j]'(by rw [h1.1]; exact hj)) := List.getElem?_eq_getElem _
    obtain ⟨v, e1, h5⟩ := h1.2 j _ _ hc he
    refine ⟨g, k, v, rfl, hk, hm, ?_, ?_, ?_, h5⟩
    all_goals
      rw [h2.cellAt _ (by show _ < _ * 3; omega)]
    · have := flatten_get (n := 3) h1.lens hc (j := 0) (by omega)
      rw [e1] at this
      simpa using this
    · have := flatten_get (n := 3) h1.lens hc (j := 1) (by omega)
      rw [e1] at this
      simpa using this
    · have := flatten_get (n := 3) h1.lens hc (j := 2) (by omega)
      rw [e1] at this
      simpa using this

set_option maxHeartbeats 800000 in
theorem cAt_any (i : Int) (b1 : -4611686018427387904 ≤ i) (b2 : i ≤ 4611686018427387904) : Calls Try.prog 24 #[.pointer (some ⟨n, 0, none⟩), .int .i64 i] w fun e w' => e = .returned (.tuple #[.int .i64 (atD c i).1, .bool (atD c i).2]) ∧ ∃ k, w' = w.drewN k := by
  have h1 : w.cell? ⟨n, 15, none⟩ = some (.int .i64 c.base) := h.blk.cell 15
  have h2 : w.cell? ⟨n, 16, none⟩ = some (.int .i64 c.baseTerm) := h.blk.cell 16
  have o1 := h.ok.base.1
  have o2 := h.ok.last
  have o3 := h.ok.len
  by_cases hb : i = c.base
  · subst hb
    clear h
    go_enter Try.func24, Try.ntmps24
    go_wp2
    go_ret2
    exact ⟨ret_ib (by simp [atD]) (by simp [atD]), 0, rfl⟩
  · by_cases hlt : i < c.base
    · have HE : Hid (atD c i = (0, false)) := by show _ = _; unfold atD; rw [if_neg hb, if_pos (.inl hlt)]
      clear h
      have hb' : (i == c.base) = false := by simpa using hb
      go_enter Try.func24, Try.ntmps24
      go_wp2
      go_ret2
      exact ⟨ret_ib (congrArg Prod.fst HE.out).symm (congrArg Prod.snd HE.out).symm, 0, rfl⟩
    · have hb' : (i == c.base) = false := by simpa using hb
      have HL := hid (cLast_any w B n c lv sv h)
      by_cases hgt : lastD c < i
      · have HE : Hid (atD c i = (0, false)) := by show _ = _; unfold atD; rw [if_neg hb, if_pos (.inr hgt)]
        clear h
        go_enter Try.func24, Try.ntmps24
        go_wp2_with (go_at_call 25; go_must (refine HL.out.mono ?_; rintro e w' ⟨rfl, k, rfl⟩))
        go_ret2
        exact ⟨ret_ib (congrArg Prod.fst HE.out).symm (congrArg Prod.snd HE.out).symm, k, rfl⟩
      · obtain ⟨j, hj⟩ : ∃ j : Nat, i = c.base + 1 + j := ⟨(i - c.base - 1).toNat, by omega⟩
        have hjl : j < c.l.length := by unfold lastD at hgt; omega
        obtain ⟨e, he⟩ : ∃ e, c.l[j]? = some e := ⟨c.l[j], List.getElem?_eq_getElem hjl⟩
        obtain ⟨g, k, v, hf, _, _, e0, _⟩ := h.own.ent he
        have HE : Hid (atD c i = (e.term, true)) := by
          show _ = _
          unfold atD
          rw [if_neg hb, if_neg (by omega), show (i - c.base - 1).toNat = j by omega, he]
          rfl
        have h3 : w.cell? ⟨n, 17, none⟩ = some (.slice (some ⟨g, 0, none⟩) c.l.length k) := (h.blk.cell 17).trans (by rw [hf]; rfl)
        have w1 : IntKind.i64.wrap (i - c.base) = i - c.base := IntWalk.i64_in _ (by omega)
        have w2 : IntKind.i64.wrap (i - c.base - 1) = (j : Int) := by rw [IntWalk.i64_in _ (by omega)]; omega
        have j0 : (0 : Int) ≤ (j : Int) := Int.natCast_nonneg _
        have j1 : (j : Int) < (c.l.length : Int) := by omega
        have g1 : ¬ i < c.base := hlt
        have g2 : i ≤ lastD c := by omega
        clear h hf he hgt hj hjl
        go_enter Try.func24, Try.ntmps24
        go_wp2_with (go_at_call 25; go_must (refine HL.out.mono ?_; rintro e w' ⟨rfl, k, rfl⟩))
        go_quiet (fail)
        go_wp2
        go_ret2
        exact ⟨ret_ib (congrArg Prod.fst HE.out).symm (congrArg Prod.snd HE.out).symm, _, World.drewN_drewN ..⟩
end

end Go.Proofs.Ytpppoajnbhipeaa
