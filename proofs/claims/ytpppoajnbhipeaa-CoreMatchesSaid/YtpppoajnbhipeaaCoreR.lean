/- The document's core in memory; its smallest methods. -/
import Derived.Test.YtpppoajnbhipeaaCoreF
namespace Go.Proofs.Ytpppoajnbhipeaa
open Go Go.RowKit

def refTail (c : CoreD) : List Value := bools c.votes ++ (ints c.next ++ (ints c.matc ++ [.bool c.hard, .bool c.tsnap, .int .i64 c.frm]))
def refCells (c : CoreD) (lv sv : Value) : List Value :=
  .int .i64 c.conf.nodes :: .int .i64 c.conf.clients :: .int .i64 c.conf.heart :: .int .i64 c.conf.lo :: .int .i64 c.conf.range :: .int .i64 c.conf.sessions :: .int .i64 c.conf.snap :: .int .i64 c.conf.room :: .int .i64 c.conf.retry ::
  .int .i64 c.id :: .int .i64 c.term :: .int .i64 c.vote :: .int .i64 c.role :: .int .i64 c.leader :: .int .i64 c.commit :: .int .i64 c.base :: .int .i64 c.baseTerm :: sv :: lv :: .int .i64 c.patience :: .int .i64 c.draw :: refTail c

def RefBlk (w : World) (n : Nat) (c : CoreD) (lv sv : Value) : Prop := w.heap[n]? = some (.cells (refCells c lv sv).toArray 92 (0, 0))
theorem RefBlk.cell {w : World} {n : Nat} {c : CoreD} {lv sv : Value} (h : RefBlk w n c lv sv) (i : Nat) : w.cell? ⟨n, i, none⟩ = (refCells c lv sv)[i]? := by
  rw [cell_of_block h i]; simp
theorem RefBlk.free {w : World} {n : Nat} {c : CoreD} {lv sv : Value} (h : RefBlk w n c lv sv) (i : Nat) : w.frozen? ⟨n, i, none⟩ = false := frozen_of_row w n i _ _ h
theorem RefBlk.lt {w : World} {n : Nat} {c : CoreD} {lv sv : Value} (h : RefBlk w n c lv sv) : n < w.heap.size := (Array.getElem?_eq_some_iff.1 h).1
theorem RefBlk.keep {w w' : World} {n : Nat} {c : CoreD} {lv sv : Value} {G : List Nat} (h : RefBlk w n c lv sv) (k : Keeps G w w') (hn : n ∉ G) : RefBlk w' n c lv sv := (k.block n h.lt hn).trans h
theorem RefBlk.set {w : World} {n : Nat} {c c' : CoreD} {lv sv lv' sv' : Value} (h : RefBlk w n c lv sv) (i : Nat) (v : Value) (hs : (refCells c lv sv).set i v = refCells c' lv' sv') : RefBlk (w.setCell ⟨n, i, none⟩ v) n c' lv' sv' := by
  unfold RefBlk at *
  rw [heap_setCell_same w n i _ _ _ h, ← hs]
  simp

/-- P: whatever it reads but its own block. -/
structure RefAt (w : World) (B n : Nat) (c : CoreD) (P : Nat → Prop) (lv sv : Value) : Prop where
  blk : RefBlk w n c lv sv
  log : ListAt entL w P lv c.l
  snap : BytesAt w P sv c.snap
  apart : ¬ P n
  base : B ≤ n
  ok : CoreOk c

theorem RefAt.keep {w w' : World} {B n : Nat} {c : CoreD} {P : Nat → Prop} {lv sv : Value} {G : List Nat} (h : RefAt w B n c P lv sv) (k : Keeps G w w') (hn : n ∉ G) (hP : ∀ b, P b → b ∉ G) : RefAt w' B n c P lv sv :=
  { blk := h.blk.keep k hn, log := h.log.keep k hP, snap := h.snap.keep k hP, apart := h.apart, base := h.base, ok := h.ok }
theorem RefAt.k {w w' : World} {B n : Nat} {c : CoreD} {P : Nat → Prop} {lv sv : Value} (h : RefAt w B n c P lv sv) (k : Keeps [] w w') : RefAt w' B n c P lv sv := h.keep k (by simp) (fun _ _ h => by cases h)
theorem RefAt.form {w : World} {B n : Nat} {c : CoreD} {P : Nat → Prop} {lv sv : Value} (h : RefAt w B n c P lv sv) : ∃ a k, lv = .slice a c.l.length k := h.log.form
/-- An entry's cells in a list that may be read. -/
theorem ListAt.ent {w : World} {P : Nat → Prop} {lv : Value} {l : List Ent} (h : ListAt entL w P lv l) {j : Nat} {e : Ent} (he : l[j]? = some e) : ∃ g off k av cv, lv = .slice (some ⟨g, off, none⟩) l.length k ∧ l.length ≤ k ∧ k ≤ maxLen ∧ w.cell? ⟨g, off + j * 3, none⟩ = some (.int .i64 e.term) ∧ w.cell? ⟨g, off + j * 3 + 1, none⟩ = some (.bool e.cmd) ∧ w.cell? ⟨g, off + j * 3 + 2, none⟩ = some (.slice av e.data.length cv) ∧ BytesAt w P (.slice av e.data.length cv) e.data := by
  obtain ⟨g, off, k, rfl, h1, h2, _, _⟩ := h.addr (fun hn => by rw [hn] at he; simp at he)
  obtain ⟨cs, ⟨v, rfl, hb⟩, hc⟩ := h.get he
  obtain ⟨av, cv, rfl⟩ := hb.form
  exact ⟨g, off, k, av, cv, rfl, h1, h2, hc 0 _ rfl, hc 1 _ rfl, hc 2 _ rfl, hb⟩

section
variable (w : World) (B n : Nat) (c : CoreD) (P : Nat → Prop) (lv sv : Value) (h : RefAt w B n c P lv sv)
include h

set_option maxHeartbeats 400000 in
theorem rLast_any : Calls Try.prog 48 #[.pointer (some ⟨n, 0, none⟩)] w fun e w' => e = .returned (.int .i64 (lastD c)) ∧ ∃ k, w' = w.drewN k := by
  obtain ⟨a, k, hf⟩ := h.form
  have h1 : w.cell? ⟨n, 15, none⟩ = some (.int .i64 c.base) := h.blk.cell 15
  have h2 : w.cell? ⟨n, 18, none⟩ = some (.slice a c.l.length k) := (h.blk.cell 18).trans (by rw [hf]; rfl)
  have b1 := h.ok.base.1
  have b2 := h.ok.last
  have b3 := h.ok.len
  clear h hf
  go_enter Try.func48, Try.ntmps48
  go_wp2
  go_quiet (fail)
  go_wp2
  go_ret
  exact ⟨rfl, _, rfl⟩

set_option maxHeartbeats 800000 in
theorem rAt_any (i : Int) (b1 : -4611686018427387904 ≤ i) (b2 : i ≤ 4611686018427387904) : Calls Try.prog 50 #[.pointer (some ⟨n, 0, none⟩), .int .i64 i] w fun e w' => e = .returned (.tuple #[.int .i64 (atD c i).1, .bool (atD c i).2]) ∧ ∃ k, w' = w.drewN k := by
  have h1 : w.cell? ⟨n, 15, none⟩ = some (.int .i64 c.base) := h.blk.cell 15
  have h2 : w.cell? ⟨n, 16, none⟩ = some (.int .i64 c.baseTerm) := h.blk.cell 16
  have o1 := h.ok.base.1
  have o2 := h.ok.last
  have o3 := h.ok.len
  by_cases hb : i = c.base
  · subst hb
    clear h
    go_enter Try.func50, Try.ntmps50
    go_wp2
    go_ret2
    exact ⟨ret_ib (by simp [atD]) (by simp [atD]), 0, rfl⟩
  · by_cases hlt : i < c.base
    · have HE : Hid (atD c i = (0, false)) := by show _ = _; unfold atD; rw [if_neg hb, if_pos (.inl hlt)]
      clear h
      have hb' : (i == c.base) = false := by simpa using hb
      go_enter Try.func50, Try.ntmps50
      go_wp2
      go_ret2
      exact ⟨ret_ib (congrArg Prod.fst HE.out).symm (congrArg Prod.snd HE.out).symm, 0, rfl⟩
    · have hb' : (i == c.base) = false := by simpa using hb
      have HL := hid (rLast_any w B n c P lv sv h)
      by_cases hgt : lastD c < i
      · have HE : Hid (atD c i = (0, false)) := by show _ = _; unfold atD; rw [if_neg hb, if_pos (.inr hgt)]
        clear h
        go_enter Try.func50, Try.ntmps50
        go_wp2_with (go_at_call 48; go_must (refine HL.out.mono ?_; rintro e w' ⟨rfl, k, rfl⟩))
        go_ret2
        exact ⟨ret_ib (congrArg Prod.fst HE.out).symm (congrArg Prod.snd HE.out).symm, k, rfl⟩
      · obtain ⟨j, hj⟩ : ∃ j : Nat, i = c.base + 1 + j := ⟨(i - c.base - 1).toNat, by omega⟩
        have hjl : j < c.l.length := by unfold lastD at hgt; omega
        obtain ⟨e, he⟩ : ∃ e, c.l[j]? = some e := ⟨c.l[j], List.getElem?_eq_getElem hjl⟩
        obtain ⟨g, off, k, av, cv, hf, _, _, e0, _⟩ := h.log.ent he
        have HE : Hid (atD c i = (e.term, true)) := by
          show _ = _
          unfold atD
          rw [if_neg hb, if_neg (by omega), show (i - c.base - 1).toNat = j by omega, he]
          rfl
        have h3 : w.cell? ⟨n, 18, none⟩ = some (.slice (some ⟨g, off, none⟩) c.l.length k) := (h.blk.cell 18).trans (by rw [hf]; rfl)
        have w1 : IntKind.i64.wrap (i - c.base) = i - c.base := IntWalk.i64_in _ (by omega)
        have w2 : IntKind.i64.wrap (i - c.base - 1) = (j : Int) := by rw [IntWalk.i64_in _ (by omega)]; omega
        have j0 : (0 : Int) ≤ (j : Int) := Int.natCast_nonneg _
        have j1 : (j : Int) < (c.l.length : Int) := by omega
        have g1 : ¬ i < c.base := hlt
        have g2 : i ≤ lastD c := by omega
        clear h hf he hgt hj hjl
        go_enter Try.func50, Try.ntmps50
        go_wp2_with (go_at_call 48; go_must (refine HL.out.mono ?_; rintro e w' ⟨rfl, kd, rfl⟩))
        go_quiet (fail)
        go_wp2
        go_ret2
        exact ⟨ret_ib (congrArg Prod.fst HE.out).symm (congrArg Prod.snd HE.out).symm, _, World.drewN_drewN ..⟩
end

end Go.Proofs.Ytpppoajnbhipeaa
