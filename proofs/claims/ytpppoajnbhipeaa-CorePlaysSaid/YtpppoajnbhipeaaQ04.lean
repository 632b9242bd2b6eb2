/- Joined of CoreF, CoreR, CoreN. -/
import Derived.Test.YtpppoajnbhipeaaQ03

/- What becomes of a core's memory where a field is written, where an entry comes behind its log. -/
namespace Go.Proofs.Ytpppoajnbhipeaa
open Go Go.RowKit

theorem CoreBlk.set {w : World} {n : Nat} {c c' : CoreD} {lv sv lv' sv' : Value} (h : CoreBlk w n c lv sv) (i : Nat) (v : Value) (hs : (coreCells c lv sv).set i v = coreCells c' lv' sv') : CoreBlk (w.setCell ⟨n, i, none⟩ v) n c' lv' sv' := by
  unfold CoreBlk at *
  rw [heap_setCell_same w n i _ _ _ h, ← hs]
  simp

/-- Only the core's block was written, field by field: its row and what it reads are as they were. -/
theorem CoreAt.wrote {w w' : World} {B n : Nat} {c c' : CoreD} {lv sv : Value} (h : CoreAt w B n c lv sv) (k : Keeps [n] w w') (hb : CoreBlk w' n c' lv sv) (hl : c'.l = c.l) (hs : c'.snap = c.snap) (ok : CoreOk c') (hban : c'.ban = c.ban := by rfl) : CoreAt w' B n c' lv sv :=
  { blk := hb, own := by rw [hl, hban]; exact h.own.keep k (fun b h1 h2 => by simp at h2; rw [h2] at h1; exact h.apart h1) (fun b h1 h2 => by simp at h2; exact h1.1.1 h2),
    snap := by rw [hs, hban]; exact h.snap.keep k (fun b h1 h2 => by simp at h2; exact h1.1.1 h2), apart := h.apart, base := h.base, old := fun b h1 => by rw [hban] at h1; exact Nat.lt_of_lt_of_le (h.old b h1) k.size, free := by rw [hban]; exact h.free, ok := ok }

/-- An entry behind the log. -/
theorem CoreAt.grow {w w1 w2 : World} {B n : Nat} {c c' : CoreD} {lv sv lv' : Value} {l' : List Ent} (h : CoreAt w B n c lv sv) (k1 : Keeps [] w w1) (ho : OwnAt entL 59 w2 B (fun b => (b ≠ n ∧ ¬ c.ban b) ∧ b ∉ ownB lv') lv' l') (k2 : Keeps (ownB lv) w1 w2) (hv : ∀ b ∈ ownB lv', b ∈ ownB lv ∨ w1.heap.size ≤ b)
    (hc : c' = { c with l := l' }) (ok : CoreOk c') : CoreAt (w2.setCell ⟨n, 17, none⟩ lv') B n c' lv' sv ∧ Keeps (n :: ownB lv) w (w2.setCell ⟨n, 17, none⟩ lv') := by
  have hlt := h.blk.lt
  have z1 := k1.size
  have ka : Keeps (ownB lv) w w2 := (k1.mono (G := ownB lv) (fun _ _ h => by cases h)).trans k2 (fun _ _ h => h)
  have hn' : n ∉ ownB lv' := fun hb => by
    rcases hv n hb with h1 | h1
    · exact h.apart h1
    · omega
  have kb : Keeps [n] w2 (w2.setCell ⟨n, 17, none⟩ lv') := (Keeps.refl _ _).setCell (.inl (by simp)) _
  have kab : Keeps (n :: ownB lv) w (w2.setCell ⟨n, 17, none⟩ lv') := (ka.mono (G := n :: ownB lv) (fun _ _ h => List.mem_cons_of_mem _ h)).trans kb (fun b _ hb => by simp at hb; simp [hb])
  refine ⟨{ blk := ?_, own := ?_, snap := ?_, apart := hn', base := h.base, old := ?_, free := ?_, ok := ok }, kab⟩
  · subst hc
    exact (h.blk.keep ka h.apart).set 17 lv' rfl
  · subst hc
    exact (ho.keep kb (fun b hb hb' => by simp at hb'; rw [hb'] at hb; exact hn' hb) (fun b hb hb' => by simp at hb'; exact hb.1.1 hb')).mono (fun b _ hb => ⟨⟨hb.1.1, hb.2⟩, hb.1.2⟩)
  · subst hc
    have s1 := (BytesAt.mono (P' := fun b => (Off n lv b ∧ ¬ c.ban b) ∧ b < w.heap.size) h.snap (fun b h1 h2 => ⟨h2, h1⟩)).keep ka (fun b hb => hb.1.1.2)
    have s2 := s1.mono (P' := fun b => Off n lv' b ∧ ¬ c.ban b) (fun b _ hb => ⟨⟨hb.1.1.1, fun hb' => by
      rcases hv b hb' with h1 | h1
      · exact hb.1.1.2 h1
      · omega⟩, hb.1.2⟩)
    exact s2.keep kb (fun b hb hb' => by simp at hb'; exact hb.1.1 hb')
  · subst hc
    exact fun b hb => Nat.lt_of_lt_of_le (h.old b hb) kab.size
  · subst hc
    refine ⟨h.free.1, fun b hb hb' => ?_⟩
    rcases hv b hb with h1 | h1
    · exact h.free.2 b h1 hb'
    · have := h.old b hb'; omega

/-- An entry in new memory, as 'own' leaves it, as one element of a list. -/
theorem ent_elem {w w1 : World} {e : Ent} {a : Option Addr} {q : Nat} {P : Nat → Prop} (ho : w1.ownsRow w.heap.size 5 1 (.slice a e.data.length q) e.data.length (u8s e.data)) (hP : ∀ b, w.heap.size ≤ b → P b) : ∀ wx, Keeps [] w1 wx → entL.at_ wx P [.int .i64 e.term, .bool e.cmd, .slice a e.data.length q] e :=
  fun _ kx => ⟨_, rfl, BytesAt.k (BytesAt.ofOwn ho rfl (fun b hb _ => hP b hb)) kx⟩

theorem CoreAt.lower {w : World} {B B' n : Nat} {c : CoreD} {lv sv : Value} (h : CoreAt w B n c lv sv) (hB : B' ≤ B) : CoreAt w B' n c lv sv :=
  { blk := h.blk, own := h.own.base hB, snap := h.snap, apart := h.apart, base := Nat.le_trans hB h.base, old := h.old, free := h.free, ok := h.ok }

theorem CoreAt.lt {w : World} {B n : Nat} {c : CoreD} {lv sv : Value} (h : CoreAt w B n c lv sv) : ∀ b ∈ n :: ownB lv, B ≤ b ∧ b < w.heap.size := by
  intro b hb
  rcases List.mem_cons.1 hb with rfl | hb
  · exact ⟨h.base, h.blk.lt⟩
  · exact h.own.ge b hb

theorem blk9 {w : World} {b : Nat} {x0 x1 x2 x3 x4 x5 x6 x7 x8 : Value} {t : TypeId} (h : w.heap[b]? = some (.cells #[x0, x1, x2, x3, x4, x5, x6, x7, x8] t (0, 0))) :
    (w.cell? ⟨b, 0, none⟩ = some x0 ∧ w.cell? ⟨b, 1, none⟩ = some x1 ∧ w.cell? ⟨b, 2, none⟩ = some x2 ∧ w.cell? ⟨b, 3, none⟩ = some x3 ∧ w.cell? ⟨b, 4, none⟩ = some x4 ∧ w.cell? ⟨b, 5, none⟩ = some x5 ∧ w.cell? ⟨b, 6, none⟩ = some x6 ∧ w.cell? ⟨b, 7, none⟩ = some x7 ∧ w.cell? ⟨b, 8, none⟩ = some x8) ∧ ∀ i, w.frozen? ⟨b, i, none⟩ = false :=
  ⟨⟨cell_of_block h 0, cell_of_block h 1, cell_of_block h 2, cell_of_block h 3, cell_of_block h 4, cell_of_block h 5, cell_of_block h 6, cell_of_block h 7, cell_of_block h 8⟩, fun i => frozen_of_row w b i _ _ h⟩

theorem cMay_is (r : Bool) (c : ConfD) (w : World) (h : c.may = r) : Calls Try.prog 12 #[confV c] w fun e w' => e = .returned (.bool r) ∧ Keeps [] w w' := by rw [← h]; exact cMay_any c w
theorem rMay_is (r : Bool) (c : ConfD) (w : World) (h : c.may = r) : Calls Try.prog 13 #[confV c] w fun e w' => e = .returned (.bool r) ∧ Keeps [] w w' := by rw [← h]; exact rMay_any c w

/-- The first conditions of New. -/
def headD (cf : ConfD) (id term vote base baseTerm : Int) (n : Nat) : Bool :=
  cf.may && inD id 1 cf.nodes && inD term 0 1099511627776 && inD vote 0 cf.nodes && inD base 0 1099511622680 && inD baseTerm 0 1099511627776 && decide (n ≤ 5096)
theorem mayNew_head (cf : ConfD) (id term vote base baseTerm : Int) (l : List Ent) : mayNewD cf id term vote base baseTerm l = (headD cf id term vote base baseTerm l.length && l.all fun e => inD e.term 1 1099511627776) := rfl

end Go.Proofs.Ytpppoajnbhipeaa

/- The document's core in memory; its smallest methods. -/
namespace Go.Proofs.Ytpppoajnbhipeaa
open Go Go.RowKit

def refTail (c : CoreD) : List Value := bools c.votes ++ (ints c.next ++ (ints c.matc ++ [.bool c.hard, .bool c.tsnap, .int .i64 c.frm]))
def refCells (c : CoreD) (lv sv : Value) : List Value :=
  .int .i64 c.conf.nodes :: .int .i64 c.conf.clients :: .int .i64 c.conf.heart :: .int .i64 c.conf.lo :: .int .i64 c.conf.range :: .int .i64 c.conf.sessions :: .int .i64 c.conf.snap :: .int .i64 c.conf.room :: .int .i64 c.conf.retry ::
  .int .i64 c.id :: .int .i64 c.term :: .int .i64 c.vote :: .int .i64 c.role :: .int .i64 c.leader :: .int .i64 c.commit :: .int .i64 c.base :: .int .i64 c.baseTerm :: sv :: lv :: .int .i64 c.patience :: .int .i64 c.draw :: refTail c

def RefBlk (w : World) (n : Nat) (c : CoreD) (lv sv : Value) : Prop := w.heap[n]? = some (.cells (refCells c lv sv).toArray 92 (0, 0))
theorem RefBlk.cell {w : World} {n : Nat} {c : CoreD} {lv sv : Value} (h : RefBlk w n c lv sv) (i : Nat) : w.cell? ⟨n, i, none⟩ = (refCells c lv sv)[i]? := by
  rw [cell_of_block h i]; simp
theorem RefBlk.free {w : World} {n : Nat} {c : CoreD} {lv sv : Value} (h : RefBlk w n c lv sv) (i : Nat) : w.frozen? ⟨n, i, none⟩ = false := frozen_of_row w n i _ _ h
theorem RefBlk.lt {w : World} {n : Nat} {c : CoreD} {lv sv : Value} (h : RefBlk w n c lv sv) : n < w.heap.size := (Array.getElem?_eq_some_iff.1 h).1
theorem RefBlk.keep {w w' : World} {n : Nat} {c : CoreD} {lv sv : Value} {G : List Nat} (h : RefBlk w n c lv sv) (k : Keeps G w w') (hn : n ∉ G) : RefBlk w' n c lv sv := (k.block n h.lt hn).trans h
theorem RefBlk.set {w : World} {n : Nat} {c c' : CoreD} {lv sv lv' sv' : Value} (h : RefBlk w n c lv sv) (i : Nat) (v : Value) (hs : (refCells c lv sv).set i v = refCells c' lv' sv') : RefBlk (w.setCell ⟨n, i, none⟩ v) n c' lv' sv' := by
  unfold RefBlk at *
  rw [heap_setCell_same w n i _ _ _ h, ← hs]
  simp

/-- P: whatever it reads but its own block. -/
structure RefAt (w : World) (B n : Nat) (c : CoreD) (P : Nat → Prop) (lv sv : Value) : Prop where
  blk : RefBlk w n c lv sv
  log : ListAt entL w P lv c.l
  snap : BytesAt w P sv c.snap
  apart : ¬ P n
  base : B ≤ n
  ok : CoreOk c

theorem RefAt.keep {w w' : World} {B n : Nat} {c : CoreD} {P : Nat → Prop} {lv sv : Value} {G : List Nat} (h : RefAt w B n c P lv sv) (k : Keeps G w w') (hn : n ∉ G) (hP : ∀ b, P b → b ∉ G) : RefAt w' B n c P lv sv :=
  { blk := h.blk.keep k hn, log := h.log.keep k hP, snap := h.snap.keep k hP, apart := h.apart, base := h.base, ok := h.ok }
theorem RefAt.k {w w' : World} {B n : Nat} {c : CoreD} {P : Nat → Prop} {lv sv : Value} (h : RefAt w B n c P lv sv) (k : Keeps [] w w') : RefAt w' B n c P lv sv := h.keep k (by simp) (fun _ _ h => by cases h)
theorem RefAt.form {w : World} {B n : Nat} {c : CoreD} {P : Nat → Prop} {lv sv : Value} (h : RefAt w B n c P lv sv) : ∃ a k, lv = .slice a c.l.length k := h.log.form
/-- An entry's cells in a list that may be read. -/
theorem ListAt.ent {w : World} {P : Nat → Prop} {lv : Value} {l : List Ent} (h : ListAt entL w P lv l) {j : Nat} {e : Ent} (he : l[j]? = some e) : ∃ g off k av cv, lv = .slice (some ⟨g, off, none⟩) l.length k ∧ l.length ≤ k ∧ k ≤ maxLen ∧ w.cell? ⟨g, off + j * 3, none⟩ = some (.int .i64 e.term) ∧ w.cell? ⟨g, off + j * 3 + 1, none⟩ = some (.bool e.cmd) ∧ w.cell? ⟨g, off + j * 3 + 2, none⟩ = some (.slice av e.data.length cv) ∧ BytesAt w P (.slice av e.data.length cv) e.data := by
  obtain ⟨g, off, k, rfl, h1, h2, _, _⟩ := h.addr (fun hn => by rw [hn] at he; simp at he)
  obtain ⟨cs, ⟨v, rfl, hb⟩, hc⟩ := h.get he
  obtain ⟨av, cv, rfl⟩ := hb.form
  exact ⟨g, off, k, av, cv, rfl, h1, h2, hc 0 _ rfl, hc 1 _ rfl, hc 2 _ rfl, hb⟩

section
variable (w : World) (B n : Nat) (c : CoreD) (P : Nat → Prop) (lv sv : Value) (h : RefAt w B n c P lv sv)
include h

set_option maxHeartbeats 400000 in
theorem rLast_any : Calls Try.prog 48 #[.pointer (some ⟨n, 0, none⟩)] w fun e w' => e = .returned (.int .i64 (lastD c)) ∧ ∃ k, w' = w.drewN k := by
  obtain ⟨a, k, hf⟩ := h.form
  have h1 : w.cell? ⟨n, 15, none⟩ = some (.int .i64 c.base) := h.blk.cell 15
  have h2 : w.cell? ⟨n, 18, none⟩ = some (.slice a c.l.length k) := (h.blk.cell 18).trans (by rw [hf]; rfl)
  have b1 := h.ok.base.1
  have b2 := h.ok.last
  have b3 := h.ok.len
  clear h hf
  go_enter Try.func48, Try.ntmps48
  go_wp2
  go_quiet (fail)
  go_wp2
  go_ret
  exact ⟨rfl, _, rfl⟩

set_option maxHeartbeats 800000 in
theorem rAt_any (i : Int) (b1 : -4611686018427387904 ≤ i) (b2 : i ≤ 4611686018427387904) : Calls Try.prog 50 #[.pointer (some ⟨n, 0, none⟩), .int .i64 i] w fun e w' => e = .returned (.tuple #[.int .i64 (atD c i).1, .bool (atD c i).2]) ∧ ∃ k, w' = w.drewN k := by
  have h1 : w.cell? ⟨n, 15, none⟩ = some (.int .i64 c.base) := h.blk.cell 15
  have h2 : w.cell? ⟨n, 16, none⟩ = some (.int .i64 c.baseTerm) := h.blk.cell 16
  have o1 := h.ok.base.1
  have o2 := h.ok.last
  have o3 := h.ok.len
  by_cases hb : i = c.base
  · subst hb
    clear h
    go_enter Try.func50, Try.ntmps50
    go_wp2
    go_ret2
    exact ⟨ret_ib (by simp [atD]) (by simp [atD]), 0, rfl⟩
  · by_cases hlt : i < c.base
    · have HE : Hid (atD c i = (0, false)) := by show _ = _; unfold atD; rw [if_neg hb, if_pos (.inl hlt)]
      clear h
      have hb' : (i == c.base) = false := by simpa using hb
      go_enter Try.func50, Try.ntmps50
      go_wp2
      go_ret2
      exact ⟨ret_ib (congrArg Prod.fst HE.out).symm (congrArg Prod.snd HE.out).symm, 0, rfl⟩
    · have hb' : (i == c.base) = false := by simpa using hb
      have HL := hid (rLast_any w B n c P lv sv h)
      by_cases hgt : lastD c < i
      · have HE : Hid (atD c i = (0, false)) := by show _ = _; unfold atD; rw [if_neg hb, if_pos (.inr hgt)]
        clear h
        go_enter Try.func50, Try.ntmps50
        go_wp2_with (go_at_call 48; go_must (refine HL.out.mono ?_; rintro e w' ⟨rfl, k, rfl⟩))
        go_ret2
        exact ⟨ret_ib (congrArg Prod.fst HE.out).symm (congrArg Prod.snd HE.out).symm, k, rfl⟩
      · obtain ⟨j, hj⟩ : ∃ j : Nat, i = c.base + 1 + j := ⟨(i - c.base - 1).toNat, by omega⟩
        have hjl : j < c.l.length := by unfold lastD at hgt; omega
        obtain ⟨e, he⟩ : ∃ e, c.l[j]? = some e := ⟨c.l[j], List.getElem?_eq_getElem hjl⟩
        obtain ⟨g, off, k, av, cv, hf, _, _, e0, _⟩ := h.log.ent he
        have HE : Hid (atD c i = (e.term, true)) := by
          show _ = _
          unfold atD
          rw [if_neg hb, if_neg (by omega), show (i - c.base - 1).toNat = j by omega, he]
          rfl
        have h3 : w.cell? ⟨n, 18, none⟩ = some (.slice (some ⟨g, off, none⟩) c.l.length k) := (h.blk.cell 18).trans (by rw [hf]; rfl)
        have w1 : IntKind.i64.wrap (i - c.base) = i - c.base := IntWalk.i64_in _ (by omega)
        have w2 : IntKind.i64.wrap (i - c.base - 1) = (j : Int) := by rw [IntWalk.i64_in _ (by omega)]; omega
        have j0 : (0 : Int) ≤ (j : Int) := Int.natCast_nonneg _
        have j1 : (j : Int) < (c.l.length : Int) := by omega
        have g1 : ¬ i < c.base := hlt
        have g2 : i ≤ lastD c := by omega
        clear h hf he hgt hj hjl
        go_enter Try.func50, Try.ntmps50
        go_wp2_with (go_at_call 48; go_must (refine HL.out.mono ?_; rintro e w' ⟨rfl, kd, rfl⟩))
        go_quiet (fail)
        go_wp2
        go_ret2
        exact ⟨ret_ib (congrArg Prod.fst HE.out).symm (congrArg Prod.snd HE.out).symm, _, World.drewN_drewN ..⟩
end

end Go.Proofs.Ytpppoajnbhipeaa

/- New of a core and of the document's core. (Printed by gen_new.py.) -/
namespace Go.Proofs.Ytpppoajnbhipeaa
open Go Go.RowKit

def NewNo (w : World) (e : Ending) (w' : World) : Prop := e = .returned (.tuple #[.pointer none, .int .i64 1]) ∧ Keeps [] w w'

set_option maxRecDepth 100000 in
set_option maxHeartbeats 3200000 in
theorem cNew_head (cf : ConfD) (id term vote base baseTerm : Int) (l : List Ent) (a : Option Addr) (cap : Nat) (w : World) (h : headD cf id term vote base baseTerm l.length = false) :
    Calls Try.prog 14 #[confV cf, .int .i64 id, .int .i64 term, .int .i64 vote, .int .i64 base, .int .i64 baseTerm, .slice a l.length cap] w (NewNo w) := by
  rcases hb0 : cf.may with _ | _
  · have F0 := hid hb0
    clear hb0 h
    unfold confV
    go_enter Try.func14, Try.ntmps14
    go_wp2_with fail
    refine (cMay_is false cf _ F0.out).mono ?_
    rintro e w1 ⟨rfl, k1⟩
    have K1 : Hid (Keeps [] w w1) := (((Keeps.refl [] w).alloc _).trans k1 (fun _ _ h => h))
    obtain ⟨⟨c0, c1, c2, c3, c4, c5, c6, c7, c8⟩, f1⟩ := blk9 ((k1.block w.heap.size (by simp) (by simp)).trans (heap_alloc_new w _))
    clear k1
    go_wp2_with fail
    go_ret2
    exact ⟨rfl, K1.out⟩
  have F0 := hid hb0
  clear hb0
  rcases hb1 : inD id 1 cf.nodes with _ | _
  · have F1 := hid hb1
    clear hb1 h
    unfold confV
    go_enter Try.func14, Try.ntmps14
    go_wp2_with fail
    refine (cMay_is true cf _ F0.out).mono ?_
    rintro e w1 ⟨rfl, k1⟩
    have K1 : Hid (Keeps [] w w1) := (((Keeps.refl [] w).alloc _).trans k1 (fun _ _ h => h))
    obtain ⟨⟨c0, c1, c2, c3, c4, c5, c6, c7, c8⟩, f1⟩ := blk9 ((k1.block w.heap.size (by simp) (by simp)).trans (heap_alloc_new w _))
    clear k1
    go_wp2_with fail
    refine (cin_is false _ _ _ _ F1.out).mono ?_
    rintro e w' ⟨rfl, hw'⟩
    subst hw'
    go_wp2_with fail
    go_ret2
    exact ⟨rfl, K1.out⟩
  have F1 := hid hb1
  clear hb1
  rcases hb2 : inD term 0 1099511627776 with _ | _
  · have F2 := hid hb2
    clear hb2 h
    unfold confV
    go_enter Try.func14, Try.ntmps14
    go_wp2_with fail
    refine (cMay_is true cf _ F0.out).mono ?_
    rintro e w1 ⟨rfl, k1⟩
    have K1 : Hid (Keeps [] w w1) := (((Keeps.refl [] w).alloc _).trans k1 (fun _ _ h => h))
    obtain ⟨⟨c0, c1, c2, c3, c4, c5, c6, c7, c8⟩, f1⟩ := blk9 ((k1.block w.heap.size (by simp) (by simp)).trans (heap_alloc_new w _))
    clear k1
    go_wp2_with fail
    refine (cin_is true _ _ _ _ F1.out).mono ?_
    rintro e w' ⟨rfl, hw'⟩
    subst hw'
    go_wp2_with fail
    refine (cin_is false _ _ _ _ F2.out).mono ?_
    rintro e w' ⟨rfl, hw'⟩
    subst hw'
    go_wp2_with fail
    go_ret2
    exact ⟨rfl, K1.out⟩
  have F2 := hid hb2
  clear hb2
  rcases hb3 : inD vote 0 cf.nodes with _ | _
  · have F3 := hid hb3
    clear hb3 h
    unfold confV
    go_enter Try.func14, Try.ntmps14
    go_wp2_with fail
    refine (cMay_is true cf _ F0.out).mono ?_
    rintro e w1 ⟨rfl, k1⟩
    have K1 : Hid (Keeps [] w w1) := (((Keeps.refl [] w).alloc _).trans k1 (fun _ _ h => h))
    obtain ⟨⟨c0, c1, c2, c3, c4, c5, c6, c7, c8⟩, f1⟩ := blk9 ((k1.block w.heap.size (by simp) (by simp)).trans (heap_alloc_new w _))
    clear k1
    go_wp2_with fail
    refine (cin_is true _ _ _ _ F1.out).mono ?_
    rintro e w' ⟨rfl, hw'⟩
    subst hw'
    go_wp2_with fail
    refine (cin_is true _ _ _ _ F2.out).mono ?_
    rintro e w' ⟨rfl, hw'⟩
    subst hw'
    go_wp2_with fail
    refine (cin_is false _ _ _ _ F3.out).mono ?_
    rintro e w' ⟨rfl, hw'⟩
    subst hw'
    go_wp2_with fail
    go_ret2
    exact ⟨rfl, K1.out⟩
  have F3 := hid hb3
  clear hb3
  rcases hb4 : inD base 0 1099511622680 with _ | _
  · have F4 := hid hb4
    clear hb4 h
    unfold confV
    go_enter Try.func14, Try.ntmps14
    go_wp2_with fail
    refine (cMay_is true cf _ F0.out).mono ?_
    rintro e w1 ⟨rfl, k1⟩
    have K1 : Hid (Keeps [] w w1) := (((Keeps.refl [] w).alloc _).trans k1 (fun _ _ h => h))
    obtain ⟨⟨c0, c1, c2, c3, c4, c5, c6, c7, c8⟩, f1⟩ := blk9 ((k1.block w.heap.size (by simp) (by simp)).trans (heap_alloc_new w _))
    clear k1
    go_wp2_with fail
    refine (cin_is true _ _ _ _ F1.out).mono ?_
    rintro e w' ⟨rfl, hw'⟩
    subst hw'
    go_wp2_with fail
    refine (cin_is true _ _ _ _ F2.out).mono ?_
    rintro e w' ⟨rfl, hw'⟩
    subst hw'
    go_wp2_with fail
    refine (cin_is true _ _ _ _ F3.out).mono ?_
    rintro e w' ⟨rfl, hw'⟩
    subst hw'
    go_wp2_with fail
    refine (cin_is false _ _ _ _ F4.out).mono ?_
    rintro e w' ⟨rfl, hw'⟩
    subst hw'
    go_wp2_with fail
    go_ret2
    exact ⟨rfl, K1.out⟩
  have F4 := hid hb4
  clear hb4
  rcases hb5 : inD baseTerm 0 1099511627776 with _ | _
  · have F5 := hid hb5
    clear hb5 h
    unfold confV
    go_enter Try.func14, Try.ntmps14
    go_wp2_with fail
    refine (cMay_is true cf _ F0.out).mono ?_
    rintro e w1 ⟨rfl, k1⟩
    have K1 : Hid (Keeps [] w w1) := (((Keeps.refl [] w).alloc _).trans k1 (fun _ _ h => h))
    obtain ⟨⟨c0, c1, c2, c3, c4, c5, c6, c7, c8⟩, f1⟩ := blk9 ((k1.block w.heap.size (by simp) (by simp)).trans (heap_alloc_new w _))
    clear k1
    go_wp2_with fail
    refine (cin_is true _ _ _ _ F1.out).mono ?_
    rintro e w' ⟨rfl, hw'⟩
    subst hw'
    go_wp2_with fail
    refine (cin_is true _ _ _ _ F2.out).mono ?_
    rintro e w' ⟨rfl, hw'⟩
    subst hw'
    go_wp2_with fail
    refine (cin_is true _ _ _ _ F3.out).mono ?_
    rintro e w' ⟨rfl, hw'⟩
    subst hw'
    go_wp2_with fail
    refine (cin_is true _ _ _ _ F4.out).mono ?_
    rintro e w' ⟨rfl, hw'⟩
    subst hw'
    go_wp2_with fail
    refine (cin_is false _ _ _ _ F5.out).mono ?_
    rintro e w' ⟨rfl, hw'⟩
    subst hw'
    go_wp2_with fail
    go_ret2
    exact ⟨rfl, K1.out⟩
  have F5 := hid hb5
  clear hb5
  rcases hb6 : decide (l.length ≤ 5096) with _ | _
  · have F6 := hid hb6
    have hl5 : (5096 : Int) < (l.length : Int) := by simp at hb6; omega
    clear hb6 h
    unfold confV
    go_enter Try.func14, Try.ntmps14
    go_wp2_with fail
    refine (cMay_is true cf _ F0.out).mono ?_
    rintro e w1 ⟨rfl, k1⟩
    have K1 : Hid (Keeps [] w w1) := (((Keeps.refl [] w).alloc _).trans k1 (fun _ _ h => h))
    obtain ⟨⟨c0, c1, c2, c3, c4, c5, c6, c7, c8⟩, f1⟩ := blk9 ((k1.block w.heap.size (by simp) (by simp)).trans (heap_alloc_new w _))
    clear k1
    go_wp2_with fail
    refine (cin_is true _ _ _ _ F1.out).mono ?_
    rintro e w' ⟨rfl, hw'⟩
    subst hw'
    go_wp2_with fail
    refine (cin_is true _ _ _ _ F2.out).mono ?_
    rintro e w' ⟨rfl, hw'⟩
    subst hw'
    go_wp2_with fail
    refine (cin_is true _ _ _ _ F3.out).mono ?_
    rintro e w' ⟨rfl, hw'⟩
    subst hw'
    go_wp2_with fail
    refine (cin_is true _ _ _ _ F4.out).mono ?_
    rintro e w' ⟨rfl, hw'⟩
    subst hw'
    go_wp2_with fail
    refine (cin_is true _ _ _ _ F5.out).mono ?_
    rintro e w' ⟨rfl, hw'⟩
    subst hw'
    have hlen : (5096 : Int) < (l.length : Int) := hl5
    go_wp2_with fail
    go_ret2
    exact ⟨rfl, K1.out⟩
  have F6 := hid hb6
  clear hb6
  exfalso
  simp [headD, show (cf.may) = true from F0.out, show (inD id 1 cf.nodes) = true from F1.out, show (inD term 0 1099511627776) = true from F2.out, show (inD vote 0 cf.nodes) = true from F3.out, show (inD base 0 1099511622680) = true from F4.out, show (inD baseTerm 0 1099511627776) = true from F5.out] at h
  have := F6.out
  simp at this
  omega

set_option maxRecDepth 100000 in
set_option maxHeartbeats 3200000 in
theorem rNew_head (cf : ConfD) (id term vote base baseTerm : Int) (l : List Ent) (a : Option Addr) (cap : Nat) (w : World) (h : headD cf id term vote base baseTerm l.length = false) :
    Calls Try.prog 15 #[confV cf, .int .i64 id, .int .i64 term, .int .i64 vote, .int .i64 base, .int .i64 baseTerm, .slice a l.length cap] w (NewNo w) := by
  rcases hb0 : cf.may with _ | _
  · have F0 := hid hb0
    clear hb0 h
    unfold confV
    go_enter Try.func15, Try.ntmps15
    go_wp2_with fail
    refine (rMay_is false cf _ F0.out).mono ?_
    rintro e w1 ⟨rfl, k1⟩
    have K1 : Hid (Keeps [] w w1) := (((Keeps.refl [] w).alloc _).trans k1 (fun _ _ h => h))
    obtain ⟨⟨c0, c1, c2, c3, c4, c5, c6, c7, c8⟩, f1⟩ := blk9 ((k1.block w.heap.size (by simp) (by simp)).trans (heap_alloc_new w _))
    clear k1
    go_wp2_with fail
    go_ret2
    exact ⟨rfl, K1.out⟩
  have F0 := hid hb0
  clear hb0
  rcases hb1 : inD id 1 cf.nodes with _ | _
  · have F1 := hid hb1
    clear hb1 h
    unfold confV
    go_enter Try.func15, Try.ntmps15
    go_wp2_with fail
    refine (rMay_is true cf _ F0.out).mono ?_
    rintro e w1 ⟨rfl, k1⟩
    have K1 : Hid (Keeps [] w w1) := (((Keeps.refl [] w).alloc _).trans k1 (fun _ _ h => h))
    obtain ⟨⟨c0, c1, c2, c3, c4, c5, c6, c7, c8⟩, f1⟩ := blk9 ((k1.block w.heap.size (by simp) (by simp)).trans (heap_alloc_new w _))
    clear k1
    go_wp2_with fail
    refine (rin_is false _ _ _ _ F1.out).mono ?_
    rintro e w' ⟨rfl, hw'⟩
    subst hw'
    go_wp2_with fail
    go_ret2
    exact ⟨rfl, K1.out⟩
  have F1 := hid hb1
  clear hb1
  rcases hb2 : inD term 0 1099511627776 with _ | _
  · have F2 := hid hb2
    clear hb2 h
    unfold confV
    go_enter Try.func15, Try.ntmps15
    go_wp2_with fail
    refine (rMay_is true cf _ F0.out).mono ?_
    rintro e w1 ⟨rfl, k1⟩
    have K1 : Hid (Keeps [] w w1) := (((Keeps.refl [] w).alloc _).trans k1 (fun _ _ h => h))
    obtain ⟨⟨c0, c1, c2, c3, c4, c5, c6, c7, c8⟩, f1⟩ := blk9 ((k1.block w.heap.size (by simp) (by simp)).trans (heap_alloc_new w _))
    clear k1
    go_wp2_with fail
    refine (rin_is true _ _ _ _ F1.out).mono ?_
    rintro e w' ⟨rfl, hw'⟩
    subst hw'
    go_wp2_with fail
    refine (rin_is false _ _ _ _ F2.out).mono ?_
    rintro e w' ⟨rfl, hw'⟩
    subst hw'
    go_wp2_with fail
    go_ret2
    exact ⟨rfl, K1.out⟩
  have F2 := hid hb2
  clear hb2
  rcases hb3 : inD base 0 1099511622680 with _ | _
  · have F3 := hid hb3
    clear hb3 h
    unfold confV
    go_enter Try.func15, Try.ntmps15
    go_wp2_with fail
    refine (rMay_is true cf _ F0.out).mono ?_
    rintro e w1 ⟨rfl, k1⟩
    have K1 : Hid (Keeps [] w w1) := (((Keeps.refl [] w).alloc _).trans k1 (fun _ _ h => h))
    obtain ⟨⟨c0, c1, c2, c3, c4, c5, c6, c7, c8⟩, f1⟩ := blk9 ((k1.block w.heap.size (by simp) (by simp)).trans (heap_alloc_new w _))
    clear k1
    go_wp2_with fail
    refine (rin_is true _ _ _ _ F1.out).mono ?_
    rintro e w' ⟨rfl, hw'⟩
    subst hw'
    go_wp2_with fail
    refine (rin_is true _ _ _ _ F2.out).mono ?_
    rintro e w' ⟨rfl, hw'⟩
    subst hw'
    go_wp2_with fail
    refine (rin_is false _ _ _ _ F3.out).mono ?_
    rintro e w' ⟨rfl, hw'⟩
    subst hw'
    go_wp2_with fail
    go_ret2
    exact ⟨rfl, K1.out⟩
  have F3 := hid hb3
  clear hb3
  rcases hb4 : inD baseTerm 0 1099511627776 with _ | _
  · have F4 := hid hb4
    clear hb4 h
    unfold confV
    go_enter Try.func15, Try.ntmps15
    go_wp2_with fail
    refine (rMay_is true cf _ F0.out).mono ?_
    rintro e w1 ⟨rfl, k1⟩
    have K1 : Hid (Keeps [] w w1) := (((Keeps.refl [] w).alloc _).trans k1 (fun _ _ h => h))
    obtain ⟨⟨c0, c1, c2, c3, c4, c5, c6, c7, c8⟩, f1⟩ := blk9 ((k1.block w.heap.size (by simp) (by simp)).trans (heap_alloc_new w _))
    clear k1
    go_wp2_with fail
    refine (rin_is true _ _ _ _ F1.out).mono ?_
    rintro e w' ⟨rfl, hw'⟩
    subst hw'
    go_wp2_with fail
    refine (rin_is true _ _ _ _ F2.out).mono ?_
    rintro e w' ⟨rfl, hw'⟩
    subst hw'
    go_wp2_with fail
    refine (rin_is true _ _ _ _ F3.out).mono ?_
    rintro e w' ⟨rfl, hw'⟩
    subst hw'
    go_wp2_with fail
    refine (rin_is false _ _ _ _ F4.out).mono ?_
    rintro e w' ⟨rfl, hw'⟩
    subst hw'
    go_wp2_with fail
    go_ret2
    exact ⟨rfl, K1.out⟩
  have F4 := hid hb4
  clear hb4
  rcases hb5 : inD vote 0 cf.nodes with _ | _
  · have F5 := hid hb5
    clear hb5 h
    unfold confV
    go_enter Try.func15, Try.ntmps15
    go_wp2_with fail
    refine (rMay_is true cf _ F0.out).mono ?_
    rintro e w1 ⟨rfl, k1⟩
    have K1 : Hid (Keeps [] w w1) := (((Keeps.refl [] w).alloc _).trans k1 (fun _ _ h => h))
    obtain ⟨⟨c0, c1, c2, c3, c4, c5, c6, c7, c8⟩, f1⟩ := blk9 ((k1.block w.heap.size (by simp) (by simp)).trans (heap_alloc_new w _))
    clear k1
    go_wp2_with fail
    refine (rin_is true _ _ _ _ F1.out).mono ?_
    rintro e w' ⟨rfl, hw'⟩
    subst hw'
    go_wp2_with fail
    refine (rin_is true _ _ _ _ F2.out).mono ?_
    rintro e w' ⟨rfl, hw'⟩
    subst hw'
    go_wp2_with fail
    refine (rin_is true _ _ _ _ F3.out).mono ?_
    rintro e w' ⟨rfl, hw'⟩
    subst hw'
    go_wp2_with fail
    refine (rin_is true _ _ _ _ F4.out).mono ?_
    rintro e w' ⟨rfl, hw'⟩
    subst hw'
    go_wp2_with fail
    refine (rin_is false _ _ _ _ F5.out).mono ?_
    rintro e w' ⟨rfl, hw'⟩
    subst hw'
    go_wp2_with fail
    go_ret2
    exact ⟨rfl, K1.out⟩
  have F5 := hid hb5
  clear hb5
  rcases hb6 : decide (l.length ≤ 5096) with _ | _
  · have F6 := hid hb6
    have hl5 : (5096 : Int) < (l.length : Int) := by simp at hb6; omega
    clear hb6 h
    unfold confV
    go_enter Try.func15, Try.ntmps15
    go_wp2_with fail
    refine (rMay_is true cf _ F0.out).mono ?_
    rintro e w1 ⟨rfl, k1⟩
    have K1 : Hid (Keeps [] w w1) := (((Keeps.refl [] w).alloc _).trans k1 (fun _ _ h => h))
    obtain ⟨⟨c0, c1, c2, c3, c4, c5, c6, c7, c8⟩, f1⟩ := blk9 ((k1.block w.heap.size (by simp) (by simp)).trans (heap_alloc_new w _))
    clear k1
    go_wp2_with fail
    refine (rin_is true _ _ _ _ F1.out).mono ?_
    rintro e w' ⟨rfl, hw'⟩
    subst hw'
    go_wp2_with fail
    refine (rin_is true _ _ _ _ F2.out).mono ?_
    rintro e w' ⟨rfl, hw'⟩
    subst hw'
    go_wp2_with fail
    refine (rin_is true _ _ _ _ F3.out).mono ?_
    rintro e w' ⟨rfl, hw'⟩
    subst hw'
    go_wp2_with fail
    refine (rin_is true _ _ _ _ F4.out).mono ?_
    rintro e w' ⟨rfl, hw'⟩
    subst hw'
    go_wp2_with fail
    refine (rin_is true _ _ _ _ F5.out).mono ?_
    rintro e w' ⟨rfl, hw'⟩
    subst hw'
    have hlen : (5096 : Int) < (l.length : Int) := hl5
    go_wp2_with fail
    go_ret2
    exact ⟨rfl, K1.out⟩
  have F6 := hid hb6
  clear hb6
  exfalso
  simp [headD, show (cf.may) = true from F0.out, show (inD id 1 cf.nodes) = true from F1.out, show (inD term 0 1099511627776) = true from F2.out, show (inD base 0 1099511622680) = true from F3.out, show (inD baseTerm 0 1099511627776) = true from F4.out, show (inD vote 0 cf.nodes) = true from F5.out] at h
  have := F6.out
  simp at this
  omega

end Go.Proofs.Ytpppoajnbhipeaa
