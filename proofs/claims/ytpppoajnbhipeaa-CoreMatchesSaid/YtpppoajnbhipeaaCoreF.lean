/- What becomes of a core's memory where a field is written, where an entry comes behind its log. -/
import Derived.Test.YtpppoajnbhipeaaCoreE
namespace Go.Proofs.Ytpppoajnbhipeaa
open Go Go.RowKit

theorem CoreBlk.set {w : World} {n : Nat} {c c' : CoreD} {lv sv lv' sv' : Value} (h : CoreBlk w n c lv sv) (i : Nat) (v : Value) (hs : (coreCells c lv sv).set i v = coreCells c' lv' sv') : CoreBlk (w.setCell ⟨n, i, none⟩ v) n c' lv' sv' := by
  unfold CoreBlk at *
  rw [heap_setCell_same w n i _ _ _ h, ← hs]
  simp

/-- Only the core's block was written, field by field: its row and what it reads are as they were. -/
theorem CoreAt.wrote {w w' : World} {B n : Nat} {c c' : CoreD} {lv sv : Value} (h : CoreAt w B n c lv sv) (k : Keeps [n] w w') (hb : CoreBlk w' n c' lv sv) (hl : c'.l = c.l) (hs : c'.snap = c.snap) (ok : CoreOk c') (hban : c'.ban = c.ban := by rfl) : CoreAt w' B n c' lv sv :=
  { blk := hb, own := by rw [hl, hban]; exact h.own.keep k (fun b h1 h2 => by simp at h2; rw [h2] at h1; exact h.apart h1) (fun b h1 h2 => by simp at h2; exact h1.1.1 h2),
    snap := by rw [hs, hban]; exact h.snap.keep k (fun b h1 h2 => by simp at h2; exact h1.1.1 h2), apart := h.apart, base := h.base, old := fun b h1 => by rw [hban] at h1; exact Nat.lt_of_lt_of_le (h.old b h1) k.size, free := by rw [hban]; exact h.free, ok := ok }

/-- An entry behind the log. -/
theorem CoreAt.grow {w w1 w2 : World} {B n : Nat} {c c' : CoreD} {lv sv lv' : Value} {l' : List Ent} (h : CoreAt w B n c lv sv) (k1 : Keeps [] w w1) (ho : OwnAt entL 59 w2 B (fun b => (b ≠ n ∧ ¬ c.ban b) ∧ b ∉ ownB lv') lv' l') (k2 : Keeps (ownB lv) w1 w2) (hv : ∀ b ∈ ownB lv', b ∈ ownB lv ∨ w1.heap.size ≤ b)
    (hc : c' = { c with l := l' }) (ok : CoreOk c') : CoreAt (w2.setCell ⟨n, 17, none⟩ lv') B n c' lv' sv ∧ Keeps (n :: ownB lv) w (w2.setCell ⟨n, 17, none⟩ lv') := by
  have hlt := h.blk.lt
  have z1 := k1.size
  have ka : Keeps (ownB lv) w w2 := (k1.mono (G := ownB lv) (fun _ _ h => by cases h)).trans k2 (fun _ _ h => h)
  have hn' : n ∉ ownB lv' := fun hb => by
    rcases hv n hb with h1 | h1
    · exact h.apart h1
    · omega
  have kb : Keeps [n] w2 (w2.setCell ⟨n, 17, none⟩ lv') := (Keeps.refl _ _).setCell (.inl (by simp)) _
  have kab : Keeps (n :: ownB lv) w (w2.setCell ⟨n, 17, none⟩ lv') := (ka.mono (G := n :: ownB lv) (fun _ _ h => List.mem_cons_of_mem _ h)).trans kb (fun b _ hb => by simp at hb; simp [hb])
  refine ⟨{ blk := ?_, own := ?_, snap := ?_, apart := hn', base := h.base, old := ?_, free := ?_, ok := ok }, kab⟩
  · subst hc
    exact (h.blk.keep ka h.apart).set 17 lv' rfl
  · subst hc
    exact (ho.keep kb (fun b hb hb' => by simp at hb'; rw [hb'] at hb; exact hn' hb) (fun b hb hb' => by simp at hb'; exact hb.1.1 hb')).mono (fun b _ hb => ⟨⟨hb.1.1, hb.2⟩, hb.1.2⟩)
  · subst hc
    have s1 := (BytesAt.mono (P' := fun b => (Off n lv b ∧ ¬ c.ban b) ∧ b < w.heap.size) h.snap (fun b h1 h2 => ⟨h2, h1⟩)).keep ka (fun b hb => hb.1.1.2)
    have s2 := s1.mono (P' := fun b => Off n lv' b ∧ ¬ c.ban b) (fun b _ hb => ⟨⟨hb.1.1.1, fun hb' => by
      rcases hv b hb' with h1 | h1
      · exact hb.1.1.2 h1
      · omega⟩, hb.1.2⟩)
    exact s2.keep kb (fun b hb hb' => by simp at hb'; exact hb.1.1 hb')
  · subst hc
    exact fun b hb => Nat.lt_of_lt_of_le (h.old b hb) kab.size
  · subst hc
    refine ⟨h.free.1, fun b hb hb' => ?_⟩
    rcases hv b hb with h1 | h1
    · exact h.free.2 b h1 hb'
    · have := h.old b hb'; omega

/-- An entry in new memory, as 'own' leaves it, as one element of a list. -/
theorem ent_elem {w w1 : World} {e : Ent} {a : Option Addr} {q : Nat} {P : Nat → Prop} (ho : w1.ownsRow w.heap.size 5 1 (.slice a e.data.length q) e.data.length (u8s e.data)) (hP : ∀ b, w.heap.size ≤ b → P b) : ∀ wx, Keeps [] w1 wx → entL.at_ wx P [.int .i64 e.term, .bool e.cmd, .slice a e.data.length q] e :=
  fun _ kx => ⟨_, rfl, BytesAt.k (BytesAt.ofOwn ho rfl (fun b hb _ => hP b hb)) kx⟩

theorem CoreAt.lower {w : World} {B B' n : Nat} {c : CoreD} {lv sv : Value} (h : CoreAt w B n c lv sv) (hB : B' ≤ B) : CoreAt w B' n c lv sv :=
  { blk := h.blk, own := h.own.base hB, snap := h.snap, apart := h.apart, base := Nat.le_trans hB h.base, old := h.old, free := h.free, ok := h.ok }

theorem CoreAt.lt {w : World} {B n : Nat} {c : CoreD} {lv sv : Value} (h : CoreAt w B n c lv sv) : ∀ b ∈ n :: ownB lv, B ≤ b ∧ b < w.heap.size := by
  intro b hb
  rcases List.mem_cons.1 hb with rfl | hb
  · exact ⟨h.base, h.blk.lt⟩
  · exact h.own.ge b hb

theorem blk9 {w : World} {b : Nat} {x0 x1 x2 x3 x4 x5 x6 x7 x8 : Value} {t : TypeId} (h : w.heap[b]? = some (.cells #[x0, x1, x2, x3, x4, x5, x6, x7, x8] t (0, 0))) :
    (w.cell? ⟨b, 0, none⟩ = some x0 ∧ w.cell? ⟨b, 1, none⟩ = some x1 ∧ w.cell? ⟨b, 2, none⟩ = some x2 ∧ w.cell? ⟨b, 3, none⟩ = some x3 ∧ w.cell? ⟨b, 4, none⟩ = some x4 ∧ w.cell? ⟨b, 5, none⟩ = some x5 ∧ w.cell? ⟨b, 6, none⟩ = some x6 ∧ w.cell? ⟨b, 7, none⟩ = some x7 ∧ w.cell? ⟨b, 8, none⟩ = some x8) ∧ ∀ i, w.frozen? ⟨b, i, none⟩ = false :=
  ⟨⟨cell_of_block h 0, cell_of_block h 1, cell_of_block h 2, cell_of_block h 3, cell_of_block h 4, cell_of_block h 5, cell_of_block h 6, cell_of_block h 7, cell_of_block h 8⟩, fun i => frozen_of_row w b i _ _ h⟩

theorem cMay_is (r : Bool) (c : ConfD) (w : World) (h : c.may = r) : Calls Try.prog 12 #[confV c] w fun e w' => e = .returned (.bool r) ∧ Keeps [] w w' := by rw [← h]; exact cMay_any c w
theorem rMay_is (r : Bool) (c : ConfD) (w : World) (h : c.may = r) : Calls Try.prog 13 #[confV c] w fun e w' => e = .returned (.bool r) ∧ Keeps [] w w' := by rw [← h]; exact rMay_any c w

/-- The first conditions of New. -/
def headD (cf : ConfD) (id term vote base baseTerm : Int) (n : Nat) : Bool :=
  cf.may && inD id 1 cf.nodes && inD term 0 1099511627776 && inD vote 0 cf.nodes && inD base 0 1099511622680 && inD baseTerm 0 1099511627776 && decide (n ≤ 5096)
theorem mayNew_head (cf : ConfD) (id term vote base baseTerm : Int) (l : List Ent) : mayNewD cf id term vote base baseTerm l = (headD cf id term vote base baseTerm l.length && l.all fun e => inD e.term 1 1099511627776) := rfl

end Go.Proofs.Ytpppoajnbhipeaa
