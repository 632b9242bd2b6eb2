/- Msg: a message in new memory. -/
import Derived.Test.YtpppoajnbhipeaaSendA
import Derived.Test.YtpppoajnbhipeaaCoreP
namespace Go.Proofs.Ytpppoajnbhipeaa
open Go Go.RowKit

set_option maxRecDepth 100000 in
set_option maxHeartbeats 3200000 in
theorem lMsg_any (w : World) (m : MsgD) (ea da : Option Addr) (ec dc : Nat) (P : Nat → Prop) (hl : ListAt entL w P (.slice ea m.entries.length ec) m.entries) (hd : BytesAt w P (.slice da m.data.length dc) m.data) (hn : m.entries.length ≤ 100000) (h1 : ∀ e ∈ m.entries, e.data.length ≤ 1000000) (h2 : m.data.length ≤ 1000000) :
    Calls Try.prog 31 #[msgV m (.slice ea m.entries.length ec) (.slice da m.data.length dc)] w (SendPost m w) := by
  have HL := hid hl
  have HD := hid hd
  have H1 := hid h1
  clear hl hd h1
  unfold msgV
  go_enter Try.func31, Try.ntmps31
  go_wp2_with fail
  refine (lEntries_any _ m.entries ea ec P (HL.out.k (by (repeat (first | (with_reducible exact Keeps.refl _ _) | (with_reducible assumption) | ((with_reducible refine Keeps.setCell ?_ ?_ _); rotate_left 1; (· first | (refine .inl ?_; simp; done) | (refine .inr ?_; first | exact Nat.le_refl _ | (simp; done) | (simp; omega) | omega))) | (with_reducible refine Keeps.alloc ?_ _) | (with_reducible refine Keeps.drewN ?_ _) | (with_reducible refine Keeps.drew ?_))))) H1.out hn).mono ?_
  rintro e w3 ⟨a3, q3, rfl, f3, k3⟩
  have HB1 := (k3.block w.heap.size (by simp; omega) (by simp)).trans ((((Keeps.refl [] _).alloc _).block w.heap.size (by simp) (by simp)).trans (heap_alloc_new w (.cells #[.int .i64 m.kind, .int .i64 m.frm, .int .i64 m.to, .int .i64 m.term, .int .i64 m.a, .int .i64 m.b, .int .i64 m.c, .bool m.ok, .slice ea m.entries.length ec, .slice da m.data.length dc] 40)))
  have HB2 : w3.heap[w.heap.size + 1]? = some (.cells #[.int .i64 0, .int .i64 0, .int .i64 0, .int .i64 0, .int .i64 0, .int .i64 0, .int .i64 0, .bool false, .slice none 0 0, .slice none 0 0] 40 (0, 0)) := by
    have h2 := heap_alloc_new (w.alloc (.cells #[.int .i64 m.kind, .int .i64 m.frm, .int .i64 m.to, .int .i64 m.term, .int .i64 m.a, .int .i64 m.b, .int .i64 m.c, .bool m.ok, .slice ea m.entries.length ec, .slice da m.data.length dc] 40)) (.cells #[.int .i64 0, .int .i64 0, .int .i64 0, .int .i64 0, .int .i64 0, .int .i64 0, .int .i64 0, .bool false, .slice none 0 0, .slice none 0 0] 40)
    rw [show (w.alloc (.cells #[.int .i64 m.kind, .int .i64 m.frm, .int .i64 m.to, .int .i64 m.term, .int .i64 m.a, .int .i64 m.b, .int .i64 m.c, .bool m.ok, .slice ea m.entries.length ec, .slice da m.data.length dc] 40)).heap.size = w.heap.size + 1 by simp] at h2
    exact (k3.block (w.heap.size + 1) (by simp) (by simp)).trans h2
  have K3 : Hid (Keeps [] w w3) := Keeps.trans (by (repeat (first | (with_reducible exact Keeps.refl _ _) | (with_reducible assumption) | ((with_reducible refine Keeps.setCell ?_ ?_ _); rotate_left 1; (· first | (refine .inl ?_; simp; done) | (refine .inr ?_; first | exact Nat.le_refl _ | (simp; done) | (simp; omega) | omega))) | (with_reducible refine Keeps.alloc ?_ _) | (with_reducible refine Keeps.drewN ?_ _) | (with_reducible refine Keeps.drew ?_)))) k3 (fun _ _ h => h)
  have L3 : Hid (ListAt entL w3 (fun b => w.heap.size + 2 ≤ b) (.slice a3 m.entries.length q3) m.entries) := OwnAt.list f3 (fun b _ hb => by simpa using hb.1) (fun b hb => by have := (OwnAt.ge f3 b hb).1; simpa using this)
  have D3 : Hid (BytesAt w3 (fun b => b < w.heap.size) (.slice da m.data.length dc) m.data) := (HD.out.mono (P' := fun b => b < w.heap.size) (fun b h _ => h)).k K3.out
  obtain ⟨⟨c0, c1, c2, c3, c4, c5, c6, c7, c8, c9⟩, fz⟩ := blk10 HB1
  have hz3 : w.heap.size + 1 < w3.heap.size := (Array.getElem?_eq_some_iff.1 HB2).1
  have HBX := hid (heap_setCell_same w3 w.heap.size 8 _ _ (.slice a3 m.entries.length q3) HB1)
  have HBY := hid HB2
  have KS : Hid (∀ v, Keeps [w.heap.size] w3 (w3.setCell ⟨w.heap.size, 8, none⟩ v)) := fun v => (Keeps.refl _ _).setCell (.inl (by simp)) _
  clear f3 k3 HB1 HB2
  go_wp2_with fail
  refine (lawBytes_any _ m.data _ (D3.out.keep (KS.out _) (fun b hb hb' => by simp at hb'; omega)).1 (by omega)).mono ?_
  rintro e w4 ⟨a4, q4, rfl, o4, k4⟩
  have D4 : Hid (BytesAt w4 (fun b => w.heap.size + 2 ≤ b) (.slice a4 m.data.length q4) m.data) := BytesAt.ofOwn o4 rfl (fun b hb _ => by simp at hb; omega)
  have L4 : Hid (ListAt entL w4 (fun b => w.heap.size + 2 ≤ b) (.slice a3 m.entries.length q3) m.entries) := (L3.out.keep (KS.out _) (fun b hb hb' => by simp at hb'; omega)).k k4
  have K4 : Hid (Keeps [w.heap.size] w3 w4) := (KS.out _).trans k4 (fun _ _ h => by cases h)
  have HX4 := (k4.block w.heap.size (by simp; omega) (by simp)).trans HBX.out
  have HY4 := (K4.out.block (w.heap.size + 1) hz3 (by simp)).trans HBY.out
  simp only [List.setIfInBounds_toArray, List.set_cons_zero, List.set_cons_succ] at HX4
  obtain ⟨⟨d0, d1, d2, d3, d4, d5, d6, d7, d8, d9⟩, fx⟩ := blk10 HX4
  obtain ⟨⟨e0, e1, e2, e3, e4, e5, e6, e7, e8, e9⟩, fy⟩ := blk10 HY4
  have HYY := hid HY4
  have hz4 : w.heap.size + 1 < w4.heap.size := (Array.getElem?_eq_some_iff.1 HY4).1
  clear o4 k4 HX4 HY4 c0 c1 c2 c3 c4 c5 c6 c7 c8 c9 fz
  go_wp2_with fail
  have k1 : Keeps [w.heap.size] w4 (w4.setCell ⟨w.heap.size, 9, none⟩ (.slice a4 m.data.length q4)) := (Keeps.refl _ _).setCell (.inl (by simp)) _
  have HF := heap10 (y0 := .int .i64 m.kind) (y1 := .int .i64 m.frm) (y2 := .int .i64 m.to) (y3 := .int .i64 m.term) (y4 := .int .i64 m.a) (y5 := .int .i64 m.b) (y6 := .int .i64 m.c) (y7 := .bool m.ok) (y8 := .slice a3 m.entries.length q3) (y9 := .slice a4 m.data.length q4) ((k1.block (w.heap.size + 1) hz4 (by simp)).trans HYY.out)
  have k5 : Keeps [w.heap.size, w.heap.size + 1] w4 (((((((((((w4.setCell ⟨w.heap.size, 9, none⟩ (.slice a4 m.data.length q4)).setCell ⟨w.heap.size + 1, 0, none⟩ (.int .i64 m.kind)).setCell ⟨w.heap.size + 1, 1, none⟩ (.int .i64 m.frm)).setCell ⟨w.heap.size + 1, 2, none⟩ (.int .i64 m.to)).setCell ⟨w.heap.size + 1, 3, none⟩ (.int .i64 m.term)).setCell ⟨w.heap.size + 1, 4, none⟩ (.int .i64 m.a)).setCell ⟨w.heap.size + 1, 5, none⟩ (.int .i64 m.b)).setCell ⟨w.heap.size + 1, 6, none⟩ (.int .i64 m.c)).setCell ⟨w.heap.size + 1, 7, none⟩ (.bool m.ok)).setCell ⟨w.heap.size + 1, 8, none⟩ (.slice a3 m.entries.length q3)).setCell ⟨w.heap.size + 1, 9, none⟩ (.slice a4 m.data.length q4)) := by (repeat (first | (with_reducible exact Keeps.refl _ _) | (with_reducible assumption) | ((with_reducible refine Keeps.setCell ?_ ?_ _); rotate_left 1; (· first | (refine .inl ?_; simp; done) | (refine .inr ?_; first | exact Nat.le_refl _ | (simp; done) | (simp; omega) | omega))) | (with_reducible refine Keeps.alloc ?_ _) | (with_reducible refine Keeps.drewN ?_ _) | (with_reducible refine Keeps.drew ?_)))
  refine bodyPost_ret (v := .agg #[.int .i64 m.kind, .int .i64 m.frm, .int .i64 m.to, .int .i64 m.term, .int .i64 m.a, .int .i64 m.b, .int .i64 m.c, .bool m.ok, .slice a3 m.entries.length q3, .slice a4 m.data.length q4]) (results_cell_row rfl _ _ (w.heap.size + 1) 40 _ (0, 0) _ rfl HF Try.underlying40 rfl (by kernel_rfl)) rfl ⟨a3, q3, a4, q4, rfl, ?_, ?_, ?_⟩
  · exact (L4.out.keep k5 (fun b hb hb' => by simp at hb'; omega)).mono (fun b _ hb => by omega)
  · exact (D4.out.keep k5 (fun b hb hb' => by simp at hb'; omega)).mono (fun b _ hb => by omega)
  · exact (K3.out.trans K4.out (fun b hb hb' => by simp at hb'; omega)).trans k5 (fun b hb hb' => by simp at hb'; omega)

end Go.Proofs.Ytpppoajnbhipeaa
