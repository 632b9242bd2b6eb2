/- A call at both clients. -/
import Derived.Test.YtnjdepojmnniaaaGreatDoorQ43

set_option linter.unusedSimpArgs false
set_option linter.unusedVariables false
namespace Go.Proofs.YtnjdepojmnniaaaGreatDoor
open Go Go.RowKit

theorem range_sub {w : World} {b o : Nat} {pre cs post : List Value} (h : w.rangeAt b o (pre ++ cs ++ post)) : w.rangeAt b (o + pre.length) cs := fun j v hv => by
  have hj : j < cs.length := (List.getElem?_eq_some_iff.1 hv).1
  have := h (pre.length + j) v (by rw [List.append_assoc, List.getElem?_append_right (by omega), List.getElem?_append_left (by omega)]; simpa using hv)
  rw [Nat.add_assoc]; exact this
theorem hear_xok {c : CliD} {X : CmdD} (m : MsgD) (h : XOk c X) : XOk (chearD c m).1 X := by
  unfold chearD
  split
  · exact h
  · split
    · split
      · exact h
      · exact h
    · split
      · exact h
      · split
        · unfold openedD
          split
          · exact h
          · exact h
        · exact h
/-- Both clients, behind at most k calls. -/
structure Duo24 (w : World) (n m : Nat) (k : Int) (c : CliD) (X : CmdD) : Prop where
  one : ∃ dv fv, CliAt w n (fun x => x ≠ n ∧ x ≠ m) c dv fv
  two : ∃ dw, RefCAt w m (fun x => x ≠ n ∧ x ≠ m) c X dw
  xok : XOk c X
  ok : CliK k c
  last : LastOk c
theorem Duo24.k0 {w w' : World} {n m : Nat} {k : Int} {c : CliD} {X : CmdD} (h : Duo24 w n m k c X) (kk : Keeps [] w w') : Duo24 w' n m k c X := by
  obtain ⟨dv, fv, h1⟩ := h.one
  obtain ⟨dw, h2⟩ := h.two
  exact ⟨⟨dv, fv, h1.k kk⟩, ⟨dw, h2.k kk⟩, h.xok, h.ok, h.last⟩
def Did24 (n m : Nat) (k : Int) (c : CliD) (w : World) (e : Ending) (w' : World) : Prop :=
  e = .returned (.bool true) ∧ Keeps [n, m] w w' ∧ ∃ c' X', Duo24 w' n m (k + 1) c' X' ∧ c'.conf = c.conf ∧ c'.id = c.id

set_option maxHeartbeats 400000 in
theorem placeW_any (v n : Int) (w : World) (h0 : 0 < n) (h1 : n ≤ 1073741824) (_wv : (Lit.int .i64 v).wf = true) :
    Calls Tryz.prog 8 #[.int .i64 v, .int .i64 n] w fun e w' => e = .returned (.int .i64 (placeOf v n)) ∧ w' = w := by
  have hn : n ≠ 0 := by omega
  have a1 : v.tmod n < n := Int.tmod_lt_of_pos v h0
  have a2 : -n < v.tmod n := by have := Int.lt_tmod_of_pos v h0; omega
  by_cases hc : v.tmod n < 0
  · go_enter Tryz.func8, Tryz.ntmps8
    go_wp2
    go_ret
    exact ⟨by simp [placeOf, hc], rfl⟩
  · go_enter Tryz.func8, Tryz.ntmps8
    go_wp2
    go_ret
    have e : placeOf v n = v.tmod n := by rw [placeOf, if_neg (by omega)]
    exact ⟨by rw [e]; rfl, rfl⟩

set_option maxRecDepth 100000 in
set_option maxHeartbeats 32000000 in
theorem do24_any (w : World) (n m : Nat) (k : Int) (c : CliD) (X : CmdD) (o : OpD24) (ea da : Option Addr) (ec dc : Nat) (hT : ∀ wx, Keeps [n, m] w wx → Tabs wx) (hE : ∀ wx, Keeps [n, m] w wx → Errs wx) (hn : n ≠ m) (h : Duo24 w n m k c X) (hk0 : 0 ≤ k) (hk9 : k ≤ 1000) (hz : Op24Z o)
    (he : ListAt entL w (fun x => x ≠ n ∧ x ≠ m) (.slice ea o.m.entries.length ec) o.m.entries) (hd : BytesAt w (fun x => x ≠ n ∧ x ≠ m) (.slice da o.m.data.length dc) o.m.data)
    (z1 : o.c.value.s.size ≤ 600) (z2 : o.m.data.length ≤ 500) (z3 : o.m.entries.length ≤ 5) (z4 : o.r.value.s.size ≤ 600) :
    Calls Tryz.prog 15 #[.pointer (some ⟨n, 0, none⟩), .pointer (some ⟨m, 0, none⟩), .agg (op24Cells o (.slice ea o.m.entries.length ec) (.slice da o.m.data.length dc)).toArray] w (Did24 n m k c w) := by
  have HT := hid hT
  have HE := hid hE
  have HD := hid h
  have HZ := hid hz
  have HEN := hid he
  have HDA := hid hd
  have HZ1 := hid z1
  have HZ2 := hid z2
  have HZ3 := hid z3
  have HZ4 := hid z4
  have HK9 := hid hk9
  have HNM := hid hn
  have HNW : Hid (n < w.heap.size ∧ m < w.heap.size) := by
    obtain ⟨dv, fv, h1⟩ := h.one
    obtain ⟨dw, h2⟩ := h.two
    exact ⟨h1.lt, h2.lt⟩
  clear hT hE h hz he hd z1 z2 z3 z4 hk9 hn
  obtain ⟨xs, hxs⟩ : ∃ xs, (op24Cells o (.slice ea o.m.entries.length ec) (.slice da o.m.data.length dc)).toArray = xs := ⟨_, rfl⟩
  have HXS := hid hxs
  rw [hxs]
  clear hxs
  go_enter Tryz.func15, Tryz.ntmps15
  go_upto_region 1 with fail
  obtain ⟨wX, hwX⟩ : ∃ wX, w.alloc (.cells xs 42) = wX := ⟨_, rfl⟩
  rw [hwX]
  have XB : wX.heap[w.heap.size]? = some (.cells (op24Cells o (.slice ea o.m.entries.length ec) (.slice da o.m.data.length dc)).toArray 42 (0, 0)) := by rw [← hwX, HXS.out]; exact heap_alloc_new _ _
  have HX : Hid (wX.rangeAt w.heap.size 0 (op24Cells o (.slice ea o.m.entries.length ec) (.slice da o.m.data.length dc))) := fun j v hv => by rw [Nat.zero_add, cell_of_block XB j]; simpa using hv
  have x0 : wX.cell? ⟨w.heap.size, 0, none⟩ = some (.int .i64 o.kind) := HX.out 0 _ rfl
  have x10 : wX.cell? ⟨w.heap.size, 10, none⟩ = some (.int .i64 o.m.kind) := HX.out 10 _ rfl
  have x11 : wX.cell? ⟨w.heap.size, 11, none⟩ = some (.int .i64 o.m.frm) := HX.out 11 _ rfl
  have x12 : wX.cell? ⟨w.heap.size, 12, none⟩ = some (.int .i64 o.m.«to») := HX.out 12 _ rfl
  have x13 : wX.cell? ⟨w.heap.size, 13, none⟩ = some (.int .i64 o.m.term) := HX.out 13 _ rfl
  have x14 : wX.cell? ⟨w.heap.size, 14, none⟩ = some (.int .i64 o.m.a) := HX.out 14 _ rfl
  have x15 : wX.cell? ⟨w.heap.size, 15, none⟩ = some (.int .i64 o.m.b) := HX.out 15 _ rfl
  have x16 : wX.cell? ⟨w.heap.size, 16, none⟩ = some (.int .i64 o.m.c) := HX.out 16 _ rfl
  have x17 : wX.cell? ⟨w.heap.size, 17, none⟩ = some (.bool o.m.ok) := HX.out 17 _ rfl
  have x18 : wX.cell? ⟨w.heap.size, 18, none⟩ = some (.slice ea o.m.entries.length ec) := HX.out 18 _ rfl
  have x19 : wX.cell? ⟨w.heap.size, 19, none⟩ = some (.slice da o.m.data.length dc) := HX.out 19 _ rfl
  have KX : Hid (Keeps [] w wX) := by rw [← hwX]; show Keeps _ _ _; exact Keeps.K
  have HLX : Hid (w.heap.size < wX.heap.size) := (Array.getElem?_eq_some_iff.1 XB).1
  clear XB hwX HXS
  go_wp2_with fail
  refine (place_is (placeOf o.kind 9) o.kind 9 _ (by decide) (by decide) HZ.out.kind rfl).mono ?_
  rintro e w3 ⟨rfl, hw3⟩
  rw [hw3]
  clear hw3 w3
  have hp9 := placeOf_bd o.kind 9 (by decide)
  obtain ⟨p, hp⟩ : ∃ p, placeOf o.kind 9 = p := ⟨_, rfl⟩
  rw [hp] at hp9 ⊢
  clear hp
  go_upto_block 0 with fail
  obtain ⟨wY, hwY⟩ : ∃ wY, wX.alloc (.cells #[.int .i64 o.m.kind, .int .i64 o.m.frm, .int .i64 o.m.«to», .int .i64 o.m.term, .int .i64 o.m.a, .int .i64 o.m.b, .int .i64 o.m.c, .bool o.m.ok, .slice ea o.m.entries.length ec, .slice da o.m.data.length dc] 38) = wY := ⟨_, rfl⟩
  rw [hwY]
  have HMB : Hid (wY.heap[wX.heap.size]? = some (.cells #[.int .i64 o.m.kind, .int .i64 o.m.frm, .int .i64 o.m.«to», .int .i64 o.m.term, .int .i64 o.m.a, .int .i64 o.m.b, .int .i64 o.m.c, .bool o.m.ok, .slice ea o.m.entries.length ec, .slice da o.m.data.length dc] 38 (0, 0))) := by rw [← hwY]; exact heap_alloc_new _ _
  have KY : Hid (Keeps [] wX wY) := by rw [← hwY]; show Keeps _ _ _; exact Keeps.K
  have KWY : Hid (Keeps [] w wY) := KX.out.trans KY.out (fun _ _ h => h)
  have HDY := hid (HD.out.k0 KWY.out)
  have HXY : Hid (∀ i v, wX.cell? ⟨w.heap.size, i, none⟩ = some v → wY.cell? ⟨w.heap.size, i, none⟩ = some v) := fun i v hv => KY.out.cellSome hv (by simp)
  have HSZ : Hid (n < wY.heap.size ∧ m < wY.heap.size ∧ wX.heap.size < wY.heap.size ∧ w.heap.size < wX.heap.size ∧ n < w.heap.size ∧ m < w.heap.size) := by
    have h1 := HNW.out
    have h2 := HLX.out
    have h3 := (Array.getElem?_eq_some_iff.1 HMB.out).1
    exact ⟨by omega, by omega, h3, h2, h1.1, h1.2⟩
  have HQ : Hid (∀ y, wX.heap.size ≤ y → y ≠ n ∧ y ≠ m) := fun y hy => by have := HSZ.out; omega
  clear hwY x0 x10 x11 x12 x13 x14 x15 x16 x17 x18 x19
  go_cut [22] from 22 to 104 (fun _ wx => Hid (∃ (mm : MsgD) (ea' da' : Option Addr) (ec' dc' : Nat), Keeps [] wX wx ∧
    wx.heap[wX.heap.size]? = some (.cells #[.int .i64 mm.kind, .int .i64 mm.frm, .int .i64 mm.«to», .int .i64 mm.term, .int .i64 mm.a, .int .i64 mm.b, .int .i64 mm.c, .bool mm.ok, .slice ea' mm.entries.length ec', .slice da' mm.data.length dc'] 38 (0, 0)) ∧
    ListAt entL wx (fun x => x ≠ n ∧ x ≠ m) (.slice ea' mm.entries.length ec') mm.entries ∧ BytesAt wx (fun x => x ≠ n ∧ x ≠ m) (.slice da' mm.data.length dc') mm.data ∧
    mm.entries.length ≤ 5 ∧ (∀ e ∈ mm.entries, e.data.length ≤ 140737488351232) ∧ mm.data.length ≤ 1000))
  case first =>
    have KWF : Hid (Keeps [n, m] w wY) := KWY.out.mono (fun _ _ h => by cases h)
    by_cases hpc : p < 2
    · have x2 := HXY.out 2 _ (HX.out 2 _ rfl)
      have x3 := HXY.out 3 _ (HX.out 3 _ rfl)
      have x4 := HXY.out 4 _ (HX.out 4 _ rfl)
      have x5 := HXY.out 5 _ (HX.out 5 _ rfl)
      have x6 := HXY.out 6 _ (HX.out 6 _ rfl)
      have x7 := HXY.out 7 _ (HX.out 7 _ rfl)
      have x8 := HXY.out 8 _ (HX.out 8 _ rfl)
      have x9 := HXY.out 9 _ (HX.out 9 _ rfl)
      obtain ⟨dv, fv, h1⟩ := HDY.out.one
      obtain ⟨dw, h2⟩ := HDY.out.two
      have H1 := hid h1
      have H2 := hid h2
      clear h1 h2 hp9
      go_wp2_with fail
      refine (clCall_any wY n _ c dv fv o.c (HT.out _ KWF.out) (HE.out _ KWF.out) H1.out HDY.out.ok.request.1 HDY.out.ok.session.2 HDY.out.ok.seq.1 HZ.out.c (by have := HZ1.out; omega) (fun y hy => HQ.out y (by have := HSZ.out; omega))).mono ?_
      rintro e w4 ⟨v, rfl, a4, q4, dv4, fv4, rfl, h4, l4, hk⟩
      have K4 := hid hk
      have C4 := hid h4
      have L4 := hid l4
      have R4 : Hid (RefCAt w4 m (fun x => x ≠ n ∧ x ≠ m) c X dw) := H2.out.keep hk (by simp; exact fun h => HNM.out h.symm) (fun x hx hm => by simp at hm; exact hx.1 hm)
      have hwn : w.heap.size ∉ [n] := by simp; have := HNW.out; omega
      have y2 := hk.cellSome x2 hwn
      have y3 := hk.cellSome x3 hwn
      have y4 := hk.cellSome x4 hwn
      have y5 := hk.cellSome x5 hwn
      have y6 := hk.cellSome x6 hwn
      have y7 := hk.cellSome x7 hwn
      have y8 := hk.cellSome x8 hwn
      have y9 := hk.cellSome x9 hwn
      have KF4 : Hid (Keeps [n, m] w w4) := KWF.out.trans (hk.mono (G := [n, m]) (fun x _ h => by simp at h; simp [h])) (fun x _ h => h)
      clear hk h4 l4 x2 x3 x4 x5 x6 x7 x8 x9 hwn
      go_wp2_with fail
      refine (r24Call_any w4 m _ c X dw o.c (HT.out _ KF4.out) R4.out HDY.out.xok HDY.out.ok.request.1 HDY.out.ok.session.2 HDY.out.ok.seq.1 HZ.out.c (fun y hy => HQ.out y (by have := K4.out.size; have := HSZ.out; omega))).mono ?_
      rintro e w5 ⟨v, X5, rfl, hx5, a5, q5, dw5, rfl, h5, l5, hk⟩
      have K5 := hid hk
      have R5 := hid h5
      have L5 := hid l5
      have HX5 := hid hx5
      have C5 : Hid (CliAt w5 n (fun x => x ≠ n ∧ x ≠ m) (callD c o.c).1 dv4 fv4) := C4.out.keep hk (by simp; exact HNM.out) (fun x hx hm => by simp at hm; exact hx.2 hm)
      have L45 : Hid (ListAt msgL w5 (fun b => wY.heap.size ≤ b) (.slice a4 (callD c o.c).2.1.length q4) (callD c o.c).2.1) := L4.out.keep hk (fun x hx hm => by simp at hm; have := HSZ.out; omega)
      have KF5 : Hid (Keeps [n, m] w w5) := KF4.out.trans (hk.mono (G := [n, m]) (fun x _ h => by simp at h; simp [h])) (fun x _ h => h)
      clear hk h5 l5 hx5 y2 y3 y4 y5 y6 y7 y8 y9
      go_wp2_with fail
      refine (sameMsgs_any (callD c o.c).2.1 _ _ a4 a5 q4 q5 _ L45.out L5.out).mono ?_
      rintro e w6 ⟨rfl, hk⟩
      have KF6 : Hid (Keeps [n, m] w w6) := KF5.out.trans (hk.mono (G := [n, m]) (fun x _ h => by cases h)) (fun x _ h => h)
      have C6 := hid (C5.out.k hk)
      have R6 := hid (R5.out.k hk)
      clear hk
      go_wp2_with fail
      go_ret
      have hst := call_step HDY.out.ok HDY.out.last HK9.out o.c HZ.out.c
      exact ⟨rfl, KF6.out, _, X5, ⟨⟨_, _, C6.out⟩, ⟨_, R6.out⟩, HX5.out, hst.ok, hst.last⟩, hst.conf, hst.id⟩
    by_cases hpt : p < 4
    · obtain ⟨dv, fv, h1⟩ := HDY.out.one
      obtain ⟨dw, h2⟩ := HDY.out.two
      have H1 := hid h1
      have H2 := hid h2
      have HNO : Hid (1 ≤ c.node ∧ c.node ≤ 7) := ⟨HDY.out.ok.node.1, by have := HDY.out.ok.node; have := HDY.out.ok.nodes; omega⟩
      have HWT : Hid (0 ≤ c.waited ∧ c.waited ≤ 1000000) := ⟨HDY.out.ok.waited.1, by have := HDY.out.ok.waited; have := HDY.out.ok.retry; omega⟩
      clear h1 h2 hp9
      go_wp2_with fail
      refine (clTick_any wY n _ c dv fv H1.out HDY.out.ok.nodes HNO.out HWT.out HDY.out.ok.data).mono ?_
      rintro e w4 ⟨v, rfl, a4, q4, dv4, fv4, rfl, h4, l4, hk⟩
      have K4 := hid hk
      have C4 := hid h4
      have L4 := hid l4
      have R4 : Hid (RefCAt w4 m (fun x => x ≠ n ∧ x ≠ m) c X dw) := H2.out.keep hk (by simp; exact fun h => HNM.out h.symm) (fun x hx hm => by simp at hm; exact hx.1 hm)
      have KF4 : Hid (Keeps [n, m] w w4) := KWF.out.trans (hk.mono (G := [n, m]) (fun x _ h => by simp at h; simp [h])) (fun x _ h => h)
      clear hk h4 l4
      go_wp2_with fail
      refine (r24Tick_any w4 m _ c X dw R4.out HDY.out.last HDY.out.ok.nodes HNO.out HWT.out HDY.out.ok.data).mono ?_
      rintro e w5 ⟨v, rfl, a5, q5, dw5, rfl, h5, l5, hk⟩
      have K5 := hid hk
      have R5 := hid h5
      have L5 := hid l5
      have C5 : Hid (CliAt w5 n (fun x => x ≠ n ∧ x ≠ m) (ctickD c).1 dv4 fv4) := C4.out.keep hk (by simp; exact HNM.out) (fun x hx hm => by simp at hm; exact hx.2 hm)
      have L45 : Hid (ListAt msgL w5 (fun b => wY.heap.size ≤ b) (.slice a4 (ctickD c).2.length q4) (ctickD c).2) := L4.out.keep hk (fun x hx hm => by simp at hm; have := HSZ.out; omega)
      have KF5 : Hid (Keeps [n, m] w w5) := KF4.out.trans (hk.mono (G := [n, m]) (fun x _ h => by simp at h; simp [h])) (fun x _ h => h)
      clear hk h5 l5
      go_wp2_with fail
      refine (sameMsgs_any (ctickD c).2 _ _ a4 a5 q4 q5 _ L45.out L5.out).mono ?_
      rintro e w6 ⟨rfl, hk⟩
      have KF6 : Hid (Keeps [n, m] w w6) := KF5.out.trans (hk.mono (G := [n, m]) (fun x _ h => by cases h)) (fun x _ h => h)
      have C6 := hid (C5.out.k hk)
      have R6 := hid (R5.out.k hk)
      clear hk
      go_wp2_with fail
      go_ret
      have hst := tick_step HDY.out.ok HDY.out.last
      have hxx : XOk (ctickD c).1 X := by
        have := HDY.out.xok
        unfold ctickD
        split
        · exact this
        · split
          · exact this
          · exact this
      exact ⟨rfl, KF6.out, _, X, ⟨⟨_, _, C6.out⟩, ⟨_, R6.out⟩, hxx, hst.ok, hst.last⟩, hst.conf, hst.id⟩
    rcases (show p = 4 ∨ p = 5 ∨ p = 6 ∨ p = 7 ∨ p = 8 by omega) with rfl | rfl | rfl | rfl | rfl
    · clear hp9
      go_wp2_with fail
      go_meet
      case rel => exact ⟨o.m, ea, da, ec, dc, KY.out, HMB.out, HEN.out.k KWY.out, HDA.out.k KWY.out, HZ3.out, HZ.out.m.2, by have := HZ2.out; omega⟩
    · have x1 : wY.cell? ⟨w.heap.size, 1, none⟩ = some (.int .i64 o.n) := HXY.out 1 _ (HX.out 1 _ rfl)
      have x11 : wY.cell? ⟨w.heap.size, 11, none⟩ = some (.int .i64 o.m.frm) := HXY.out 11 _ (HX.out 11 _ rfl)
      have x20 : wY.cell? ⟨w.heap.size, 20, none⟩ = some (.int .i64 o.r.err) := HXY.out 20 _ (HX.out 20 _ rfl)
      have x21 : wY.cell? ⟨w.heap.size, 21, none⟩ = some (.int .i64 o.r.n) := HXY.out 21 _ (HX.out 21 _ rfl)
      have x22 : wY.cell? ⟨w.heap.size, 22, none⟩ = some (.int .i64 o.r.value.kind) := HXY.out 22 _ (HX.out 22 _ rfl)
      have x23 : wY.cell? ⟨w.heap.size, 23, none⟩ = some (.int .i64 o.r.value.n) := HXY.out 23 _ (HX.out 23 _ rfl)
      have x24 : wY.cell? ⟨w.heap.size, 24, none⟩ = some (.string o.r.value.s) := HXY.out 24 _ (HX.out 24 _ rfl)
      obtain ⟨dw, h2⟩ := HDY.out.two
      have r0 : wY.cell? ⟨m, 0, none⟩ = some (.int .i64 c.conf.nodes) := h2.cell 0
      have r9 : wY.cell? ⟨m, 9, none⟩ = some (.int .i64 c.id) := h2.cell 9
      have r13 : wY.cell? ⟨m, 13, none⟩ = some (.int .i64 c.request) := h2.cell 13
      have hnn := HDY.out.ok.nodes
      obtain ⟨p1, hp1⟩ : ∃ p, placeOf o.m.frm c.conf.nodes = p := ⟨_, rfl⟩
      have hb1 : 0 ≤ p1 ∧ p1 < c.conf.nodes := by rw [← hp1]; exact placeOf_bd _ _ (by omega)
      have hw1 : IntKind.i64.wrap (1 + p1) = 1 + p1 := by rw [IntKind.wrap_i64]; omega
      have HP1 := hid (fun wy => place_is p1 o.m.frm c.conf.nodes wy (by omega) (by omega) HZ.out.m.1.frm hp1)
      have HRW : Hid (ReplyW o.r) := ⟨HZ.out.r.err, HZ.out.r.n, HZ.out.r.vkind, HZ.out.r.vn, by have := HZ4.out; omega⟩
      have HCK := hid (fun wz (kk : Keeps [] w wz) => r14CheckR_any o.r wz (HT.out _ (kk.mono (fun _ _ h => by cases h))))
      have hsz := HSZ.out
      obtain ⟨-, -, hsy, hsx, -, -⟩ := hsz
      clear hp1 hb1 hnn h2 hp9 hpc hpt
      go_wp2_with fail
      refine Plan.wp_region_plan (fun wx => wx.cell? ⟨w.heap.size, 11, none⟩ = some (.int .i64 o.m.frm) ∧ wx.cell? ⟨m, 0, none⟩ = some (.int .i64 c.conf.nodes) ∧ wx.cell? ⟨m, 9, none⟩ = some (.int .i64 c.id) ∧ wx.cell? ⟨m, 13, none⟩ = some (.int .i64 c.request) ∧ wx.cell? ⟨w.heap.size, 20, none⟩ = some (.int .i64 o.r.err) ∧ wx.cell? ⟨w.heap.size, 21, none⟩ = some (.int .i64 o.r.n) ∧ wx.cell? ⟨w.heap.size, 22, none⟩ = some (.int .i64 o.r.value.kind) ∧ wx.cell? ⟨w.heap.size, 23, none⟩ = some (.int .i64 o.r.value.n) ∧ wx.cell? ⟨w.heap.size, 24, none⟩ = some (.string o.r.value.s)) 20 [(true, 0), (true, 1), (true, 2), (true, 3), (true, 4), (true, 5), (true, 6), (true, 7), (true, 10), (true, 11), (true, 12), (true, 13), (true, 14), (true, 15), (true, 16), (true, 17), (true, 18), (true, 19), (false, 8), (true, 9)] (by kernel_rfl) (by as_aux_lemma => kernel_rfl) (by kernel_rfl) (fun _ _ _ _ _ h => h) ?_ (fun hS => ?_)
      (· go_simp)
      simp only [Plan.pick, List.append_eq, List.cons_append, List.nil_append, Plan.g1, Plan.g2, Option.getD_some, List.drop_succ_cons, List.drop_zero]
      iterate 18 (first | refine Plan.tA ?_ | refine Plan.tY ?_ | refine Plan.pN ?_ | refine Plan.pU ?_ | fail)
      refine Plan.step ?_
      go_wp2_with fail
      refine (HP1.out _).mono ?_
      rintro e w3 ⟨rfl, hw3⟩
      rw [hw3]
      clear hw3 w3
      go_wp2_with fail
      refine ⟨?_, ?_⟩
      (· go_simp)
      iterate 1 (first | refine Plan.tA ?_ | refine Plan.tY ?_ | refine Plan.pN ?_ | refine Plan.pU ?_ | fail)
      refine Plan.fin ?_
      go_wp2_with fail
      refine (told24_any (1 + p1) c.id c.request o.r HRW.out _).mono ?_
      rintro e w5 ⟨a5, q5, rfl, d5, hk5⟩
      have k5 : Keeps [] wY w5 := Keeps.trans (F := []) (G := []) (by exact Keeps.K) hk5 (fun _ _ h => h)
      have D5 := hid d5
      have HB5 := hid ((k5.block wX.heap.size hsy (by simp)).trans HMB.out)
      obtain ⟨⟨y0, y1, y2, y3, y4, y5, y6, y7, y8, y9⟩, fy⟩ := blk10 HB5.out
      have z1 := k5.cellSome x1 (by simp)
      have z20 := k5.cellSome x20 (by simp)
      have z21 := k5.cellSome x21 (by simp)
      have z22 := k5.cellSome x22 (by simp)
      have z23 := k5.cellSome x23 (by simp)
      have z24 := k5.cellSome x24 (by simp)
      have hs5 : wX.heap.size < w5.heap.size := (Array.getElem?_eq_some_iff.1 HB5.out).1
      have K5 := hid k5
      clear k5 hk5 d5 hS x1 x11 x20 x21 x22 x23 x24 r0 r9 r13
      obtain ⟨DL, hDL⟩ : ∃ DL, putR o.r = DL := ⟨_, rfl⟩
      unfold msgV
      dsimp only at D5 ⊢
      rw [hDL] at D5 ⊢
      have HDL := hid hDL
      clear hDL
      go_wp2_with fail
      obtain ⟨wS, hwS⟩ : ∃ wS, ((((((((((w5.setCell ⟨wX.heap.size, 0, none⟩ (.int .i64 7)).setCell ⟨wX.heap.size, 1, none⟩ (.int .i64 (1 + p1))).setCell ⟨wX.heap.size, 2, none⟩ (.int .i64 c.id)).setCell ⟨wX.heap.size, 3, none⟩ (.int .i64 0)).setCell ⟨wX.heap.size, 4, none⟩ (.int .i64 0)).setCell ⟨wX.heap.size, 5, none⟩ (.int .i64 0)).setCell ⟨wX.heap.size, 6, none⟩ (.int .i64 c.request)).setCell ⟨wX.heap.size, 7, none⟩ (.bool true)).setCell ⟨wX.heap.size, 8, none⟩ (.slice none 0 0)).setCell ⟨wX.heap.size, 9, none⟩ (.slice a5 DL.length q5)) = wS := ⟨_, rfl⟩
      rw [hwS]
      have HBS : Hid (wS.heap[wX.heap.size]? = some (.cells #[.int .i64 7, .int .i64 (1 + p1), .int .i64 c.id, .int .i64 0, .int .i64 0, .int .i64 0, .int .i64 c.request, .bool true, .slice none 0 0, .slice a5 DL.length q5] 38 (0, 0))) := by rw [← hwS]; exact heap10 HB5.out
      have kS : Keeps [wX.heap.size] w5 wS := by rw [← hwS]; exact Keeps.K
      have KS : Hid (Keeps [] wX wS) := (KY.out.trans K5.out (fun _ _ h => h)).trans kS (fun x hx hm => by simp at hm; omega)
      have hne : w.heap.size ∉ [wX.heap.size] := by simp; omega
      have s20 := kS.cellSome z20 hne
      have s21 := kS.cellSome z21 hne
      have s22 := kS.cellSome z22 hne
      have s23 := kS.cellSome z23 hne
      have s24 := kS.cellSome z24 hne
      have DS : Hid (BytesAt wS (fun x => wX.heap.size < x) (.slice a5 DL.length q5) DL) := by
        have h1 : BytesAt w5 (fun x => wX.heap.size < x) (.slice a5 DL.length q5) DL := D5.out.mono (fun b _ hb => by simp at hb; omega)
        exact h1.keep kS (fun b hb hm => by simp at hm; omega)
      clear hwS kS hne y0 y1 y2 y3 y4 y5 y6 y7 y8 y9 fy z1 z20 z21 z22 z23 z24
      obtain ⟨⟨t0, t1, t2, t3, t4, t5, t6, t7, t8, t9⟩, ft⟩ := blk10 HBS.out
      have hsS : wX.heap.size < wS.heap.size := (Array.getElem?_eq_some_iff.1 HBS.out).1
      obtain ⟨p2, hp2⟩ : ∃ p, placeOf o.n 1073741824 = p := ⟨_, rfl⟩
      have hb2 : 0 ≤ p2 ∧ p2 < 1073741824 := by rw [← hp2]; exact placeOf_bd _ _ (by decide)
      have hw2 : IntKind.i64.wrap (1 + p2) = 1 + p2 := by rw [IntKind.wrap_i64]; omega
      have HB2 := hid hb2
      have HP2 : Hid (∀ wy, Calls Tryz.prog 8 #[.int .i64 o.n, .int .i64 1073741824] wy fun e w' => e = .returned (.int .i64 p2) ∧ w' = wy) := fun wy => by rw [← hp2]; exact placeW_any o.n 1073741824 wy (by decide) (by decide) HZ.out.n
      clear hp2 hb2
      have HRW2 : Hid (ReplyW ⟨0, 1 + p2, ⟨0, 0, ⟨#[]⟩⟩⟩) := ⟨I64_0, (show I64 (1 + p2) by have := HB2.out; constructor <;> omega), I64_0, I64_0, by show (0 : Nat) ≤ _; decide⟩
      refine (HP2.out _).mono ?_
      rintro e w6 ⟨rfl, hw6⟩
      rw [hw6]
      clear hw6 w6
      go_wp2_with fail
      refine (r14PutR_any ⟨0, 1 + p2, ⟨0, 0, ⟨#[]⟩⟩⟩ HRW2.out _).mono ?_
      rintro e w7 ⟨a7, q7, rfl, h7, hk7⟩
      rw [List.nil_append] at h7 ⊢
      have hlen := putR_short _ HRW2.out (by show (0 : Nat) ≤ _; decide)
      have HLEN := hid hlen
      obtain ⟨EL, hEL⟩ : ∃ EL, putR ⟨0, 1 + p2, ⟨0, 0, ⟨#[]⟩⟩⟩ = EL := ⟨_, rfl⟩
      rw [hEL] at h7 HLEN ⊢
      have D7 : Hid (BytesAt w7 (fun x => wX.heap.size < x) (.slice a7 EL.length q7) EL) := BytesAt.ofOwn h7 rfl (fun b h1 _ => by omega)
      have k7 : Keeps [] wS w7 := Keeps.trans (F := []) (G := []) (by exact Keeps.K) hk7 (fun _ _ h => h)
      have hb7 := (k7.block wX.heap.size hsS (by simp)).trans HBS.out
      have HB7 := hid hb7
      obtain ⟨⟨v0, v1, v2, v3, v4, v5, v6, v7, v8, v9⟩, fv⟩ := blk10 hb7
      have m20 := k7.cellSome s20 (by simp)
      have m21 := k7.cellSome s21 (by simp)
      have m22 := k7.cellSome s22 (by simp)
      have m23 := k7.cellSome s23 (by simp)
      have m24 := k7.cellSome s24 (by simp)
      have hs7 : wX.heap.size < w7.heap.size := (Array.getElem?_eq_some_iff.1 hb7).1
      have K7 := hid k7
      clear h7 hk7 k7 hb7 hEL hlen t0 t1 t2 t3 t4 t5 t6 t7 t8 t9 ft s20 s21 s22 s23 s24
      go_wp2_with fail
      have k9 : Keeps [wX.heap.size] w7 (w7.setCell ⟨wX.heap.size, 9, none⟩ (.slice a7 EL.length q7)) := by exact Keeps.K
      have KN : Keeps [] wX (w7.setCell ⟨wX.heap.size, 9, none⟩ (.slice a7 EL.length q7)) := (KS.out.trans K7.out (fun _ _ h => h)).trans k9 (fun x hx hm => by simp at hm; omega)
      have hbN := heap_setCell_same _ _ 9 _ _ (.slice a7 EL.length q7) HB7.out
      have DN : BytesAt (w7.setCell ⟨wX.heap.size, 9, none⟩ (.slice a7 EL.length q7)) (fun x => wX.heap.size < x) (.slice a7 EL.length q7) EL := D7.out.keep k9 (fun b hb hm => by simp at hm; omega)
      refine (HCK.out _ (KX.out.trans KN (fun _ _ h => h))).mono ?_
      rintro e w8 ⟨rfl, hk8⟩
      have HF : Hid (∃ (mm : MsgD) (ea' da' : Option Addr) (ec' dc' : Nat), Keeps [] wX w8 ∧
          w8.heap[wX.heap.size]? = some (.cells #[.int .i64 mm.kind, .int .i64 mm.frm, .int .i64 mm.«to», .int .i64 mm.term, .int .i64 mm.a, .int .i64 mm.b, .int .i64 mm.c, .bool mm.ok, .slice ea' mm.entries.length ec', .slice da' mm.data.length dc'] 38 (0, 0)) ∧
          ListAt entL w8 (fun x => x ≠ n ∧ x ≠ m) (.slice ea' mm.entries.length ec') mm.entries ∧ BytesAt w8 (fun x => x ≠ n ∧ x ≠ m) (.slice da' mm.data.length dc') mm.data ∧
          mm.entries.length ≤ 5 ∧ (∀ e ∈ mm.entries, e.data.length ≤ 140737488351232) ∧ mm.data.length ≤ 1000) :=
        ⟨⟨7, 1 + p1, c.id, 0, 0, 0, c.request, true, [], EL⟩, none, a7, 0, q7, KN.trans hk8 (fun _ _ h => h), (hk8.block wX.heap.size (by simp; omega) (by simp)).trans (by simpa using hbN), ListAt.nil _ _ _ _, (DN.k hk8).mono (fun b _ hb => HQ.out b (Nat.le_of_lt hb)), by show (0 : Nat) ≤ 5; decide, by simp, HLEN.out⟩
      obtain ⟨bc, hbc⟩ : ∃ b, checkR o.r = b := ⟨_, rfl⟩
      rw [hbc]
      clear hbc hk8 KN hbN DN k9
      rcases bc with _ | _
      all_goals
        go_wp2_with fail
        go_meet
        case rel => exact HF.out
    · have x1 : wY.cell? ⟨w.heap.size, 1, none⟩ = some (.int .i64 o.n) := HXY.out 1 _ (HX.out 1 _ rfl)
      have x11 : wY.cell? ⟨w.heap.size, 11, none⟩ = some (.int .i64 o.m.frm) := HXY.out 11 _ (HX.out 11 _ rfl)
      have x20 : wY.cell? ⟨w.heap.size, 20, none⟩ = some (.int .i64 o.r.err) := HXY.out 20 _ (HX.out 20 _ rfl)
      have x21 : wY.cell? ⟨w.heap.size, 21, none⟩ = some (.int .i64 o.r.n) := HXY.out 21 _ (HX.out 21 _ rfl)
      have x22 : wY.cell? ⟨w.heap.size, 22, none⟩ = some (.int .i64 o.r.value.kind) := HXY.out 22 _ (HX.out 22 _ rfl)
      have x23 : wY.cell? ⟨w.heap.size, 23, none⟩ = some (.int .i64 o.r.value.n) := HXY.out 23 _ (HX.out 23 _ rfl)
      have x24 : wY.cell? ⟨w.heap.size, 24, none⟩ = some (.string o.r.value.s) := HXY.out 24 _ (HX.out 24 _ rfl)
      obtain ⟨dw, h2⟩ := HDY.out.two
      have r0 : wY.cell? ⟨m, 0, none⟩ = some (.int .i64 c.conf.nodes) := h2.cell 0
      have r9 : wY.cell? ⟨m, 9, none⟩ = some (.int .i64 c.id) := h2.cell 9
      have r13 : wY.cell? ⟨m, 13, none⟩ = some (.int .i64 c.request) := h2.cell 13
      have hnn := HDY.out.ok.nodes
      obtain ⟨p1, hp1⟩ : ∃ p, placeOf o.m.frm c.conf.nodes = p := ⟨_, rfl⟩
      have hb1 : 0 ≤ p1 ∧ p1 < c.conf.nodes := by rw [← hp1]; exact placeOf_bd _ _ (by omega)
      have hw1 : IntKind.i64.wrap (1 + p1) = 1 + p1 := by rw [IntKind.wrap_i64]; omega
      have HP1 := hid (fun wy => place_is p1 o.m.frm c.conf.nodes wy (by omega) (by omega) HZ.out.m.1.frm hp1)
      have HRW : Hid (ReplyW o.r) := ⟨HZ.out.r.err, HZ.out.r.n, HZ.out.r.vkind, HZ.out.r.vn, by have := HZ4.out; omega⟩
      have HCK := hid (fun wz (kk : Keeps [] w wz) => r14CheckR_any o.r wz (HT.out _ (kk.mono (fun _ _ h => by cases h))))
      have hsz := HSZ.out
      obtain ⟨-, -, hsy, hsx, -, -⟩ := hsz
      clear hp1 hb1 hnn h2 hp9 hpc hpt
      go_wp2_with fail
      refine Plan.wp_region_plan (fun wx => wx.cell? ⟨w.heap.size, 11, none⟩ = some (.int .i64 o.m.frm) ∧ wx.cell? ⟨m, 0, none⟩ = some (.int .i64 c.conf.nodes) ∧ wx.cell? ⟨m, 9, none⟩ = some (.int .i64 c.id) ∧ wx.cell? ⟨m, 13, none⟩ = some (.int .i64 c.request) ∧ wx.cell? ⟨w.heap.size, 20, none⟩ = some (.int .i64 o.r.err) ∧ wx.cell? ⟨w.heap.size, 21, none⟩ = some (.int .i64 o.r.n) ∧ wx.cell? ⟨w.heap.size, 22, none⟩ = some (.int .i64 o.r.value.kind) ∧ wx.cell? ⟨w.heap.size, 23, none⟩ = some (.int .i64 o.r.value.n) ∧ wx.cell? ⟨w.heap.size, 24, none⟩ = some (.string o.r.value.s)) 20 [(true, 0), (true, 1), (true, 2), (true, 3), (true, 4), (true, 5), (true, 6), (true, 7), (true, 10), (true, 11), (true, 12), (true, 13), (true, 14), (true, 15), (true, 16), (true, 17), (true, 18), (true, 19), (false, 8), (true, 9)] (by kernel_rfl) (by as_aux_lemma => kernel_rfl) (by kernel_rfl) (fun _ _ _ _ _ h => h) ?_ (fun hS => ?_)
      (· go_simp)
      simp only [Plan.pick, List.append_eq, List.cons_append, List.nil_append, Plan.g1, Plan.g2, Option.getD_some, List.drop_succ_cons, List.drop_zero]
      iterate 18 (first | refine Plan.tA ?_ | refine Plan.tY ?_ | refine Plan.pN ?_ | refine Plan.pU ?_ | fail)
      refine Plan.step ?_
      go_wp2_with fail
      refine (HP1.out _).mono ?_
      rintro e w3 ⟨rfl, hw3⟩
      rw [hw3]
      clear hw3 w3
      go_wp2_with fail
      refine ⟨?_, ?_⟩
      (· go_simp)
      iterate 1 (first | refine Plan.tA ?_ | refine Plan.tY ?_ | refine Plan.pN ?_ | refine Plan.pU ?_ | fail)
      refine Plan.fin ?_
      go_wp2_with fail
      refine (told24_any (1 + p1) c.id c.request o.r HRW.out _).mono ?_
      rintro e w5 ⟨a5, q5, rfl, d5, hk5⟩
      have k5 : Keeps [] wY w5 := Keeps.trans (F := []) (G := []) (by exact Keeps.K) hk5 (fun _ _ h => h)
      have D5 := hid d5
      have HB5 := hid ((k5.block wX.heap.size hsy (by simp)).trans HMB.out)
      obtain ⟨⟨y0, y1, y2, y3, y4, y5, y6, y7, y8, y9⟩, fy⟩ := blk10 HB5.out
      have z1 := k5.cellSome x1 (by simp)
      have z20 := k5.cellSome x20 (by simp)
      have z21 := k5.cellSome x21 (by simp)
      have z22 := k5.cellSome x22 (by simp)
      have z23 := k5.cellSome x23 (by simp)
      have z24 := k5.cellSome x24 (by simp)
      have hs5 : wX.heap.size < w5.heap.size := (Array.getElem?_eq_some_iff.1 HB5.out).1
      have K5 := hid k5
      clear k5 hk5 d5 hS x1 x11 x20 x21 x22 x23 x24 r0 r9 r13
      obtain ⟨DL, hDL⟩ : ∃ DL, putR o.r = DL := ⟨_, rfl⟩
      unfold msgV
      dsimp only at D5 ⊢
      rw [hDL] at D5 ⊢
      have HDL := hid hDL
      clear hDL
      go_wp2_with fail
      obtain ⟨wS, hwS⟩ : ∃ wS, ((((((((((w5.setCell ⟨wX.heap.size, 0, none⟩ (.int .i64 7)).setCell ⟨wX.heap.size, 1, none⟩ (.int .i64 (1 + p1))).setCell ⟨wX.heap.size, 2, none⟩ (.int .i64 c.id)).setCell ⟨wX.heap.size, 3, none⟩ (.int .i64 0)).setCell ⟨wX.heap.size, 4, none⟩ (.int .i64 0)).setCell ⟨wX.heap.size, 5, none⟩ (.int .i64 0)).setCell ⟨wX.heap.size, 6, none⟩ (.int .i64 c.request)).setCell ⟨wX.heap.size, 7, none⟩ (.bool true)).setCell ⟨wX.heap.size, 8, none⟩ (.slice none 0 0)).setCell ⟨wX.heap.size, 9, none⟩ (.slice a5 DL.length q5)) = wS := ⟨_, rfl⟩
      rw [hwS]
      have HBS : Hid (wS.heap[wX.heap.size]? = some (.cells #[.int .i64 7, .int .i64 (1 + p1), .int .i64 c.id, .int .i64 0, .int .i64 0, .int .i64 0, .int .i64 c.request, .bool true, .slice none 0 0, .slice a5 DL.length q5] 38 (0, 0))) := by rw [← hwS]; exact heap10 HB5.out
      have kS : Keeps [wX.heap.size] w5 wS := by rw [← hwS]; exact Keeps.K
      have KS : Hid (Keeps [] wX wS) := (KY.out.trans K5.out (fun _ _ h => h)).trans kS (fun x hx hm => by simp at hm; omega)
      have hne : w.heap.size ∉ [wX.heap.size] := by simp; omega
      have s20 := kS.cellSome z20 hne
      have s21 := kS.cellSome z21 hne
      have s22 := kS.cellSome z22 hne
      have s23 := kS.cellSome z23 hne
      have s24 := kS.cellSome z24 hne
      have DS : Hid (BytesAt wS (fun x => wX.heap.size < x) (.slice a5 DL.length q5) DL) := by
        have h1 : BytesAt w5 (fun x => wX.heap.size < x) (.slice a5 DL.length q5) DL := D5.out.mono (fun b _ hb => by simp at hb; omega)
        exact h1.keep kS (fun b hb hm => by simp at hm; omega)
      clear hwS kS hne y0 y1 y2 y3 y4 y5 y6 y7 y8 y9 fy z1 z20 z21 z22 z23 z24
      obtain ⟨⟨t0, t1, t2, t3, t4, t5, t6, t7, t8, t9⟩, ft⟩ := blk10 HBS.out
      have hsS : wX.heap.size < wS.heap.size := (Array.getElem?_eq_some_iff.1 HBS.out).1
      obtain ⟨p2, hp2⟩ : ∃ p, placeOf o.n 1073741824 = p := ⟨_, rfl⟩
      have hb2 : 0 ≤ p2 ∧ p2 < 1073741824 := by rw [← hp2]; exact placeOf_bd _ _ (by decide)
      have hw2 : IntKind.i64.wrap (1 + p2) = 1 + p2 := by rw [IntKind.wrap_i64]; omega
      have HB2 := hid hb2
      have HP2 : Hid (∀ wy, Calls Tryz.prog 8 #[.int .i64 o.n, .int .i64 1073741824] wy fun e w' => e = .returned (.int .i64 p2) ∧ w' = wy) := fun wy => by rw [← hp2]; exact placeW_any o.n 1073741824 wy (by decide) (by decide) HZ.out.n
      clear hp2 hb2
      have HRW2 : Hid (ReplyW ⟨0, 1 + p2, ⟨0, 0, ⟨#[]⟩⟩⟩) := ⟨I64_0, (show I64 (1 + p2) by have := HB2.out; constructor <;> omega), I64_0, I64_0, by show (0 : Nat) ≤ _; decide⟩
      refine (HP2.out _).mono ?_
      rintro e w6 ⟨rfl, hw6⟩
      rw [hw6]
      clear hw6 w6
      go_wp2_with fail
      refine (r14PutR_any ⟨0, 1 + p2, ⟨0, 0, ⟨#[]⟩⟩⟩ HRW2.out _).mono ?_
      rintro e w7 ⟨a7, q7, rfl, h7, hk7⟩
      rw [List.nil_append] at h7 ⊢
      have hlen := putR_short _ HRW2.out (by show (0 : Nat) ≤ _; decide)
      have HLEN := hid hlen
      obtain ⟨EL, hEL⟩ : ∃ EL, putR ⟨0, 1 + p2, ⟨0, 0, ⟨#[]⟩⟩⟩ = EL := ⟨_, rfl⟩
      rw [hEL] at h7 HLEN ⊢
      have D7 : Hid (BytesAt w7 (fun x => wX.heap.size < x) (.slice a7 EL.length q7) EL) := BytesAt.ofOwn h7 rfl (fun b h1 _ => by omega)
      have k7 : Keeps [] wS w7 := Keeps.trans (F := []) (G := []) (by exact Keeps.K) hk7 (fun _ _ h => h)
      have hb7 := (k7.block wX.heap.size hsS (by simp)).trans HBS.out
      have HB7 := hid hb7
      obtain ⟨⟨v0, v1, v2, v3, v4, v5, v6, v7, v8, v9⟩, fv⟩ := blk10 hb7
      have m20 := k7.cellSome s20 (by simp)
      have m21 := k7.cellSome s21 (by simp)
      have m22 := k7.cellSome s22 (by simp)
      have m23 := k7.cellSome s23 (by simp)
      have m24 := k7.cellSome s24 (by simp)
      have hs7 : wX.heap.size < w7.heap.size := (Array.getElem?_eq_some_iff.1 hb7).1
      have K7 := hid k7
      clear h7 hk7 k7 hb7 hEL hlen t0 t1 t2 t3 t4 t5 t6 t7 t8 t9 ft s20 s21 s22 s23 s24
      go_wp2_with fail
      have k9 : Keeps [wX.heap.size] w7 (w7.setCell ⟨wX.heap.size, 9, none⟩ (.slice a7 EL.length q7)) := by exact Keeps.K
      have KN : Keeps [] wX (w7.setCell ⟨wX.heap.size, 9, none⟩ (.slice a7 EL.length q7)) := (KS.out.trans K7.out (fun _ _ h => h)).trans k9 (fun x hx hm => by simp at hm; omega)
      have hbN := heap_setCell_same _ _ 9 _ _ (.slice a7 EL.length q7) HB7.out
      have DN : BytesAt (w7.setCell ⟨wX.heap.size, 9, none⟩ (.slice a7 EL.length q7)) (fun x => wX.heap.size < x) (.slice a7 EL.length q7) EL := D7.out.keep k9 (fun b hb hm => by simp at hm; omega)
      refine (HCK.out _ (KX.out.trans KN (fun _ _ h => h))).mono ?_
      rintro e w8 ⟨rfl, hk8⟩
      have HF : Hid (∃ (mm : MsgD) (ea' da' : Option Addr) (ec' dc' : Nat), Keeps [] wX w8 ∧
          w8.heap[wX.heap.size]? = some (.cells #[.int .i64 mm.kind, .int .i64 mm.frm, .int .i64 mm.«to», .int .i64 mm.term, .int .i64 mm.a, .int .i64 mm.b, .int .i64 mm.c, .bool mm.ok, .slice ea' mm.entries.length ec', .slice da' mm.data.length dc'] 38 (0, 0)) ∧
          ListAt entL w8 (fun x => x ≠ n ∧ x ≠ m) (.slice ea' mm.entries.length ec') mm.entries ∧ BytesAt w8 (fun x => x ≠ n ∧ x ≠ m) (.slice da' mm.data.length dc') mm.data ∧
          mm.entries.length ≤ 5 ∧ (∀ e ∈ mm.entries, e.data.length ≤ 140737488351232) ∧ mm.data.length ≤ 1000) :=
        ⟨⟨7, 1 + p1, c.id, 0, 0, 0, c.request, true, [], EL⟩, none, a7, 0, q7, KN.trans hk8 (fun _ _ h => h), (hk8.block wX.heap.size (by simp; omega) (by simp)).trans (by simpa using hbN), ListAt.nil _ _ _ _, (DN.k hk8).mono (fun b _ hb => HQ.out b (Nat.le_of_lt hb)), by show (0 : Nat) ≤ 5; decide, by simp, HLEN.out⟩
      obtain ⟨bc, hbc⟩ : ∃ b, checkR o.r = b := ⟨_, rfl⟩
      rw [hbc]
      clear hbc hk8 KN hbN DN k9
      rcases bc with _ | _
      all_goals
        go_wp2_with fail
        go_meet
        case rel => exact HF.out
    · have x1 : wY.cell? ⟨w.heap.size, 1, none⟩ = some (.int .i64 o.n) := HXY.out 1 _ (HX.out 1 _ rfl)
      have x11 : wY.cell? ⟨w.heap.size, 11, none⟩ = some (.int .i64 o.m.frm) := HXY.out 11 _ (HX.out 11 _ rfl)
      have x20 : wY.cell? ⟨w.heap.size, 20, none⟩ = some (.int .i64 o.r.err) := HXY.out 20 _ (HX.out 20 _ rfl)
      have x21 : wY.cell? ⟨w.heap.size, 21, none⟩ = some (.int .i64 o.r.n) := HXY.out 21 _ (HX.out 21 _ rfl)
      have x22 : wY.cell? ⟨w.heap.size, 22, none⟩ = some (.int .i64 o.r.value.kind) := HXY.out 22 _ (HX.out 22 _ rfl)
      have x23 : wY.cell? ⟨w.heap.size, 23, none⟩ = some (.int .i64 o.r.value.n) := HXY.out 23 _ (HX.out 23 _ rfl)
      have x24 : wY.cell? ⟨w.heap.size, 24, none⟩ = some (.string o.r.value.s) := HXY.out 24 _ (HX.out 24 _ rfl)
      obtain ⟨dw, h2⟩ := HDY.out.two
      have r0 : wY.cell? ⟨m, 0, none⟩ = some (.int .i64 c.conf.nodes) := h2.cell 0
      have r9 : wY.cell? ⟨m, 9, none⟩ = some (.int .i64 c.id) := h2.cell 9
      have r13 : wY.cell? ⟨m, 13, none⟩ = some (.int .i64 c.request) := h2.cell 13
      have hnn := HDY.out.ok.nodes
      obtain ⟨p1, hp1⟩ : ∃ p, placeOf o.m.frm c.conf.nodes = p := ⟨_, rfl⟩
      have hb1 : 0 ≤ p1 ∧ p1 < c.conf.nodes := by rw [← hp1]; exact placeOf_bd _ _ (by omega)
      have hw1 : IntKind.i64.wrap (1 + p1) = 1 + p1 := by rw [IntKind.wrap_i64]; omega
      have HP1 := hid (fun wy => place_is p1 o.m.frm c.conf.nodes wy (by omega) (by omega) HZ.out.m.1.frm hp1)
      have HRW : Hid (ReplyW o.r) := ⟨HZ.out.r.err, HZ.out.r.n, HZ.out.r.vkind, HZ.out.r.vn, by have := HZ4.out; omega⟩
      have HCK := hid (fun wz (kk : Keeps [] w wz) => r14CheckR_any o.r wz (HT.out _ (kk.mono (fun _ _ h => by cases h))))
      have hsz := HSZ.out
      obtain ⟨-, -, hsy, hsx, -, -⟩ := hsz
      clear hp1 hb1 hnn h2 hp9 hpc hpt
      go_wp2_with fail
      refine Plan.wp_region_plan (fun wx => wx.cell? ⟨w.heap.size, 11, none⟩ = some (.int .i64 o.m.frm) ∧ wx.cell? ⟨m, 0, none⟩ = some (.int .i64 c.conf.nodes) ∧ wx.cell? ⟨m, 9, none⟩ = some (.int .i64 c.id) ∧ wx.cell? ⟨m, 13, none⟩ = some (.int .i64 c.request) ∧ wx.cell? ⟨w.heap.size, 20, none⟩ = some (.int .i64 o.r.err) ∧ wx.cell? ⟨w.heap.size, 21, none⟩ = some (.int .i64 o.r.n) ∧ wx.cell? ⟨w.heap.size, 22, none⟩ = some (.int .i64 o.r.value.kind) ∧ wx.cell? ⟨w.heap.size, 23, none⟩ = some (.int .i64 o.r.value.n) ∧ wx.cell? ⟨w.heap.size, 24, none⟩ = some (.string o.r.value.s)) 20 [(true, 0), (true, 1), (true, 2), (true, 3), (true, 4), (true, 5), (true, 6), (true, 7), (true, 10), (true, 11), (true, 12), (true, 13), (true, 14), (true, 15), (true, 16), (true, 17), (true, 18), (true, 19), (false, 8), (true, 9)] (by kernel_rfl) (by as_aux_lemma => kernel_rfl) (by kernel_rfl) (fun _ _ _ _ _ h => h) ?_ (fun hS => ?_)
      (· go_simp)
      simp only [Plan.pick, List.append_eq, List.cons_append, List.nil_append, Plan.g1, Plan.g2, Option.getD_some, List.drop_succ_cons, List.drop_zero]
      iterate 18 (first | refine Plan.tA ?_ | refine Plan.tY ?_ | refine Plan.pN ?_ | refine Plan.pU ?_ | fail)
      refine Plan.step ?_
      go_wp2_with fail
      refine (HP1.out _).mono ?_
      rintro e w3 ⟨rfl, hw3⟩
      rw [hw3]
      clear hw3 w3
      go_wp2_with fail
      refine ⟨?_, ?_⟩
      (· go_simp)
      iterate 1 (first | refine Plan.tA ?_ | refine Plan.tY ?_ | refine Plan.pN ?_ | refine Plan.pU ?_ | fail)
      refine Plan.fin ?_
      go_wp2_with fail
      refine (told24_any (1 + p1) c.id c.request o.r HRW.out _).mono ?_
      rintro e w5 ⟨a5, q5, rfl, d5, hk5⟩
      have k5 : Keeps [] wY w5 := Keeps.trans (F := []) (G := []) (by exact Keeps.K) hk5 (fun _ _ h => h)
      have D5 := hid d5
      have HB5 := hid ((k5.block wX.heap.size hsy (by simp)).trans HMB.out)
      obtain ⟨⟨y0, y1, y2, y3, y4, y5, y6, y7, y8, y9⟩, fy⟩ := blk10 HB5.out
      have z1 := k5.cellSome x1 (by simp)
      have z20 := k5.cellSome x20 (by simp)
      have z21 := k5.cellSome x21 (by simp)
      have z22 := k5.cellSome x22 (by simp)
      have z23 := k5.cellSome x23 (by simp)
      have z24 := k5.cellSome x24 (by simp)
      have hs5 : wX.heap.size < w5.heap.size := (Array.getElem?_eq_some_iff.1 HB5.out).1
      have K5 := hid k5
      clear k5 hk5 d5 hS x1 x11 x20 x21 x22 x23 x24 r0 r9 r13
      obtain ⟨DL, hDL⟩ : ∃ DL, putR o.r = DL := ⟨_, rfl⟩
      unfold msgV
      dsimp only at D5 ⊢
      rw [hDL] at D5 ⊢
      have HDL := hid hDL
      clear hDL
      go_wp2_with fail
      obtain ⟨wS, hwS⟩ : ∃ wS, ((((((((((w5.setCell ⟨wX.heap.size, 0, none⟩ (.int .i64 7)).setCell ⟨wX.heap.size, 1, none⟩ (.int .i64 (1 + p1))).setCell ⟨wX.heap.size, 2, none⟩ (.int .i64 c.id)).setCell ⟨wX.heap.size, 3, none⟩ (.int .i64 0)).setCell ⟨wX.heap.size, 4, none⟩ (.int .i64 0)).setCell ⟨wX.heap.size, 5, none⟩ (.int .i64 0)).setCell ⟨wX.heap.size, 6, none⟩ (.int .i64 c.request)).setCell ⟨wX.heap.size, 7, none⟩ (.bool true)).setCell ⟨wX.heap.size, 8, none⟩ (.slice none 0 0)).setCell ⟨wX.heap.size, 9, none⟩ (.slice a5 DL.length q5)) = wS := ⟨_, rfl⟩
      rw [hwS]
      have HBS : Hid (wS.heap[wX.heap.size]? = some (.cells #[.int .i64 7, .int .i64 (1 + p1), .int .i64 c.id, .int .i64 0, .int .i64 0, .int .i64 0, .int .i64 c.request, .bool true, .slice none 0 0, .slice a5 DL.length q5] 38 (0, 0))) := by rw [← hwS]; exact heap10 HB5.out
      have kS : Keeps [wX.heap.size] w5 wS := by rw [← hwS]; exact Keeps.K
      have KS : Hid (Keeps [] wX wS) := (KY.out.trans K5.out (fun _ _ h => h)).trans kS (fun x hx hm => by simp at hm; omega)
      have hne : w.heap.size ∉ [wX.heap.size] := by simp; omega
      have s20 := kS.cellSome z20 hne
      have s21 := kS.cellSome z21 hne
      have s22 := kS.cellSome z22 hne
      have s23 := kS.cellSome z23 hne
      have s24 := kS.cellSome z24 hne
      have DS : Hid (BytesAt wS (fun x => wX.heap.size < x) (.slice a5 DL.length q5) DL) := by
        have h1 : BytesAt w5 (fun x => wX.heap.size < x) (.slice a5 DL.length q5) DL := D5.out.mono (fun b _ hb => by simp at hb; omega)
        exact h1.keep kS (fun b hb hm => by simp at hm; omega)
      clear hwS kS hne y0 y1 y2 y3 y4 y5 y6 y7 y8 y9 fy z1 z20 z21 z22 z23 z24
      obtain ⟨⟨t0, t1, t2, t3, t4, t5, t6, t7, t8, t9⟩, ft⟩ := blk10 HBS.out
      have hsS : wX.heap.size < wS.heap.size := (Array.getElem?_eq_some_iff.1 HBS.out).1
      refine (HCK.out _ (KX.out.trans KS.out (fun _ _ h => h))).mono ?_
      rintro e w8 ⟨rfl, hk8⟩
      have K8 : Hid (Keeps [] wX w8) := KS.out.trans hk8 (fun _ _ h => h)
      have hb8 := (hk8.block wX.heap.size hsS (by simp)).trans HBS.out
      have HB8 := hid hb8
      have D8 := hid (DS.out.k hk8)
      obtain ⟨⟨v0, v1, v2, v3, v4, v5, v6, v7, v8, v9⟩, fv⟩ := blk10 hb8
      have hs8 : wX.heap.size < w8.heap.size := (Array.getElem?_eq_some_iff.1 hb8).1
      have hrl := putR_short _ HRW.out HZ4.out
      have HRL : Hid (DL.length ≤ 1000) := by rw [← HDL.out]; exact hrl
      obtain ⟨bc, hbc⟩ : ∃ b, checkR o.r = b := ⟨_, rfl⟩
      rw [hbc]
      clear hbc hk8 hb8 hrl t0 t1 t2 t3 t4 t5 t6 t7 t8 t9 ft s20 s21 s22 s23 s24
      rcases bc with _ | _
      · go_wp2_with fail
        have kA : Keeps [wX.heap.size] w8 (w8.setCell ⟨wX.heap.size, 9, none⟩ (.slice (some ⟨w8.heap.size, 0, none⟩) 1 1)) := by exact Keeps.K
        have KA : Keeps [] wX (w8.setCell ⟨wX.heap.size, 9, none⟩ (.slice (some ⟨w8.heap.size, 0, none⟩) 1 1)) := K8.out.trans kA (fun x hx hm => by simp at hm; omega)
        have kB : Keeps [] (w8.setCell ⟨wX.heap.size, 9, none⟩ (.slice (some ⟨w8.heap.size, 0, none⟩) 1 1)) ((w8.setCell ⟨wX.heap.size, 9, none⟩ (.slice (some ⟨w8.heap.size, 0, none⟩) 1 1)).alloc (.cells #[.int .u8 1] 5)) := by exact Keeps.K
        have hbA := heap_setCell_same _ _ 9 _ _ (.slice (some ⟨w8.heap.size, 0, none⟩) 1 1) HB8.out
        have hbB := (kB.block wX.heap.size (by simp; omega) (by simp)).trans (by simpa using hbA)
        have hbC := heap_alloc_new (w8.setCell ⟨wX.heap.size, 9, none⟩ (.slice (some ⟨w8.heap.size, 0, none⟩) 1 1)) (.cells #[.int .u8 1] 5)
        rw [show (w8.setCell ⟨wX.heap.size, 9, none⟩ (.slice (some ⟨w8.heap.size, 0, none⟩) 1 1)).heap.size = w8.heap.size by simp] at hbC
        have HBB := hid hbB
        have HBC := hid hbC
        have HKA := hid (KA.trans kB (fun _ _ h => h))
        clear hbA hbB hbC kA kB KA
        go_meet
        case rel => exact ⟨⟨7, 1 + p1, c.id, 0, 0, 0, c.request, true, [], [1]⟩, none, some ⟨w8.heap.size, 0, none⟩, 0, 1, HKA.out, HBB.out, ListAt.nil _ _ _ _, ⟨Reads.one1 HBC.out rfl, fun _ b hb => HQ.out b (by have hb' : b = w8.heap.size := (by simpa [mem_ownB, Value.ownBlock, eq_comm] using hb); have := hs8; omega)⟩, by show (0 : Nat) ≤ 5; decide, by simp, by show (1 : Nat) ≤ 1000; decide⟩
      · go_wp2_with fail
        go_meet
        case rel => exact ⟨⟨7, 1 + p1, c.id, 0, 0, 0, c.request, true, [], DL⟩, none, a5, 0, q5, K8.out, HB8.out, ListAt.nil _ _ _ _, D8.out.mono (fun b _ hb => HQ.out b (Nat.le_of_lt hb)), by show (0 : Nat) ≤ 5; decide, by simp, HRL.out⟩
    · have x1 : wY.cell? ⟨w.heap.size, 1, none⟩ = some (.int .i64 o.n) := HXY.out 1 _ (HX.out 1 _ rfl)
      have x11 : wY.cell? ⟨w.heap.size, 11, none⟩ = some (.int .i64 o.m.frm) := HXY.out 11 _ (HX.out 11 _ rfl)
      have x20 : wY.cell? ⟨w.heap.size, 20, none⟩ = some (.int .i64 o.r.err) := HXY.out 20 _ (HX.out 20 _ rfl)
      have x21 : wY.cell? ⟨w.heap.size, 21, none⟩ = some (.int .i64 o.r.n) := HXY.out 21 _ (HX.out 21 _ rfl)
      have x22 : wY.cell? ⟨w.heap.size, 22, none⟩ = some (.int .i64 o.r.value.kind) := HXY.out 22 _ (HX.out 22 _ rfl)
      have x23 : wY.cell? ⟨w.heap.size, 23, none⟩ = some (.int .i64 o.r.value.n) := HXY.out 23 _ (HX.out 23 _ rfl)
      have x24 : wY.cell? ⟨w.heap.size, 24, none⟩ = some (.string o.r.value.s) := HXY.out 24 _ (HX.out 24 _ rfl)
      obtain ⟨dw, h2⟩ := HDY.out.two
      have r0 : wY.cell? ⟨m, 0, none⟩ = some (.int .i64 c.conf.nodes) := h2.cell 0
      have r9 : wY.cell? ⟨m, 9, none⟩ = some (.int .i64 c.id) := h2.cell 9
      have r13 : wY.cell? ⟨m, 13, none⟩ = some (.int .i64 c.request) := h2.cell 13
      have hnn := HDY.out.ok.nodes
      obtain ⟨p1, hp1⟩ : ∃ p, placeOf o.m.frm c.conf.nodes = p := ⟨_, rfl⟩
      have hb1 : 0 ≤ p1 ∧ p1 < c.conf.nodes := by rw [← hp1]; exact placeOf_bd _ _ (by omega)
      have hw1 : IntKind.i64.wrap (1 + p1) = 1 + p1 := by rw [IntKind.wrap_i64]; omega
      have HP1 := hid (fun wy => place_is p1 o.m.frm c.conf.nodes wy (by omega) (by omega) HZ.out.m.1.frm hp1)
      have HRW : Hid (ReplyW o.r) := ⟨HZ.out.r.err, HZ.out.r.n, HZ.out.r.vkind, HZ.out.r.vn, by have := HZ4.out; omega⟩
      have HCK := hid (fun wz (kk : Keeps [] w wz) => r14CheckR_any o.r wz (HT.out _ (kk.mono (fun _ _ h => by cases h))))
      have hsz := HSZ.out
      obtain ⟨-, -, hsy, hsx, -, -⟩ := hsz
      clear hp1 hb1 hnn h2 hp9 hpc hpt
      go_wp2_with fail
      refine Plan.wp_region_plan (fun wx => wx.cell? ⟨w.heap.size, 11, none⟩ = some (.int .i64 o.m.frm) ∧ wx.cell? ⟨m, 0, none⟩ = some (.int .i64 c.conf.nodes) ∧ wx.cell? ⟨m, 9, none⟩ = some (.int .i64 c.id) ∧ wx.cell? ⟨m, 13, none⟩ = some (.int .i64 c.request) ∧ wx.cell? ⟨w.heap.size, 20, none⟩ = some (.int .i64 o.r.err) ∧ wx.cell? ⟨w.heap.size, 21, none⟩ = some (.int .i64 o.r.n) ∧ wx.cell? ⟨w.heap.size, 22, none⟩ = some (.int .i64 o.r.value.kind) ∧ wx.cell? ⟨w.heap.size, 23, none⟩ = some (.int .i64 o.r.value.n) ∧ wx.cell? ⟨w.heap.size, 24, none⟩ = some (.string o.r.value.s)) 20 [(true, 0), (true, 1), (true, 2), (true, 3), (true, 4), (true, 5), (true, 6), (true, 7), (true, 10), (true, 11), (true, 12), (true, 13), (true, 14), (true, 15), (true, 16), (true, 17), (true, 18), (true, 19), (false, 8), (true, 9)] (by kernel_rfl) (by as_aux_lemma => kernel_rfl) (by kernel_rfl) (fun _ _ _ _ _ h => h) ?_ (fun hS => ?_)
      (· go_simp)
      simp only [Plan.pick, List.append_eq, List.cons_append, List.nil_append, Plan.g1, Plan.g2, Option.getD_some, List.drop_succ_cons, List.drop_zero]
      iterate 18 (first | refine Plan.tA ?_ | refine Plan.tY ?_ | refine Plan.pN ?_ | refine Plan.pU ?_ | fail)
      refine Plan.step ?_
      go_wp2_with fail
      refine (HP1.out _).mono ?_
      rintro e w3 ⟨rfl, hw3⟩
      rw [hw3]
      clear hw3 w3
      go_wp2_with fail
      refine ⟨?_, ?_⟩
      (· go_simp)
      iterate 1 (first | refine Plan.tA ?_ | refine Plan.tY ?_ | refine Plan.pN ?_ | refine Plan.pU ?_ | fail)
      refine Plan.fin ?_
      go_wp2_with fail
      refine (told24_any (1 + p1) c.id c.request o.r HRW.out _).mono ?_
      rintro e w5 ⟨a5, q5, rfl, d5, hk5⟩
      have k5 : Keeps [] wY w5 := Keeps.trans (F := []) (G := []) (by exact Keeps.K) hk5 (fun _ _ h => h)
      have D5 := hid d5
      have HB5 := hid ((k5.block wX.heap.size hsy (by simp)).trans HMB.out)
      obtain ⟨⟨y0, y1, y2, y3, y4, y5, y6, y7, y8, y9⟩, fy⟩ := blk10 HB5.out
      have z1 := k5.cellSome x1 (by simp)
      have z20 := k5.cellSome x20 (by simp)
      have z21 := k5.cellSome x21 (by simp)
      have z22 := k5.cellSome x22 (by simp)
      have z23 := k5.cellSome x23 (by simp)
      have z24 := k5.cellSome x24 (by simp)
      have hs5 : wX.heap.size < w5.heap.size := (Array.getElem?_eq_some_iff.1 HB5.out).1
      have K5 := hid k5
      clear k5 hk5 d5 hS x1 x11 x20 x21 x22 x23 x24 r0 r9 r13
      obtain ⟨DL, hDL⟩ : ∃ DL, putR o.r = DL := ⟨_, rfl⟩
      unfold msgV
      dsimp only at D5 ⊢
      rw [hDL] at D5 ⊢
      have HDL := hid hDL
      clear hDL
      go_wp2_with fail
      obtain ⟨wS, hwS⟩ : ∃ wS, ((((((((((w5.setCell ⟨wX.heap.size, 0, none⟩ (.int .i64 7)).setCell ⟨wX.heap.size, 1, none⟩ (.int .i64 (1 + p1))).setCell ⟨wX.heap.size, 2, none⟩ (.int .i64 c.id)).setCell ⟨wX.heap.size, 3, none⟩ (.int .i64 0)).setCell ⟨wX.heap.size, 4, none⟩ (.int .i64 0)).setCell ⟨wX.heap.size, 5, none⟩ (.int .i64 0)).setCell ⟨wX.heap.size, 6, none⟩ (.int .i64 c.request)).setCell ⟨wX.heap.size, 7, none⟩ (.bool true)).setCell ⟨wX.heap.size, 8, none⟩ (.slice none 0 0)).setCell ⟨wX.heap.size, 9, none⟩ (.slice a5 DL.length q5)) = wS := ⟨_, rfl⟩
      rw [hwS]
      have HBS : Hid (wS.heap[wX.heap.size]? = some (.cells #[.int .i64 7, .int .i64 (1 + p1), .int .i64 c.id, .int .i64 0, .int .i64 0, .int .i64 0, .int .i64 c.request, .bool true, .slice none 0 0, .slice a5 DL.length q5] 38 (0, 0))) := by rw [← hwS]; exact heap10 HB5.out
      have kS : Keeps [wX.heap.size] w5 wS := by rw [← hwS]; exact Keeps.K
      have KS : Hid (Keeps [] wX wS) := (KY.out.trans K5.out (fun _ _ h => h)).trans kS (fun x hx hm => by simp at hm; omega)
      have hne : w.heap.size ∉ [wX.heap.size] := by simp; omega
      have s1 := kS.cellSome z1 hne
      have s20 := kS.cellSome z20 hne
      have s21 := kS.cellSome z21 hne
      have s22 := kS.cellSome z22 hne
      have s23 := kS.cellSome z23 hne
      have s24 := kS.cellSome z24 hne
      have DS : Hid (BytesAt wS (fun x => wX.heap.size < x) (.slice a5 DL.length q5) DL) := by
        have h1 : BytesAt w5 (fun x => wX.heap.size < x) (.slice a5 DL.length q5) DL := D5.out.mono (fun b _ hb => by simp at hb; omega)
        exact h1.keep kS (fun b hb hm => by simp at hm; omega)
      clear hwS kS hne y0 y1 y2 y3 y4 y5 y6 y7 y8 y9 fy z1 z20 z21 z22 z23 z24
      obtain ⟨⟨t0, t1, t2, t3, t4, t5, t6, t7, t8, t9⟩, ft⟩ := blk10 HBS.out
      have hsS : wX.heap.size < wS.heap.size := (Array.getElem?_eq_some_iff.1 HBS.out).1
      have x1' := s1
      refine (HCK.out _ (KX.out.trans KS.out (fun _ _ h => h))).mono ?_
      rintro e w8 ⟨rfl, hk8⟩
      have m1 := hk8.cellSome s1 (by simp)
      have K8 : Hid (Keeps [] wX w8) := KS.out.trans hk8 (fun _ _ h => h)
      have hb8 := (hk8.block wX.heap.size hsS (by simp)).trans HBS.out
      have HB8 := hid hb8
      have D8 := hid (DS.out.k hk8)
      obtain ⟨⟨v0, v1, v2, v3, v4, v5, v6, v7, v8, v9⟩, fv⟩ := blk10 hb8
      have hs8 : wX.heap.size < w8.heap.size := (Array.getElem?_eq_some_iff.1 hb8).1
      have hrl := putR_short _ HRW.out HZ4.out
      have HRL : Hid (DL.length ≤ 1000) := by rw [← HDL.out]; exact hrl
      obtain ⟨bc, hbc⟩ : ∃ b, checkR o.r = b := ⟨_, rfl⟩
      rw [hbc]
      clear hbc hk8 hb8 hrl t0 t1 t2 t3 t4 t5 t6 t7 t8 t9 ft s1 x1' s20 s21 s22 s23 s24
      rcases bc with _ | _
      all_goals
        go_wp2_with fail
        have k1 : Keeps [wX.heap.size] w8 (((w8.setCell ⟨wX.heap.size, 7, none⟩ (.bool false)).setCell ⟨wX.heap.size, 9, none⟩ (.slice none 0 0)).setCell ⟨wX.heap.size, 4, none⟩ (.int .i64 o.n)) := by exact Keeps.K
        have K1 := hid k1
        have hbA := heap_setCell_same _ _ 4 _ _ (.int .i64 o.n) (heap_setCell_same _ _ 9 _ _ (.slice none 0 0) (heap_setCell_same _ _ 7 _ _ (.bool false) HB8.out))
        simp only [List.setIfInBounds_toArray, List.set_cons_zero, List.set_cons_succ] at hbA
        have HBA := hid hbA
        clear k1 hbA
        go_meet
        case rel => exact ⟨⟨7, 1 + p1, c.id, 0, o.n, 0, c.request, false, [], []⟩, none, none, 0, 0, K8.out.trans K1.out (fun x hx hm => by simp at hm; omega), HBA.out, ListAt.nil _ _ _ _, BytesAt.nil _ _ _ _, by show (0 : Nat) ≤ 5; decide, by simp, by show (0 : Nat) ≤ 1000; decide⟩
  case rest =>
    obtain ⟨mm, ea', da', ec', dc', k1, hb, hen, hda, z5, z6, z7⟩ := hcut
    have KWF : Hid (Keeps [n, m] w wc) := (KX.out.trans k1 (fun _ _ h => h)).mono (fun _ _ h => by cases h)
    have DC := hid ((HD.out.k0 KX.out).k0 k1)
    have HSC : Hid (wX.heap.size ≤ wc.heap.size) := k1.size
    have HMC := hid hb
    have HEC := hid hen
    have HDC := hid hda
    have Z6 := hid z6
    have Z7 := hid z7
    obtain ⟨⟨y0, y1, y2, y3, y4, y5, y6, y7, y8, y9⟩, -⟩ := blk10 hb
    obtain ⟨dv, fv, h1⟩ := DC.out.one
    obtain ⟨dw, h2⟩ := DC.out.two
    have H1 := hid h1
    have H2 := hid h2
    have HHO : Hid (HearOk c) := ⟨⟨DC.out.ok.request.1, fun _ => by have := DC.out.ok.request; have := HK9.out; omega⟩, DC.out.ok.call, DC.out.ok.data⟩
    clear k1 hb hen hda h1 h2 z6 z7 hp9
    go_wp2_with fail
    refine (lMsgW_any _ mm ea' da' ec' dc' _ HEC.out HDC.out (by omega) Z6.out (by have := Z7.out; omega)).mono ?_
    rintro e w3 ⟨ea3, ec3, da3, dc3, rfl, le3, bd3, hk⟩
    have K3 := hid hk
    have C3 := hid (H1.out.k hk)
    have R3 := hid (H2.out.k hk)
    have B3 := hid bd3
    have KF3 : Hid (Keeps [n, m] w w3) := KWF.out.trans (hk.mono (G := [n, m]) (fun x _ h => by cases h)) (fun x _ h => h)
    have u0 := hk.cellSome y0 (by simp)
    have u1 := hk.cellSome y1 (by simp)
    have u2 := hk.cellSome y2 (by simp)
    have u3 := hk.cellSome y3 (by simp)
    have u4 := hk.cellSome y4 (by simp)
    have u5 := hk.cellSome y5 (by simp)
    have u6 := hk.cellSome y6 (by simp)
    have u7 := hk.cellSome y7 (by simp)
    have u8 := hk.cellSome y8 (by simp)
    have u9 := hk.cellSome y9 (by simp)
    clear hk le3 bd3 y0 y1 y2 y3 y4 y5 y6 y7 y8 y9
    go_wp2_with fail
    refine (clHear_any w3 n _ c dv fv mm ea3 da3 mm.entries.length ec3 dc3 (HT.out _ KF3.out) C3.out HHO.out B3.out.1 (by have := Z7.out; omega) (fun y hy => HQ.out y (by have := K3.out.size; have := HSC.out; omega))).mono ?_
    rintro e w4 ⟨v, rfl, a4, q4, dv4, fv4, rfl, h4, l4, hk⟩
    have K4 := hid hk
    have C4 := hid h4
    have L4 := hid l4
    have R4 : Hid (RefCAt w4 m (fun x => x ≠ n ∧ x ≠ m) c X dw) := R3.out.keep hk (by simp; exact fun h => HNM.out h.symm) (fun x hx hm => by simp at hm; exact hx.1 hm)
    have D4 : Hid (BytesAt w4 (fun x => x ≠ n ∧ x ≠ m) (.slice da' mm.data.length dc') mm.data) := (HDC.out.k K3.out).keep hk (fun x hx hm => by simp at hm; exact hx.1 hm)
    have KF4 : Hid (Keeps [n, m] w w4) := KF3.out.trans (hk.mono (G := [n, m]) (fun x _ h => by simp at h; simp [h])) (fun x _ h => h)
    have hwn : wX.heap.size ∉ [n] := by simp; have := HSZ.out; omega
    have t0 := hk.cellSome u0 hwn
    have t1 := hk.cellSome u1 hwn
    have t2 := hk.cellSome u2 hwn
    have t3 := hk.cellSome u3 hwn
    have t4 := hk.cellSome u4 hwn
    have t5 := hk.cellSome u5 hwn
    have t6 := hk.cellSome u6 hwn
    have t7 := hk.cellSome u7 hwn
    have t8 := hk.cellSome u8 hwn
    have t9 := hk.cellSome u9 hwn
    clear hk h4 l4 u0 u1 u2 u3 u4 u5 u6 u7 u8 u9 hwn
    go_wp2_with fail
    refine (r24Hear_any w4 m _ c X dw mm ea' da' mm.entries.length ec' dc' (HT.out _ KF4.out) R4.out DC.out.xok DC.out.last HHO.out D4.out.1 (by have := Z7.out; omega) (fun y hy => HQ.out y (by have := K3.out.size; have := K4.out.size; have := HSC.out; omega))).mono ?_
    rintro e w5 ⟨v, rfl, a5, q5, dw5, rfl, h5, l5, hk⟩
    have R5 := hid h5
    have L5 := hid l5
    have C5 : Hid (CliAt w5 n (fun x => x ≠ n ∧ x ≠ m) (chearD c mm).1 dv4 fv4) := C4.out.keep hk (by simp; exact HNM.out) (fun x hx hm => by simp at hm; exact hx.2 hm)
    have L45 : Hid (ListAt msgL w5 (fun b => w3.heap.size ≤ b) (.slice a4 (chearD c mm).2.1.length q4) (chearD c mm).2.1) := L4.out.keep hk (fun x hx hm => by simp at hm; have := HSZ.out; have := K3.out.size; have := HSC.out; omega)
    have KF5 : Hid (Keeps [n, m] w w5) := KF4.out.trans (hk.mono (G := [n, m]) (fun x _ h => by simp at h; simp [h])) (fun x _ h => h)
    clear hk h5 l5 t0 t1 t2 t3 t4 t5 t6 t7 t8 t9
    go_wp2_with fail
    refine (sameMsgs_any (chearD c mm).2.1 _ _ a4 a5 q4 q5 _ L45.out L5.out).mono ?_
    rintro e w6 ⟨rfl, hk⟩
    have KF6 : Hid (Keeps [n, m] w w6) := KF5.out.trans (hk.mono (G := [n, m]) (fun x _ h => by cases h)) (fun x _ h => h)
    have C6 := hid (C5.out.k hk)
    have R6 := hid (R5.out.k hk)
    clear hk
    obtain ⟨ov, hov⟩ : ∃ b, (chearD c mm).2.2 = b := ⟨_, rfl⟩
    rw [hov]
    clear hov
    have hoo : (ov == ov) = true := by cases ov <;> rfl
    go_wp2_with fail
    go_ret
    have hst := hear_step DC.out.ok DC.out.last HK9.out mm
    exact ⟨rfl, KF6.out, _, X, ⟨⟨_, _, C6.out⟩, ⟨_, R6.out⟩, hear_xok mm DC.out.xok, hst.ok, hst.last⟩, hst.conf, hst.id⟩

end Go.Proofs.YtnjdepojmnniaaaGreatDoor
