/- Joined of MsgA, PlayD, PlayE. -/
import Derived.Test.YtpppoajnbhipeaaSendA
import Derived.Test.YtpppoajnbhipeaaCoreP
import Derived.Test.YtpppoajnbhipeaaQ30
import Derived.Test.YtpppoajnbhipeaaQ31
import Derived.Test.YtpppoajnbhipeaaQ32
import Derived.Test.YtpppoajnbhipeaaRefS
import Derived.Test.YtpppoajnbhipeaaQ36

/- Msg: a message in new memory. -/
namespace Go.Proofs.Ytpppoajnbhipeaa
open Go Go.RowKit

set_option maxRecDepth 100000 in
set_option maxHeartbeats 3200000 in
theorem lMsg_any (w : World) (m : MsgD) (ea da : Option Addr) (ec dc : Nat) (P : Nat → Prop) (hl : ListAt entL w P (.slice ea m.entries.length ec) m.entries) (hd : BytesAt w P (.slice da m.data.length dc) m.data) (hn : m.entries.length ≤ 100000) (h1 : ∀ e ∈ m.entries, e.data.length ≤ 1000000) (h2 : m.data.length ≤ 1000000) :
    Calls Try.prog 31 #[msgV m (.slice ea m.entries.length ec) (.slice da m.data.length dc)] w (SendPost m w) := by
  have HL := hid hl
  have HD := hid hd
  have H1 := hid h1
  clear hl hd h1
  unfold msgV
  go_enter Try.func31, Try.ntmps31
  go_wp2_with fail
  refine (lEntries_any _ m.entries ea ec P (HL.out.k (by exact Keeps.K)) H1.out hn).mono ?_
  rintro e w3 ⟨a3, q3, rfl, f3, k3⟩
  have HB1 := (k3.block w.heap.size (by simp; omega) (by simp)).trans ((((Keeps.refl [] _).alloc _).block w.heap.size (by simp) (by simp)).trans (heap_alloc_new w (.cells #[.int .i64 m.kind, .int .i64 m.frm, .int .i64 m.to, .int .i64 m.term, .int .i64 m.a, .int .i64 m.b, .int .i64 m.c, .bool m.ok, .slice ea m.entries.length ec, .slice da m.data.length dc] 40)))
  have HB2 : w3.heap[w.heap.size + 1]? = some (.cells #[.int .i64 0, .int .i64 0, .int .i64 0, .int .i64 0, .int .i64 0, .int .i64 0, .int .i64 0, .bool false, .slice none 0 0, .slice none 0 0] 40 (0, 0)) := by
    have h2 := heap_alloc_new (w.alloc (.cells #[.int .i64 m.kind, .int .i64 m.frm, .int .i64 m.to, .int .i64 m.term, .int .i64 m.a, .int .i64 m.b, .int .i64 m.c, .bool m.ok, .slice ea m.entries.length ec, .slice da m.data.length dc] 40)) (.cells #[.int .i64 0, .int .i64 0, .int .i64 0, .int .i64 0, .int .i64 0, .int .i64 0, .int .i64 0, .bool false, .slice none 0 0, .slice none 0 0] 40)
    rw [show (w.alloc (.cells #[.int .i64 m.kind, .int .i64 m.frm, .int .i64 m.to, .int .i64 m.term, .int .i64 m.a, .int .i64 m.b, .int .i64 m.c, .bool m.ok, .slice ea m.entries.length ec, .slice da m.data.length dc] 40)).heap.size = w.heap.size + 1 by simp] at h2
    exact (k3.block (w.heap.size + 1) (by simp) (by simp)).trans h2
  have K3 : Hid (Keeps [] w w3) := Keeps.trans (by exact Keeps.K) k3 (fun _ _ h => h)
  have L3 : Hid (ListAt entL w3 (fun b => w.heap.size + 2 ≤ b) (.slice a3 m.entries.length q3) m.entries) := OwnAt.list f3 (fun b _ hb => by simpa using hb.1) (fun b hb => by have := (OwnAt.ge f3 b hb).1; simpa using this)
  have D3 : Hid (BytesAt w3 (fun b => b < w.heap.size) (.slice da m.data.length dc) m.data) := (HD.out.mono (P' := fun b => b < w.heap.size) (fun b h _ => h)).k K3.out
  obtain ⟨⟨c0, c1, c2, c3, c4, c5, c6, c7, c8, c9⟩, fz⟩ := blk10 HB1
  have hz3 : w.heap.size + 1 < w3.heap.size := (Array.getElem?_eq_some_iff.1 HB2).1
  have HBX := hid (heap_setCell_same w3 w.heap.size 8 _ _ (.slice a3 m.entries.length q3) HB1)
  have HBY := hid HB2
  have KS : Hid (∀ v, Keeps [w.heap.size] w3 (w3.setCell ⟨w.heap.size, 8, none⟩ v)) := fun v => (Keeps.refl _ _).setCell (.inl (by simp)) _
  clear f3 k3 HB1 HB2
  go_wp2_with fail
  refine (lawBytes_any _ m.data _ (D3.out.keep (KS.out _) (fun b hb hb' => by simp at hb'; omega)).1 (by omega)).mono ?_
  rintro e w4 ⟨a4, q4, rfl, o4, k4⟩
  have D4 : Hid (BytesAt w4 (fun b => w.heap.size + 2 ≤ b) (.slice a4 m.data.length q4) m.data) := BytesAt.ofOwn o4 rfl (fun b hb _ => by simp at hb; omega)
  have L4 : Hid (ListAt entL w4 (fun b => w.heap.size + 2 ≤ b) (.slice a3 m.entries.length q3) m.entries) := (L3.out.keep (KS.out _) (fun b hb hb' => by simp at hb'; omega)).k k4
  have K4 : Hid (Keeps [w.heap.size] w3 w4) := (KS.out _).trans k4 (fun _ _ h => by cases h)
  have HX4 := (k4.block w.heap.size (by simp; omega) (by simp)).trans HBX.out
  have HY4 := (K4.out.block (w.heap.size + 1) hz3 (by simp)).trans HBY.out
  simp only [List.setIfInBounds_toArray, List.set_cons_zero, List.set_cons_succ] at HX4
  obtain ⟨⟨d0, d1, d2, d3, d4, d5, d6, d7, d8, d9⟩, fx⟩ := blk10 HX4
  obtain ⟨⟨e0, e1, e2, e3, e4, e5, e6, e7, e8, e9⟩, fy⟩ := blk10 HY4
  have HYY := hid HY4
  have hz4 : w.heap.size + 1 < w4.heap.size := (Array.getElem?_eq_some_iff.1 HY4).1
  clear o4 k4 HX4 HY4 c0 c1 c2 c3 c4 c5 c6 c7 c8 c9 fz
  go_wp2_with fail
  have k1 : Keeps [w.heap.size] w4 (w4.setCell ⟨w.heap.size, 9, none⟩ (.slice a4 m.data.length q4)) := (Keeps.refl _ _).setCell (.inl (by simp)) _
  have HF := heap10 (y0 := .int .i64 m.kind) (y1 := .int .i64 m.frm) (y2 := .int .i64 m.to) (y3 := .int .i64 m.term) (y4 := .int .i64 m.a) (y5 := .int .i64 m.b) (y6 := .int .i64 m.c) (y7 := .bool m.ok) (y8 := .slice a3 m.entries.length q3) (y9 := .slice a4 m.data.length q4) ((k1.block (w.heap.size + 1) hz4 (by simp)).trans HYY.out)
  have k5 : Keeps [w.heap.size, w.heap.size + 1] w4 (((((((((((w4.setCell ⟨w.heap.size, 9, none⟩ (.slice a4 m.data.length q4)).setCell ⟨w.heap.size + 1, 0, none⟩ (.int .i64 m.kind)).setCell ⟨w.heap.size + 1, 1, none⟩ (.int .i64 m.frm)).setCell ⟨w.heap.size + 1, 2, none⟩ (.int .i64 m.to)).setCell ⟨w.heap.size + 1, 3, none⟩ (.int .i64 m.term)).setCell ⟨w.heap.size + 1, 4, none⟩ (.int .i64 m.a)).setCell ⟨w.heap.size + 1, 5, none⟩ (.int .i64 m.b)).setCell ⟨w.heap.size + 1, 6, none⟩ (.int .i64 m.c)).setCell ⟨w.heap.size + 1, 7, none⟩ (.bool m.ok)).setCell ⟨w.heap.size + 1, 8, none⟩ (.slice a3 m.entries.length q3)).setCell ⟨w.heap.size + 1, 9, none⟩ (.slice a4 m.data.length q4)) := by exact Keeps.K
  refine bodyPost_ret (v := .agg #[.int .i64 m.kind, .int .i64 m.frm, .int .i64 m.to, .int .i64 m.term, .int .i64 m.a, .int .i64 m.b, .int .i64 m.c, .bool m.ok, .slice a3 m.entries.length q3, .slice a4 m.data.length q4]) (results_cell_row rfl _ _ (w.heap.size + 1) 40 _ (0, 0) _ rfl HF Try.underlying40 rfl (by kernel_rfl)) rfl ⟨a3, q3, a4, q4, rfl, ?_, ?_, ?_⟩
  · exact (L4.out.keep k5 (fun b hb hb' => by simp at hb'; omega)).mono (fun b _ hb => by omega)
  · exact (D4.out.keep k5 (fun b hb hb' => by simp at hb'; omega)).mono (fun b _ hb => by omega)
  · exact (K3.out.trans K4.out (fun b hb hb' => by simp at hb'; omega)).trans k5 (fun b hb hb' => by simp at hb'; omega)

end Go.Proofs.Ytpppoajnbhipeaa

/- CorePlays: the core and the document's core side by side in memory; one call of a script: Tick, Draw. -/
namespace Go.Proofs.Ytpppoajnbhipeaa
open Go Go.RowKit

/-- Side by side. -/
structure Duo2 (w0 w : World) (n rn : Nat) (c r : CoreD) (lv sv lv' sv' : Value) (P : Nat → Prop) : Prop where
  core : CoreAt w w0.heap.size n c lv sv
  ref : RefAt w w0.heap.size rn r P lv' sv'
  ban : c.ban rn
  lt : ∀ b, P b → b < w.heap.size
  off : ∀ b, P b → Off n lv b
  old : ∀ b, b < w0.heap.size → P b
  keeps : Keeps [] w0 w

theorem Duo2.ne {w0 w : World} {n rn : Nat} {c r : CoreD} {lv sv lv' sv' : Value} {P : Nat → Prop} (h : Duo2 w0 w n rn c r lv sv lv' sv' P) : rn ∉ n :: ownB lv := fun hb => by
  rcases List.mem_cons.1 hb with e | e
  · exact h.core.free.1 (e ▸ h.ban)
  · exact h.core.free.2 rn e h.ban
theorem Duo2.beside {w0 w w' : World} {n rn : Nat} {c r : CoreD} {lv sv lv' sv' : Value} {P : Nat → Prop} (h : Duo2 w0 w n rn c r lv sv lv' sv' P) (k : Keeps [] w w') : Duo2 w0 w' n rn c r lv sv lv' sv' P :=
  ⟨h.core.k k, h.ref.k k, h.ban, fun b hb => Nat.lt_of_lt_of_le (h.lt b hb) k.size, h.off, h.old, h.keeps.trans k (fun _ _ h => h)⟩
theorem Duo2.callC {w0 w w' : World} {n rn : Nat} {c c' r : CoreD} {lv sv lv2 sv2 lv' sv' : Value} {P : Nat → Prop} (h : Duo2 w0 w n rn c r lv sv lv' sv' P) (hc : CoreAt w' w0.heap.size n c' lv2 sv2) (hb : c'.ban = c.ban) (k : Keeps (n :: ownB lv) w w') (hv : ∀ b ∈ ownB lv2, b ∈ ownB lv ∨ w.heap.size ≤ b) : Duo2 w0 w' n rn c' r lv2 sv2 lv' sv' P :=
  ⟨hc, h.ref.keep k h.ne (fun b hP hb => by
      have := h.off b hP
      rcases List.mem_cons.1 hb with e | e
      · exact this.1 e
      · exact this.2 e), by rw [hb]; exact h.ban, fun b hP => Nat.lt_of_lt_of_le (h.lt b hP) k.size, fun b hP => ⟨(h.off b hP).1, fun hb => by
      rcases hv b hb with e | e
      · exact (h.off b hP).2 e
      · have := h.lt b hP; omega⟩, h.old, h.keeps.trans k (fun b hb hb' => by have := (h.core.lt b hb').1; omega)⟩
theorem Duo2.callR {w0 w w' : World} {n rn : Nat} {c r r' : CoreD} {lv sv lv' sv' lv2 sv2 : Value} {P : Nat → Prop} (h : Duo2 w0 w n rn c r lv sv lv' sv' P) (hr : RefAt w' w0.heap.size rn r' (Gr P w w') lv2 sv2) (k : Keeps [rn] w w') : Duo2 w0 w' n rn c r' lv sv lv2 sv2 (Gr P w w') :=
  ⟨h.core.keepB k (fun hb => h.ne (by simp at hb; simp [hb])) (fun b hb hb' => h.ne (by simp at hb'; subst hb'; exact List.mem_cons_of_mem _ hb)) (fun b hb => by simp at hb; subst hb; exact .inr (.inl h.ban)), hr, h.ban, Gr.lt h.lt k.size, fun b hP => by
      rcases hP with hP | hP
      · exact h.off b hP
      · refine ⟨fun e => ?_, fun e => ?_⟩
        · have := (h.core.lt n (by simp)).2; omega
        · have := (h.core.lt b (List.mem_cons_of_mem _ e)).2; omega, fun b hb => .inl (h.old b hb), h.keeps.trans k (fun b hb hb' => by simp at hb'; have := h.ref.base; omega)⟩

/-- The state between the calls of a script. -/
def PlaySt (w0 w : World) (n rn k : Nat) : Prop :=
  ∃ c r lv sv lv' sv' P, Duo2 w0 w n rn c r lv sv lv' sv' P ∧ Kin c r ∧ VotesOk c ∧ 0 ≤ c.patience ∧ c.patience ≤ k ∧ lastD c ≤ 1099511627776 + 8 * (k : Int)
def DoPost (w0 : World) (n rn k : Nat) (e : Ending) (w' : World) : Prop := e = .returned (.bool true) ∧ PlaySt w0 w' n rn (k + 1)
def opV (o : OpD) (ev dv bv : Value) : Value := .agg #[.int .i64 o.kind, .int .i64 o.num, .int .i64 o.m.kind, .int .i64 o.m.frm, .int .i64 o.m.to, .int .i64 o.m.term, .int .i64 o.m.a, .int .i64 o.m.b, .int .i64 o.m.c, .bool o.m.ok, ev, dv, bv]

set_option maxRecDepth 100000 in
set_option maxHeartbeats 6400000 in
theorem do_tick (w0 w : World) (n rn k p : Nat) (o : OpD) (ea da ba : Option Addr) (ec dc bc : Nat) (H : PlaySt w0 w n rn k) (hk : k ≤ 60) (wk : (Lit.int .i64 o.kind).wf = true) (hpl : placeOf o.kind 12 = (p : Int)) (hp : p = 0 ∨ p = 1) :
    Calls Try.prog 43 #[.pointer (some ⟨n, 0, none⟩), .pointer (some ⟨rn, 0, none⟩), opV o (.slice ea o.m.entries.length ec) (.slice da o.m.data.length dc) (.slice ba o.data.length bc)] w (DoPost w0 n rn k) := by
  obtain ⟨c, r, lv, sv, lv', sv', P, hd, hkin, hvt, hp0, hp1, hll⟩ := H
  have HD := hid hd
  have HK := hid hkin
  have hg := tick_grows hd.core.ok
  have HP := hid hpl
  have hpr : r.patience = c.patience := by obtain ⟨nx, mx, f, rfl, _, _⟩ := hkin; rfl
  have HTK := hid (kin_tick hkin)
  have HVT := hid (votes_tick hvt hd.core.ok)
  have HNX : Hid (0 ≤ (tickD c).1.patience ∧ (tickD c).1.patience ≤ ((k + 1 : Nat) : Int) ∧ lastD (tickD c).1 ≤ 1099511627776 + 8 * ((k + 1 : Nat) : Int)) := by
    have h1 := hg.pat hp0
    have h2 := hg.last
    refine ⟨h1.1, by omega, by omega⟩
  have HPT : Hid ((0 ≤ c.patience ∧ c.patience ≤ 1000000000) ∧ (0 ≤ r.patience ∧ r.patience ≤ 1000000000)) := ⟨⟨hp0, by omega⟩, by rw [hpr]; exact ⟨hp0, by omega⟩⟩
  unfold opV
  clear hd hkin hvt hp0 hp1 hll hg hpl hpr
  rcases hp with rfl | rfl
  all_goals
    go_enter Try.func43, Try.ntmps43
    go_wp2_with fail
    first
      | (refine (place_is 0 o.kind 12 _ (by omega) (by omega) wk HP.out).mono ?_)
      | (refine (place_is 1 o.kind 12 _ (by omega) (by omega) wk HP.out).mono ?_)
    rintro e w1 ⟨rfl, hwa⟩
    rw [hwa]
    clear hwa w1
    go_wp2_with fail
    refine calls_fold (fun wx => Keeps [] w wx) (by exact Keeps.K) ?_
    intro w2 k2
    have D2 := hid (HD.out.beside k2)
    clear k2
    refine (tick_any w2 w0.heap.size n c lv sv D2.out.core HPT.out.1).mono ?_
    rintro e w3 ⟨a1, q1, rfl, hc3, hm3, hk3⟩
    have D3 : Hid (Duo2 w0 w3 n rn (tickD c).1 r lv sv lv' sv' P) := D2.out.callC hc3 (by unfold tickD; dsimp only; split <;> (try split) <;> rfl) (hk3.mono (fun b _ hb => by simp at hb; simp [hb])) (fun b hb => .inl hb)
    have M3 : Hid (ListAt msgL w3 (fun b => w2.heap.size ≤ b) (.slice a1 (tickD c).2.length q1) (tickD c).2) := hm3
    have HRN : Hid (rn < w2.heap.size) := D2.out.ref.blk.lt
    clear hc3 hm3 hk3
    go_wp2_with fail
    refine (rtick_any w3 w0.heap.size rn r P lv' sv' D3.out.ref D3.out.lt HPT.out.2).mono ?_
    unfold RCallPost
    rw [HTK.out.2]
    rintro e w4 ⟨a2, q2, lv2, sv2, rfl, hr4, hm4, hk4⟩
    have D4 := hid (D3.out.callR hr4 hk4)
    have M4 := hid hm4.list
    have M34 : Hid (ListAt msgL w4 (fun b => w2.heap.size ≤ b) (.slice a1 (tickD c).2.length q1) (tickD c).2) := M3.out.keep hk4 (fun b hb hb' => by simp at hb'; subst hb'; have := HRN.out; omega)
    clear hr4 hm4 hk4
    go_wp2_with fail
    refine (sameMsgs_any (tickD c).2 _ _ a1 a2 q1 q2 w4 M34.out M4.out).mono ?_
    rintro e w5 ⟨rfl, hk5⟩
    have D5 := hid (D4.out.beside hk5)
    clear hk5
    go_wp2_with fail
    go_ret
    exact ⟨rfl, _, _, _, _, _, _, _, D5.out, HTK.out.1, HVT.out, HNX.out⟩

end Go.Proofs.Ytpppoajnbhipeaa

/- CorePlays: one call of a script: Draw, Changes, Hear. -/
namespace Go.Proofs.Ytpppoajnbhipeaa
open Go Go.RowKit

set_option maxRecDepth 100000 in
set_option maxHeartbeats 6400000 in
theorem do_draw (w0 w : World) (n rn k : Nat) (o : OpD) (ea da ba : Option Addr) (ec dc bc : Nat) (H : PlaySt w0 w n rn k) (wk : (Lit.int .i64 o.kind).wf = true) (hpl : placeOf o.kind 12 = (8 : Int)) :
    Calls Try.prog 43 #[.pointer (some ⟨n, 0, none⟩), .pointer (some ⟨rn, 0, none⟩), opV o (.slice ea o.m.entries.length ec) (.slice da o.m.data.length dc) (.slice ba o.data.length bc)] w (DoPost w0 n rn k) := by
  obtain ⟨c, r, lv, sv, lv', sv', P, hd, hkin, hvt, hp0, hp1, hll⟩ := H
  have HD := hid hd
  have HP := hid hpl
  have HTK := hid (kin_draw hkin o.num)
  have HNX : Hid (VotesOk (drawD c o.num) ∧ 0 ≤ (drawD c o.num).patience ∧ (drawD c o.num).patience ≤ ((k + 1 : Nat) : Int) ∧ lastD (drawD c o.num) ≤ 1099511627776 + 8 * ((k + 1 : Nat) : Int)) := ⟨hvt, hp0, by show c.patience ≤ _; omega, by show lastD c ≤ _; omega⟩
  unfold opV
  clear hd hkin hvt hp0 hp1 hll hpl
  go_enter Try.func43, Try.ntmps43
  go_wp2_with fail
  refine (place_is 8 o.kind 12 _ (by omega) (by omega) wk HP.out).mono ?_
  rintro e w1 ⟨rfl, hwa⟩
  rw [hwa]
  clear hwa w1
  go_wp2_with fail
  refine calls_fold (fun wx => Keeps [] w wx ∧ wx.cell? ⟨w.heap.size, 1, none⟩ = some (.int .i64 o.num)) ⟨by exact Keeps.K, by go_simp⟩ ?_
  rintro w2 ⟨k2, b1⟩
  have D2 := hid (HD.out.beside k2)
  clear k2
  refine (cDraw_any w2 w0.heap.size n c lv sv o.num D2.out.core).mono ?_
  rintro e w3 ⟨rfl, hc3, hk3⟩
  have D3 : Hid (Duo2 w0 w3 n rn (drawD c o.num) r lv sv lv' sv' P) := D2.out.callC hc3 rfl (hk3.mono (fun b _ hb => by simp at hb; simp [hb])) (fun b hb => .inl hb)
  have b2 : w3.cell? ⟨w.heap.size, 1, none⟩ = some (.int .i64 o.num) := hk3.cellSome b1 (by have := HD.out.core.lt n (by simp); simp; omega)
  clear hc3 hk3
  go_wp2_with fail
  refine (rDraw_any w3 w0.heap.size rn r P lv' sv' o.num D3.out.ref).mono ?_
  rintro e w4 ⟨rfl, hr4, hk4⟩
  have D4 := hid (D3.out.callR (hr4.toGr D3.out.ref.blk.lt) hk4)
  clear hr4 hk4
  go_wp2_with fail
  go_ret
  exact ⟨rfl, _, _, _, _, _, _, _, D4.out, HTK.out, HNX.out⟩

set_option maxRecDepth 100000 in
set_option maxHeartbeats 6400000 in
theorem do_changes (w0 w : World) (n rn k : Nat) (o : OpD) (ea da ba : Option Addr) (ec dc bc : Nat) (H : PlaySt w0 w n rn k) (wk : (Lit.int .i64 o.kind).wf = true) (hpl : placeOf o.kind 12 = (11 : Int)) :
    Calls Try.prog 43 #[.pointer (some ⟨n, 0, none⟩), .pointer (some ⟨rn, 0, none⟩), opV o (.slice ea o.m.entries.length ec) (.slice da o.m.data.length dc) (.slice ba o.data.length bc)] w (DoPost w0 n rn k) := by
  obtain ⟨c, r, lv, sv, lv', sv', P, hd, hkin, hvt, hp0, hp1, hll⟩ := H
  have HD := hid hd
  have HP := hid hpl
  have HTK := hid (kin_changes hkin)
  have HNX : Hid (VotesOk (changesD c).1 ∧ 0 ≤ (changesD c).1.patience ∧ (changesD c).1.patience ≤ ((k + 1 : Nat) : Int) ∧ lastD (changesD c).1 ≤ 1099511627776 + 8 * ((k + 1 : Nat) : Int)) := ⟨hvt, hp0, by show c.patience ≤ _; omega, by show lastD c ≤ _; omega⟩
  unfold opV
  clear hd hkin hvt hp0 hp1 hll hpl
  go_enter Try.func43, Try.ntmps43
  go_wp2_with fail
  refine (place_is 11 o.kind 12 _ (by omega) (by omega) wk HP.out).mono ?_
  rintro e w1 ⟨rfl, hwa⟩
  rw [hwa]
  clear hwa w1
  go_wp2_with fail
  refine calls_fold (fun wx => Keeps [] w wx) (by exact Keeps.K) ?_
  intro w2 k2
  have D2 := hid (HD.out.beside k2)
  clear k2
  refine (changes_any w2 w0.heap.size n c lv sv D2.out.core).mono ?_
  rintro e w3 ⟨rfl, hc3, hk3⟩
  have D3 : Hid (Duo2 w0 w3 n rn (changesD c).1 r lv sv lv' sv' P) := D2.out.callC hc3 rfl (hk3.mono (fun b _ hb => by simp at hb; simp [hb])) (fun b hb => .inl hb)
  clear hc3 hk3
  go_wp2_with fail
  refine (rchanges_any w3 w0.heap.size rn r P lv' sv' D3.out.ref).mono ?_
  unfold RChangesPost
  rw [HTK.out.2]
  rintro e w4 ⟨rfl, hr4, hk4⟩
  have D4 := hid (D3.out.callR (hr4.toGr D3.out.ref.blk.lt) hk4)
  clear hr4 hk4
  go_wp2_with fail
  go_ret
  exact ⟨rfl, _, _, _, _, _, _, _, D4.out, HTK.out.1, HNX.out⟩

set_option maxRecDepth 100000 in
set_option maxHeartbeats 6400000 in
theorem do_hear (w0 w : World) (n rn k p : Nat) (o : OpD) (ea da ba : Option Addr) (ec dc bc : Nat) (H : PlaySt w0 w n rn k) (hk : k ≤ 60) (wk : (Lit.int .i64 o.kind).wf = true) (hpl : placeOf o.kind 12 = (p : Int)) (hp : 2 ≤ p ∧ p ≤ 7)
    (hl : ListAt entL w (fun b => b < w0.heap.size) (.slice ea o.m.entries.length ec) o.m.entries) (hdt : BytesAt w (fun b => b < w0.heap.size) (.slice da o.m.data.length dc) o.m.data) (hs : smallD o.m = true) :
    Calls Try.prog 43 #[.pointer (some ⟨n, 0, none⟩), .pointer (some ⟨rn, 0, none⟩), opV o (.slice ea o.m.entries.length ec) (.slice da o.m.data.length dc) (.slice ba o.data.length bc)] w (DoPost w0 n rn k) := by
  obtain ⟨c, r, lv, sv, lv', sv', P, hd, hkin, hvt, hp0, hp1, hll⟩ := H
  obtain ⟨s1, s2, s3⟩ := smallD_yes hs
  have hg := hear_grows (m := o.m) hd.core.ok
  obtain ⟨f1, f2, f3, f4, f5⟩ := hear_fields o.m hvt hp0
  have HD := hid hd
  have HP := hid hpl
  have hlr : lastD r = lastD c := by obtain ⟨nx, mx, f, rfl, _, _⟩ := hkin; rfl
  have HTK := hid (kin_hear hkin hd.core.ok hvt o.m)
  have HNX : Hid (VotesOk (hearD c o.m).1 ∧ 0 ≤ (hearD c o.m).1.patience ∧ (hearD c o.m).1.patience ≤ ((k + 1 : Nat) : Int) ∧ lastD (hearD c o.m).1 ≤ 1099511627776 + 8 * ((k + 1 : Nat) : Int)) := by
    have h2 := hg.last
    exact ⟨f1, f3, by omega, by omega⟩
  have HBN := hid f5
  have HLL : Hid (lastD c + 8 ≤ 2199023255552 ∧ lastD r + 8 ≤ 2199023255552) := ⟨by omega, by omega⟩
  have HLM : Hid (∀ wx, Keeps [] w wx → Calls Try.prog 31 #[msgV o.m (.slice ea o.m.entries.length ec) (.slice da o.m.data.length dc)] wx (SendPost o.m wx)) := fun wx kx => lMsg_any wx o.m ea da ec dc _ (hl.k kx) (hdt.k kx) (by omega) (fun e he => by have := s3 e he; omega) (by omega)
  have HLL2 := hid hl
  have HDT2 := hid hdt
  have HSM : Hid (o.m.data.length ≤ 1000000 ∧ ∀ e ∈ o.m.entries, e.data.length ≤ 1000000) := ⟨by omega, fun e he => by have := s3 e he; omega⟩
  have q0 : ((p : Int) == 0) = false := by simp; omega
  have q1 : ((p : Int) == 1) = false := by simp; omega
  have q8 : ((p : Int) == 8) = false := by simp; omega
  have q9 : ((p : Int) == 9) = false := by simp; omega
  have q10 : ((p : Int) == 10) = false := by simp; omega
  have q11 : ((p : Int) == 11) = false := by simp; omega
  have hp12 : p < 12 := by omega
  unfold opV
  clear hd hkin hvt hp0 hp1 hll hpl hg f1 f2 f3 f4 f5 hlr hl hdt hs s1 s2 s3 hp
  go_enter Try.func43, Try.ntmps43
  go_wp2_with fail
  refine (place_is (p : Int) o.kind 12 _ (by omega) (by omega) wk HP.out).mono ?_
  rintro e w1 ⟨rfl, hwa⟩
  rw [hwa]
  clear hwa w1
  go_wp2_with fail
  refine Plan.wp_region_plan (fun wx => wx.cell? ⟨w.heap.size, 2, none⟩ = some (.int .i64 o.m.kind) ∧ wx.cell? ⟨w.heap.size, 3, none⟩ = some (.int .i64 o.m.frm) ∧ wx.cell? ⟨w.heap.size, 4, none⟩ = some (.int .i64 o.m.to) ∧ wx.cell? ⟨w.heap.size, 5, none⟩ = some (.int .i64 o.m.term) ∧ wx.cell? ⟨w.heap.size, 6, none⟩ = some (.int .i64 o.m.a) ∧ wx.cell? ⟨w.heap.size, 7, none⟩ = some (.int .i64 o.m.b) ∧ wx.cell? ⟨w.heap.size, 8, none⟩ = some (.int .i64 o.m.c) ∧ wx.cell? ⟨w.heap.size, 9, none⟩ = some (.bool o.m.ok) ∧ wx.cell? ⟨w.heap.size, 10, none⟩ = some (.slice ea o.m.entries.length ec) ∧ wx.cell? ⟨w.heap.size, 11, none⟩ = some (.slice da o.m.data.length dc)) 8 [(true, 0), (true, 1), (true, 2), (true, 5), (true, 6), (true, 7), (false, 3), (false, 4)] (by kernel_rfl) (by as_aux_lemma => kernel_rfl) (by kernel_rfl) (fun _ _ _ _ _ h => h) ?_ (fun hS => ?_)
  (· go_simp)
  simp only [Plan.pick, List.append_eq, List.cons_append, List.nil_append, Plan.g1, Plan.g2, Option.getD_some, List.drop_succ_cons, List.drop_zero]
  iterate 6 (first | refine Plan.tA ?_ | refine Plan.tY ?_ | refine Plan.pN ?_ | refine Plan.pU ?_ | fail)
  refine Plan.step ?_
  go_wp2_with fail
  refine calls_fold (fun wx => Keeps [] w wx ∧ (wx.cell? ⟨w.heap.size, 2, none⟩ = some (.int .i64 o.m.kind) ∧ wx.cell? ⟨w.heap.size, 3, none⟩ = some (.int .i64 o.m.frm) ∧ wx.cell? ⟨w.heap.size, 4, none⟩ = some (.int .i64 o.m.to) ∧ wx.cell? ⟨w.heap.size, 5, none⟩ = some (.int .i64 o.m.term) ∧ wx.cell? ⟨w.heap.size, 6, none⟩ = some (.int .i64 o.m.a) ∧ wx.cell? ⟨w.heap.size, 7, none⟩ = some (.int .i64 o.m.b) ∧ wx.cell? ⟨w.heap.size, 8, none⟩ = some (.int .i64 o.m.c) ∧ wx.cell? ⟨w.heap.size, 9, none⟩ = some (.bool o.m.ok) ∧ wx.cell? ⟨w.heap.size, 10, none⟩ = some (.slice ea o.m.entries.length ec) ∧ wx.cell? ⟨w.heap.size, 11, none⟩ = some (.slice da o.m.data.length dc))) ⟨by exact Keeps.K, by go_simp⟩ ?_
  rintro w2 ⟨k2, b2⟩
  have B2 := hid b2
  have K2 := hid k2
  refine (HLM.out w2 k2).mono ?_
  rintro e w3 ⟨e1, e2, d1, d2, rfl, hle, hda, hk3⟩
  have D3 := hid (HD.out.beside (k2.trans hk3 (fun _ _ h => h)))
  have B3 : Hid (w3.cell? ⟨w.heap.size, 2, none⟩ = some (.int .i64 o.m.kind) ∧ w3.cell? ⟨w.heap.size, 3, none⟩ = some (.int .i64 o.m.frm) ∧ w3.cell? ⟨w.heap.size, 4, none⟩ = some (.int .i64 o.m.to) ∧ w3.cell? ⟨w.heap.size, 5, none⟩ = some (.int .i64 o.m.term) ∧ w3.cell? ⟨w.heap.size, 6, none⟩ = some (.int .i64 o.m.a) ∧ w3.cell? ⟨w.heap.size, 7, none⟩ = some (.int .i64 o.m.b) ∧ w3.cell? ⟨w.heap.size, 8, none⟩ = some (.int .i64 o.m.c) ∧ w3.cell? ⟨w.heap.size, 9, none⟩ = some (.bool o.m.ok) ∧ w3.cell? ⟨w.heap.size, 10, none⟩ = some (.slice ea o.m.entries.length ec) ∧ w3.cell? ⟨w.heap.size, 11, none⟩ = some (.slice da o.m.data.length dc)) := by
    obtain ⟨z0, z1, z2, z3, z4, z5, z6, z7, z8, z9⟩ := b2
    have kc : ∀ i v, w2.cell? ⟨w.heap.size, i, none⟩ = some v → w3.cell? ⟨w.heap.size, i, none⟩ = some v := fun i v h => hk3.cellSome h (by simp)
    exact ⟨kc _ _ z0, kc _ _ z1, kc _ _ z2, kc _ _ z3, kc _ _ z4, kc _ _ z5, kc _ _ z6, kc _ _ z7, kc _ _ z8, kc _ _ z9⟩
  have HOF : Hid (∀ b, w2.heap.size ≤ b → Off n lv b) := fun b hb => by
    have h1 := k2.size
    refine ⟨fun e => ?_, fun e => ?_⟩
    · have := (HD.out.core.lt n (by simp)).2; omega
    · have := (HD.out.core.lt b (List.mem_cons_of_mem _ e)).2; omega
  have L3 : Hid (ListAt entL w3 (Off n lv) (.slice e1 o.m.entries.length e2) o.m.entries) := hle.mono (fun b _ hb => HOF.out b hb)
  have A3 : Hid (BytesAt w3 (Off n lv) (.slice d1 o.m.data.length d2) o.m.data) := hda.mono (fun b _ hb => HOF.out b hb)
  have LL3 : Hid (ListAt entL w3 (fun b => b < w0.heap.size) (.slice ea o.m.entries.length ec) o.m.entries) := HLL2.out.k (k2.trans hk3 (fun _ _ h => h))
  have LA3 : Hid (BytesAt w3 (fun b => b < w0.heap.size) (.slice da o.m.data.length dc) o.m.data) := HDT2.out.k (k2.trans hk3 (fun _ _ h => h))
  clear hle hda hk3 k2 b2
  unfold msgV
  go_wp2_with fail
  refine ⟨B3.out, ?_⟩
  refine Plan.step ?_
  go_wp2_with fail
  refine (hear_any w3 w0.heap.size n c lv sv o.m e1 d1 e2 d2 D3.out.core L3.out A3.out HSM.out.1 HSM.out.2 HLL.out.1).mono ?_
  rintro e w4 ⟨a1, q1', lv2, sv2, rfl, hc4, hm4, hk4, hv4⟩
  have D4 : Hid (Duo2 w0 w4 n rn (hearD c o.m).1 r lv2 sv2 lv' sv' P) := D3.out.callC hc4 HBN.out hk4 hv4
  have L4 : Hid (ListAt entL w4 P (.slice ea o.m.entries.length ec) o.m.entries) := (LL3.out.keep hk4 (fun b hb hb' => by have := (HD.out.core.lt b hb').1; omega)).mono (fun b _ hb => D4.out.old b hb)
  have A4 : Hid (BytesAt w4 P (.slice da o.m.data.length dc) o.m.data) := (LA3.out.keep hk4 (fun b hb hb' => by have := (HD.out.core.lt b hb').1; omega)).mono (fun b _ hb => D4.out.old b hb)
  have M4 := hid hm4.list
  have HRN : Hid (rn < w3.heap.size) := D3.out.ref.blk.lt
  have B4 : Hid (w4.cell? ⟨w.heap.size, 2, none⟩ = some (.int .i64 o.m.kind) ∧ w4.cell? ⟨w.heap.size, 3, none⟩ = some (.int .i64 o.m.frm) ∧ w4.cell? ⟨w.heap.size, 4, none⟩ = some (.int .i64 o.m.to) ∧ w4.cell? ⟨w.heap.size, 5, none⟩ = some (.int .i64 o.m.term) ∧ w4.cell? ⟨w.heap.size, 6, none⟩ = some (.int .i64 o.m.a) ∧ w4.cell? ⟨w.heap.size, 7, none⟩ = some (.int .i64 o.m.b) ∧ w4.cell? ⟨w.heap.size, 8, none⟩ = some (.int .i64 o.m.c) ∧ w4.cell? ⟨w.heap.size, 9, none⟩ = some (.bool o.m.ok) ∧ w4.cell? ⟨w.heap.size, 10, none⟩ = some (.slice ea o.m.entries.length ec) ∧ w4.cell? ⟨w.heap.size, 11, none⟩ = some (.slice da o.m.data.length dc)) := by
    obtain ⟨z0, z1, z2, z3, z4, z5, z6, z7, z8, z9⟩ := B3.out
    have kc : ∀ i v, w3.cell? ⟨w.heap.size, i, none⟩ = some v → w4.cell? ⟨w.heap.size, i, none⟩ = some v := fun i v h => hk4.cellSome h (fun hb => by
      have := (HD.out.core.lt _ hb).2
      simp at this)
    exact ⟨kc _ _ z0, kc _ _ z1, kc _ _ z2, kc _ _ z3, kc _ _ z4, kc _ _ z5, kc _ _ z6, kc _ _ z7, kc _ _ z8, kc _ _ z9⟩
  clear hc4 hm4 hk4 hv4
  go_wp2_with fail
  refine ⟨B4.out, ?_⟩
  refine Plan.fin ?_
  go_wp2_with fail
  refine (rhear_any w4 w0.heap.size rn r P lv' sv' o.m ea da ec dc D4.out.ref D4.out.lt L4.out A4.out HSM.out.2 HSM.out.1 HLL.out.2).mono ?_
  unfold RCallPost
  rw [HTK.out.2]
  rintro e w5 ⟨a2, q2, lv3, sv3, rfl, hr5, hm5, hk5⟩
  have D5 := hid (D4.out.callR hr5 hk5)
  have M5 := hid hm5.list
  have M45 : Hid (ListAt msgL w5 (fun b => w3.heap.size ≤ b ∧ Off n lv2 b) (.slice a1 (hearD c o.m).2.length q1') (hearD c o.m).2) := M4.out.keep hk5 (fun b hb hb' => by simp at hb'; subst hb'; have := HRN.out; omega)
  clear hr5 hm5 hk5
  go_wp2_with fail
  refine (sameMsgs_any (hearD c o.m).2 _ _ a1 a2 q1' q2 w5 M45.out M5.out).mono ?_
  rintro e w6 ⟨rfl, hk6⟩
  have D6 := hid (D5.out.beside hk6)
  clear hk6
  go_wp2_with fail
  go_ret
  exact ⟨rfl, _, _, _, _, _, _, _, D6.out, HTK.out.1, HNX.out⟩

end Go.Proofs.Ytpppoajnbhipeaa
