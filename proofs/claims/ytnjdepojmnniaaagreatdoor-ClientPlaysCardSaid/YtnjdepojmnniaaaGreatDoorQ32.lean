/- Joined of ClD, ClE. -/
import Derived.Test.YtnjdepojmnniaaaGreatDoorQ31

set_option linter.unusedSimpArgs false
set_option linter.unusedVariables false

/- What the client asks, with a session. -/
namespace Go.Proofs.YtnjdepojmnniaaaGreatDoor
open Go Go.RowKit

set_option maxRecDepth 100000 in
set_option maxHeartbeats 8000000 in
theorem clAsk_some (w : World) (n : Nat) (Q : Nat → Prop) (c : CliD) (dv fv : Value) (h : CliAt w n Q c dv fv) (hr : 0 ≤ c.request ∧ c.request ≤ 1099511627776) (hse : c.session ≤ 1099511627776) (hsq : 0 ≤ c.seq ∧ c.seq ≤ 1099511627776) (hc : CmdW c.call) (hs : 0 < c.session) (hQ : ∀ b, w.heap.size ≤ b → Q b) :
    Calls Tryz.prog 23 #[.pointer (some ⟨n, 0, none⟩)] w fun e w' => ∃ v, e = .returned v ∧ CliPost n Q (cAskD c).1 (cAskD c).2 w v w' := by
  have H := hid h
  have HQ := hid hQ
  have HC := hid hc
  have x9 : w.cell? ⟨n, 9, none⟩ = some (.int .i64 c.id) := h.cell 9
  have x10 : w.cell? ⟨n, 10, none⟩ = some (.int .i64 c.node) := h.cell 10
  have x11 : w.cell? ⟨n, 11, none⟩ = some (.int .i64 c.session) := h.cell 11
  have x12 : w.cell? ⟨n, 12, none⟩ = some (.int .i64 c.seq) := h.cell 12
  have x13 : w.cell? ⟨n, 13, none⟩ = some (.int .i64 c.request) := h.cell 13
  have x15 : w.cell? ⟨n, 15, none⟩ = some (.int .i64 c.call.kind) := h.cell 15
  have x16 : w.cell? ⟨n, 16, none⟩ = some (.int .i64 c.call.session) := h.cell 16
  have x17 : w.cell? ⟨n, 17, none⟩ = some (.int .i64 c.call.seq) := h.cell 17
  have x18 : w.cell? ⟨n, 18, none⟩ = some (.string c.call.field) := h.cell 18
  have x19 : w.cell? ⟨n, 19, none⟩ = some (.int .i64 c.call.version) := h.cell 19
  have x20 : w.cell? ⟨n, 20, none⟩ = some (.int .i64 c.call.value.kind) := h.cell 20
  have x21 : w.cell? ⟨n, 21, none⟩ = some (.int .i64 c.call.value.n) := h.cell 21
  have x22 : w.cell? ⟨n, 22, none⟩ = some (.string c.call.value.s) := h.cell 22
  have x33 : w.cell? ⟨n, 33, none⟩ = some fv := h.cell 33
  have f0 : ∀ i, w.frozen? ⟨n, i, none⟩ = false := h.free
  have hlt := h.lt
  obtain ⟨hr0, hr1⟩ := hr
  obtain ⟨hq0, hq1⟩ := hsq
  have hw : IntKind.i64.wrap (c.request + 1) = c.request + 1 := by rw [IntKind.wrap_i64]; omega
  have hw2 : IntKind.i64.wrap (c.seq + 1) = c.seq + 1 := by rw [IntKind.wrap_i64]; omega
  have hmf : ∀ (fn : Fn) (first cap : Array Value) (w : World), (Instr.makeFunc fn first cap).run Tryz.prog w = .ok (.func fn first cap) w := fun _ _ _ _ => rfl
  have hv1 : fv.oneCell' = true := by
    rcases h.next with ⟨_, rfl⟩ | ⟨f, g, _, rfl, _⟩ <;> rfl
  clear h hQ hc
  go_enter Tryz.func23, Tryz.ntmps23
  go_wp2_with fail
  obtain ⟨wA, hwA⟩ : ∃ wA, (((w.setCell ⟨n, 33, none⟩ (.func (.func 37) #[] #[.pointer (some ⟨w.heap.size, 0, none⟩)])).setCell ⟨n, 12, none⟩ (.int .i64 (c.seq + 1))).alloc (.cells #[.pointer (some ⟨n, 0, none⟩)] 26)).alloc (.cells #[.int .i64 c.call.kind, .int .i64 c.call.session, .int .i64 c.call.seq, .string c.call.field, .int .i64 c.call.version, .int .i64 c.call.value.kind, .int .i64 c.call.value.n, .string c.call.value.s] 34) = wA := ⟨_, rfl⟩
  have hsz : ((w.setCell ⟨n, 33, none⟩ (.func (.func 37) #[] #[.pointer (some ⟨w.heap.size, 0, none⟩)])).setCell ⟨n, 12, none⟩ (.int .i64 (c.seq + 1))).heap.size = w.heap.size := by simp
  have K0 : Hid (Keeps [n] w wA) := by rw [← hwA]; exact Keeps.K
  have KW : Hid (Keeps [] ((w.setCell ⟨n, 33, none⟩ (.func (.func 37) #[] #[.pointer (some ⟨w.heap.size, 0, none⟩)])).setCell ⟨n, 12, none⟩ (.int .i64 (c.seq + 1))) wA) := by rw [← hwA]; exact Keeps.K
  have HG : Hid (wA.heap[w.heap.size]? = some (.cells #[.pointer (some ⟨n, 0, none⟩)] 26 (0, 0))) := by
    have e := heap_alloc_new ((w.setCell ⟨n, 33, none⟩ (.func (.func 37) #[] #[.pointer (some ⟨w.heap.size, 0, none⟩)])).setCell ⟨n, 12, none⟩ (.int .i64 (c.seq + 1))) (.cells #[.pointer (some ⟨n, 0, none⟩)] 26)
    rw [hsz] at e
    rw [← hwA]
    exact (Keeps.block (F := []) (w := ((w.setCell ⟨n, 33, none⟩ (.func (.func 37) #[] #[.pointer (some ⟨w.heap.size, 0, none⟩)])).setCell ⟨n, 12, none⟩ (.int .i64 (c.seq + 1))).alloc (.cells #[.pointer (some ⟨n, 0, none⟩)] 26)) (by exact Keeps.K) w.heap.size (by simp) (by simp)).trans e
  have HX : Hid (wA.heap[w.heap.size + 1]? = some (.cells #[.int .i64 c.call.kind, .int .i64 c.call.session, .int .i64 c.call.seq, .string c.call.field, .int .i64 c.call.version, .int .i64 c.call.value.kind, .int .i64 c.call.value.n, .string c.call.value.s] 34 (0, 0))) := by
    have e := new2nd ((w.setCell ⟨n, 33, none⟩ (.func (.func 37) #[] #[.pointer (some ⟨w.heap.size, 0, none⟩)])).setCell ⟨n, 12, none⟩ (.int .i64 (c.seq + 1))) (.cells #[.pointer (some ⟨n, 0, none⟩)] 26) (.cells #[.int .i64 c.call.kind, .int .i64 c.call.session, .int .i64 c.call.seq, .string c.call.field, .int .i64 c.call.version, .int .i64 c.call.value.kind, .int .i64 c.call.value.n, .string c.call.value.s] 34)
    rw [hsz] at e
    rw [← hwA]
    exact e
  have HA : Hid (CliAt wA n Q { c with seq := c.seq + 1, does := 1 } dv (.func (.func 37) #[] #[.pointer (some ⟨w.heap.size, 0, none⟩)])) :=
    ⟨(KW.out.block n (by rw [hsz]; exact hlt) (by simp)).trans (by have e := heap_setCell_same _ _ 12 _ _ (.int .i64 (c.seq + 1)) (heap_setCell_same _ _ 33 _ _ (.func (.func 37) #[] #[.pointer (some ⟨w.heap.size, 0, none⟩)]) H.out.row); unfold cliCells at e ⊢; simp only [List.setIfInBounds_toArray, List.set_cons_zero, List.set_cons_succ] at e; exact e),
      H.out.data.keep K0.out (fun b hb hm => by simp at hm; subst hm; exact H.out.off hb), H.out.ents, .inr ⟨37, w.heap.size, .inl ⟨rfl, rfl⟩, rfl, HG.out, HQ.out _ (Nat.le_refl _)⟩, H.out.off⟩
  have hzA : w.heap.size + 1 < wA.heap.size := (Array.getElem?_eq_some_iff.1 HX.out).1
  have hgn : w.heap.size ≠ n := by omega
  have hxn : w.heap.size + 1 ≠ n := by omega
  rw [hwA]
  clear hwA x9 x10 x11 x12 x13 x15 x16 x17 x18 x19 x20 x21 x22 x33 f0 hw2
  obtain ⟨⟨u0, u1, u2, u3, u4, u5, u6, u7⟩, fX⟩ := blk8 HX.out
  have g0 : wA.cell? ⟨w.heap.size, 0, none⟩ = some (.pointer (some ⟨n, 0, none⟩)) := cell_of_block HG.out 0
  have x11 : wA.cell? ⟨n, 11, none⟩ = some (.int .i64 c.session) := HA.out.cell 11
  have x12 : wA.cell? ⟨n, 12, none⟩ = some (.int .i64 (c.seq + 1)) := HA.out.cell 12
  have x13 : wA.cell? ⟨n, 13, none⟩ = some (.int .i64 c.request) := HA.out.cell 13
  have x33 : wA.cell? ⟨n, 33, none⟩ = some (.func (.func 37) #[] #[.pointer (some ⟨w.heap.size, 0, none⟩)]) := HA.out.cell 33
  have f0 : ∀ i, wA.frozen? ⟨n, i, none⟩ = false := HA.out.free
  refine Plan.wp_region_plan (fun wx => wx.cell? ⟨w.heap.size, 0, none⟩ = some (.pointer (some ⟨n, 0, none⟩)) ∧ wx.cell? ⟨n, 11, none⟩ = some (.int .i64 c.session) ∧ wx.cell? ⟨n, 12, none⟩ = some (.int .i64 (c.seq + 1))) 12 [(true, 0), (true, 1), (true, 2), (true, 3), (true, 4), (true, 5), (true, 6), (true, 7), (true, 8), (false, 9), (true, 10), (false, 11)] (by kernel_rfl) (by as_aux_lemma => kernel_rfl) (by kernel_rfl) (fun _ _ _ _ _ h => h) ?_ (fun hS => ?_)
  (· go_simp)
  simp only [Plan.pick, List.append_eq, List.cons_append, List.nil_append, Plan.g1, Plan.g2, Option.getD_some, List.drop_succ_cons, List.drop_zero]
  iterate 9 (first | refine Plan.tA ?_ | refine Plan.tY ?_ | refine Plan.pN ?_ | refine Plan.pU ?_ | fail)
  refine Plan.step ?_
  go_wp2_with fail
  refine ⟨?_, ?_⟩
  (· go_simp)
  iterate 1 (first | refine Plan.tA ?_ | refine Plan.tY ?_ | refine Plan.pN ?_ | refine Plan.pU ?_ | fail)
  refine Plan.step ?_
  go_wp2_with fail
  refine ⟨?_, ?_⟩
  (· go_simp)
  refine Plan.fin ?_
  go_wp2_with fail
  obtain ⟨wB, hwB⟩ : ∃ wB, ((((wA.setCell ⟨w.heap.size + 1, 1, none⟩ (.int .i64 c.session)).setCell ⟨w.heap.size + 1, 2, none⟩ (.int .i64 (c.seq + 1))).setCell ⟨n, 33, none⟩ (.func (.func 39) #[] #[.pointer (some ⟨w.heap.size, 0, none⟩)])).setCell ⟨n, 13, none⟩ (.int .i64 (c.request + 1))).drew = wB := ⟨_, rfl⟩
  have KAB : Hid (Keeps [n, w.heap.size + 1] wA wB) := by rw [← hwB]; exact Keeps.K
  have K1 : Hid (Keeps [n] w wB) := K0.out.trans KAB.out (fun b hb hm => by simp at hm; simp; omega)
  have HG2 : Hid (wB.heap[w.heap.size]? = some (.cells #[.pointer (some ⟨n, 0, none⟩)] 26 (0, 0))) := (KAB.out.block _ (Array.getElem?_eq_some_iff.1 HG.out).1 (by simp; omega)).trans HG.out
  have HX2 : Hid (wB.heap[w.heap.size + 1]? = some (.cells #[.int .i64 c.call.kind, .int .i64 c.session, .int .i64 (c.seq + 1), .string c.call.field, .int .i64 c.call.version, .int .i64 c.call.value.kind, .int .i64 c.call.value.n, .string c.call.value.s] 34 (0, 0))) := by
    have e := heap_setCell_same _ _ 2 _ _ (.int .i64 (c.seq + 1)) (heap_setCell_same _ _ 1 _ _ (.int .i64 c.session) HX.out)
    simp only [List.setIfInBounds_toArray, List.set_cons_zero, List.set_cons_succ] at e
    rw [← hwB]
    exact (Keeps.block (F := [n]) (w := (wA.setCell ⟨w.heap.size + 1, 1, none⟩ (.int .i64 c.session)).setCell ⟨w.heap.size + 1, 2, none⟩ (.int .i64 (c.seq + 1))) (by exact Keeps.K) (w.heap.size + 1) (by simp; omega) (by simp; omega)).trans e
  have HB : Hid (CliAt wB n Q { c with seq := c.seq + 1, request := c.request + 1, does := 2 } dv (.func (.func 39) #[] #[.pointer (some ⟨w.heap.size, 0, none⟩)])) := by
    have kx : Keeps [w.heap.size + 1] wA ((wA.setCell ⟨w.heap.size + 1, 1, none⟩ (.int .i64 c.session)).setCell ⟨w.heap.size + 1, 2, none⟩ (.int .i64 (c.seq + 1))) := by exact Keeps.K
    have e1 := (kx.block n (by omega) (by simp; omega)).trans HA.out.row
    have e2 := heap_setCell_same _ _ 13 _ _ (.int .i64 (c.request + 1)) (heap_setCell_same _ _ 33 _ _ (.func (.func 39) #[] #[.pointer (some ⟨w.heap.size, 0, none⟩)]) e1)
    refine ⟨?_, H.out.data.keep K1.out (fun b hb hm => by simp at hm; subst hm; exact H.out.off hb), H.out.ents, .inr ⟨39, w.heap.size, .inr ⟨rfl, rfl⟩, rfl, HG2.out, HQ.out _ (Nat.le_refl _)⟩, H.out.off⟩
    rw [← hwB]
    unfold cliCells at e2 ⊢
    simp only [List.setIfInBounds_toArray, List.set_cons_zero, List.set_cons_succ] at e2
    exact e2
  rw [hwB]
  clear hwB x11 x12 x13 x33 f0 hw u0 u1 u2 u3 u4 u5 u6 u7 fX g0 hS
  obtain ⟨⟨u0, u1, u2, u3, u4, u5, u6, u7⟩, -⟩ := blk8 HX2.out
  have g0 : wB.cell? ⟨w.heap.size, 0, none⟩ = some (.pointer (some ⟨n, 0, none⟩)) := cell_of_block HG2.out 0
  have x9 : wB.cell? ⟨n, 9, none⟩ = some (.int .i64 c.id) := HB.out.cell 9
  have x13 : wB.cell? ⟨n, 13, none⟩ = some (.int .i64 (c.request + 1)) := HB.out.cell 13
  have hwide : CmdW ⟨c.call.kind, c.session, c.seq + 1, c.call.field, c.call.version, c.call.value⟩ := ⟨HC.out.kind, (show I64 c.session from ⟨by omega, by omega⟩), (show I64 (c.seq + 1) from ⟨by omega, by omega⟩), HC.out.version, HC.out.vkind, HC.out.vn, HC.out.field, HC.out.vs⟩
  have HWI := hid hwide
  clear hwide
  refine Plan.wp_region_plan (fun wx => (wx.cell? ⟨w.heap.size + 1, 0, none⟩ = some (.int .i64 c.call.kind) ∧ wx.cell? ⟨w.heap.size + 1, 1, none⟩ = some (.int .i64 c.session) ∧ wx.cell? ⟨w.heap.size + 1, 2, none⟩ = some (.int .i64 (c.seq + 1)) ∧ wx.cell? ⟨w.heap.size + 1, 3, none⟩ = some (.string c.call.field) ∧ wx.cell? ⟨w.heap.size + 1, 4, none⟩ = some (.int .i64 c.call.version) ∧ wx.cell? ⟨w.heap.size + 1, 5, none⟩ = some (.int .i64 c.call.value.kind) ∧ wx.cell? ⟨w.heap.size + 1, 6, none⟩ = some (.int .i64 c.call.value.n) ∧ wx.cell? ⟨w.heap.size + 1, 7, none⟩ = some (.string c.call.value.s)) ∧ wx.cell? ⟨w.heap.size, 0, none⟩ = some (.pointer (some ⟨n, 0, none⟩)) ∧ wx.cell? ⟨n, 9, none⟩ = some (.int .i64 c.id) ∧ wx.cell? ⟨n, 13, none⟩ = some (.int .i64 (c.request + 1))) 12 [(true, 0), (true, 1), (true, 2), (true, 3), (true, 4), (true, 5), (true, 6), (true, 7), (true, 8), (true, 9), (false, 10), (true, 11)] (by kernel_rfl) (by as_aux_lemma => kernel_rfl) (by kernel_rfl) (fun _ _ _ _ _ h => h) ?_ (fun hS => ?_)
  (· go_simp)
  simp only [Plan.pick, List.append_eq, List.cons_append, List.nil_append, Plan.g1, Plan.g2, Option.getD_some, List.drop_succ_cons, List.drop_zero]
  iterate 10 (first | refine Plan.tA ?_ | refine Plan.tY ?_ | refine Plan.pN ?_ | refine Plan.pU ?_ | fail)
  refine Plan.step ?_
  go_wp2_with fail
  refine (cmPut_any ⟨c.call.kind, c.session, c.seq + 1, c.call.field, c.call.version, c.call.value⟩ HWI.out _).mono ?_
  rintro e w4 ⟨a4, q4, rfl, h4, hk⟩
  rw [List.nil_append] at h4 ⊢
  have hcL : (putC ⟨c.call.kind, c.session, c.seq + 1, c.call.field, c.call.version, c.call.value⟩).length ≤ 3000000 := by have := putC_len _ HWI.out; omega
  obtain ⟨DL, hDL⟩ : ∃ DL, putC ⟨c.call.kind, c.session, c.seq + 1, c.call.field, c.call.version, c.call.value⟩ = DL := ⟨_, rfl⟩
  have HDL := hid hDL
  rw [hDL] at h4 hcL ⊢
  have kB4 : Keeps [] wB w4 := Keeps.trans (by exact Keeps.K) hk (fun _ _ h => h)
  have K4 : Hid (Keeps [n] w w4) := K1.out.trans kB4 (fun _ _ h => by cases h)
  have H4 : Hid (CliAt w4 n Q { c with seq := c.seq + 1, request := c.request + 1, does := 2 } dv (.func (.func 39) #[] #[.pointer (some ⟨w.heap.size, 0, none⟩)])) := HB.out.k kB4
  have D4 : Hid (BytesAt w4 Q (.slice a4 DL.length q4) DL) := BytesAt.ofOwn h4 rfl (fun b h1 _ => HQ.out b (by have := K1.out.size; simp at h1; omega))
  have hg4 := (kB4.block _ (Array.getElem?_eq_some_iff.1 HG2.out).1 (by simp)).trans HG2.out
  have hx4 := (kB4.block _ (Array.getElem?_eq_some_iff.1 HX2.out).1 (by simp)).trans HX2.out
  clear hk h4 hDL kB4 hS u0 u1 u2 u3 u4 u5 u6 u7 g0 x9 x13
  obtain ⟨⟨u0, u1, u2, u3, u4, u5, u6, u7⟩, -⟩ := blk8 hx4
  have g0 : w4.cell? ⟨w.heap.size, 0, none⟩ = some (.pointer (some ⟨n, 0, none⟩)) := cell_of_block hg4 0
  clear hx4 hg4
  have x9 : w4.cell? ⟨n, 9, none⟩ = some (.int .i64 c.id) := H4.out.cell 9
  have x10 : w4.cell? ⟨n, 10, none⟩ = some (.int .i64 c.node) := H4.out.cell 10
  have x13 : w4.cell? ⟨n, 13, none⟩ = some (.int .i64 (c.request + 1)) := H4.out.cell 13
  have x23 : w4.cell? ⟨n, 23, none⟩ = some (.int .i64 c.last.kind) := H4.out.cell 23
  have x24 : w4.cell? ⟨n, 24, none⟩ = some (.int .i64 c.last.frm) := H4.out.cell 24
  have x25 : w4.cell? ⟨n, 25, none⟩ = some (.int .i64 c.last.«to») := H4.out.cell 25
  have x26 : w4.cell? ⟨n, 26, none⟩ = some (.int .i64 c.last.term) := H4.out.cell 26
  have x27 : w4.cell? ⟨n, 27, none⟩ = some (.int .i64 c.last.a) := H4.out.cell 27
  have x28 : w4.cell? ⟨n, 28, none⟩ = some (.int .i64 c.last.b) := H4.out.cell 28
  have x29 : w4.cell? ⟨n, 29, none⟩ = some (.int .i64 c.last.c) := H4.out.cell 29
  have x30 : w4.cell? ⟨n, 30, none⟩ = some (.bool c.last.ok) := H4.out.cell 30
  have x31 : w4.cell? ⟨n, 31, none⟩ = some (.slice none 0 0) := H4.out.cell 31
  have x32 : w4.cell? ⟨n, 32, none⟩ = some (dv) := H4.out.cell 32
  have f0 : ∀ i, w4.frozen? ⟨n, i, none⟩ = false := H4.out.free
  go_wp2_with fail
  refine ⟨?_, ?_⟩
  (· go_simp)
  iterate 1 (first | refine Plan.tA ?_ | refine Plan.tY ?_ | refine Plan.pN ?_ | refine Plan.pU ?_ | fail)
  refine Plan.fin ?_
  have hdv : dv.oneCell' = true := by obtain ⟨x, y, rfl⟩ := H4.out.data.form; rfl
  go_wp2_with fail
  obtain ⟨h5, k5⟩ := H4.out.last ⟨6, c.id, 0, 0, 0, 0, c.request + 1, false, [], DL⟩ (.slice a4 DL.length q4) rfl D4.out
  have hA : { c with seq := c.seq + 1, request := c.request + 1, does := 2, last := ⟨6, c.id, 0, 0, 0, 0, c.request + 1, false, [], DL⟩ } = cAskedC c := by
    have hs' : 0 < c.session := by omega
    unfold cAskedC cAskC
    rw [if_pos hs', if_pos hs', if_pos hs', HDL.out]
  have hAL : (cAskedC c).last.data.length ≤ 3000000 := by rw [← hA]; exact hcL
  rw [hA] at h5
  have H5 := hid h5
  have K5 : Hid (Keeps [n] w _) := K4.out.trans k5 (fun _ _ h => h)
  clear h5 k5
  refine Plan.wp_region_plan (fun wx => wx.cell? ⟨w.heap.size, 0, none⟩ = some (.pointer (some ⟨n, 0, none⟩)) ∧ wx.cell? ⟨n, 10, none⟩ = some (.int .i64 c.node)) 5 [(true, 0), (true, 1), (true, 2), (true, 3), (true, 4)] (by kernel_rfl) (by as_aux_lemma => kernel_rfl) (by kernel_rfl) (fun _ _ _ _ _ h => h) ?_ (fun hS => ?_)
  (· go_simp)
  simp only [Plan.pick, List.append_eq, List.cons_append, List.nil_append, Plan.g1, Plan.g2, Option.getD_some, List.drop_succ_cons, List.drop_zero]
  iterate 5 (first | refine Plan.tA ?_ | refine Plan.tY ?_ | refine Plan.pN ?_ | refine Plan.pU ?_ | fail)
  refine Plan.fin ?_
  go_wp2_with fail
  refine (clAgain_any _ n Q _ _ _ c.node (H5.out.k (by exact Keeps.K)) hAL).mono ?_
  rintro e w6 ⟨v, rfl, a6, q6, dv6, fv6, rfl, h6, h7, h8⟩
  have HP : Hid (CliPost n Q (cAskD c).1 (cAskD c).2 w (.slice a6 (cAskD c).2.length q6) w6) := CliPost.from ⟨a6, q6, dv6, fv6, rfl, h6, h7, h8⟩ (K5.out.trans (G := []) (by exact Keeps.K) (fun _ _ h => by cases h))
  clear h6 h7 h8
  go_wp2_with fail
  go_ret
  exact ⟨_, rfl, HP.out⟩

end Go.Proofs.YtnjdepojmnniaaaGreatDoor

/- What an answer does; Call, Tick of the client. -/
namespace Go.Proofs.YtnjdepojmnniaaaGreatDoor
open Go Go.RowKit

structure AskOk (c : CliD) : Prop where
  request : 0 ≤ c.request ∧ c.request ≤ 1099511627776
  session : c.session ≤ 1099511627776
  seq : 0 ≤ c.seq ∧ c.seq ≤ 1099511627776
  call : CmdW c.call

theorem clAsk_any (w : World) (n : Nat) (Q : Nat → Prop) (c : CliD) (dv fv : Value) (h : CliAt w n Q c dv fv) (ha : AskOk c) (hQ : ∀ b, w.heap.size ≤ b → Q b) :
    Calls Tryz.prog 23 #[.pointer (some ⟨n, 0, none⟩)] w fun e w' => ∃ v, e = .returned v ∧ CliPost n Q (cAskD c).1 (cAskD c).2 w v w' := by
  by_cases hs : 0 < c.session
  · exact clAsk_some w n Q c dv fv h ha.request ha.session ha.seq ha.call hs hQ
  · exact clAsk_none w n Q c dv fv h ha.request hs hQ

def ToldPost (n : Nat) (Q : Nat → Prop) (r : CliD × List MsgD × Bool) (w : World) (e : Ending) (w' : World) : Prop :=
  ∃ v, e = .returned (.tuple #[v, .bool r.2.2]) ∧ CliPost n Q r.1 r.2.1 w v w'

set_option maxRecDepth 100000 in
set_option maxHeartbeats 8000000 in
theorem clOpened_any (w : World) (n : Nat) (Q : Nat → Prop) (c : CliD) (dv fv : Value) (r : ReplyD) (h : CliAt w n Q c dv fv) (ha : 0 ≤ c.request ∧ c.request ≤ 1099511627776) (hc : CmdW c.call) (hn : r.n ≤ 1099511627776) (hQ : ∀ b, w.heap.size ≤ b → Q b) :
    Calls Tryz.prog 38 #[.pointer (some ⟨n, 0, none⟩), replyV r] w (ToldPost n Q (openedD c r) w) := by
  obtain ⟨er, nn, rk, rn, rs⟩ := r
  have H := hid h
  have HQ := hid hQ
  have HA := hid ha
  have HC := hid hc
  have x11 : w.cell? ⟨n, 11, none⟩ = some (.int .i64 c.session) := h.cell 11
  have x12 : w.cell? ⟨n, 12, none⟩ = some (.int .i64 c.seq) := h.cell 12
  have f0 : ∀ i, w.frozen? ⟨n, i, none⟩ = false := h.free
  have hlt := h.lt
  unfold replyV
  dsimp only at hn ⊢
  clear h hQ ha hc
  by_cases hb : er ≠ 0 ∨ nn < 1
  · have HO : Hid (openedD c ⟨er, nn, rk, rn, rs⟩ = (c, [], false)) := if_pos hb
    have hb' : (er != 0) = true ∨ ((er != 0) = false ∧ nn < 1) := by
      rcases hb with h | h
      · exact .inl (by simpa using h)
      · by_cases h0 : er = 0
        · exact .inr ⟨by simpa using h0, h⟩
        · exact .inl (by simpa using h0)
    clear hb hn
    rcases hb' with h1 | ⟨h1, h2⟩
    all_goals
      go_enter Tryz.func38, Tryz.ntmps38
      go_wp2_with fail
      refine bodyPost_ret (v := .tuple #[.slice none 0 0, .bool false]) (by simp [results, Tryz.results38, go_sem]) rfl ?_
      rw [HO.out]
      refine ⟨.slice none 0 0, rfl, ?_⟩
      exact CliPost.silent (H.out.k (by exact Keeps.K)) ((Keeps.refl _ _).trans (G := []) (by exact Keeps.K) (fun _ _ h => by cases h))
  · have hb1 : er = 0 := by omega
    have hb2 : ¬ nn < 1 := by omega
    have HO : Hid (openedD c ⟨er, nn, rk, rn, rs⟩ = ((cAskD { c with session := nn, seq := 0 }).1, (cAskD { c with session := nn, seq := 0 }).2, false)) := if_neg hb
    clear hb
    subst hb1
    go_enter Tryz.func38, Tryz.ntmps38
    go_wp2_with fail
    have k1 : Keeps [n] w ((w.setCell ⟨n, 11, none⟩ (.int .i64 nn)).setCell ⟨n, 12, none⟩ (.int .i64 0)) := by exact Keeps.K
    have h1 : CliAt ((w.setCell ⟨n, 11, none⟩ (.int .i64 nn)).setCell ⟨n, 12, none⟩ (.int .i64 0)) n Q { c with session := nn, seq := 0 } dv fv := by
      refine H.out.set k1 ?_ rfl H.out.ents rfl
      have e := heap_setCell_same _ _ 12 _ _ (.int .i64 0) (heap_setCell_same _ _ 11 _ _ (.int .i64 nn) H.out.row)
      unfold cliCells at e ⊢
      simp only [List.setIfInBounds_toArray, List.set_cons_zero, List.set_cons_succ] at e
      exact e
    refine (clAsk_any _ n Q _ dv fv (h1.k (by exact Keeps.K)) ⟨HA.out, hn, ⟨by show (0 : Int) ≤ 0; decide, by show (0 : Int) ≤ _; decide⟩, HC.out⟩ (fun b hb => HQ.out b (by simp at hb; omega))).mono ?_
    rintro e w6 ⟨v, rfl, a6, q6, dv6, fv6, rfl, h6, h7, h8⟩
    have HP : Hid (CliPost n Q (cAskD { c with session := nn, seq := 0 }).1 (cAskD { c with session := nn, seq := 0 }).2 w (.slice a6 (cAskD { c with session := nn, seq := 0 }).2.length q6) w6) := CliPost.from ⟨a6, q6, dv6, fv6, rfl, h6, h7, h8⟩ (k1.trans (G := []) (by exact Keeps.K) (fun _ _ h => by cases h))
    clear h6 h7 h8 k1 h1
    go_wp2_with fail
    refine bodyPost_ret (v := .tuple #[.slice a6 (cAskD { c with session := nn, seq := 0 }).2.length q6, .bool false]) (by simp [results, Tryz.results38, go_sem]) rfl ?_
    rw [HO.out]
    exact ⟨_, rfl, HP.out⟩

set_option maxRecDepth 100000 in
set_option maxHeartbeats 8000000 in
theorem clOver_any (w : World) (n : Nat) (Q : Nat → Prop) (c : CliD) (dv fv : Value) (r : ReplyD) (h : CliAt w n Q c dv fv) :
    Calls Tryz.prog 40 #[.pointer (some ⟨n, 0, none⟩), replyV r] w (ToldPost n Q (overD c r) w) := by
  obtain ⟨er, nn, rk, rn, rs⟩ := r
  have H := hid h
  have x11 : w.cell? ⟨n, 11, none⟩ = some (.int .i64 c.session) := h.cell 11
  have x33 : w.cell? ⟨n, 33, none⟩ = some fv := h.cell 33
  have x34 : w.cell? ⟨n, 34, none⟩ = some (.int .i64 c.reply.err) := h.cell 34
  have x35 : w.cell? ⟨n, 35, none⟩ = some (.int .i64 c.reply.n) := h.cell 35
  have x36 : w.cell? ⟨n, 36, none⟩ = some (.int .i64 c.reply.value.kind) := h.cell 36
  have x37 : w.cell? ⟨n, 37, none⟩ = some (.int .i64 c.reply.value.n) := h.cell 37
  have x38 : w.cell? ⟨n, 38, none⟩ = some (.string c.reply.value.s) := h.cell 38
  have f0 : ∀ i, w.frozen? ⟨n, i, none⟩ = false := h.free
  have hlt := h.lt
  have hv1 : fv.oneCell' = true := by
    rcases h.next with ⟨_, rfl⟩ | ⟨f, g, _, rfl, _⟩ <;> rfl
  unfold replyV
  dsimp only
  clear h
  by_cases hb : er = 16
  · subst hb
    go_enter Tryz.func40, Tryz.ntmps40
    go_wp2_with fail
    refine bodyPost_ret (v := .tuple #[.slice none 0 0, .bool true]) (by simp [results, Tryz.results40, go_sem]) rfl ?_
    have k1 : Keeps [n] w (((((((w.setCell ⟨n, 34, none⟩ (.int .i64 16)).setCell ⟨n, 35, none⟩ (.int .i64 nn)).setCell ⟨n, 36, none⟩ (.int .i64 rk)).setCell ⟨n, 37, none⟩ (.int .i64 rn)).setCell ⟨n, 38, none⟩ (.string rs)).setCell ⟨n, 33, none⟩ (.nilFunc)).setCell ⟨n, 11, none⟩ (.int .i64 0)) := by exact Keeps.K
    have HO : overD c ⟨16, nn, rk, rn, rs⟩ = ({ c with reply := ⟨16, nn, rk, rn, rs⟩, does := 0, session := 0 }, [], true) := by
      unfold overD
      simp
    rw [HO]
    refine ⟨_, rfl, CliPost.silent (CliAt.k (w := (((((((w.setCell ⟨n, 34, none⟩ (.int .i64 16)).setCell ⟨n, 35, none⟩ (.int .i64 nn)).setCell ⟨n, 36, none⟩ (.int .i64 rk)).setCell ⟨n, 37, none⟩ (.int .i64 rn)).setCell ⟨n, 38, none⟩ (.string rs)).setCell ⟨n, 33, none⟩ (.nilFunc)).setCell ⟨n, 11, none⟩ (.int .i64 0))) ⟨?_, H.out.data.keep k1 (fun b hb hm => by simp at hm; subst hm; exact H.out.off hb), H.out.ents, .inl ⟨rfl, rfl⟩, H.out.off⟩ (by exact Keeps.K)) (k1.trans (G := []) (by exact Keeps.K) (fun _ _ h => by cases h))⟩
    have e := (heap_setCell_same _ _ 11 _ _ (.int .i64 0) (heap_setCell_same _ _ 33 _ _ (.nilFunc) (heap_setCell_same _ _ 38 _ _ (.string rs) (heap_setCell_same _ _ 37 _ _ (.int .i64 rn) (heap_setCell_same _ _ 36 _ _ (.int .i64 rk) (heap_setCell_same _ _ 35 _ _ (.int .i64 nn) (heap_setCell_same _ _ 34 _ _ (.int .i64 16) H.out.row)))))))
    unfold cliCells at e ⊢
    simp only [List.setIfInBounds_toArray, List.set_cons_zero, List.set_cons_succ] at e
    exact e
  · have hb1 : (er == 16) = false := by simpa using hb
    go_enter Tryz.func40, Tryz.ntmps40
    go_wp2_with fail
    refine bodyPost_ret (v := .tuple #[.slice none 0 0, .bool true]) (by simp [results, Tryz.results40, go_sem]) rfl ?_
    have k1 : Keeps [n] w ((((((w.setCell ⟨n, 34, none⟩ (.int .i64 er)).setCell ⟨n, 35, none⟩ (.int .i64 nn)).setCell ⟨n, 36, none⟩ (.int .i64 rk)).setCell ⟨n, 37, none⟩ (.int .i64 rn)).setCell ⟨n, 38, none⟩ (.string rs)).setCell ⟨n, 33, none⟩ (.nilFunc)) := by exact Keeps.K
    have HO : overD c ⟨er, nn, rk, rn, rs⟩ = ({ c with reply := ⟨er, nn, rk, rn, rs⟩, does := 0, session := c.session }, [], true) := by
      unfold overD
      simp [hb]
    rw [HO]
    refine ⟨_, rfl, CliPost.silent (CliAt.k (w := ((((((w.setCell ⟨n, 34, none⟩ (.int .i64 er)).setCell ⟨n, 35, none⟩ (.int .i64 nn)).setCell ⟨n, 36, none⟩ (.int .i64 rk)).setCell ⟨n, 37, none⟩ (.int .i64 rn)).setCell ⟨n, 38, none⟩ (.string rs)).setCell ⟨n, 33, none⟩ (.nilFunc))) ⟨?_, H.out.data.keep k1 (fun b hb hm => by simp at hm; subst hm; exact H.out.off hb), H.out.ents, .inl ⟨rfl, rfl⟩, H.out.off⟩ (by exact Keeps.K)) (k1.trans (G := []) (by exact Keeps.K) (fun _ _ h => by cases h))⟩
    have e := (heap_setCell_same _ _ 33 _ _ (.nilFunc) (heap_setCell_same _ _ 38 _ _ (.string rs) (heap_setCell_same _ _ 37 _ _ (.int .i64 rn) (heap_setCell_same _ _ 36 _ _ (.int .i64 rk) (heap_setCell_same _ _ 35 _ _ (.int .i64 nn) (heap_setCell_same _ _ 34 _ _ (.int .i64 er) H.out.row))))))
    unfold cliCells at e ⊢
    simp only [List.setIfInBounds_toArray, List.set_cons_zero, List.set_cons_succ] at e
    exact e

end Go.Proofs.YtnjdepojmnniaaaGreatDoor
