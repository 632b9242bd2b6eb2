/- Joined of RefB, SendB, RefC. -/
import Derived.Test.YtpppoajnbhipeaaQ07
import Derived.Test.YtpppoajnbhipeaaSendA

/- The document's core: send, all. -/
namespace Go.Proofs.Ytpppoajnbhipeaa
open Go Go.RowKit

/-- What it may read, and what came since. -/
def Gr (P : Nat → Prop) (w w' : World) (b : Nat) : Prop := P b ∨ (w.heap.size ≤ b ∧ b < w'.heap.size)
theorem Gr.lt {P : Nat → Prop} {w w' : World} (hP : ∀ b, P b → b < w.heap.size) (hz : w.heap.size ≤ w'.heap.size) (b : Nat) (h : Gr P w w' b) : b < w'.heap.size := by
  rcases h with h | h
  · exact Nat.lt_of_lt_of_le (hP b h) hz
  · exact h.2
theorem Gr.trans {P : Nat → Prop} {w w1 w' : World} (h1 : w.heap.size ≤ w1.heap.size) (h2 : w1.heap.size ≤ w'.heap.size) {b : Nat} (h : Gr (Gr P w w1) w1 w' b) : Gr P w w' b := by
  rcases h with (h | h) | h
  · exact .inl h
  · exact .inr ⟨h.1, by omega⟩
  · exact .inr ⟨by omega, h.2⟩
theorem Gr.late {P : Nat → Prop} {w w1 w' : World} (h1 : w.heap.size ≤ w1.heap.size) {b : Nat} (h : Gr P w1 w' b) : Gr P w w' b := by
  rcases h with h | h
  · exact .inl h
  · exact .inr ⟨by omega, h.2⟩
theorem Gr.old {P : Nat → Prop} {w w1 w' : World} (h2 : w1.heap.size ≤ w'.heap.size) {b : Nat} (h : Gr P w w1 b) : Gr P w w' b := by
  rcases h with h | h
  · exact .inl h
  · exact .inr ⟨h.1, by omega⟩

def RSendPost (m : MsgD) (P : Nat → Prop) (w : World) (e : Ending) (w' : World) : Prop :=
  ∃ ea ec da dc, e = .returned (msgV m (.slice ea m.entries.length ec) (.slice da m.data.length dc)) ∧ ListAt entL w' (Gr P w w') (.slice ea m.entries.length ec) m.entries ∧ BytesAt w' (Gr P w w') (.slice da m.data.length dc) m.data ∧ Keeps [] w w'

theorem rnext_cell {w : World} {n : Nat} {c : CoreD} {lv sv : Value} (h : RefBlk w n c lv sv) (hv : c.votes.length = 8) (hn : c.next.length = 8) (i : Nat) (hi : i < 8) : w.cell? ⟨n, 29 + i, none⟩ = some (.int .i64 (c.next.getD i 0)) := by
  rw [h.cell, show 29 + i = 21 + (8 + i) by omega, rget21, rtail_next_get c i hi hv hn]
theorem rmatc_cell {w : World} {n : Nat} {c : CoreD} {lv sv : Value} (h : RefBlk w n c lv sv) (hv : c.votes.length = 8) (hn : c.next.length = 8) (hm : c.matc.length = 8) (i : Nat) (hi : i < 8) : w.cell? ⟨n, 37 + i, none⟩ = some (.int .i64 (c.matc.getD i 0)) := by
  rw [h.cell, show 37 + i = 21 + (16 + i) by omega, rget21, rtail_matc_get c i hi hv hn hm]

set_option maxRecDepth 100000 in
set_option maxHeartbeats 3200000 in
theorem rsend_snap (w : World) (B n : Nat) (c : CoreD) (P : Nat → Prop) (lv sv : Value) (to : Int) (h : RefAt w B n c P lv sv) (ht : 0 ≤ to ∧ to < 8) (hs : c.next.getD to.toNat 0 ≤ c.base) :
    Calls Try.prog 88 #[.pointer (some ⟨n, 0, none⟩), .int .i64 to] w (RSendPost (sendD c to) P w) := by
  obtain ⟨nx, hnx⟩ : ∃ nx, c.next.getD to.toNat 0 = nx := ⟨_, rfl⟩
  have hcell := rnext_cell h.blk h.ok.votes h.ok.next to.toNat (by omega)
  rw [sendD_snap hs]
  rw [hnx] at hs hcell
  obtain ⟨sa, sc, hsv⟩ := h.snap.form
  subst hsv
  have h9 : w.cell? ⟨n, 9, none⟩ = some (.int .i64 c.id) := h.blk.cell 9
  have h10 : w.cell? ⟨n, 10, none⟩ = some (.int .i64 c.term) := h.blk.cell 10
  have h15 : w.cell? ⟨n, 15, none⟩ = some (.int .i64 c.base) := h.blk.cell 15
  have h16 : w.cell? ⟨n, 16, none⟩ = some (.int .i64 c.baseTerm) := h.blk.cell 16
  have h17 : w.cell? ⟨n, 17, none⟩ = some (.slice sa c.snap.length sc) := h.blk.cell 17
  have hlt := h.blk.lt
  have H := hid h
  obtain ⟨t0, t8⟩ := ht
  have ht8 : to.toNat < 8 := by omega
  clear h hnx
  go_enter Try.func88, Try.ntmps88
  go_wp2_with fail
  refine Plan.wp_region_plan (fun wx => wx.cell? ⟨n, 29 + to.toNat, none⟩ = some (.int .i64 nx) ∧ wx.cell? ⟨n, 15, none⟩ = some (.int .i64 c.base)) 11 [(true, 0), (true, 1), (true, 2), (true, 3), (true, 4), (true, 5), (true, 6), (true, 7), (true, 8), (true, 9), (true, 10)] (by kernel_rfl) (by as_aux_lemma => kernel_rfl) (by kernel_rfl) (fun _ _ _ _ _ h => h) ?_ (fun hS => ?_)
  (· go_simp)
  simp only [Plan.pick, List.getElem?_cons_zero, List.getElem?_cons_succ, Option.getD_some, List.drop_succ_cons, List.drop_zero]
  iterate 11 (first | refine Plan.tA ?_ | refine Plan.tY ?_ | refine Plan.pN ?_ | refine Plan.pU ?_ | fail)
  refine Plan.fin ?_
  go_wp2_with fail
  refine (rmsg_any _ n c.id c.term _ _ ?_ ?_ ?_).mono ?_
  (· go_simp)
  (· go_simp)
  (· simp; omega)
  rintro e w2 ⟨rfl, hk⟩
  have HZ2 : Hid (w2.heap[w.heap.size]? = some (.cells #[.int .i64 0, .int .i64 0, .int .i64 0, .int .i64 0, .int .i64 0, .int .i64 0, .int .i64 0, .bool false, .slice none 0 0, .slice none 0 0] 40 (0, 0))) := (hk.block w.heap.size (by simp) (by simp)).trans (heap_alloc_new w _)
  have HK : Hid (Keeps [] w w2) := Keeps.trans (by exact Keeps.K) hk (fun _ _ h => h)
  have x15 := HK.out.cellSome h15 (by simp)
  have x16 := HK.out.cellSome h16 (by simp)
  have x17 := HK.out.cellSome h17 (by simp)
  have hz2 : w.heap.size < w2.heap.size := (Array.getElem?_eq_some_iff.1 HZ2.out).1
  have hn2 : n < w2.heap.size := by omega
  obtain ⟨⟨c0, c1, c2, c3, c4, c5, c6, c7, c8, c9⟩, f3⟩ := blk10 HZ2.out
  clear hk h9 h10 h15 h16 h17 hcell
  go_wp2_with fail
  have HZ4 := heap10 (y0 := .int .i64 5) (y1 := .int .i64 c.id) (y2 := .int .i64 to) (y3 := .int .i64 c.term) (y4 := .int .i64 c.base) (y5 := .int .i64 c.baseTerm) (y6 := .int .i64 0) (y7 := .bool false) (y8 := .slice none 0 0) (y9 := .slice sa c.snap.length sc) HZ2.out
  have k4 : Keeps [w.heap.size] w2 ((((((((((w2.setCell ⟨w.heap.size, 0, none⟩ (.int .i64 5)).setCell ⟨w.heap.size, 1, none⟩ (.int .i64 c.id)).setCell ⟨w.heap.size, 2, none⟩ (.int .i64 to)).setCell ⟨w.heap.size, 3, none⟩ (.int .i64 c.term)).setCell ⟨w.heap.size, 4, none⟩ (.int .i64 c.base)).setCell ⟨w.heap.size, 5, none⟩ (.int .i64 c.baseTerm)).setCell ⟨w.heap.size, 6, none⟩ (.int .i64 0)).setCell ⟨w.heap.size, 7, none⟩ (.bool false)).setCell ⟨w.heap.size, 8, none⟩ (.slice none 0 0)).setCell ⟨w.heap.size, 9, none⟩ (.slice sa c.snap.length sc)) := by exact Keeps.K
  have ka := (Keeps.refl [] _).alloc (w' := ((((((((((w2.setCell ⟨w.heap.size, 0, none⟩ (.int .i64 5)).setCell ⟨w.heap.size, 1, none⟩ (.int .i64 c.id)).setCell ⟨w.heap.size, 2, none⟩ (.int .i64 to)).setCell ⟨w.heap.size, 3, none⟩ (.int .i64 c.term)).setCell ⟨w.heap.size, 4, none⟩ (.int .i64 c.base)).setCell ⟨w.heap.size, 5, none⟩ (.int .i64 c.baseTerm)).setCell ⟨w.heap.size, 6, none⟩ (.int .i64 0)).setCell ⟨w.heap.size, 7, none⟩ (.bool false)).setCell ⟨w.heap.size, 8, none⟩ (.slice none 0 0)).setCell ⟨w.heap.size, 9, none⟩ (.slice sa c.snap.length sc))) (.cells #[.int .i64 5, .int .i64 c.id, .int .i64 to, .int .i64 c.term, .int .i64 c.base, .int .i64 c.baseTerm, .int .i64 0, .bool false, .slice none 0 0, .slice sa c.snap.length sc] 40)
  have HZ5 := (ka.block w.heap.size (Array.getElem?_eq_some_iff.1 HZ4).1 (by simp)).trans HZ4
  have kk := (HK.out.trans k4 (fun b hb hb' => by simp at hb'; omega)).trans ka (fun _ _ h => h)
  refine bodyPost_ret (v := .agg #[.int .i64 5, .int .i64 c.id, .int .i64 to, .int .i64 c.term, .int .i64 c.base, .int .i64 c.baseTerm, .int .i64 0, .bool false, .slice none 0 0, .slice sa c.snap.length sc]) (results_cell_row rfl _ _ w.heap.size 40 _ (0, 0) _ rfl HZ5 Try.underlying40 rfl (by kernel_rfl)) rfl ⟨none, 0, sa, sc, rfl, ListAt.nil _ _ _ _, ?_, ?_⟩
  · exact (H.out.snap.k kk).mono (fun b _ hb => .inl hb)
  · exact kk

set_option maxRecDepth 100000 in
set_option maxHeartbeats 1600000 in
theorem rFrom_nil (w : World) (B n : Nat) (c : CoreD) (P : Nat → Prop) (lv sv : Value) (h : RefAt w B n c P lv sv) (i : Int) (hi : c.base < i) (hgt : lastD c < i) : Calls Try.prog 49 #[.pointer (some ⟨n, 0, none⟩), .int .i64 i] w fun e w' => e = .returned (.slice none 0 0) ∧ Keeps [] w w' := by
  have h1 : w.cell? ⟨n, 15, none⟩ = some (.int .i64 c.base) := h.blk.cell 15
  have HL : Hid (Calls Try.prog 48 #[.pointer (some ⟨n, 0, none⟩)] w fun e w' => e = .returned (.int .i64 (lastD c)) ∧ ∃ k, w' = w.drewN k) := rLast_any _ B n c P lv sv h
  clear h
  go_enter Try.func49, Try.ntmps49
  go_wp2_with (go_at_call 48; go_must (refine HL.out.mono ?_; rintro e w' ⟨rfl, kd, rfl⟩))
  go_ret
  exact ⟨rfl, (Keeps.refl _ _).drewN _⟩

theorem rAt_is (w : World) (B n : Nat) (c : CoreD) (P : Nat → Prop) (lv sv : Value) (h : RefAt w B n c P lv sv) (i t : Int) (ok : Bool) (b1 : -4611686018427387904 ≤ i) (b2 : i ≤ 4611686018427387904) (hi : atD c i = (t, ok)) : Calls Try.prog 50 #[.pointer (some ⟨n, 0, none⟩), .int .i64 i] w fun e w' => e = .returned (.tuple #[.int .i64 t, .bool ok]) ∧ ∃ k, w' = w.drewN k := by
  have := rAt_any w B n c P lv sv h i b1 b2
  rw [hi] at this
  exact this

/-- The box of a message: its cells, as long as nobody writes there. -/
theorem keep10 {w w' : World} {b : Nat} {x0 x1 x2 x3 x4 x5 x6 x7 x8 x9 : Value} {t : TypeId} (h : w.heap[b]? = some (.cells #[x0, x1, x2, x3, x4, x5, x6, x7, x8, x9] t (0, 0))) (k : Keeps [] w w') : w'.heap[b]? = some (.cells #[x0, x1, x2, x3, x4, x5, x6, x7, x8, x9] t (0, 0)) :=
  (k.block b (Array.getElem?_eq_some_iff.1 h).1 (by simp)).trans h

set_option maxRecDepth 100000 in
set_option maxHeartbeats 3200000 in
theorem rsend_ents (w : World) (B n : Nat) (c : CoreD) (P : Nat → Prop) (lv sv : Value) (to : Int) (h : RefAt w B n c P lv sv) (hP : ∀ b, P b → b < w.heap.size) (ht : 0 ≤ to ∧ to < 8) (hs : ¬ c.next.getD to.toNat 0 ≤ c.base) :
    Calls Try.prog 88 #[.pointer (some ⟨n, 0, none⟩), .int .i64 to] w (RSendPost (sendD c to) P w) := by
  obtain ⟨nx, hnx⟩ : ∃ nx, c.next.getD to.toNat 0 = nx := ⟨_, rfl⟩
  have hcell := rnext_cell h.blk h.ok.votes h.ok.next to.toNat (by omega)
  have hnb : 0 ≤ nx ∧ nx ≤ 2199023255553 := by
    have h1 : to.toNat < c.next.length := by rw [h.ok.next]; omega
    have h2 : c.next.getD to.toNat 0 = c.next[to.toNat] := by simp [List.getD, h1]
    rw [← hnx, h2]
    exact h.ok.nexts _ (List.getElem_mem h1)
  rw [sendD_ents hs]
  rw [hnx] at hs hcell ⊢
  have hgt : c.base < nx := by omega
  obtain ⟨T, okT, hT⟩ : ∃ t o, atD c (nx - 1) = (t, o) := ⟨_, _, rfl⟩
  rw [hT]
  obtain ⟨F, hF⟩ : ∃ F, fromD c nx = F := ⟨_, rfl⟩
  rw [hF]
  have hFl : F.length ≤ 5096 := by rw [← hF]; exact Nat.le_trans (by unfold fromD; simp) h.ok.len
  have HT := hid hT
  have HF := hid hF
  have h14 : w.cell? ⟨n, 14, none⟩ = some (.int .i64 c.commit) := h.blk.cell 14
  have h9 : w.cell? ⟨n, 9, none⟩ = some (.int .i64 c.id) := h.blk.cell 9
  have h10 : w.cell? ⟨n, 10, none⟩ = some (.int .i64 c.term) := h.blk.cell 10
  have h15 : w.cell? ⟨n, 15, none⟩ = some (.int .i64 c.base) := h.blk.cell 15
  have hlt := h.blk.lt
  have H := hid h
  obtain ⟨t0, t8⟩ := ht
  have ht8 : to.toNat < 8 := by omega
  obtain ⟨n0, n1⟩ := hnb
  have wr1 : IntKind.i64.wrap (nx - 1) = nx - 1 := IntWalk.i64_in _ (by omega)
  have HFE : Hid (F = [] ∧ lastD c < nx ∨ F ≠ []) := by
    by_cases e : lastD c < nx
    · left
      refine ⟨?_, e⟩
      rw [← hF]
      unfold fromD
      refine List.drop_eq_nil_of_le ?_
      unfold lastD at e
      omega
    · right
      intro h0
      rw [← hF] at h0
      unfold fromD at h0
      have := List.drop_eq_nil_iff.1 h0
      unfold lastD at e
      omega
  obtain ⟨m, hm⟩ : ∃ m, m = min F.length 8 := ⟨_, rfl⟩
  have HMM : Hid ((F.take 8).length = m) := by show _ = _; rw [List.length_take]; omega
  have hmin : (F.length ≤ 8 ∧ m = F.length) ∨ (8 < F.length ∧ m = 8) := by omega
  have HPB := hid hP
  clear h hnx hs hT hF hm hP
  go_enter Try.func88, Try.ntmps88
  go_wp2_with fail
  refine Plan.wp_region_plan (fun wx => wx.cell? ⟨n, 29 + to.toNat, none⟩ = some (.int .i64 nx) ∧ wx.cell? ⟨n, 15, none⟩ = some (.int .i64 c.base)) 11 [(true, 0), (true, 1), (true, 2), (true, 3), (true, 4), (true, 5), (true, 6), (true, 7), (true, 8), (true, 9), (true, 10)] (by kernel_rfl) (by as_aux_lemma => kernel_rfl) (by kernel_rfl) (fun _ _ _ _ _ h => h) ?_ (fun hS => ?_)
  (· go_simp)
  simp only [Plan.pick, List.getElem?_cons_zero, List.getElem?_cons_succ, Option.getD_some, List.drop_succ_cons, List.drop_zero]
  iterate 11 (first | refine Plan.tA ?_ | refine Plan.tY ?_ | refine Plan.pN ?_ | refine Plan.pU ?_ | fail)
  refine Plan.fin ?_
  go_wp2_with fail
  refine (rmsg_any _ n c.id c.term _ _ ?_ ?_ ?_).mono ?_
  (· go_simp)
  (· go_simp)
  (· simp; omega)
  rintro e w2 ⟨rfl, hk⟩
  have HZ2 : Hid (w2.heap[w.heap.size]? = some (.cells #[.int .i64 0, .int .i64 0, .int .i64 0, .int .i64 0, .int .i64 0, .int .i64 0, .int .i64 0, .bool false, .slice none 0 0, .slice none 0 0] 40 (0, 0))) := (hk.block w.heap.size (by simp) (by simp)).trans (heap_alloc_new w _)
  have HK2 : Hid (Keeps [] w w2) := Keeps.trans (by exact Keeps.K) hk (fun _ _ h => h)
  have x14 := HK2.out.cellSome h14 (by simp)
  have x29 := HK2.out.cellSome hcell (by simp)
  have hz2 : w.heap.size < w2.heap.size := (Array.getElem?_eq_some_iff.1 HZ2.out).1
  have hn2 : n < w2.heap.size := by omega
  clear hk h9 h10 h14 h15 hcell hS
  go_wp2_with fail
  refine (rAt_is _ B n c P lv sv (H.out.k ?_) (nx - 1) T okT (by omega) (by omega) HT.out).mono ?_
  (· exact HK2.out.alloc _)
  rintro e w' ⟨rfl, kk, rfl⟩
  go_wp2_with fail
  have HX : Hid (∃ w3, w3 = (((w2.alloc (.cells #[.int .i64 3, .int .i64 c.id, .int .i64 to, .int .i64 c.term, .int .i64 (nx - 1), .int .i64 0, .int .i64 0, .bool false, .slice none 0 0, .slice none 0 0] 40)).drewN kk).setCell ⟨w2.heap.size, 5, none⟩ (.int .i64 T)).setCell ⟨w2.heap.size, 6, none⟩ (.int .i64 c.commit) ∧ Keeps [] w2 w3 ∧ w3.heap[w2.heap.size]? = some (.cells #[.int .i64 3, .int .i64 c.id, .int .i64 to, .int .i64 c.term, .int .i64 (nx - 1), .int .i64 T, .int .i64 c.commit, .bool false, .slice none 0 0, .slice none 0 0] 40 (0, 0))) := by
    refine ⟨_, rfl, by exact Keeps.K, ?_⟩
    have e1 := heap_alloc_new w2 (.cells #[.int .i64 3, .int .i64 c.id, .int .i64 to, .int .i64 c.term, .int .i64 (nx - 1), .int .i64 0, .int .i64 0, .bool false, .slice none 0 0, .slice none 0 0] 40)
    have e2 := keep10 e1 ((Keeps.refl [] _).drewN kk)
    have e3 := heap_setCell_same _ _ 5 _ _ (.int .i64 T) e2
    simp only [List.setIfInBounds_toArray, List.set_cons_zero, List.set_cons_succ] at e3
    have e4 := heap_setCell_same _ _ 6 _ _ (.int .i64 c.commit) e3
    simp only [List.setIfInBounds_toArray, List.set_cons_zero, List.set_cons_succ] at e4
    exact e4
  obtain ⟨w3, hw3, k3, b3⟩ := HX.out
  rw [← hw3]
  have HK3 : Hid (Keeps [] w w3) := HK2.out.trans k3 (fun _ _ h => h)
  have HB3 := hid b3
  have HZ3 := hid (keep10 HZ2.out k3)
  clear hw3 HX k3 b3 x14 x29
  have HOFF : Hid (∀ b, (P b ∨ w3.heap.size ≤ b) → ¬ (b = w2.heap.size ∨ b = w.heap.size)) := fun b hb hb' => by
    have z3 := (Array.getElem?_eq_some_iff.1 HB3.out).1
    rcases hb with hb | hb
    · have := HPB.out b hb; omega
    · omega
  have HGR : Hid (∀ {w' : World} b, b < w'.heap.size → (P b ∨ w3.heap.size ≤ b) → Gr P w w' b) := fun b h1 h2 => by
    rcases h2 with h2 | h2
    · exact .inl h2
    · exact .inr ⟨by have := HK3.out.size; omega, h1⟩
  by_cases hne : F = []
  · have hm0 : m = 0 := by rw [← HMM.out, hne]; rfl
    have HV : Hid (∀ wx, ListAt entL wx (fun b => P b ∨ w3.heap.size ≤ b) (.slice none 0 0) (F.take 8)) := fun wx => by
      have : F.take 8 = [] := List.eq_nil_of_length_eq_zero (by rw [HMM.out, hm0])
      rw [this]
      exact ListAt.nil _ _ _ _
    have hlast : lastD c < nx := by
      rcases HFE.out with h | h
      · exact h.2
      · exact absurd hne h
    subst hm0
    clear hne
    refine (rFrom_nil _ B n c P lv sv (H.out.k HK3.out) nx hgt hlast).mono ?_
    rintro e w4 ⟨rfl, hk4⟩
    have HB4 := hid (keep10 HB3.out hk4)
    have HZ4 := hid (keep10 HZ3.out hk4)
    have K4 := hid hk4
    have HV := hid (HV.out w4)
    obtain ⟨⟨c0, c1, c2, c3, c4, c5, c6, c7, c8, c9⟩, f3⟩ := blk10 HB4.out
    obtain ⟨⟨d0, d1, d2, d3, d4, d5, d6, d7, d8, d9⟩, g3⟩ := blk10 HZ4.out
    clear hk4 hlast
    go_wp2_with fail
    have k5 : Keeps [w2.heap.size] w4 (w4.setCell ⟨w2.heap.size, 8, none⟩ (.slice none 0 0)) := (Keeps.refl _ _).setCell (.inl (by simp)) _
    have HZ5 := (k5.block w.heap.size (Array.getElem?_eq_some_iff.1 HZ4.out).1 (by simp; omega)).trans HZ4.out
    have HZ6 := heap10 (y0 := .int .i64 3) (y1 := .int .i64 c.id) (y2 := .int .i64 to) (y3 := .int .i64 c.term) (y4 := .int .i64 (nx - 1)) (y5 := .int .i64 T) (y6 := .int .i64 c.commit) (y7 := .bool false) (y8 := .slice none 0 0) (y9 := .slice none 0 0) HZ5
    have k6 : Keeps [w.heap.size] (w4.setCell ⟨w2.heap.size, 8, none⟩ (.slice none 0 0)) (((((((((((w4.setCell ⟨w2.heap.size, 8, none⟩ (.slice none 0 0)).setCell ⟨w.heap.size, 0, none⟩ (.int .i64 3)).setCell ⟨w.heap.size, 1, none⟩ (.int .i64 c.id)).setCell ⟨w.heap.size, 2, none⟩ (.int .i64 to)).setCell ⟨w.heap.size, 3, none⟩ (.int .i64 c.term)).setCell ⟨w.heap.size, 4, none⟩ (.int .i64 (nx - 1))).setCell ⟨w.heap.size, 5, none⟩ (.int .i64 T)).setCell ⟨w.heap.size, 6, none⟩ (.int .i64 c.commit)).setCell ⟨w.heap.size, 7, none⟩ (.bool false)).setCell ⟨w.heap.size, 8, none⟩ (.slice none 0 0)).setCell ⟨w.heap.size, 9, none⟩ (.slice none 0 0)) := by exact Keeps.K
    have kk0 : Keeps [w2.heap.size, w.heap.size] w4 (((((((((((w4.setCell ⟨w2.heap.size, 8, none⟩ (.slice none 0 0)).setCell ⟨w.heap.size, 0, none⟩ (.int .i64 3)).setCell ⟨w.heap.size, 1, none⟩ (.int .i64 c.id)).setCell ⟨w.heap.size, 2, none⟩ (.int .i64 to)).setCell ⟨w.heap.size, 3, none⟩ (.int .i64 c.term)).setCell ⟨w.heap.size, 4, none⟩ (.int .i64 (nx - 1))).setCell ⟨w.heap.size, 5, none⟩ (.int .i64 T)).setCell ⟨w.heap.size, 6, none⟩ (.int .i64 c.commit)).setCell ⟨w.heap.size, 7, none⟩ (.bool false)).setCell ⟨w.heap.size, 8, none⟩ (.slice none 0 0)).setCell ⟨w.heap.size, 9, none⟩ (.slice none 0 0)) := (k5.mono (G := [w2.heap.size, w.heap.size]) (fun b _ hb => List.mem_cons.2 (.inl (List.mem_singleton.1 hb)))).trans k6 (fun b _ hb => List.mem_cons_of_mem _ hb)
    have kk := (HK3.out.trans K4.out (fun _ _ h => h)).trans kk0 (fun b hb hb' => by simp at hb'; omega)
    refine bodyPost_ret (v := .agg #[.int .i64 3, .int .i64 c.id, .int .i64 to, .int .i64 c.term, .int .i64 (nx - 1), .int .i64 T, .int .i64 c.commit, .bool false, .slice none 0 0, .slice none 0 0]) (results_cell_row rfl _ _ w.heap.size 40 _ (0, 0) _ rfl HZ6 Try.underlying40 rfl (by kernel_rfl)) rfl ⟨none, 0, none, 0, ?_, ?_, BytesAt.nil _ _ _ _, kk⟩
    · show _ = Ending.returned (msgV _ (.slice (none) (F.take 8).length 0) _)
      rw [HMM.out]
      rfl
    · show ListAt entL _ _ (.slice (none) (F.take 8).length 0) _
      rw [HMM.out]
      exact (HV.out.keep kk0 (fun b hb hb' => HOFF.out b hb (by simpa using hb'))).mono (fun b hb1 hb2 => HGR.out b hb1 hb2)
  · refine (rFrom_any _ B n c P lv sv (H.out.k HK3.out) nx (by omega) (by omega)).mono ?_
    rw [HF.out]
    rintro e w4 ⟨fa, fc, rfl, hfr, hk4⟩
    obtain ⟨g, off, fc', hfa, hc1, hc2, _, _⟩ := hfr.addr hne
    simp at hfa
    obtain ⟨hfa, hfc⟩ := hfa
    subst hfa
    subst hfc
    have HB4 := hid (keep10 HB3.out hk4)
    have HZ4 := hid (keep10 HZ3.out hk4)
    have K4 := hid hk4
    have HLF := hid hfr
    obtain ⟨⟨c0, c1, c2, c3, c4, c5, c6, c7, c8, c9⟩, f3⟩ := blk10 HB4.out
    obtain ⟨⟨d0, d1, d2, d3, d4, d5, d6, d7, d8, d9⟩, g3⟩ := blk10 HZ4.out
    have hc3 : (F.length : Int) ≤ (fc : Int) := by omega
    have hc4 : (fc : Int) ≤ 9223372036854775807 := by unfold maxLen at hc2; omega
    have HV : Hid (ListAt entL w4 (fun b => P b ∨ w3.heap.size ≤ b) (.slice (some ⟨g, off, none⟩) m fc) (F.take 8)) := by
      have := hfr.piece 0 m fc (some ⟨g, off, none⟩) (by omega) (by omega) hc2 (fun _ => by simp)
      have e : (F.drop 0).take m = F.take 8 := by
        rw [List.drop_zero]
        rcases hmin with ⟨h5, h6⟩ | ⟨h5, h6⟩
        · rw [h6, List.take_of_length_le (Nat.le_refl _), List.take_of_length_le h5]
        · rw [h6]
      rw [e] at this
      exact this
    clear hk4 hfr hne
    rcases hmin with ⟨h1, h2⟩ | ⟨h1, h2⟩
    · have h3 : (F.length : Int) ≤ 8 := by omega
      subst h2
      go_wp2_with fail
      have k5 : Keeps [w2.heap.size] w4 (w4.setCell ⟨w2.heap.size, 8, none⟩ (.slice (some ⟨g, off, none⟩) F.length fc)) := (Keeps.refl _ _).setCell (.inl (by simp)) _
      have HZ5 := (k5.block w.heap.size (Array.getElem?_eq_some_iff.1 HZ4.out).1 (by simp; omega)).trans HZ4.out
      have HZ6 := heap10 (y0 := .int .i64 3) (y1 := .int .i64 c.id) (y2 := .int .i64 to) (y3 := .int .i64 c.term) (y4 := .int .i64 (nx - 1)) (y5 := .int .i64 T) (y6 := .int .i64 c.commit) (y7 := .bool false) (y8 := .slice (some ⟨g, off, none⟩) F.length fc) (y9 := .slice none 0 0) HZ5
      have k6 : Keeps [w.heap.size] (w4.setCell ⟨w2.heap.size, 8, none⟩ (.slice (some ⟨g, off, none⟩) F.length fc)) (((((((((((w4.setCell ⟨w2.heap.size, 8, none⟩ (.slice (some ⟨g, off, none⟩) F.length fc)).setCell ⟨w.heap.size, 0, none⟩ (.int .i64 3)).setCell ⟨w.heap.size, 1, none⟩ (.int .i64 c.id)).setCell ⟨w.heap.size, 2, none⟩ (.int .i64 to)).setCell ⟨w.heap.size, 3, none⟩ (.int .i64 c.term)).setCell ⟨w.heap.size, 4, none⟩ (.int .i64 (nx - 1))).setCell ⟨w.heap.size, 5, none⟩ (.int .i64 T)).setCell ⟨w.heap.size, 6, none⟩ (.int .i64 c.commit)).setCell ⟨w.heap.size, 7, none⟩ (.bool false)).setCell ⟨w.heap.size, 8, none⟩ (.slice (some ⟨g, off, none⟩) F.length fc)).setCell ⟨w.heap.size, 9, none⟩ (.slice none 0 0)) := by exact Keeps.K
      have kk0 : Keeps [w2.heap.size, w.heap.size] w4 (((((((((((w4.setCell ⟨w2.heap.size, 8, none⟩ (.slice (some ⟨g, off, none⟩) F.length fc)).setCell ⟨w.heap.size, 0, none⟩ (.int .i64 3)).setCell ⟨w.heap.size, 1, none⟩ (.int .i64 c.id)).setCell ⟨w.heap.size, 2, none⟩ (.int .i64 to)).setCell ⟨w.heap.size, 3, none⟩ (.int .i64 c.term)).setCell ⟨w.heap.size, 4, none⟩ (.int .i64 (nx - 1))).setCell ⟨w.heap.size, 5, none⟩ (.int .i64 T)).setCell ⟨w.heap.size, 6, none⟩ (.int .i64 c.commit)).setCell ⟨w.heap.size, 7, none⟩ (.bool false)).setCell ⟨w.heap.size, 8, none⟩ (.slice (some ⟨g, off, none⟩) F.length fc)).setCell ⟨w.heap.size, 9, none⟩ (.slice none 0 0)) := (k5.mono (G := [w2.heap.size, w.heap.size]) (fun b _ hb => List.mem_cons.2 (.inl (List.mem_singleton.1 hb)))).trans k6 (fun b _ hb => List.mem_cons_of_mem _ hb)
      have kk := (HK3.out.trans K4.out (fun _ _ h => h)).trans kk0 (fun b hb hb' => by simp at hb'; omega)
      refine bodyPost_ret (v := .agg #[.int .i64 3, .int .i64 c.id, .int .i64 to, .int .i64 c.term, .int .i64 (nx - 1), .int .i64 T, .int .i64 c.commit, .bool false, .slice (some ⟨g, off, none⟩) F.length fc, .slice none 0 0]) (results_cell_row rfl _ _ w.heap.size 40 _ (0, 0) _ rfl HZ6 Try.underlying40 rfl (by kernel_rfl)) rfl ⟨some ⟨g, off, none⟩, fc, none, 0, ?_, ?_, BytesAt.nil _ _ _ _, kk⟩
      · show _ = Ending.returned (msgV _ (.slice (some ⟨g, off, none⟩) (F.take 8).length fc) _)
        rw [HMM.out]
        rfl
      · show ListAt entL _ _ (.slice (some ⟨g, off, none⟩) (F.take 8).length fc) _
        rw [HMM.out]
        exact (HV.out.keep kk0 (fun b hb hb' => HOFF.out b hb (by simpa using hb'))).mono (fun b hb1 hb2 => HGR.out b hb1 hb2)
    · have h3 : 8 < (F.length : Int) := by omega
      subst h2
      go_wp2_with fail
      have k5 : Keeps [w2.heap.size] w4 (w4.setCell ⟨w2.heap.size, 8, none⟩ (.slice (some ⟨g, off, none⟩) 8 fc)) := (Keeps.refl _ _).setCell (.inl (by simp)) _
      have HZ5 := (k5.block w.heap.size (Array.getElem?_eq_some_iff.1 HZ4.out).1 (by simp; omega)).trans HZ4.out
      have HZ6 := heap10 (y0 := .int .i64 3) (y1 := .int .i64 c.id) (y2 := .int .i64 to) (y3 := .int .i64 c.term) (y4 := .int .i64 (nx - 1)) (y5 := .int .i64 T) (y6 := .int .i64 c.commit) (y7 := .bool false) (y8 := .slice (some ⟨g, off, none⟩) 8 fc) (y9 := .slice none 0 0) HZ5
      have k6 : Keeps [w.heap.size] (w4.setCell ⟨w2.heap.size, 8, none⟩ (.slice (some ⟨g, off, none⟩) 8 fc)) (((((((((((w4.setCell ⟨w2.heap.size, 8, none⟩ (.slice (some ⟨g, off, none⟩) 8 fc)).setCell ⟨w.heap.size, 0, none⟩ (.int .i64 3)).setCell ⟨w.heap.size, 1, none⟩ (.int .i64 c.id)).setCell ⟨w.heap.size, 2, none⟩ (.int .i64 to)).setCell ⟨w.heap.size, 3, none⟩ (.int .i64 c.term)).setCell ⟨w.heap.size, 4, none⟩ (.int .i64 (nx - 1))).setCell ⟨w.heap.size, 5, none⟩ (.int .i64 T)).setCell ⟨w.heap.size, 6, none⟩ (.int .i64 c.commit)).setCell ⟨w.heap.size, 7, none⟩ (.bool false)).setCell ⟨w.heap.size, 8, none⟩ (.slice (some ⟨g, off, none⟩) 8 fc)).setCell ⟨w.heap.size, 9, none⟩ (.slice none 0 0)) := by exact Keeps.K
      have kk0 : Keeps [w2.heap.size, w.heap.size] w4 (((((((((((w4.setCell ⟨w2.heap.size, 8, none⟩ (.slice (some ⟨g, off, none⟩) 8 fc)).setCell ⟨w.heap.size, 0, none⟩ (.int .i64 3)).setCell ⟨w.heap.size, 1, none⟩ (.int .i64 c.id)).setCell ⟨w.heap.size, 2, none⟩ (.int .i64 to)).setCell ⟨w.heap.size, 3, none⟩ (.int .i64 c.term)).setCell ⟨w.heap.size, 4, none⟩ (.int .i64 (nx - 1))).setCell ⟨w.heap.size, 5, none⟩ (.int .i64 T)).setCell ⟨w.heap.size, 6, none⟩ (.int .i64 c.commit)).setCell ⟨w.heap.size, 7, none⟩ (.bool false)).setCell ⟨w.heap.size, 8, none⟩ (.slice (some ⟨g, off, none⟩) 8 fc)).setCell ⟨w.heap.size, 9, none⟩ (.slice none 0 0)) := (k5.mono (G := [w2.heap.size, w.heap.size]) (fun b _ hb => List.mem_cons.2 (.inl (List.mem_singleton.1 hb)))).trans k6 (fun b _ hb => List.mem_cons_of_mem _ hb)
      have kk := (HK3.out.trans K4.out (fun _ _ h => h)).trans kk0 (fun b hb hb' => by simp at hb'; omega)
      refine bodyPost_ret (v := .agg #[.int .i64 3, .int .i64 c.id, .int .i64 to, .int .i64 c.term, .int .i64 (nx - 1), .int .i64 T, .int .i64 c.commit, .bool false, .slice (some ⟨g, off, none⟩) 8 fc, .slice none 0 0]) (results_cell_row rfl _ _ w.heap.size 40 _ (0, 0) _ rfl HZ6 Try.underlying40 rfl (by kernel_rfl)) rfl ⟨some ⟨g, off, none⟩, fc, none, 0, ?_, ?_, BytesAt.nil _ _ _ _, kk⟩
      · show _ = Ending.returned (msgV _ (.slice (some ⟨g, off, none⟩) (F.take 8).length fc) _)
        rw [HMM.out]
        rfl
      · show ListAt entL _ _ (.slice (some ⟨g, off, none⟩) (F.take 8).length fc) _
        rw [HMM.out]
        exact (HV.out.keep kk0 (fun b hb hb' => HOFF.out b hb (by simpa using hb'))).mono (fun b hb1 hb2 => HGR.out b hb1 hb2)

end Go.Proofs.Ytpppoajnbhipeaa

/- others with send: what all other nodes are to have next. -/
namespace Go.Proofs.Ytpppoajnbhipeaa
open Go Go.RowKit

set_option maxRecDepth 100000 in
set_option maxHeartbeats 1600000 in
theorem others_send (w : World) (B n : Nat) (c : CoreD) (lv sv : Value) (h : CoreAt w B n c lv sv) :
    Calls Try.prog 62 #[.pointer (some ⟨n, 0, none⟩), .func (.func 63) #[.pointer (some ⟨n, 0, none⟩)] #[]] w (MsgsPost (othersD c (sendD c)) w) := by
  obtain ⟨it, hi0, hz0, hz1, hz2⟩ := info_parts Try.infoMsg
  have hm := (ConfD.may_iff c.conf).1 h.ok.may
  have h0 : w.cell? ⟨n, 0, none⟩ = some (.int .i64 c.conf.nodes) := h.blk.cell 0
  have h9 : w.cell? ⟨n, 9, none⟩ = some (.int .i64 c.id) := h.blk.cell 9
  have n1 := hm.1.1
  have n2 := hm.1.2
  have H := hid h
  have HN : Hid ((c.conf.nodes.toNat : Int) = c.conf.nodes) := by show _ = _; omega
  clear hm h
  go_enter Try.func62, Try.ntmps62
  go_wp2_with fail
  go_step3
  go_wp2_with fail
  go_step3
  go_wp2_with fail
  go_loopw [5, 6] (fun v t wr => ∃ (k m : Nat) (a : Option Addr) (q : Nat), k ≤ c.conf.nodes.toNat ∧ m ≤ k ∧ v = .slice a m q ∧ t = .int .i64 ((k : Int) + 1) ∧ Hid ((othersTo c.id k).length = m ∧ FreshMsgs w wr (.slice a m q) ((othersTo c.id k).map (sendD c)) ∧ Keeps [] w wr)) (fun _ t _ => (c.conf.nodes + 1 - intOf t).toNat)
  case atStart => exact ⟨0, 0, none, 0, Nat.zero_le _, Nat.le_refl _, rfl, rfl, rfl, OwnAt.nil _ _ _ _, Keeps.refl [] w⟩
  case round =>
    obtain ⟨k, m, a, q, hk, hmk, rfl, rfl, HW⟩ := hrel
    have i0 : (0 : Int) ≤ (k : Int) := Int.natCast_nonneg _
    have x0 := HW.out.2.2.cellSome h0 (by simp)
    have x9 := HW.out.2.2.cellSome h9 (by simp)
    by_cases hlt : k < c.conf.nodes.toNat
    · have hle : (k : Int) + 1 ≤ c.conf.nodes := by have := HN.out; omega
      by_cases hid' : (k : Int) + 1 = c.id
      · have HS := hid (othersTo_skip hid')
        have hb : ((k : Int) + 1 == c.id) = true := by simpa using hid'
        clear hid'
        go_wp2_with fail
        go_roundw
        case rel => exact ⟨k + 1, m, a, q, by omega, by omega, rfl, by go_num, by rw [HS.out]; exact HW.out⟩
        case measure => simp [intOf]; omega
      · have HS := hid (othersTo_take hid')
        have hb : ((k : Int) + 1 == c.id) = false := by simpa using hid'
        clear hid'
        have HTL : Hid (((othersTo c.id k).map (sendD c)).length = m) := by show _ = _; rw [List.length_map]; exact HW.out.1
        have HZ : Hid (w.heap.size ≤ wr.heap.size) := HW.out.2.2.size
        have hm7 : m ≤ 7 := by omega
        go_wp2_with fail
        refine (send_any wr B n c lv sv _ (H.out.k HW.out.2.2) ⟨by omega, by omega⟩).mono ?_
        rintro e w3 ⟨ea, ec, da, dc, rfl, hle, hbd, hk3⟩
        unfold msgV
        have HEL : Hid (∀ wx, Keeps [] w3 wx → msgL.at_ wx (fun b => wr.heap.size ≤ b) [.int .i64 (sendD c ((k : Int) + 1)).kind, .int .i64 (sendD c ((k : Int) + 1)).frm, .int .i64 (sendD c ((k : Int) + 1)).to, .int .i64 (sendD c ((k : Int) + 1)).term, .int .i64 (sendD c ((k : Int) + 1)).a, .int .i64 (sendD c ((k : Int) + 1)).b, .int .i64 (sendD c ((k : Int) + 1)).c, .bool (sendD c ((k : Int) + 1)).ok, .slice ea (sendD c ((k : Int) + 1)).entries.length ec, .slice da (sendD c ((k : Int) + 1)).data.length dc] (sendD c ((k : Int) + 1))) := fun wx kx => ⟨_, _, rfl, hle.k kx, hbd.k kx⟩
        have HBB : Hid (∀ b, wr.heap.size ≤ b → w.heap.size ≤ b ∧ b ∉ ownB (.slice a m q)) := fun b hb => ⟨Nat.le_trans HZ.out hb, fun hb' => by have := (OwnAt.ge HW.out.2.1 b hb').2; omega⟩
        have K3 := hid hk3
        have HOW : Hid (OwnAt msgL 40 w3 w.heap.size (fun b => w.heap.size ≤ b ∧ b ∉ ownB (.slice a m q)) (.slice a m q) ((othersTo c.id k).map (sendD c))) := OwnAt.k HW.out.2.1 hk3
        clear hk3 hle hbd
        go_wp2_with (at_builtin; go_must (refine wpList_append_off (L := msgL) (PB := fun b => wr.heap.size ≤ b) _ (by rfl) _ _ _ (by rfl) w.heap.size 40 it _ 112 Try.underlying36 hi0 hz0 hz1 hz2 rfl (R := fun b => w.heap.size ≤ b) (.slice a m q) (by rfl) ((othersTo c.id k).map (sendD c)) [sendD c ((k : Int) + 1)] m HTL.out [[.int .i64 (sendD c ((k : Int) + 1)).kind, .int .i64 (sendD c ((k : Int) + 1)).frm, .int .i64 (sendD c ((k : Int) + 1)).to, .int .i64 (sendD c ((k : Int) + 1)).term, .int .i64 (sendD c ((k : Int) + 1)).a, .int .i64 (sendD c ((k : Int) + 1)).b, .int .i64 (sendD c ((k : Int) + 1)).c, .bool (sendD c ((k : Int) + 1)).ok, .slice ea (sendD c ((k : Int) + 1)).entries.length ec, .slice da (sendD c ((k : Int) + 1)).data.length dc]] (HOW.out.k ((Keeps.refl [] _).alloc _)) (.slice _ _ _) (by rfl) 1 rfl (ElemsAt.one1 (HEL.out _ ((Keeps.refl [] _).alloc _))) (Reads.one1 (heap_alloc_new _ _) rfl) (by omega) (le_maxLen (by omega)) (by exact Nat.le_trans HZ.out (Nat.le_trans K3.out.size ((Keeps.refl [] _).alloc _).size)) (fun b _ hb => HBB.out b hb) ?_; intro a4 q4 w4 ho4 hk4 hv4))
        go_roundw
        case rel =>
          refine ⟨k + 1, m + 1, a4, q4, by omega, by omega, rfl, by go_num, ?_, ?_, ?_⟩
          · rw [HS.out]; simp [HW.out.1]
          · rw [HS.out, List.map_append]; exact ho4.out
          · refine (HW.out.2.2.trans K3.out (fun _ _ h => h)).trans (((Keeps.refl _ _).alloc _).trans hk4.out (fun _ _ h => h)) (fun b hb hb' => ?_)
            have := (OwnAt.ge HOW.out b hb').1
            omega
        case measure => simp [intOf]; omega
    · have hkn : k = c.conf.nodes.toNat := by omega
      have hge : c.conf.nodes < (k : Int) + 1 := by have := HN.out; omega
      have HK := hid hkn
      clear hkn
      go_wp2_with fail
      rw [Exit.noGoto_ret]
      go_ret
      have h1 := HW.out
      rw [HK.out] at h1
      unfold othersD
      refine ⟨a, q, ?_, ?_, h1.2.2⟩
      · rw [List.length_map, h1.1]; rfl
      · rw [List.length_map, h1.1]; exact h1.2.1


end Go.Proofs.Ytpppoajnbhipeaa

/- The document's core: all: to each other node. -/
namespace Go.Proofs.Ytpppoajnbhipeaa
open Go Go.RowKit

theorem rsend_any (w : World) (B n : Nat) (c : CoreD) (P : Nat → Prop) (lv sv : Value) (to : Int) (h : RefAt w B n c P lv sv) (hP : ∀ b, P b → b < w.heap.size) (ht : 0 ≤ to ∧ to < 8) :
    Calls Try.prog 88 #[.pointer (some ⟨n, 0, none⟩), .int .i64 to] w (RSendPost (sendD c to) P w) := by
  by_cases hs : c.next.getD to.toNat 0 ≤ c.base
  · exact rsend_snap w B n c P lv sv to h ht hs
  · exact rsend_ents w B n c P lv sv to h hP ht hs

/-- Messages in a row of its own; what they hold is what may be read, or new. -/
def RMsgs (P : Nat → Prop) (w w' : World) (v : Value) (l : List MsgD) : Prop := OwnAt msgL 40 w' w.heap.size (fun b => (P b ∨ w.heap.size ≤ b) ∧ b ∉ ownB v) v l
def RMsgsPost (l : List MsgD) (P : Nat → Prop) (w : World) (e : Ending) (w' : World) : Prop := ∃ a q, e = .returned (.slice a l.length q) ∧ RMsgs P w w' (.slice a l.length q) l ∧ Keeps [] w w'
theorem RMsgsPost.of {l : List MsgD} {P : Nat → Prop} {w w' : World} {e : Ending} (h : MsgsPost l w e w') : RMsgsPost l P w e w' := by
  obtain ⟨a, q, he, hf, hk⟩ := h
  exact ⟨a, q, he, OwnAt.mono hf (fun b _ hb => ⟨.inr hb.1, hb.2⟩), hk⟩
theorem RMsgs.list {P : Nat → Prop} {w w' : World} {v : Value} {l : List MsgD} (h : RMsgs P w w' v l) : ListAt msgL w' (fun b => P b ∨ w.heap.size ≤ b) v l :=
  OwnAt.list h (fun _ _ hb => hb.1) (fun b hb => .inr (OwnAt.ge h b hb).1)

set_option maxRecDepth 100000 in
set_option maxHeartbeats 1600000 in
theorem rall_any (w : World) (B n : Nat) (c : CoreD) (P : Nat → Prop) (lv sv : Value) (h : RefAt w B n c P lv sv) (hP : ∀ b, P b → b < w.heap.size) :
    Calls Try.prog 79 #[.pointer (some ⟨n, 0, none⟩)] w (RMsgsPost (othersD c (sendD c)) P w) := by
  obtain ⟨it, hi0, hz0, hz1, hz2⟩ := info_parts Try.infoMsg
  have hm := (ConfD.may_iff c.conf).1 h.ok.may
  have h0 : w.cell? ⟨n, 0, none⟩ = some (.int .i64 c.conf.nodes) := h.blk.cell 0
  have h9 : w.cell? ⟨n, 9, none⟩ = some (.int .i64 c.id) := h.blk.cell 9
  have n1 := hm.1.1
  have n2 := hm.1.2
  have H := hid h
  have HPB := hid hP
  have HN : Hid ((c.conf.nodes.toNat : Int) = c.conf.nodes) := by show _ = _; omega
  clear hm h hP
  go_enter Try.func79, Try.ntmps79
  go_wp2_with fail
  go_loopw [3, 4] (fun v t wr => ∃ (k m : Nat) (a : Option Addr) (q : Nat), k ≤ c.conf.nodes.toNat ∧ m ≤ k ∧ v = .slice a m q ∧ t = .int .i64 ((k : Int) + 1) ∧ Hid ((othersTo c.id k).length = m ∧ RMsgs P w wr (.slice a m q) ((othersTo c.id k).map (sendD c)) ∧ Keeps [] w wr)) (fun _ t _ => (c.conf.nodes + 1 - intOf t).toNat)
  case atStart => exact ⟨0, 0, none, 0, Nat.zero_le _, Nat.le_refl _, rfl, rfl, rfl, OwnAt.nil _ _ _ _, Keeps.refl [] w⟩
  case round =>
    obtain ⟨k, m, a, q, hk, hmk, rfl, rfl, HW⟩ := hrel
    have i0 : (0 : Int) ≤ (k : Int) := Int.natCast_nonneg _
    have x0 := HW.out.2.2.cellSome h0 (by simp)
    have x9 := HW.out.2.2.cellSome h9 (by simp)
    by_cases hlt : k < c.conf.nodes.toNat
    · have hle : (k : Int) + 1 ≤ c.conf.nodes := by have := HN.out; omega
      by_cases hid' : (k : Int) + 1 = c.id
      · have HS := hid (othersTo_skip hid')
        have hb : ((k : Int) + 1 != c.id) = false := by simpa using hid'
        clear hid'
        go_wp2_with fail
        go_roundw
        case rel => exact ⟨k + 1, m, a, q, by omega, by omega, rfl, by go_num, by rw [HS.out]; exact HW.out⟩
        case measure => simp [intOf]; omega
      · have HS := hid (othersTo_take hid')
        have hb : ((k : Int) + 1 != c.id) = true := by simpa using hid'
        clear hid'
        have HTL : Hid (((othersTo c.id k).map (sendD c)).length = m) := by show _ = _; rw [List.length_map]; exact HW.out.1
        have HZ : Hid (w.heap.size ≤ wr.heap.size) := HW.out.2.2.size
        have hm7 : m ≤ 7 := by omega
        go_wp2_with fail
        refine (rsend_any wr B n c P lv sv _ (H.out.k HW.out.2.2) (fun b hb => Nat.lt_of_lt_of_le (HPB.out b hb) HZ.out) ⟨by omega, by omega⟩).mono ?_
        rintro e w3 ⟨ea, ec, da, dc, rfl, hle, hbd, hk3⟩
        unfold msgV
        have HEL : Hid (∀ wx, Keeps [] w3 wx → msgL.at_ wx (Gr P wr w3) [.int .i64 (sendD c ((k : Int) + 1)).kind, .int .i64 (sendD c ((k : Int) + 1)).frm, .int .i64 (sendD c ((k : Int) + 1)).to, .int .i64 (sendD c ((k : Int) + 1)).term, .int .i64 (sendD c ((k : Int) + 1)).a, .int .i64 (sendD c ((k : Int) + 1)).b, .int .i64 (sendD c ((k : Int) + 1)).c, .bool (sendD c ((k : Int) + 1)).ok, .slice ea (sendD c ((k : Int) + 1)).entries.length ec, .slice da (sendD c ((k : Int) + 1)).data.length dc] (sendD c ((k : Int) + 1))) := fun wx kx => ⟨_, _, rfl, hle.k kx, hbd.k kx⟩
        have HBB : Hid (∀ b, Gr P wr w3 b → (P b ∨ w.heap.size ≤ b) ∧ b ∉ ownB (.slice a m q)) := fun b hb => by
          rcases hb with hb | hb
          · exact ⟨.inl hb, fun hb' => by have := (OwnAt.ge HW.out.2.1 b hb').1; have := HPB.out b hb; omega⟩
          · exact ⟨.inr (Nat.le_trans HZ.out hb.1), fun hb' => by have := (OwnAt.ge HW.out.2.1 b hb').2; omega⟩
        have K3 := hid hk3
        have HOW : Hid (OwnAt msgL 40 w3 w.heap.size (fun b => (P b ∨ w.heap.size ≤ b) ∧ b ∉ ownB (.slice a m q)) (.slice a m q) ((othersTo c.id k).map (sendD c))) := OwnAt.k HW.out.2.1 hk3
        clear hk3 hle hbd
        go_wp2_with (at_builtin; go_must (refine wpList_append_off (L := msgL) (PB := Gr P wr w3) _ (by rfl) _ _ _ (by rfl) w.heap.size 40 it _ 112 Try.underlying36 hi0 hz0 hz1 hz2 rfl (R := fun b => P b ∨ w.heap.size ≤ b) (.slice a m q) (by rfl) ((othersTo c.id k).map (sendD c)) [sendD c ((k : Int) + 1)] m HTL.out [[.int .i64 (sendD c ((k : Int) + 1)).kind, .int .i64 (sendD c ((k : Int) + 1)).frm, .int .i64 (sendD c ((k : Int) + 1)).to, .int .i64 (sendD c ((k : Int) + 1)).term, .int .i64 (sendD c ((k : Int) + 1)).a, .int .i64 (sendD c ((k : Int) + 1)).b, .int .i64 (sendD c ((k : Int) + 1)).c, .bool (sendD c ((k : Int) + 1)).ok, .slice ea (sendD c ((k : Int) + 1)).entries.length ec, .slice da (sendD c ((k : Int) + 1)).data.length dc]] (HOW.out.k ((Keeps.refl [] _).alloc _)) (.slice _ _ _) (by rfl) 1 rfl (ElemsAt.one1 (HEL.out _ ((Keeps.refl [] _).alloc _))) (Reads.one1 (heap_alloc_new _ _) rfl) (by omega) (le_maxLen (by omega)) (by exact Nat.le_trans HZ.out (Nat.le_trans K3.out.size ((Keeps.refl [] _).alloc _).size)) (fun b _ hb => HBB.out b hb) ?_; intro a4 q4 w4 ho4 hk4 hv4))
        go_roundw
        case rel =>
          refine ⟨k + 1, m + 1, a4, q4, by omega, by omega, rfl, by go_num, ?_, ?_, ?_⟩
          · rw [HS.out]; simp [HW.out.1]
          · rw [HS.out, List.map_append]; exact ho4.out
          · refine (HW.out.2.2.trans K3.out (fun _ _ h => h)).trans (((Keeps.refl _ _).alloc _).trans hk4.out (fun _ _ h => h)) (fun b hb hb' => ?_)
            have := (OwnAt.ge HOW.out b hb').1
            omega
        case measure => simp [intOf]; omega
    · have hkn : k = c.conf.nodes.toNat := by omega
      have hge : c.conf.nodes < (k : Int) + 1 := by have := HN.out; omega
      have HK := hid hkn
      clear hkn
      go_wp2_with fail
      go_ret
      have h1 := HW.out
      rw [HK.out] at h1
      unfold othersD
      refine ⟨a, q, ?_, ?_, h1.2.2⟩
      · rw [List.length_map, h1.1]; rfl
      · rw [List.length_map, h1.1]; exact h1.2.1

end Go.Proofs.Ytpppoajnbhipeaa
