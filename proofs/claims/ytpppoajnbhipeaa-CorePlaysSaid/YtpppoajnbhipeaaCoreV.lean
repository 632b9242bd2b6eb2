/- Hear: what comes from who leads. (Printed by gen_hear.py.) -/
import Derived.Test.YtpppoajnbhipeaaCoreQ
namespace Go.Proofs.Ytpppoajnbhipeaa
open Go Go.RowKit

set_option maxRecDepth 100000 in
set_option maxHeartbeats 6400000 in
theorem hear_3A (w : World) (B n : Nat) (c c1 : CoreD) (lv sv : Value) (m : MsgD) (ea da : Option Addr) (ec dc : Nat) (h : CoreAt w B n c lv sv) (hl : ListAt entL w (Off n lv) (.slice ea m.entries.length ec) m.entries) (hd : BytesAt w (Off n lv) (.slice da m.data.length dc) m.data) (hw : wrongD c m = false) (hc1 : stepD c m = c1)
    (hk : m.kind = 3) (ht : m.term < c1.term) :
    Calls Try.prog 22 #[.pointer (some ⟨n, 0, none⟩), msgV m (.slice ea m.entries.length ec) (.slice da m.data.length dc)] w (CallPost B n lv (hearD c m) w) := by
  have h10 : w.cell? ⟨n, 10, none⟩ = some (.int .i64 c.term) := h.blk.cell 10
  have hlt := h.blk.lt
  have hz := hw
  unfold wrongD at hz
  simp only [Bool.or_eq_false_iff] at hz
  have hn := wrongHead_no hz.1
  have HT : Hid (0 ≤ m.term ∧ m.term ≤ 1099511627776) := ⟨by have := hn.2.2.2.2.1; omega, hn.2.2.2.2.1.2⟩
  clear hn hz
  have HE : Hid (hearD c m = heardD c1 m) := by show _ = _; unfold hearD; rw [hw, hc1]; rfl
  have HW := hid hw
  have H := hid h
  have HL := hid hl
  have HD := hid hd
  have HS1 : Hid (c.term < m.term → ∀ w1 w2, Keeps [] w w1 → CoreAt w2 B n (risesD c m.term 0) lv sv → Keeps [n] w1 w2 → ∃ w3, w3 = (w2.setCell ⟨n, 12, none⟩ (.int .i64 0)).setCell ⟨n, 13, none⟩ (.int .i64 0) ∧ CoreAt w3 B n c1 lv sv ∧ Keeps [n] w w3 ∧ Keeps [n] w1 w3) := fun ht w1 w2 k1 h2 k2 => by
    have k3 : Keeps [n] w2 ((w2.setCell ⟨n, 12, none⟩ (.int .i64 0)).setCell ⟨n, 13, none⟩ (.int .i64 0)) := ((Keeps.refl _ _).setCell (.inl (by simp)) _).setCell (.inl (by simp)) _
    have e : stepD c m = { risesD c m.term 0 with role := 0, leader := 0 } := by unfold stepD; rw [if_pos ht]
    have ho := stepD_ok h.ok hw
    rw [← hc1]
    rw [e] at ho ⊢
    exact ⟨_, rfl, h2.wrote k3 ((h2.blk.set (c' := { risesD c m.term 0 with role := 0 }) 12 _ rfl).set 13 _ rfl) rfl rfl ho, ((k1.mono (G := [n]) (fun _ _ h => by cases h)).trans k2 (fun _ _ h => h)).trans k3 (fun _ _ h => h), k2.trans k3 (fun _ _ h => h)⟩
  have HS0 : Hid (¬ c.term < m.term → c = c1) := fun ht => by rw [← hc1]; unfold stepD; rw [if_neg ht]
  have g1 : (m.kind == 1) = false := by simp [hk]
  have g2 : (m.kind == 2) = false := by simp [hk]
  have g4 : (m.kind == 4) = false := by simp [hk]
  have g5 : (m.kind == 5) = false := by simp [hk]
  have t1 : decide (m.term < c1.term) = true := by simpa using ht
  have HR : Hid (heardD c1 m = (c1, answerD c1 m false (lastD c1))) := by show _ = _; unfold heardD; simp [hk, ht]
  clear hk ht
  clear h hl hd hw hc1
  unfold msgV
  by_cases hs : c.term < m.term
  · have gs : decide (c.term < m.term) = true := by simpa using hs
    have HS := hid hs
    clear hs
    skip
    go_enter Try.func22, Try.ntmps22
    go_wp2_with fail
    refine (wrong_is false _ B n c lv sv m ea da ec dc (Off n lv) (H.out.k ((Keeps.refl [] w).alloc _)) (HL.out.k ((Keeps.refl [] w).alloc _)) HW.out).mono ?_
    rintro e w1 ⟨rfl, hk⟩
    have HK : Hid (Keeps [] w w1) := Keeps.trans (by exact Keeps.K) hk (fun _ _ h => h)
    have HB1 : Hid (w1.heap[w.heap.size]? = some (.cells #[.int .i64 m.kind, .int .i64 m.frm, .int .i64 m.to, .int .i64 m.term, .int .i64 m.a, .int .i64 m.b, .int .i64 m.c, .bool m.ok, .slice ea m.entries.length ec, .slice da m.data.length dc] 40 (0, 0))) := (hk.block w.heap.size (by simp) (by simp)).trans (heap_alloc_new w _)
    have hz1 : w.heap.size < w1.heap.size := (Array.getElem?_eq_some_iff.1 HB1.out).1
    have x10 : w1.cell? ⟨n, 10, none⟩ = some (.int .i64 c.term) := (H.out.k HK.out).blk.cell 10
    obtain ⟨⟨c0, c1', c2, c3, c4, c5, c6, c7, c8, c9⟩, f3⟩ := blk10 HB1.out
    clear hk h10
    go_wp2_with fail
    go_quiet (fail)
    go_wp2_with fail
    refine (rises_any _ B n c lv sv m.term 0 (H.out.k ?_) HT.out).mono ?_
    (· have kk := HK.out; exact Keeps.K)
    rintro e w2 ⟨rfl, hc2, hk2⟩
    have HB2 := (hk2.block w.heap.size (by simp; omega) (by simp; omega)).trans HB1.out
    clear c0 c1' c2 c3 c4 c5 c6 c7 c8 c9 f3 x10
    obtain ⟨⟨c0, c1', c2, c3, c4, c5, c6, c7, c8, c9⟩, f3⟩ := blk10 HB2
    have y12 : w2.cell? ⟨n, 12, none⟩ = some (.int .i64 c.role) := hc2.blk.cell 12
    have y13 : w2.cell? ⟨n, 13, none⟩ = some (.int .i64 c.leader) := hc2.blk.cell 13
    have fz : ∀ i, w2.frozen? ⟨n, i, none⟩ = false := fun i => hc2.blk.free i
    have hnz : n ≠ w.heap.size := by omega
    have HX : Hid (∃ w3, w3 = (w2.setCell ⟨n, 12, none⟩ (.int .i64 0)).setCell ⟨n, 13, none⟩ (.int .i64 0) ∧ CoreAt w3 B n c1 lv sv ∧ Keeps [n] w w3 ∧ Keeps [n] _ w3) := HS1.out HS.out _ w2 (by have kk := HK.out; exact Keeps.K) hc2 hk2
    have HB1' : (w1.drewN nq).heap[w.heap.size]? = some (.cells #[.int .i64 m.kind, .int .i64 m.frm, .int .i64 m.to, .int .i64 m.term, .int .i64 m.a, .int .i64 m.b, .int .i64 m.c, .bool m.ok, .slice ea m.entries.length ec, .slice da m.data.length dc] 40 (0, 0)) := HB1.out
    have hz1' : w.heap.size < (w1.drewN nq).heap.size := hz1
    clear hc2 hk2 HB2
    go_wp2_with fail
    obtain ⟨w3, hw3, hc3, hk3, hk13⟩ := HX.out
    rw [← hw3]
    have HB3 : Hid (w3.heap[w.heap.size]? = some (.cells #[.int .i64 m.kind, .int .i64 m.frm, .int .i64 m.to, .int .i64 m.term, .int .i64 m.a, .int .i64 m.b, .int .i64 m.c, .bool m.ok, .slice ea m.entries.length ec, .slice da m.data.length dc] 40 (0, 0))) := (hk13.block w.heap.size hz1' (by simp; omega)).trans HB1'
    clear y12 y13 fz hw3 HX hk13 HB1' hz1'
    clear c0 c1' c2 c3 c4 c5 c6 c7 c8 c9 f3
    obtain ⟨⟨c0, c1', c2, c3, c4, c5, c6, c7, c8, c9⟩, f3⟩ := blk10 HB3.out
    have y10 : w3.cell? ⟨n, 10, none⟩ = some (.int .i64 c1.term) := hc3.blk.cell 10
    have y12 : w3.cell? ⟨n, 12, none⟩ = some (.int .i64 c1.role) := hc3.blk.cell 12
    have y13 : w3.cell? ⟨n, 13, none⟩ = some (.int .i64 c1.leader) := hc3.blk.cell 13
    have y20 : w3.cell? ⟨n, 20, none⟩ = some (.int .i64 c1.patience) := hc3.blk.cell 20
    have fz : ∀ i, w3.frozen? ⟨n, i, none⟩ = false := fun i => hc3.blk.free i
    have hz3 : w.heap.size < w3.heap.size := (Array.getElem?_eq_some_iff.1 HB3.out).1
    have C3 := hid hc3
    have K3 := hid hk3
    clear hc3 hk3 hz1
    go_quiet (fail)
    go_wp2_with fail
    refine Plan.wp_region_plan (fun wx => wx.cell? ⟨w.heap.size, 0, none⟩ = some (.int .i64 m.kind) ∧ wx.cell? ⟨w.heap.size, 1, none⟩ = some (.int .i64 m.frm) ∧ wx.cell? ⟨w.heap.size, 2, none⟩ = some (.int .i64 m.to) ∧ wx.cell? ⟨w.heap.size, 3, none⟩ = some (.int .i64 m.term) ∧ wx.cell? ⟨w.heap.size, 4, none⟩ = some (.int .i64 m.a) ∧ wx.cell? ⟨w.heap.size, 5, none⟩ = some (.int .i64 m.b) ∧ wx.cell? ⟨w.heap.size, 6, none⟩ = some (.int .i64 m.c) ∧ wx.cell? ⟨w.heap.size, 7, none⟩ = some (.bool m.ok) ∧ wx.cell? ⟨w.heap.size, 8, none⟩ = some (.slice ea m.entries.length ec) ∧ wx.cell? ⟨w.heap.size, 9, none⟩ = some (.slice da m.data.length dc)) 4 [(true, 0), (true, 1), (true, 2), (false, 3)] (by kernel_rfl) (by as_aux_lemma => kernel_rfl) (by kernel_rfl) (fun _ _ _ _ _ h => h) ?_ (fun hS => ?_)
    (· go_simp)
    simp only [Plan.pick, List.append_eq, List.cons_append, List.nil_append, Plan.g1, Plan.g2, Option.getD_some, List.drop_succ_cons, List.drop_zero]
    iterate 3 (first | refine Plan.tA ?_ | refine Plan.tY ?_ | refine Plan.pN ?_ | refine Plan.pU ?_ | fail)
    refine Plan.step ?_
    go_wp2_with fail
    refine (cLast_any _ B n c1 lv sv (C3.out.k ?_)).mono ?_
    (· exact Keeps.K)
    rintro e w' ⟨rfl, k, rfl⟩
    go_wp2_with fail
    refine ⟨?_, ?_⟩
    (· go_simp)
    refine Plan.fin ?_
    go_wp2_with fail
    refine (answer_any _ B n c1 lv sv m ea da ec dc false (lastD c1) (C3.out.k ?_)).mono ?_
    (· exact Keeps.K)
    rintro e w4 hp
    obtain ⟨a, q, lv', sv', rfl, hp2⟩ : CallPost B n lv (c1, answerD c1 m false (lastD c1)) w e w4 := CallPost.after K3.out (CallPost.tells (C3.out.k (by exact Keeps.K)) (Keeps.mono (F := []) (by exact Keeps.K) (fun _ _ h => by cases h)) hp)
    have HP := hid hp2
    clear hp hp2
    go_wp2_with fail
    go_ret
    rw [HE.out, HR.out]
    exact ⟨a, q, lv', sv', rfl, HP.out⟩
  · have gs : decide (c.term < m.term) = false := by simpa using hs
    have HS := hid hs
    clear hs
    skip
    go_enter Try.func22, Try.ntmps22
    go_wp2_with fail
    refine (wrong_is false _ B n c lv sv m ea da ec dc (Off n lv) (H.out.k ((Keeps.refl [] w).alloc _)) (HL.out.k ((Keeps.refl [] w).alloc _)) HW.out).mono ?_
    rintro e w1 ⟨rfl, hk⟩
    have HK : Hid (Keeps [] w w1) := Keeps.trans (by exact Keeps.K) hk (fun _ _ h => h)
    have HB1 : Hid (w1.heap[w.heap.size]? = some (.cells #[.int .i64 m.kind, .int .i64 m.frm, .int .i64 m.to, .int .i64 m.term, .int .i64 m.a, .int .i64 m.b, .int .i64 m.c, .bool m.ok, .slice ea m.entries.length ec, .slice da m.data.length dc] 40 (0, 0))) := (hk.block w.heap.size (by simp) (by simp)).trans (heap_alloc_new w _)
    have hz1 : w.heap.size < w1.heap.size := (Array.getElem?_eq_some_iff.1 HB1.out).1
    have x10 : w1.cell? ⟨n, 10, none⟩ = some (.int .i64 c.term) := (H.out.k HK.out).blk.cell 10
    obtain ⟨⟨c0, c1', c2, c3, c4, c5, c6, c7, c8, c9⟩, f3⟩ := blk10 HB1.out
    clear hk h10
    go_wp2_with fail
    go_quiet (fail)
    have HX : Hid (∃ w3, w3 = w1.drewN nq ∧ CoreAt w3 B n c1 lv sv ∧ Keeps [n] w w3 ∧ w3.heap[w.heap.size]? = some (.cells #[.int .i64 m.kind, .int .i64 m.frm, .int .i64 m.to, .int .i64 m.term, .int .i64 m.a, .int .i64 m.b, .int .i64 m.c, .bool m.ok, .slice ea m.entries.length ec, .slice da m.data.length dc] 40 (0, 0))) := ⟨_, rfl, by rw [← HS0.out HS.out]; exact H.out.k (by have kk := HK.out; exact Keeps.K), Keeps.mono (F := []) (by have kk := HK.out; exact Keeps.K) (fun _ _ h => by cases h), HB1.out⟩
    obtain ⟨w3, hw3, hc3, hk3, hb3⟩ := HX.out
    rw [← hw3]
    have HB3 := hid hb3
    have hnz : n ≠ w.heap.size := by omega
    clear hw3 HX hb3
    clear c0 c1' c2 c3 c4 c5 c6 c7 c8 c9 f3
    clear x10
    obtain ⟨⟨c0, c1', c2, c3, c4, c5, c6, c7, c8, c9⟩, f3⟩ := blk10 HB3.out
    have y10 : w3.cell? ⟨n, 10, none⟩ = some (.int .i64 c1.term) := hc3.blk.cell 10
    have y12 : w3.cell? ⟨n, 12, none⟩ = some (.int .i64 c1.role) := hc3.blk.cell 12
    have y13 : w3.cell? ⟨n, 13, none⟩ = some (.int .i64 c1.leader) := hc3.blk.cell 13
    have y20 : w3.cell? ⟨n, 20, none⟩ = some (.int .i64 c1.patience) := hc3.blk.cell 20
    have fz : ∀ i, w3.frozen? ⟨n, i, none⟩ = false := fun i => hc3.blk.free i
    have hz3 : w.heap.size < w3.heap.size := (Array.getElem?_eq_some_iff.1 HB3.out).1
    have C3 := hid hc3
    have K3 := hid hk3
    clear hc3 hk3 hz1
    go_wp2_with fail
    go_quiet (fail)
    go_wp2_with fail
    refine Plan.wp_region_plan (fun wx => wx.cell? ⟨w.heap.size, 0, none⟩ = some (.int .i64 m.kind) ∧ wx.cell? ⟨w.heap.size, 1, none⟩ = some (.int .i64 m.frm) ∧ wx.cell? ⟨w.heap.size, 2, none⟩ = some (.int .i64 m.to) ∧ wx.cell? ⟨w.heap.size, 3, none⟩ = some (.int .i64 m.term) ∧ wx.cell? ⟨w.heap.size, 4, none⟩ = some (.int .i64 m.a) ∧ wx.cell? ⟨w.heap.size, 5, none⟩ = some (.int .i64 m.b) ∧ wx.cell? ⟨w.heap.size, 6, none⟩ = some (.int .i64 m.c) ∧ wx.cell? ⟨w.heap.size, 7, none⟩ = some (.bool m.ok) ∧ wx.cell? ⟨w.heap.size, 8, none⟩ = some (.slice ea m.entries.length ec) ∧ wx.cell? ⟨w.heap.size, 9, none⟩ = some (.slice da m.data.length dc)) 4 [(true, 0), (true, 1), (true, 2), (false, 3)] (by kernel_rfl) (by as_aux_lemma => kernel_rfl) (by kernel_rfl) (fun _ _ _ _ _ h => h) ?_ (fun hS => ?_)
    (· go_simp)
    simp only [Plan.pick, List.append_eq, List.cons_append, List.nil_append, Plan.g1, Plan.g2, Option.getD_some, List.drop_succ_cons, List.drop_zero]
    iterate 3 (first | refine Plan.tA ?_ | refine Plan.tY ?_ | refine Plan.pN ?_ | refine Plan.pU ?_ | fail)
    refine Plan.step ?_
    go_wp2_with fail
    refine (cLast_any _ B n c1 lv sv (C3.out.k ?_)).mono ?_
    (· exact Keeps.K)
    rintro e w' ⟨rfl, k, rfl⟩
    go_wp2_with fail
    refine ⟨?_, ?_⟩
    (· go_simp)
    refine Plan.fin ?_
    go_wp2_with fail
    refine (answer_any _ B n c1 lv sv m ea da ec dc false (lastD c1) (C3.out.k ?_)).mono ?_
    (· exact Keeps.K)
    rintro e w4 hp
    obtain ⟨a, q, lv', sv', rfl, hp2⟩ : CallPost B n lv (c1, answerD c1 m false (lastD c1)) w e w4 := CallPost.after K3.out (CallPost.tells (C3.out.k (by exact Keeps.K)) (Keeps.mono (F := []) (by exact Keeps.K) (fun _ _ h => by cases h)) hp)
    have HP := hid hp2
    clear hp hp2
    go_wp2_with fail
    go_ret
    rw [HE.out, HR.out]
    exact ⟨a, q, lv', sv', rfl, HP.out⟩

set_option maxRecDepth 100000 in
set_option maxHeartbeats 6400000 in
theorem hear_5A (w : World) (B n : Nat) (c c1 : CoreD) (lv sv : Value) (m : MsgD) (ea da : Option Addr) (ec dc : Nat) (h : CoreAt w B n c lv sv) (hl : ListAt entL w (Off n lv) (.slice ea m.entries.length ec) m.entries) (hd : BytesAt w (Off n lv) (.slice da m.data.length dc) m.data) (hw : wrongD c m = false) (hc1 : stepD c m = c1)
    (hk : m.kind = 5) (ht : m.term < c1.term) :
    Calls Try.prog 22 #[.pointer (some ⟨n, 0, none⟩), msgV m (.slice ea m.entries.length ec) (.slice da m.data.length dc)] w (CallPost B n lv (hearD c m) w) := by
  have h10 : w.cell? ⟨n, 10, none⟩ = some (.int .i64 c.term) := h.blk.cell 10
  have hlt := h.blk.lt
  have hz := hw
  unfold wrongD at hz
  simp only [Bool.or_eq_false_iff] at hz
  have hn := wrongHead_no hz.1
  have HT : Hid (0 ≤ m.term ∧ m.term ≤ 1099511627776) := ⟨by have := hn.2.2.2.2.1; omega, hn.2.2.2.2.1.2⟩
  clear hn hz
  have HE : Hid (hearD c m = heardD c1 m) := by show _ = _; unfold hearD; rw [hw, hc1]; rfl
  have HW := hid hw
  have H := hid h
  have HL := hid hl
  have HD := hid hd
  have HS1 : Hid (c.term < m.term → ∀ w1 w2, Keeps [] w w1 → CoreAt w2 B n (risesD c m.term 0) lv sv → Keeps [n] w1 w2 → ∃ w3, w3 = (w2.setCell ⟨n, 12, none⟩ (.int .i64 0)).setCell ⟨n, 13, none⟩ (.int .i64 0) ∧ CoreAt w3 B n c1 lv sv ∧ Keeps [n] w w3 ∧ Keeps [n] w1 w3) := fun ht w1 w2 k1 h2 k2 => by
    have k3 : Keeps [n] w2 ((w2.setCell ⟨n, 12, none⟩ (.int .i64 0)).setCell ⟨n, 13, none⟩ (.int .i64 0)) := ((Keeps.refl _ _).setCell (.inl (by simp)) _).setCell (.inl (by simp)) _
    have e : stepD c m = { risesD c m.term 0 with role := 0, leader := 0 } := by unfold stepD; rw [if_pos ht]
    have ho := stepD_ok h.ok hw
    rw [← hc1]
    rw [e] at ho ⊢
    exact ⟨_, rfl, h2.wrote k3 ((h2.blk.set (c' := { risesD c m.term 0 with role := 0 }) 12 _ rfl).set 13 _ rfl) rfl rfl ho, ((k1.mono (G := [n]) (fun _ _ h => by cases h)).trans k2 (fun _ _ h => h)).trans k3 (fun _ _ h => h), k2.trans k3 (fun _ _ h => h)⟩
  have HS0 : Hid (¬ c.term < m.term → c = c1) := fun ht => by rw [← hc1]; unfold stepD; rw [if_neg ht]
  have g1 : (m.kind == 1) = false := by simp [hk]
  have g2 : (m.kind == 2) = false := by simp [hk]
  have g4 : (m.kind == 4) = false := by simp [hk]
  have g5 : (m.kind == 5) = true := by simp [hk]
  have t1 : decide (m.term < c1.term) = true := by simpa using ht
  have HR : Hid (heardD c1 m = (c1, answerD c1 m false (lastD c1))) := by show _ = _; unfold heardD; simp [hk, ht]
  clear hk ht
  clear h hl hd hw hc1
  unfold msgV
  by_cases hs : c.term < m.term
  · have gs : decide (c.term < m.term) = true := by simpa using hs
    have HS := hid hs
    clear hs
    skip
    go_enter Try.func22, Try.ntmps22
    go_wp2_with fail
    refine (wrong_is false _ B n c lv sv m ea da ec dc (Off n lv) (H.out.k ((Keeps.refl [] w).alloc _)) (HL.out.k ((Keeps.refl [] w).alloc _)) HW.out).mono ?_
    rintro e w1 ⟨rfl, hk⟩
    have HK : Hid (Keeps [] w w1) := Keeps.trans (by exact Keeps.K) hk (fun _ _ h => h)
    have HB1 : Hid (w1.heap[w.heap.size]? = some (.cells #[.int .i64 m.kind, .int .i64 m.frm, .int .i64 m.to, .int .i64 m.term, .int .i64 m.a, .int .i64 m.b, .int .i64 m.c, .bool m.ok, .slice ea m.entries.length ec, .slice da m.data.length dc] 40 (0, 0))) := (hk.block w.heap.size (by simp) (by simp)).trans (heap_alloc_new w _)
    have hz1 : w.heap.size < w1.heap.size := (Array.getElem?_eq_some_iff.1 HB1.out).1
    have x10 : w1.cell? ⟨n, 10, none⟩ = some (.int .i64 c.term) := (H.out.k HK.out).blk.cell 10
    obtain ⟨⟨c0, c1', c2, c3, c4, c5, c6, c7, c8, c9⟩, f3⟩ := blk10 HB1.out
    clear hk h10
    go_wp2_with fail
    go_quiet (fail)
    go_wp2_with fail
    refine (rises_any _ B n c lv sv m.term 0 (H.out.k ?_) HT.out).mono ?_
    (· have kk := HK.out; exact Keeps.K)
    rintro e w2 ⟨rfl, hc2, hk2⟩
    have HB2 := (hk2.block w.heap.size (by simp; omega) (by simp; omega)).trans HB1.out
    clear c0 c1' c2 c3 c4 c5 c6 c7 c8 c9 f3 x10
    obtain ⟨⟨c0, c1', c2, c3, c4, c5, c6, c7, c8, c9⟩, f3⟩ := blk10 HB2
    have y12 : w2.cell? ⟨n, 12, none⟩ = some (.int .i64 c.role) := hc2.blk.cell 12
    have y13 : w2.cell? ⟨n, 13, none⟩ = some (.int .i64 c.leader) := hc2.blk.cell 13
    have fz : ∀ i, w2.frozen? ⟨n, i, none⟩ = false := fun i => hc2.blk.free i
    have hnz : n ≠ w.heap.size := by omega
    have HX : Hid (∃ w3, w3 = (w2.setCell ⟨n, 12, none⟩ (.int .i64 0)).setCell ⟨n, 13, none⟩ (.int .i64 0) ∧ CoreAt w3 B n c1 lv sv ∧ Keeps [n] w w3 ∧ Keeps [n] _ w3) := HS1.out HS.out _ w2 (by have kk := HK.out; exact Keeps.K) hc2 hk2
    have HB1' : (w1.drewN nq).heap[w.heap.size]? = some (.cells #[.int .i64 m.kind, .int .i64 m.frm, .int .i64 m.to, .int .i64 m.term, .int .i64 m.a, .int .i64 m.b, .int .i64 m.c, .bool m.ok, .slice ea m.entries.length ec, .slice da m.data.length dc] 40 (0, 0)) := HB1.out
    have hz1' : w.heap.size < (w1.drewN nq).heap.size := hz1
    clear hc2 hk2 HB2
    go_wp2_with fail
    obtain ⟨w3, hw3, hc3, hk3, hk13⟩ := HX.out
    rw [← hw3]
    have HB3 : Hid (w3.heap[w.heap.size]? = some (.cells #[.int .i64 m.kind, .int .i64 m.frm, .int .i64 m.to, .int .i64 m.term, .int .i64 m.a, .int .i64 m.b, .int .i64 m.c, .bool m.ok, .slice ea m.entries.length ec, .slice da m.data.length dc] 40 (0, 0))) := (hk13.block w.heap.size hz1' (by simp; omega)).trans HB1'
    clear y12 y13 fz hw3 HX hk13 HB1' hz1'
    clear c0 c1' c2 c3 c4 c5 c6 c7 c8 c9 f3
    obtain ⟨⟨c0, c1', c2, c3, c4, c5, c6, c7, c8, c9⟩, f3⟩ := blk10 HB3.out
    have y10 : w3.cell? ⟨n, 10, none⟩ = some (.int .i64 c1.term) := hc3.blk.cell 10
    have y12 : w3.cell? ⟨n, 12, none⟩ = some (.int .i64 c1.role) := hc3.blk.cell 12
    have y13 : w3.cell? ⟨n, 13, none⟩ = some (.int .i64 c1.leader) := hc3.blk.cell 13
    have y20 : w3.cell? ⟨n, 20, none⟩ = some (.int .i64 c1.patience) := hc3.blk.cell 20
    have fz : ∀ i, w3.frozen? ⟨n, i, none⟩ = false := fun i => hc3.blk.free i
    have hz3 : w.heap.size < w3.heap.size := (Array.getElem?_eq_some_iff.1 HB3.out).1
    have C3 := hid hc3
    have K3 := hid hk3
    clear hc3 hk3 hz1
    go_quiet (fail)
    go_wp2_with fail
    refine Plan.wp_region_plan (fun wx => wx.cell? ⟨w.heap.size, 0, none⟩ = some (.int .i64 m.kind) ∧ wx.cell? ⟨w.heap.size, 1, none⟩ = some (.int .i64 m.frm) ∧ wx.cell? ⟨w.heap.size, 2, none⟩ = some (.int .i64 m.to) ∧ wx.cell? ⟨w.heap.size, 3, none⟩ = some (.int .i64 m.term) ∧ wx.cell? ⟨w.heap.size, 4, none⟩ = some (.int .i64 m.a) ∧ wx.cell? ⟨w.heap.size, 5, none⟩ = some (.int .i64 m.b) ∧ wx.cell? ⟨w.heap.size, 6, none⟩ = some (.int .i64 m.c) ∧ wx.cell? ⟨w.heap.size, 7, none⟩ = some (.bool m.ok) ∧ wx.cell? ⟨w.heap.size, 8, none⟩ = some (.slice ea m.entries.length ec) ∧ wx.cell? ⟨w.heap.size, 9, none⟩ = some (.slice da m.data.length dc)) 4 [(true, 0), (true, 1), (true, 2), (false, 3)] (by kernel_rfl) (by as_aux_lemma => kernel_rfl) (by kernel_rfl) (fun _ _ _ _ _ h => h) ?_ (fun hS => ?_)
    (· go_simp)
    simp only [Plan.pick, List.append_eq, List.cons_append, List.nil_append, Plan.g1, Plan.g2, Option.getD_some, List.drop_succ_cons, List.drop_zero]
    iterate 3 (first | refine Plan.tA ?_ | refine Plan.tY ?_ | refine Plan.pN ?_ | refine Plan.pU ?_ | fail)
    refine Plan.step ?_
    go_wp2_with fail
    refine (cLast_any _ B n c1 lv sv (C3.out.k ?_)).mono ?_
    (· exact Keeps.K)
    rintro e w' ⟨rfl, k, rfl⟩
    go_wp2_with fail
    refine ⟨?_, ?_⟩
    (· go_simp)
    refine Plan.fin ?_
    go_wp2_with fail
    refine (answer_any _ B n c1 lv sv m ea da ec dc false (lastD c1) (C3.out.k ?_)).mono ?_
    (· exact Keeps.K)
    rintro e w4 hp
    obtain ⟨a, q, lv', sv', rfl, hp2⟩ : CallPost B n lv (c1, answerD c1 m false (lastD c1)) w e w4 := CallPost.after K3.out (CallPost.tells (C3.out.k (by exact Keeps.K)) (Keeps.mono (F := []) (by exact Keeps.K) (fun _ _ h => by cases h)) hp)
    have HP := hid hp2
    clear hp hp2
    go_wp2_with fail
    go_ret
    rw [HE.out, HR.out]
    exact ⟨a, q, lv', sv', rfl, HP.out⟩
  · have gs : decide (c.term < m.term) = false := by simpa using hs
    have HS := hid hs
    clear hs
    skip
    go_enter Try.func22, Try.ntmps22
    go_wp2_with fail
    refine (wrong_is false _ B n c lv sv m ea da ec dc (Off n lv) (H.out.k ((Keeps.refl [] w).alloc _)) (HL.out.k ((Keeps.refl [] w).alloc _)) HW.out).mono ?_
    rintro e w1 ⟨rfl, hk⟩
    have HK : Hid (Keeps [] w w1) := Keeps.trans (by exact Keeps.K) hk (fun _ _ h => h)
    have HB1 : Hid (w1.heap[w.heap.size]? = some (.cells #[.int .i64 m.kind, .int .i64 m.frm, .int .i64 m.to, .int .i64 m.term, .int .i64 m.a, .int .i64 m.b, .int .i64 m.c, .bool m.ok, .slice ea m.entries.length ec, .slice da m.data.length dc] 40 (0, 0))) := (hk.block w.heap.size (by simp) (by simp)).trans (heap_alloc_new w _)
    have hz1 : w.heap.size < w1.heap.size := (Array.getElem?_eq_some_iff.1 HB1.out).1
    have x10 : w1.cell? ⟨n, 10, none⟩ = some (.int .i64 c.term) := (H.out.k HK.out).blk.cell 10
    obtain ⟨⟨c0, c1', c2, c3, c4, c5, c6, c7, c8, c9⟩, f3⟩ := blk10 HB1.out
    clear hk h10
    go_wp2_with fail
    go_quiet (fail)
    have HX : Hid (∃ w3, w3 = w1.drewN nq ∧ CoreAt w3 B n c1 lv sv ∧ Keeps [n] w w3 ∧ w3.heap[w.heap.size]? = some (.cells #[.int .i64 m.kind, .int .i64 m.frm, .int .i64 m.to, .int .i64 m.term, .int .i64 m.a, .int .i64 m.b, .int .i64 m.c, .bool m.ok, .slice ea m.entries.length ec, .slice da m.data.length dc] 40 (0, 0))) := ⟨_, rfl, by rw [← HS0.out HS.out]; exact H.out.k (by have kk := HK.out; exact Keeps.K), Keeps.mono (F := []) (by have kk := HK.out; exact Keeps.K) (fun _ _ h => by cases h), HB1.out⟩
    obtain ⟨w3, hw3, hc3, hk3, hb3⟩ := HX.out
    rw [← hw3]
    have HB3 := hid hb3
    have hnz : n ≠ w.heap.size := by omega
    clear hw3 HX hb3
    clear c0 c1' c2 c3 c4 c5 c6 c7 c8 c9 f3
    clear x10
    obtain ⟨⟨c0, c1', c2, c3, c4, c5, c6, c7, c8, c9⟩, f3⟩ := blk10 HB3.out
    have y10 : w3.cell? ⟨n, 10, none⟩ = some (.int .i64 c1.term) := hc3.blk.cell 10
    have y12 : w3.cell? ⟨n, 12, none⟩ = some (.int .i64 c1.role) := hc3.blk.cell 12
    have y13 : w3.cell? ⟨n, 13, none⟩ = some (.int .i64 c1.leader) := hc3.blk.cell 13
    have y20 : w3.cell? ⟨n, 20, none⟩ = some (.int .i64 c1.patience) := hc3.blk.cell 20
    have fz : ∀ i, w3.frozen? ⟨n, i, none⟩ = false := fun i => hc3.blk.free i
    have hz3 : w.heap.size < w3.heap.size := (Array.getElem?_eq_some_iff.1 HB3.out).1
    have C3 := hid hc3
    have K3 := hid hk3
    clear hc3 hk3 hz1
    go_wp2_with fail
    go_quiet (fail)
    go_wp2_with fail
    refine Plan.wp_region_plan (fun wx => wx.cell? ⟨w.heap.size, 0, none⟩ = some (.int .i64 m.kind) ∧ wx.cell? ⟨w.heap.size, 1, none⟩ = some (.int .i64 m.frm) ∧ wx.cell? ⟨w.heap.size, 2, none⟩ = some (.int .i64 m.to) ∧ wx.cell? ⟨w.heap.size, 3, none⟩ = some (.int .i64 m.term) ∧ wx.cell? ⟨w.heap.size, 4, none⟩ = some (.int .i64 m.a) ∧ wx.cell? ⟨w.heap.size, 5, none⟩ = some (.int .i64 m.b) ∧ wx.cell? ⟨w.heap.size, 6, none⟩ = some (.int .i64 m.c) ∧ wx.cell? ⟨w.heap.size, 7, none⟩ = some (.bool m.ok) ∧ wx.cell? ⟨w.heap.size, 8, none⟩ = some (.slice ea m.entries.length ec) ∧ wx.cell? ⟨w.heap.size, 9, none⟩ = some (.slice da m.data.length dc)) 4 [(true, 0), (true, 1), (true, 2), (false, 3)] (by kernel_rfl) (by as_aux_lemma => kernel_rfl) (by kernel_rfl) (fun _ _ _ _ _ h => h) ?_ (fun hS => ?_)
    (· go_simp)
    simp only [Plan.pick, List.append_eq, List.cons_append, List.nil_append, Plan.g1, Plan.g2, Option.getD_some, List.drop_succ_cons, List.drop_zero]
    iterate 3 (first | refine Plan.tA ?_ | refine Plan.tY ?_ | refine Plan.pN ?_ | refine Plan.pU ?_ | fail)
    refine Plan.step ?_
    go_wp2_with fail
    refine (cLast_any _ B n c1 lv sv (C3.out.k ?_)).mono ?_
    (· exact Keeps.K)
    rintro e w' ⟨rfl, k, rfl⟩
    go_wp2_with fail
    refine ⟨?_, ?_⟩
    (· go_simp)
    refine Plan.fin ?_
    go_wp2_with fail
    refine (answer_any _ B n c1 lv sv m ea da ec dc false (lastD c1) (C3.out.k ?_)).mono ?_
    (· exact Keeps.K)
    rintro e w4 hp
    obtain ⟨a, q, lv', sv', rfl, hp2⟩ : CallPost B n lv (c1, answerD c1 m false (lastD c1)) w e w4 := CallPost.after K3.out (CallPost.tells (C3.out.k (by exact Keeps.K)) (Keeps.mono (F := []) (by exact Keeps.K) (fun _ _ h => by cases h)) hp)
    have HP := hid hp2
    clear hp hp2
    go_wp2_with fail
    go_ret
    rw [HE.out, HR.out]
    exact ⟨a, q, lv', sv', rfl, HP.out⟩

set_option maxRecDepth 100000 in
set_option maxHeartbeats 6400000 in
theorem hear_3B (w : World) (B n : Nat) (c c1 : CoreD) (lv sv : Value) (m : MsgD) (ea da : Option Addr) (ec dc : Nat) (h : CoreAt w B n c lv sv) (hl : ListAt entL w (Off n lv) (.slice ea m.entries.length ec) m.entries) (hd : BytesAt w (Off n lv) (.slice da m.data.length dc) m.data) (hw : wrongD c m = false) (hc1 : stepD c m = c1)
    (hk : m.kind = 3) (ht : c1.term ≤ m.term) (hr : c1.role = 2) :
    Calls Try.prog 22 #[.pointer (some ⟨n, 0, none⟩), msgV m (.slice ea m.entries.length ec) (.slice da m.data.length dc)] w (CallPost B n lv (hearD c m) w) := by
  have h10 : w.cell? ⟨n, 10, none⟩ = some (.int .i64 c.term) := h.blk.cell 10
  have hlt := h.blk.lt
  have hz := hw
  unfold wrongD at hz
  simp only [Bool.or_eq_false_iff] at hz
  have hn := wrongHead_no hz.1
  have HT : Hid (0 ≤ m.term ∧ m.term ≤ 1099511627776) := ⟨by have := hn.2.2.2.2.1; omega, hn.2.2.2.2.1.2⟩
  clear hn hz
  have HE : Hid (hearD c m = heardD c1 m) := by show _ = _; unfold hearD; rw [hw, hc1]; rfl
  have HW := hid hw
  have H := hid h
  have HL := hid hl
  have HD := hid hd
  have HS1 : Hid (c.term < m.term → ∀ w1 w2, Keeps [] w w1 → CoreAt w2 B n (risesD c m.term 0) lv sv → Keeps [n] w1 w2 → ∃ w3, w3 = (w2.setCell ⟨n, 12, none⟩ (.int .i64 0)).setCell ⟨n, 13, none⟩ (.int .i64 0) ∧ CoreAt w3 B n c1 lv sv ∧ Keeps [n] w w3 ∧ Keeps [n] w1 w3) := fun ht w1 w2 k1 h2 k2 => by
    have k3 : Keeps [n] w2 ((w2.setCell ⟨n, 12, none⟩ (.int .i64 0)).setCell ⟨n, 13, none⟩ (.int .i64 0)) := ((Keeps.refl _ _).setCell (.inl (by simp)) _).setCell (.inl (by simp)) _
    have e : stepD c m = { risesD c m.term 0 with role := 0, leader := 0 } := by unfold stepD; rw [if_pos ht]
    have ho := stepD_ok h.ok hw
    rw [← hc1]
    rw [e] at ho ⊢
    exact ⟨_, rfl, h2.wrote k3 ((h2.blk.set (c' := { risesD c m.term 0 with role := 0 }) 12 _ rfl).set 13 _ rfl) rfl rfl ho, ((k1.mono (G := [n]) (fun _ _ h => by cases h)).trans k2 (fun _ _ h => h)).trans k3 (fun _ _ h => h), k2.trans k3 (fun _ _ h => h)⟩
  have HS0 : Hid (¬ c.term < m.term → c = c1) := fun ht => by rw [← hc1]; unfold stepD; rw [if_neg ht]
  have g1 : (m.kind == 1) = false := by simp [hk]
  have g2 : (m.kind == 2) = false := by simp [hk]
  have g4 : (m.kind == 4) = false := by simp [hk]
  have g5 : (m.kind == 5) = false := by simp [hk]
  have t1 : decide (m.term < c1.term) = false := by simpa using ht
  have r1 : (c1.role == 2) = true := by simp [hr]
  have HR : Hid (heardD c1 m = (c1, [])) := by show _ = _; unfold heardD; simp [hk, hr, Int.not_lt.2 ht]
  clear hk ht hr
  clear h hl hd hw hc1
  unfold msgV
  by_cases hs : c.term < m.term
  · have gs : decide (c.term < m.term) = true := by simpa using hs
    have HS := hid hs
    clear hs
    skip
    go_enter Try.func22, Try.ntmps22
    go_wp2_with fail
    refine (wrong_is false _ B n c lv sv m ea da ec dc (Off n lv) (H.out.k ((Keeps.refl [] w).alloc _)) (HL.out.k ((Keeps.refl [] w).alloc _)) HW.out).mono ?_
    rintro e w1 ⟨rfl, hk⟩
    have HK : Hid (Keeps [] w w1) := Keeps.trans (by exact Keeps.K) hk (fun _ _ h => h)
    have HB1 : Hid (w1.heap[w.heap.size]? = some (.cells #[.int .i64 m.kind, .int .i64 m.frm, .int .i64 m.to, .int .i64 m.term, .int .i64 m.a, .int .i64 m.b, .int .i64 m.c, .bool m.ok, .slice ea m.entries.length ec, .slice da m.data.length dc] 40 (0, 0))) := (hk.block w.heap.size (by simp) (by simp)).trans (heap_alloc_new w _)
    have hz1 : w.heap.size < w1.heap.size := (Array.getElem?_eq_some_iff.1 HB1.out).1
    have x10 : w1.cell? ⟨n, 10, none⟩ = some (.int .i64 c.term) := (H.out.k HK.out).blk.cell 10
    obtain ⟨⟨c0, c1', c2, c3, c4, c5, c6, c7, c8, c9⟩, f3⟩ := blk10 HB1.out
    clear hk h10
    go_wp2_with fail
    go_quiet (fail)
    go_wp2_with fail
    refine (rises_any _ B n c lv sv m.term 0 (H.out.k ?_) HT.out).mono ?_
    (· have kk := HK.out; exact Keeps.K)
    rintro e w2 ⟨rfl, hc2, hk2⟩
    have HB2 := (hk2.block w.heap.size (by simp; omega) (by simp; omega)).trans HB1.out
    clear c0 c1' c2 c3 c4 c5 c6 c7 c8 c9 f3 x10
    obtain ⟨⟨c0, c1', c2, c3, c4, c5, c6, c7, c8, c9⟩, f3⟩ := blk10 HB2
    have y12 : w2.cell? ⟨n, 12, none⟩ = some (.int .i64 c.role) := hc2.blk.cell 12
    have y13 : w2.cell? ⟨n, 13, none⟩ = some (.int .i64 c.leader) := hc2.blk.cell 13
    have fz : ∀ i, w2.frozen? ⟨n, i, none⟩ = false := fun i => hc2.blk.free i
    have hnz : n ≠ w.heap.size := by omega
    have HX : Hid (∃ w3, w3 = (w2.setCell ⟨n, 12, none⟩ (.int .i64 0)).setCell ⟨n, 13, none⟩ (.int .i64 0) ∧ CoreAt w3 B n c1 lv sv ∧ Keeps [n] w w3 ∧ Keeps [n] _ w3) := HS1.out HS.out _ w2 (by have kk := HK.out; exact Keeps.K) hc2 hk2
    have HB1' : (w1.drewN nq).heap[w.heap.size]? = some (.cells #[.int .i64 m.kind, .int .i64 m.frm, .int .i64 m.to, .int .i64 m.term, .int .i64 m.a, .int .i64 m.b, .int .i64 m.c, .bool m.ok, .slice ea m.entries.length ec, .slice da m.data.length dc] 40 (0, 0)) := HB1.out
    have hz1' : w.heap.size < (w1.drewN nq).heap.size := hz1
    clear hc2 hk2 HB2
    go_wp2_with fail
    obtain ⟨w3, hw3, hc3, hk3, hk13⟩ := HX.out
    rw [← hw3]
    have HB3 : Hid (w3.heap[w.heap.size]? = some (.cells #[.int .i64 m.kind, .int .i64 m.frm, .int .i64 m.to, .int .i64 m.term, .int .i64 m.a, .int .i64 m.b, .int .i64 m.c, .bool m.ok, .slice ea m.entries.length ec, .slice da m.data.length dc] 40 (0, 0))) := (hk13.block w.heap.size hz1' (by simp; omega)).trans HB1'
    clear y12 y13 fz hw3 HX hk13 HB1' hz1'
    clear c0 c1' c2 c3 c4 c5 c6 c7 c8 c9 f3
    obtain ⟨⟨c0, c1', c2, c3, c4, c5, c6, c7, c8, c9⟩, f3⟩ := blk10 HB3.out
    have y10 : w3.cell? ⟨n, 10, none⟩ = some (.int .i64 c1.term) := hc3.blk.cell 10
    have y12 : w3.cell? ⟨n, 12, none⟩ = some (.int .i64 c1.role) := hc3.blk.cell 12
    have y13 : w3.cell? ⟨n, 13, none⟩ = some (.int .i64 c1.leader) := hc3.blk.cell 13
    have y20 : w3.cell? ⟨n, 20, none⟩ = some (.int .i64 c1.patience) := hc3.blk.cell 20
    have fz : ∀ i, w3.frozen? ⟨n, i, none⟩ = false := fun i => hc3.blk.free i
    have hz3 : w.heap.size < w3.heap.size := (Array.getElem?_eq_some_iff.1 HB3.out).1
    have C3 := hid hc3
    have K3 := hid hk3
    clear hc3 hk3 hz1
    go_quiet (fail)
    go_wp2_with fail
    go_ret
    rw [HE.out, HR.out]
    exact CallPost.after K3.out (CallPost.silent rfl (C3.out.k (by exact Keeps.K)) (Keeps.mono (F := []) (by exact Keeps.K) (fun _ _ h => by cases h)))
  · have gs : decide (c.term < m.term) = false := by simpa using hs
    have HS := hid hs
    clear hs
    skip
    go_enter Try.func22, Try.ntmps22
    go_wp2_with fail
    refine (wrong_is false _ B n c lv sv m ea da ec dc (Off n lv) (H.out.k ((Keeps.refl [] w).alloc _)) (HL.out.k ((Keeps.refl [] w).alloc _)) HW.out).mono ?_
    rintro e w1 ⟨rfl, hk⟩
    have HK : Hid (Keeps [] w w1) := Keeps.trans (by exact Keeps.K) hk (fun _ _ h => h)
    have HB1 : Hid (w1.heap[w.heap.size]? = some (.cells #[.int .i64 m.kind, .int .i64 m.frm, .int .i64 m.to, .int .i64 m.term, .int .i64 m.a, .int .i64 m.b, .int .i64 m.c, .bool m.ok, .slice ea m.entries.length ec, .slice da m.data.length dc] 40 (0, 0))) := (hk.block w.heap.size (by simp) (by simp)).trans (heap_alloc_new w _)
    have hz1 : w.heap.size < w1.heap.size := (Array.getElem?_eq_some_iff.1 HB1.out).1
    have x10 : w1.cell? ⟨n, 10, none⟩ = some (.int .i64 c.term) := (H.out.k HK.out).blk.cell 10
    obtain ⟨⟨c0, c1', c2, c3, c4, c5, c6, c7, c8, c9⟩, f3⟩ := blk10 HB1.out
    clear hk h10
    go_wp2_with fail
    go_quiet (fail)
    have HX : Hid (∃ w3, w3 = w1.drewN nq ∧ CoreAt w3 B n c1 lv sv ∧ Keeps [n] w w3 ∧ w3.heap[w.heap.size]? = some (.cells #[.int .i64 m.kind, .int .i64 m.frm, .int .i64 m.to, .int .i64 m.term, .int .i64 m.a, .int .i64 m.b, .int .i64 m.c, .bool m.ok, .slice ea m.entries.length ec, .slice da m.data.length dc] 40 (0, 0))) := ⟨_, rfl, by rw [← HS0.out HS.out]; exact H.out.k (by have kk := HK.out; exact Keeps.K), Keeps.mono (F := []) (by have kk := HK.out; exact Keeps.K) (fun _ _ h => by cases h), HB1.out⟩
    obtain ⟨w3, hw3, hc3, hk3, hb3⟩ := HX.out
    rw [← hw3]
    have HB3 := hid hb3
    have hnz : n ≠ w.heap.size := by omega
    clear hw3 HX hb3
    clear c0 c1' c2 c3 c4 c5 c6 c7 c8 c9 f3
    clear x10
    obtain ⟨⟨c0, c1', c2, c3, c4, c5, c6, c7, c8, c9⟩, f3⟩ := blk10 HB3.out
    have y10 : w3.cell? ⟨n, 10, none⟩ = some (.int .i64 c1.term) := hc3.blk.cell 10
    have y12 : w3.cell? ⟨n, 12, none⟩ = some (.int .i64 c1.role) := hc3.blk.cell 12
    have y13 : w3.cell? ⟨n, 13, none⟩ = some (.int .i64 c1.leader) := hc3.blk.cell 13
    have y20 : w3.cell? ⟨n, 20, none⟩ = some (.int .i64 c1.patience) := hc3.blk.cell 20
    have fz : ∀ i, w3.frozen? ⟨n, i, none⟩ = false := fun i => hc3.blk.free i
    have hz3 : w.heap.size < w3.heap.size := (Array.getElem?_eq_some_iff.1 HB3.out).1
    have C3 := hid hc3
    have K3 := hid hk3
    clear hc3 hk3 hz1
    go_wp2_with fail
    go_quiet (fail)
    go_wp2_with fail
    go_ret
    rw [HE.out, HR.out]
    exact CallPost.after K3.out (CallPost.silent rfl (C3.out.k (by exact Keeps.K)) (Keeps.mono (F := []) (by exact Keeps.K) (fun _ _ h => by cases h)))

set_option maxRecDepth 100000 in
set_option maxHeartbeats 6400000 in
theorem hear_5B (w : World) (B n : Nat) (c c1 : CoreD) (lv sv : Value) (m : MsgD) (ea da : Option Addr) (ec dc : Nat) (h : CoreAt w B n c lv sv) (hl : ListAt entL w (Off n lv) (.slice ea m.entries.length ec) m.entries) (hd : BytesAt w (Off n lv) (.slice da m.data.length dc) m.data) (hw : wrongD c m = false) (hc1 : stepD c m = c1)
    (hk : m.kind = 5) (ht : c1.term ≤ m.term) (hr : c1.role = 2) :
    Calls Try.prog 22 #[.pointer (some ⟨n, 0, none⟩), msgV m (.slice ea m.entries.length ec) (.slice da m.data.length dc)] w (CallPost B n lv (hearD c m) w) := by
  have h10 : w.cell? ⟨n, 10, none⟩ = some (.int .i64 c.term) := h.blk.cell 10
  have hlt := h.blk.lt
  have hz := hw
  unfold wrongD at hz
  simp only [Bool.or_eq_false_iff] at hz
  have hn := wrongHead_no hz.1
  have HT : Hid (0 ≤ m.term ∧ m.term ≤ 1099511627776) := ⟨by have := hn.2.2.2.2.1; omega, hn.2.2.2.2.1.2⟩
  clear hn hz
  have HE : Hid (hearD c m = heardD c1 m) := by show _ = _; unfold hearD; rw [hw, hc1]; rfl
  have HW := hid hw
  have H := hid h
  have HL := hid hl
  have HD := hid hd
  have HS1 : Hid (c.term < m.term → ∀ w1 w2, Keeps [] w w1 → CoreAt w2 B n (risesD c m.term 0) lv sv → Keeps [n] w1 w2 → ∃ w3, w3 = (w2.setCell ⟨n, 12, none⟩ (.int .i64 0)).setCell ⟨n, 13, none⟩ (.int .i64 0) ∧ CoreAt w3 B n c1 lv sv ∧ Keeps [n] w w3 ∧ Keeps [n] w1 w3) := fun ht w1 w2 k1 h2 k2 => by
    have k3 : Keeps [n] w2 ((w2.setCell ⟨n, 12, none⟩ (.int .i64 0)).setCell ⟨n, 13, none⟩ (.int .i64 0)) := ((Keeps.refl _ _).setCell (.inl (by simp)) _).setCell (.inl (by simp)) _
    have e : stepD c m = { risesD c m.term 0 with role := 0, leader := 0 } := by unfold stepD; rw [if_pos ht]
    have ho := stepD_ok h.ok hw
    rw [← hc1]
    rw [e] at ho ⊢
    exact ⟨_, rfl, h2.wrote k3 ((h2.blk.set (c' := { risesD c m.term 0 with role := 0 }) 12 _ rfl).set 13 _ rfl) rfl rfl ho, ((k1.mono (G := [n]) (fun _ _ h => by cases h)).trans k2 (fun _ _ h => h)).trans k3 (fun _ _ h => h), k2.trans k3 (fun _ _ h => h)⟩
  have HS0 : Hid (¬ c.term < m.term → c = c1) := fun ht => by rw [← hc1]; unfold stepD; rw [if_neg ht]
  have g1 : (m.kind == 1) = false := by simp [hk]
  have g2 : (m.kind == 2) = false := by simp [hk]
  have g4 : (m.kind == 4) = false := by simp [hk]
  have g5 : (m.kind == 5) = true := by simp [hk]
  have t1 : decide (m.term < c1.term) = false := by simpa using ht
  have r1 : (c1.role == 2) = true := by simp [hr]
  have HR : Hid (heardD c1 m = (c1, [])) := by show _ = _; unfold heardD; simp [hk, hr, Int.not_lt.2 ht]
  clear hk ht hr
  clear h hl hd hw hc1
  unfold msgV
  by_cases hs : c.term < m.term
  · have gs : decide (c.term < m.term) = true := by simpa using hs
    have HS := hid hs
    clear hs
    skip
    go_enter Try.func22, Try.ntmps22
    go_wp2_with fail
    refine (wrong_is false _ B n c lv sv m ea da ec dc (Off n lv) (H.out.k ((Keeps.refl [] w).alloc _)) (HL.out.k ((Keeps.refl [] w).alloc _)) HW.out).mono ?_
    rintro e w1 ⟨rfl, hk⟩
    have HK : Hid (Keeps [] w w1) := Keeps.trans (by exact Keeps.K) hk (fun _ _ h => h)
    have HB1 : Hid (w1.heap[w.heap.size]? = some (.cells #[.int .i64 m.kind, .int .i64 m.frm, .int .i64 m.to, .int .i64 m.term, .int .i64 m.a, .int .i64 m.b, .int .i64 m.c, .bool m.ok, .slice ea m.entries.length ec, .slice da m.data.length dc] 40 (0, 0))) := (hk.block w.heap.size (by simp) (by simp)).trans (heap_alloc_new w _)
    have hz1 : w.heap.size < w1.heap.size := (Array.getElem?_eq_some_iff.1 HB1.out).1
    have x10 : w1.cell? ⟨n, 10, none⟩ = some (.int .i64 c.term) := (H.out.k HK.out).blk.cell 10
    obtain ⟨⟨c0, c1', c2, c3, c4, c5, c6, c7, c8, c9⟩, f3⟩ := blk10 HB1.out
    clear hk h10
    go_wp2_with fail
    go_quiet (fail)
    go_wp2_with fail
    refine (rises_any _ B n c lv sv m.term 0 (H.out.k ?_) HT.out).mono ?_
    (· have kk := HK.out; exact Keeps.K)
    rintro e w2 ⟨rfl, hc2, hk2⟩
    have HB2 := (hk2.block w.heap.size (by simp; omega) (by simp; omega)).trans HB1.out
    clear c0 c1' c2 c3 c4 c5 c6 c7 c8 c9 f3 x10
    obtain ⟨⟨c0, c1', c2, c3, c4, c5, c6, c7, c8, c9⟩, f3⟩ := blk10 HB2
    have y12 : w2.cell? ⟨n, 12, none⟩ = some (.int .i64 c.role) := hc2.blk.cell 12
    have y13 : w2.cell? ⟨n, 13, none⟩ = some (.int .i64 c.leader) := hc2.blk.cell 13
    have fz : ∀ i, w2.frozen? ⟨n, i, none⟩ = false := fun i => hc2.blk.free i
    have hnz : n ≠ w.heap.size := by omega
    have HX : Hid (∃ w3, w3 = (w2.setCell ⟨n, 12, none⟩ (.int .i64 0)).setCell ⟨n, 13, none⟩ (.int .i64 0) ∧ CoreAt w3 B n c1 lv sv ∧ Keeps [n] w w3 ∧ Keeps [n] _ w3) := HS1.out HS.out _ w2 (by have kk := HK.out; exact Keeps.K) hc2 hk2
    have HB1' : (w1.drewN nq).heap[w.heap.size]? = some (.cells #[.int .i64 m.kind, .int .i64 m.frm, .int .i64 m.to, .int .i64 m.term, .int .i64 m.a, .int .i64 m.b, .int .i64 m.c, .bool m.ok, .slice ea m.entries.length ec, .slice da m.data.length dc] 40 (0, 0)) := HB1.out
    have hz1' : w.heap.size < (w1.drewN nq).heap.size := hz1
    clear hc2 hk2 HB2
    go_wp2_with fail
    obtain ⟨w3, hw3, hc3, hk3, hk13⟩ := HX.out
    rw [← hw3]
    have HB3 : Hid (w3.heap[w.heap.size]? = some (.cells #[.int .i64 m.kind, .int .i64 m.frm, .int .i64 m.to, .int .i64 m.term, .int .i64 m.a, .int .i64 m.b, .int .i64 m.c, .bool m.ok, .slice ea m.entries.length ec, .slice da m.data.length dc] 40 (0, 0))) := (hk13.block w.heap.size hz1' (by simp; omega)).trans HB1'
    clear y12 y13 fz hw3 HX hk13 HB1' hz1'
    clear c0 c1' c2 c3 c4 c5 c6 c7 c8 c9 f3
    obtain ⟨⟨c0, c1', c2, c3, c4, c5, c6, c7, c8, c9⟩, f3⟩ := blk10 HB3.out
    have y10 : w3.cell? ⟨n, 10, none⟩ = some (.int .i64 c1.term) := hc3.blk.cell 10
    have y12 : w3.cell? ⟨n, 12, none⟩ = some (.int .i64 c1.role) := hc3.blk.cell 12
    have y13 : w3.cell? ⟨n, 13, none⟩ = some (.int .i64 c1.leader) := hc3.blk.cell 13
    have y20 : w3.cell? ⟨n, 20, none⟩ = some (.int .i64 c1.patience) := hc3.blk.cell 20
    have fz : ∀ i, w3.frozen? ⟨n, i, none⟩ = false := fun i => hc3.blk.free i
    have hz3 : w.heap.size < w3.heap.size := (Array.getElem?_eq_some_iff.1 HB3.out).1
    have C3 := hid hc3
    have K3 := hid hk3
    clear hc3 hk3 hz1
    go_quiet (fail)
    go_wp2_with fail
    go_ret
    rw [HE.out, HR.out]
    exact CallPost.after K3.out (CallPost.silent rfl (C3.out.k (by exact Keeps.K)) (Keeps.mono (F := []) (by exact Keeps.K) (fun _ _ h => by cases h)))
  · have gs : decide (c.term < m.term) = false := by simpa using hs
    have HS := hid hs
    clear hs
    skip
    go_enter Try.func22, Try.ntmps22
    go_wp2_with fail
    refine (wrong_is false _ B n c lv sv m ea da ec dc (Off n lv) (H.out.k ((Keeps.refl [] w).alloc _)) (HL.out.k ((Keeps.refl [] w).alloc _)) HW.out).mono ?_
    rintro e w1 ⟨rfl, hk⟩
    have HK : Hid (Keeps [] w w1) := Keeps.trans (by exact Keeps.K) hk (fun _ _ h => h)
    have HB1 : Hid (w1.heap[w.heap.size]? = some (.cells #[.int .i64 m.kind, .int .i64 m.frm, .int .i64 m.to, .int .i64 m.term, .int .i64 m.a, .int .i64 m.b, .int .i64 m.c, .bool m.ok, .slice ea m.entries.length ec, .slice da m.data.length dc] 40 (0, 0))) := (hk.block w.heap.size (by simp) (by simp)).trans (heap_alloc_new w _)
    have hz1 : w.heap.size < w1.heap.size := (Array.getElem?_eq_some_iff.1 HB1.out).1
    have x10 : w1.cell? ⟨n, 10, none⟩ = some (.int .i64 c.term) := (H.out.k HK.out).blk.cell 10
    obtain ⟨⟨c0, c1', c2, c3, c4, c5, c6, c7, c8, c9⟩, f3⟩ := blk10 HB1.out
    clear hk h10
    go_wp2_with fail
    go_quiet (fail)
    have HX : Hid (∃ w3, w3 = w1.drewN nq ∧ CoreAt w3 B n c1 lv sv ∧ Keeps [n] w w3 ∧ w3.heap[w.heap.size]? = some (.cells #[.int .i64 m.kind, .int .i64 m.frm, .int .i64 m.to, .int .i64 m.term, .int .i64 m.a, .int .i64 m.b, .int .i64 m.c, .bool m.ok, .slice ea m.entries.length ec, .slice da m.data.length dc] 40 (0, 0))) := ⟨_, rfl, by rw [← HS0.out HS.out]; exact H.out.k (by have kk := HK.out; exact Keeps.K), Keeps.mono (F := []) (by have kk := HK.out; exact Keeps.K) (fun _ _ h => by cases h), HB1.out⟩
    obtain ⟨w3, hw3, hc3, hk3, hb3⟩ := HX.out
    rw [← hw3]
    have HB3 := hid hb3
    have hnz : n ≠ w.heap.size := by omega
    clear hw3 HX hb3
    clear c0 c1' c2 c3 c4 c5 c6 c7 c8 c9 f3
    clear x10
    obtain ⟨⟨c0, c1', c2, c3, c4, c5, c6, c7, c8, c9⟩, f3⟩ := blk10 HB3.out
    have y10 : w3.cell? ⟨n, 10, none⟩ = some (.int .i64 c1.term) := hc3.blk.cell 10
    have y12 : w3.cell? ⟨n, 12, none⟩ = some (.int .i64 c1.role) := hc3.blk.cell 12
    have y13 : w3.cell? ⟨n, 13, none⟩ = some (.int .i64 c1.leader) := hc3.blk.cell 13
    have y20 : w3.cell? ⟨n, 20, none⟩ = some (.int .i64 c1.patience) := hc3.blk.cell 20
    have fz : ∀ i, w3.frozen? ⟨n, i, none⟩ = false := fun i => hc3.blk.free i
    have hz3 : w.heap.size < w3.heap.size := (Array.getElem?_eq_some_iff.1 HB3.out).1
    have C3 := hid hc3
    have K3 := hid hk3
    clear hc3 hk3 hz1
    go_wp2_with fail
    go_quiet (fail)
    go_wp2_with fail
    go_ret
    rw [HE.out, HR.out]
    exact CallPost.after K3.out (CallPost.silent rfl (C3.out.k (by exact Keeps.K)) (Keeps.mono (F := []) (by exact Keeps.K) (fun _ _ h => by cases h)))

set_option maxRecDepth 100000 in
set_option maxHeartbeats 6400000 in
theorem hear_5D (w : World) (B n : Nat) (c c1 : CoreD) (lv sv : Value) (m : MsgD) (ea da : Option Addr) (ec dc : Nat) (h : CoreAt w B n c lv sv) (hl : ListAt entL w (Off n lv) (.slice ea m.entries.length ec) m.entries) (hd : BytesAt w (Off n lv) (.slice da m.data.length dc) m.data) (hw : wrongD c m = false) (hc1 : stepD c m = c1)
    (hk : m.kind = 5) (ht : c1.term ≤ m.term) (hr : c1.role ≠ 2) (hi : inD m.a 1 549755813888 = false) :
    Calls Try.prog 22 #[.pointer (some ⟨n, 0, none⟩), msgV m (.slice ea m.entries.length ec) (.slice da m.data.length dc)] w (CallPost B n lv (hearD c m) w) := by
  have h10 : w.cell? ⟨n, 10, none⟩ = some (.int .i64 c.term) := h.blk.cell 10
  have hlt := h.blk.lt
  have hz := hw
  unfold wrongD at hz
  simp only [Bool.or_eq_false_iff] at hz
  have hn := wrongHead_no hz.1
  have HT : Hid (0 ≤ m.term ∧ m.term ≤ 1099511627776) := ⟨by have := hn.2.2.2.2.1; omega, hn.2.2.2.2.1.2⟩
  clear hn hz
  have HE : Hid (hearD c m = heardD c1 m) := by show _ = _; unfold hearD; rw [hw, hc1]; rfl
  have HW := hid hw
  have H := hid h
  have HL := hid hl
  have HD := hid hd
  have HS1 : Hid (c.term < m.term → ∀ w1 w2, Keeps [] w w1 → CoreAt w2 B n (risesD c m.term 0) lv sv → Keeps [n] w1 w2 → ∃ w3, w3 = (w2.setCell ⟨n, 12, none⟩ (.int .i64 0)).setCell ⟨n, 13, none⟩ (.int .i64 0) ∧ CoreAt w3 B n c1 lv sv ∧ Keeps [n] w w3 ∧ Keeps [n] w1 w3) := fun ht w1 w2 k1 h2 k2 => by
    have k3 : Keeps [n] w2 ((w2.setCell ⟨n, 12, none⟩ (.int .i64 0)).setCell ⟨n, 13, none⟩ (.int .i64 0)) := ((Keeps.refl _ _).setCell (.inl (by simp)) _).setCell (.inl (by simp)) _
    have e : stepD c m = { risesD c m.term 0 with role := 0, leader := 0 } := by unfold stepD; rw [if_pos ht]
    have ho := stepD_ok h.ok hw
    rw [← hc1]
    rw [e] at ho ⊢
    exact ⟨_, rfl, h2.wrote k3 ((h2.blk.set (c' := { risesD c m.term 0 with role := 0 }) 12 _ rfl).set 13 _ rfl) rfl rfl ho, ((k1.mono (G := [n]) (fun _ _ h => by cases h)).trans k2 (fun _ _ h => h)).trans k3 (fun _ _ h => h), k2.trans k3 (fun _ _ h => h)⟩
  have HS0 : Hid (¬ c.term < m.term → c = c1) := fun ht => by rw [← hc1]; unfold stepD; rw [if_neg ht]
  have g1 : (m.kind == 1) = false := by simp [hk]
  have g2 : (m.kind == 2) = false := by simp [hk]
  have g4 : (m.kind == 4) = false := by simp [hk]
  have g5 : (m.kind == 5) = true := by simp [hk]
  have t1 : decide (m.term < c1.term) = false := by simpa using ht
  have r1 : (c1.role == 2) = false := by simp [hr]
  have HR : Hid (heardD c1 m = (c1, [])) := by show _ = _; unfold heardD snapNo; simp [hk, hi, Int.not_lt.2 ht]
  have HI := hid hi
  clear hi
  clear hk ht hr
  clear h hl hd hw hc1
  unfold msgV
  by_cases hs : c.term < m.term
  · have gs : decide (c.term < m.term) = true := by simpa using hs
    have HS := hid hs
    clear hs
    skip
    go_enter Try.func22, Try.ntmps22
    go_wp2_with fail
    refine (wrong_is false _ B n c lv sv m ea da ec dc (Off n lv) (H.out.k ((Keeps.refl [] w).alloc _)) (HL.out.k ((Keeps.refl [] w).alloc _)) HW.out).mono ?_
    rintro e w1 ⟨rfl, hk⟩
    have HK : Hid (Keeps [] w w1) := Keeps.trans (by exact Keeps.K) hk (fun _ _ h => h)
    have HB1 : Hid (w1.heap[w.heap.size]? = some (.cells #[.int .i64 m.kind, .int .i64 m.frm, .int .i64 m.to, .int .i64 m.term, .int .i64 m.a, .int .i64 m.b, .int .i64 m.c, .bool m.ok, .slice ea m.entries.length ec, .slice da m.data.length dc] 40 (0, 0))) := (hk.block w.heap.size (by simp) (by simp)).trans (heap_alloc_new w _)
    have hz1 : w.heap.size < w1.heap.size := (Array.getElem?_eq_some_iff.1 HB1.out).1
    have x10 : w1.cell? ⟨n, 10, none⟩ = some (.int .i64 c.term) := (H.out.k HK.out).blk.cell 10
    obtain ⟨⟨c0, c1', c2, c3, c4, c5, c6, c7, c8, c9⟩, f3⟩ := blk10 HB1.out
    clear hk h10
    go_wp2_with fail
    go_quiet (fail)
    go_wp2_with fail
    refine (rises_any _ B n c lv sv m.term 0 (H.out.k ?_) HT.out).mono ?_
    (· have kk := HK.out; exact Keeps.K)
    rintro e w2 ⟨rfl, hc2, hk2⟩
    have HB2 := (hk2.block w.heap.size (by simp; omega) (by simp; omega)).trans HB1.out
    clear c0 c1' c2 c3 c4 c5 c6 c7 c8 c9 f3 x10
    obtain ⟨⟨c0, c1', c2, c3, c4, c5, c6, c7, c8, c9⟩, f3⟩ := blk10 HB2
    have y12 : w2.cell? ⟨n, 12, none⟩ = some (.int .i64 c.role) := hc2.blk.cell 12
    have y13 : w2.cell? ⟨n, 13, none⟩ = some (.int .i64 c.leader) := hc2.blk.cell 13
    have fz : ∀ i, w2.frozen? ⟨n, i, none⟩ = false := fun i => hc2.blk.free i
    have hnz : n ≠ w.heap.size := by omega
    have HX : Hid (∃ w3, w3 = (w2.setCell ⟨n, 12, none⟩ (.int .i64 0)).setCell ⟨n, 13, none⟩ (.int .i64 0) ∧ CoreAt w3 B n c1 lv sv ∧ Keeps [n] w w3 ∧ Keeps [n] _ w3) := HS1.out HS.out _ w2 (by have kk := HK.out; exact Keeps.K) hc2 hk2
    have HB1' : (w1.drewN nq).heap[w.heap.size]? = some (.cells #[.int .i64 m.kind, .int .i64 m.frm, .int .i64 m.to, .int .i64 m.term, .int .i64 m.a, .int .i64 m.b, .int .i64 m.c, .bool m.ok, .slice ea m.entries.length ec, .slice da m.data.length dc] 40 (0, 0)) := HB1.out
    have hz1' : w.heap.size < (w1.drewN nq).heap.size := hz1
    clear hc2 hk2 HB2
    go_wp2_with fail
    obtain ⟨w3, hw3, hc3, hk3, hk13⟩ := HX.out
    rw [← hw3]
    have HB3 : Hid (w3.heap[w.heap.size]? = some (.cells #[.int .i64 m.kind, .int .i64 m.frm, .int .i64 m.to, .int .i64 m.term, .int .i64 m.a, .int .i64 m.b, .int .i64 m.c, .bool m.ok, .slice ea m.entries.length ec, .slice da m.data.length dc] 40 (0, 0))) := (hk13.block w.heap.size hz1' (by simp; omega)).trans HB1'
    clear y12 y13 fz hw3 HX hk13 HB1' hz1'
    clear c0 c1' c2 c3 c4 c5 c6 c7 c8 c9 f3
    obtain ⟨⟨c0, c1', c2, c3, c4, c5, c6, c7, c8, c9⟩, f3⟩ := blk10 HB3.out
    have y10 : w3.cell? ⟨n, 10, none⟩ = some (.int .i64 c1.term) := hc3.blk.cell 10
    have y12 : w3.cell? ⟨n, 12, none⟩ = some (.int .i64 c1.role) := hc3.blk.cell 12
    have y13 : w3.cell? ⟨n, 13, none⟩ = some (.int .i64 c1.leader) := hc3.blk.cell 13
    have y20 : w3.cell? ⟨n, 20, none⟩ = some (.int .i64 c1.patience) := hc3.blk.cell 20
    have fz : ∀ i, w3.frozen? ⟨n, i, none⟩ = false := fun i => hc3.blk.free i
    have hz3 : w.heap.size < w3.heap.size := (Array.getElem?_eq_some_iff.1 HB3.out).1
    have C3 := hid hc3
    have K3 := hid hk3
    clear hc3 hk3 hz1
    go_quiet (fail)
    go_wp2_with fail
    refine (cin_is false _ _ _ _ HI.out).mono ?_
    rintro e w' ⟨rfl, hw'⟩
    subst hw'
    go_wp2_with fail
    go_ret
    rw [HE.out, HR.out]
    exact CallPost.after K3.out (CallPost.silent rfl (C3.out.k (by exact Keeps.K)) (Keeps.mono (F := []) (by exact Keeps.K) (fun _ _ h => by cases h)))
  · have gs : decide (c.term < m.term) = false := by simpa using hs
    have HS := hid hs
    clear hs
    skip
    go_enter Try.func22, Try.ntmps22
    go_wp2_with fail
    refine (wrong_is false _ B n c lv sv m ea da ec dc (Off n lv) (H.out.k ((Keeps.refl [] w).alloc _)) (HL.out.k ((Keeps.refl [] w).alloc _)) HW.out).mono ?_
    rintro e w1 ⟨rfl, hk⟩
    have HK : Hid (Keeps [] w w1) := Keeps.trans (by exact Keeps.K) hk (fun _ _ h => h)
    have HB1 : Hid (w1.heap[w.heap.size]? = some (.cells #[.int .i64 m.kind, .int .i64 m.frm, .int .i64 m.to, .int .i64 m.term, .int .i64 m.a, .int .i64 m.b, .int .i64 m.c, .bool m.ok, .slice ea m.entries.length ec, .slice da m.data.length dc] 40 (0, 0))) := (hk.block w.heap.size (by simp) (by simp)).trans (heap_alloc_new w _)
    have hz1 : w.heap.size < w1.heap.size := (Array.getElem?_eq_some_iff.1 HB1.out).1
    have x10 : w1.cell? ⟨n, 10, none⟩ = some (.int .i64 c.term) := (H.out.k HK.out).blk.cell 10
    obtain ⟨⟨c0, c1', c2, c3, c4, c5, c6, c7, c8, c9⟩, f3⟩ := blk10 HB1.out
    clear hk h10
    go_wp2_with fail
    go_quiet (fail)
    have HX : Hid (∃ w3, w3 = w1.drewN nq ∧ CoreAt w3 B n c1 lv sv ∧ Keeps [n] w w3 ∧ w3.heap[w.heap.size]? = some (.cells #[.int .i64 m.kind, .int .i64 m.frm, .int .i64 m.to, .int .i64 m.term, .int .i64 m.a, .int .i64 m.b, .int .i64 m.c, .bool m.ok, .slice ea m.entries.length ec, .slice da m.data.length dc] 40 (0, 0))) := ⟨_, rfl, by rw [← HS0.out HS.out]; exact H.out.k (by have kk := HK.out; exact Keeps.K), Keeps.mono (F := []) (by have kk := HK.out; exact Keeps.K) (fun _ _ h => by cases h), HB1.out⟩
    obtain ⟨w3, hw3, hc3, hk3, hb3⟩ := HX.out
    rw [← hw3]
    have HB3 := hid hb3
    have hnz : n ≠ w.heap.size := by omega
    clear hw3 HX hb3
    clear c0 c1' c2 c3 c4 c5 c6 c7 c8 c9 f3
    clear x10
    obtain ⟨⟨c0, c1', c2, c3, c4, c5, c6, c7, c8, c9⟩, f3⟩ := blk10 HB3.out
    have y10 : w3.cell? ⟨n, 10, none⟩ = some (.int .i64 c1.term) := hc3.blk.cell 10
    have y12 : w3.cell? ⟨n, 12, none⟩ = some (.int .i64 c1.role) := hc3.blk.cell 12
    have y13 : w3.cell? ⟨n, 13, none⟩ = some (.int .i64 c1.leader) := hc3.blk.cell 13
    have y20 : w3.cell? ⟨n, 20, none⟩ = some (.int .i64 c1.patience) := hc3.blk.cell 20
    have fz : ∀ i, w3.frozen? ⟨n, i, none⟩ = false := fun i => hc3.blk.free i
    have hz3 : w.heap.size < w3.heap.size := (Array.getElem?_eq_some_iff.1 HB3.out).1
    have C3 := hid hc3
    have K3 := hid hk3
    clear hc3 hk3 hz1
    go_wp2_with fail
    go_quiet (fail)
    go_wp2_with fail
    refine (cin_is false _ _ _ _ HI.out).mono ?_
    rintro e w' ⟨rfl, hw'⟩
    subst hw'
    go_wp2_with fail
    go_ret
    rw [HE.out, HR.out]
    exact CallPost.after K3.out (CallPost.silent rfl (C3.out.k (by exact Keeps.K)) (Keeps.mono (F := []) (by exact Keeps.K) (fun _ _ h => by cases h)))

set_option maxRecDepth 100000 in
set_option maxHeartbeats 6400000 in
theorem hear_5E (w : World) (B n : Nat) (c c1 : CoreD) (lv sv : Value) (m : MsgD) (ea da : Option Addr) (ec dc : Nat) (h : CoreAt w B n c lv sv) (hl : ListAt entL w (Off n lv) (.slice ea m.entries.length ec) m.entries) (hd : BytesAt w (Off n lv) (.slice da m.data.length dc) m.data) (hw : wrongD c m = false) (hc1 : stepD c m = c1)
    (hk : m.kind = 5) (ht : c1.term ≤ m.term) (hr : c1.role ≠ 2) (hi : inD m.a 1 549755813888 = true) (hj : inD m.b 1 m.term = false) :
    Calls Try.prog 22 #[.pointer (some ⟨n, 0, none⟩), msgV m (.slice ea m.entries.length ec) (.slice da m.data.length dc)] w (CallPost B n lv (hearD c m) w) := by
  have h10 : w.cell? ⟨n, 10, none⟩ = some (.int .i64 c.term) := h.blk.cell 10
  have hlt := h.blk.lt
  have hz := hw
  unfold wrongD at hz
  simp only [Bool.or_eq_false_iff] at hz
  have hn := wrongHead_no hz.1
  have HT : Hid (0 ≤ m.term ∧ m.term ≤ 1099511627776) := ⟨by have := hn.2.2.2.2.1; omega, hn.2.2.2.2.1.2⟩
  clear hn hz
  have HE : Hid (hearD c m = heardD c1 m) := by show _ = _; unfold hearD; rw [hw, hc1]; rfl
  have HW := hid hw
  have H := hid h
  have HL := hid hl
  have HD := hid hd
  have HS1 : Hid (c.term < m.term → ∀ w1 w2, Keeps [] w w1 → CoreAt w2 B n (risesD c m.term 0) lv sv → Keeps [n] w1 w2 → ∃ w3, w3 = (w2.setCell ⟨n, 12, none⟩ (.int .i64 0)).setCell ⟨n, 13, none⟩ (.int .i64 0) ∧ CoreAt w3 B n c1 lv sv ∧ Keeps [n] w w3 ∧ Keeps [n] w1 w3) := fun ht w1 w2 k1 h2 k2 => by
    have k3 : Keeps [n] w2 ((w2.setCell ⟨n, 12, none⟩ (.int .i64 0)).setCell ⟨n, 13, none⟩ (.int .i64 0)) := ((Keeps.refl _ _).setCell (.inl (by simp)) _).setCell (.inl (by simp)) _
    have e : stepD c m = { risesD c m.term 0 with role := 0, leader := 0 } := by unfold stepD; rw [if_pos ht]
    have ho := stepD_ok h.ok hw
    rw [← hc1]
    rw [e] at ho ⊢
    exact ⟨_, rfl, h2.wrote k3 ((h2.blk.set (c' := { risesD c m.term 0 with role := 0 }) 12 _ rfl).set 13 _ rfl) rfl rfl ho, ((k1.mono (G := [n]) (fun _ _ h => by cases h)).trans k2 (fun _ _ h => h)).trans k3 (fun _ _ h => h), k2.trans k3 (fun _ _ h => h)⟩
  have HS0 : Hid (¬ c.term < m.term → c = c1) := fun ht => by rw [← hc1]; unfold stepD; rw [if_neg ht]
  have g1 : (m.kind == 1) = false := by simp [hk]
  have g2 : (m.kind == 2) = false := by simp [hk]
  have g4 : (m.kind == 4) = false := by simp [hk]
  have g5 : (m.kind == 5) = true := by simp [hk]
  have t1 : decide (m.term < c1.term) = false := by simpa using ht
  have r1 : (c1.role == 2) = false := by simp [hr]
  have HR : Hid (heardD c1 m = (c1, [])) := by show _ = _; unfold heardD snapNo; simp [hk, hi, hj, Int.not_lt.2 ht]
  have HI := hid hi
  clear hi
  have HJ := hid hj
  clear hj
  clear hk ht hr
  clear h hl hd hw hc1
  unfold msgV
  by_cases hs : c.term < m.term
  · have gs : decide (c.term < m.term) = true := by simpa using hs
    have HS := hid hs
    clear hs
    skip
    go_enter Try.func22, Try.ntmps22
    go_wp2_with fail
    refine (wrong_is false _ B n c lv sv m ea da ec dc (Off n lv) (H.out.k ((Keeps.refl [] w).alloc _)) (HL.out.k ((Keeps.refl [] w).alloc _)) HW.out).mono ?_
    rintro e w1 ⟨rfl, hk⟩
    have HK : Hid (Keeps [] w w1) := Keeps.trans (by exact Keeps.K) hk (fun _ _ h => h)
    have HB1 : Hid (w1.heap[w.heap.size]? = some (.cells #[.int .i64 m.kind, .int .i64 m.frm, .int .i64 m.to, .int .i64 m.term, .int .i64 m.a, .int .i64 m.b, .int .i64 m.c, .bool m.ok, .slice ea m.entries.length ec, .slice da m.data.length dc] 40 (0, 0))) := (hk.block w.heap.size (by simp) (by simp)).trans (heap_alloc_new w _)
    have hz1 : w.heap.size < w1.heap.size := (Array.getElem?_eq_some_iff.1 HB1.out).1
    have x10 : w1.cell? ⟨n, 10, none⟩ = some (.int .i64 c.term) := (H.out.k HK.out).blk.cell 10
    obtain ⟨⟨c0, c1', c2, c3, c4, c5, c6, c7, c8, c9⟩, f3⟩ := blk10 HB1.out
    clear hk h10
    go_wp2_with fail
    go_quiet (fail)
    go_wp2_with fail
    refine (rises_any _ B n c lv sv m.term 0 (H.out.k ?_) HT.out).mono ?_
    (· have kk := HK.out; exact Keeps.K)
    rintro e w2 ⟨rfl, hc2, hk2⟩
    have HB2 := (hk2.block w.heap.size (by simp; omega) (by simp; omega)).trans HB1.out
    clear c0 c1' c2 c3 c4 c5 c6 c7 c8 c9 f3 x10
    obtain ⟨⟨c0, c1', c2, c3, c4, c5, c6, c7, c8, c9⟩, f3⟩ := blk10 HB2
    have y12 : w2.cell? ⟨n, 12, none⟩ = some (.int .i64 c.role) := hc2.blk.cell 12
    have y13 : w2.cell? ⟨n, 13, none⟩ = some (.int .i64 c.leader) := hc2.blk.cell 13
    have fz : ∀ i, w2.frozen? ⟨n, i, none⟩ = false := fun i => hc2.blk.free i
    have hnz : n ≠ w.heap.size := by omega
    have HX : Hid (∃ w3, w3 = (w2.setCell ⟨n, 12, none⟩ (.int .i64 0)).setCell ⟨n, 13, none⟩ (.int .i64 0) ∧ CoreAt w3 B n c1 lv sv ∧ Keeps [n] w w3 ∧ Keeps [n] _ w3) := HS1.out HS.out _ w2 (by have kk := HK.out; exact Keeps.K) hc2 hk2
    have HB1' : (w1.drewN nq).heap[w.heap.size]? = some (.cells #[.int .i64 m.kind, .int .i64 m.frm, .int .i64 m.to, .int .i64 m.term, .int .i64 m.a, .int .i64 m.b, .int .i64 m.c, .bool m.ok, .slice ea m.entries.length ec, .slice da m.data.length dc] 40 (0, 0)) := HB1.out
    have hz1' : w.heap.size < (w1.drewN nq).heap.size := hz1
    clear hc2 hk2 HB2
    go_wp2_with fail
    obtain ⟨w3, hw3, hc3, hk3, hk13⟩ := HX.out
    rw [← hw3]
    have HB3 : Hid (w3.heap[w.heap.size]? = some (.cells #[.int .i64 m.kind, .int .i64 m.frm, .int .i64 m.to, .int .i64 m.term, .int .i64 m.a, .int .i64 m.b, .int .i64 m.c, .bool m.ok, .slice ea m.entries.length ec, .slice da m.data.length dc] 40 (0, 0))) := (hk13.block w.heap.size hz1' (by simp; omega)).trans HB1'
    clear y12 y13 fz hw3 HX hk13 HB1' hz1'
    clear c0 c1' c2 c3 c4 c5 c6 c7 c8 c9 f3
    obtain ⟨⟨c0, c1', c2, c3, c4, c5, c6, c7, c8, c9⟩, f3⟩ := blk10 HB3.out
    have y10 : w3.cell? ⟨n, 10, none⟩ = some (.int .i64 c1.term) := hc3.blk.cell 10
    have y12 : w3.cell? ⟨n, 12, none⟩ = some (.int .i64 c1.role) := hc3.blk.cell 12
    have y13 : w3.cell? ⟨n, 13, none⟩ = some (.int .i64 c1.leader) := hc3.blk.cell 13
    have y20 : w3.cell? ⟨n, 20, none⟩ = some (.int .i64 c1.patience) := hc3.blk.cell 20
    have fz : ∀ i, w3.frozen? ⟨n, i, none⟩ = false := fun i => hc3.blk.free i
    have hz3 : w.heap.size < w3.heap.size := (Array.getElem?_eq_some_iff.1 HB3.out).1
    have C3 := hid hc3
    have K3 := hid hk3
    clear hc3 hk3 hz1
    go_quiet (fail)
    go_wp2_with fail
    refine (cin_is true _ _ _ _ HI.out).mono ?_
    rintro e w' ⟨rfl, hw'⟩
    subst hw'
    go_wp2_with fail
    refine (cin_is false _ _ _ _ HJ.out).mono ?_
    rintro e w' ⟨rfl, hw'⟩
    subst hw'
    go_wp2_with fail
    go_ret
    rw [HE.out, HR.out]
    exact CallPost.after K3.out (CallPost.silent rfl (C3.out.k (by exact Keeps.K)) (Keeps.mono (F := []) (by exact Keeps.K) (fun _ _ h => by cases h)))
  · have gs : decide (c.term < m.term) = false := by simpa using hs
    have HS := hid hs
    clear hs
    skip
    go_enter Try.func22, Try.ntmps22
    go_wp2_with fail
    refine (wrong_is false _ B n c lv sv m ea da ec dc (Off n lv) (H.out.k ((Keeps.refl [] w).alloc _)) (HL.out.k ((Keeps.refl [] w).alloc _)) HW.out).mono ?_
    rintro e w1 ⟨rfl, hk⟩
    have HK : Hid (Keeps [] w w1) := Keeps.trans (by exact Keeps.K) hk (fun _ _ h => h)
    have HB1 : Hid (w1.heap[w.heap.size]? = some (.cells #[.int .i64 m.kind, .int .i64 m.frm, .int .i64 m.to, .int .i64 m.term, .int .i64 m.a, .int .i64 m.b, .int .i64 m.c, .bool m.ok, .slice ea m.entries.length ec, .slice da m.data.length dc] 40 (0, 0))) := (hk.block w.heap.size (by simp) (by simp)).trans (heap_alloc_new w _)
    have hz1 : w.heap.size < w1.heap.size := (Array.getElem?_eq_some_iff.1 HB1.out).1
    have x10 : w1.cell? ⟨n, 10, none⟩ = some (.int .i64 c.term) := (H.out.k HK.out).blk.cell 10
    obtain ⟨⟨c0, c1', c2, c3, c4, c5, c6, c7, c8, c9⟩, f3⟩ := blk10 HB1.out
    clear hk h10
    go_wp2_with fail
    go_quiet (fail)
    have HX : Hid (∃ w3, w3 = w1.drewN nq ∧ CoreAt w3 B n c1 lv sv ∧ Keeps [n] w w3 ∧ w3.heap[w.heap.size]? = some (.cells #[.int .i64 m.kind, .int .i64 m.frm, .int .i64 m.to, .int .i64 m.term, .int .i64 m.a, .int .i64 m.b, .int .i64 m.c, .bool m.ok, .slice ea m.entries.length ec, .slice da m.data.length dc] 40 (0, 0))) := ⟨_, rfl, by rw [← HS0.out HS.out]; exact H.out.k (by have kk := HK.out; exact Keeps.K), Keeps.mono (F := []) (by have kk := HK.out; exact Keeps.K) (fun _ _ h => by cases h), HB1.out⟩
    obtain ⟨w3, hw3, hc3, hk3, hb3⟩ := HX.out
    rw [← hw3]
    have HB3 := hid hb3
    have hnz : n ≠ w.heap.size := by omega
    clear hw3 HX hb3
    clear c0 c1' c2 c3 c4 c5 c6 c7 c8 c9 f3
    clear x10
    obtain ⟨⟨c0, c1', c2, c3, c4, c5, c6, c7, c8, c9⟩, f3⟩ := blk10 HB3.out
    have y10 : w3.cell? ⟨n, 10, none⟩ = some (.int .i64 c1.term) := hc3.blk.cell 10
    have y12 : w3.cell? ⟨n, 12, none⟩ = some (.int .i64 c1.role) := hc3.blk.cell 12
    have y13 : w3.cell? ⟨n, 13, none⟩ = some (.int .i64 c1.leader) := hc3.blk.cell 13
    have y20 : w3.cell? ⟨n, 20, none⟩ = some (.int .i64 c1.patience) := hc3.blk.cell 20
    have fz : ∀ i, w3.frozen? ⟨n, i, none⟩ = false := fun i => hc3.blk.free i
    have hz3 : w.heap.size < w3.heap.size := (Array.getElem?_eq_some_iff.1 HB3.out).1
    have C3 := hid hc3
    have K3 := hid hk3
    clear hc3 hk3 hz1
    go_wp2_with fail
    go_quiet (fail)
    go_wp2_with fail
    refine (cin_is true _ _ _ _ HI.out).mono ?_
    rintro e w' ⟨rfl, hw'⟩
    subst hw'
    go_wp2_with fail
    refine (cin_is false _ _ _ _ HJ.out).mono ?_
    rintro e w' ⟨rfl, hw'⟩
    subst hw'
    go_wp2_with fail
    go_ret
    rw [HE.out, HR.out]
    exact CallPost.after K3.out (CallPost.silent rfl (C3.out.k (by exact Keeps.K)) (Keeps.mono (F := []) (by exact Keeps.K) (fun _ _ h => by cases h)))

set_option maxRecDepth 100000 in
set_option maxHeartbeats 6400000 in
theorem hear_3C (w : World) (B n : Nat) (c c1 : CoreD) (lv sv : Value) (m : MsgD) (ea da : Option Addr) (ec dc : Nat) (h : CoreAt w B n c lv sv) (hl : ListAt entL w (Off n lv) (.slice ea m.entries.length ec) m.entries) (hd : BytesAt w (Off n lv) (.slice da m.data.length dc) m.data) (hw : wrongD c m = false) (hc1 : stepD c m = c1)
    (hk : m.kind = 3) (ht : c1.term ≤ m.term) (hr : c1.role ≠ 2) (H2 : HearC 59 appendD B n (followD c1 m) lv sv m ea da ec dc) :
    Calls Try.prog 22 #[.pointer (some ⟨n, 0, none⟩), msgV m (.slice ea m.entries.length ec) (.slice da m.data.length dc)] w (CallPost B n lv (hearD c m) w) := by
  have h10 : w.cell? ⟨n, 10, none⟩ = some (.int .i64 c.term) := h.blk.cell 10
  have hlt := h.blk.lt
  have hz := hw
  unfold wrongD at hz
  simp only [Bool.or_eq_false_iff] at hz
  have hn := wrongHead_no hz.1
  have HT : Hid (0 ≤ m.term ∧ m.term ≤ 1099511627776) := ⟨by have := hn.2.2.2.2.1; omega, hn.2.2.2.2.1.2⟩
  clear hn hz
  have HE : Hid (hearD c m = heardD c1 m) := by show _ = _; unfold hearD; rw [hw, hc1]; rfl
  have HW := hid hw
  have H := hid h
  have HL := hid hl
  have HD := hid hd
  have HS1 : Hid (c.term < m.term → ∀ w1 w2, Keeps [] w w1 → CoreAt w2 B n (risesD c m.term 0) lv sv → Keeps [n] w1 w2 → ∃ w3, w3 = (w2.setCell ⟨n, 12, none⟩ (.int .i64 0)).setCell ⟨n, 13, none⟩ (.int .i64 0) ∧ CoreAt w3 B n c1 lv sv ∧ Keeps [n] w w3 ∧ Keeps [n] w1 w3) := fun ht w1 w2 k1 h2 k2 => by
    have k3 : Keeps [n] w2 ((w2.setCell ⟨n, 12, none⟩ (.int .i64 0)).setCell ⟨n, 13, none⟩ (.int .i64 0)) := ((Keeps.refl _ _).setCell (.inl (by simp)) _).setCell (.inl (by simp)) _
    have e : stepD c m = { risesD c m.term 0 with role := 0, leader := 0 } := by unfold stepD; rw [if_pos ht]
    have ho := stepD_ok h.ok hw
    rw [← hc1]
    rw [e] at ho ⊢
    exact ⟨_, rfl, h2.wrote k3 ((h2.blk.set (c' := { risesD c m.term 0 with role := 0 }) 12 _ rfl).set 13 _ rfl) rfl rfl ho, ((k1.mono (G := [n]) (fun _ _ h => by cases h)).trans k2 (fun _ _ h => h)).trans k3 (fun _ _ h => h), k2.trans k3 (fun _ _ h => h)⟩
  have HS0 : Hid (¬ c.term < m.term → c = c1) := fun ht => by rw [← hc1]; unfold stepD; rw [if_neg ht]
  have g1 : (m.kind == 1) = false := by simp [hk]
  have g2 : (m.kind == 2) = false := by simp [hk]
  have g4 : (m.kind == 4) = false := by simp [hk]
  have g5 : (m.kind == 5) = false := by simp [hk]
  have t1 : decide (m.term < c1.term) = false := by simpa using ht
  have r1 : (c1.role == 2) = false := by simp [hr]
  have HR : Hid (heardD c1 m = appendD (followD c1 m) m) := by show _ = _; unfold heardD snapNo; simp [hk, hr, Int.not_lt.2 ht]
  have HH2 := hid H2
  clear hk ht hr H2
  clear h hl hd hw hc1
  unfold msgV
  by_cases hs : c.term < m.term
  · have gs : decide (c.term < m.term) = true := by simpa using hs
    have HS := hid hs
    clear hs
    skip
    go_enter Try.func22, Try.ntmps22
    go_wp2_with fail
    refine (wrong_is false _ B n c lv sv m ea da ec dc (Off n lv) (H.out.k ((Keeps.refl [] w).alloc _)) (HL.out.k ((Keeps.refl [] w).alloc _)) HW.out).mono ?_
    rintro e w1 ⟨rfl, hk⟩
    have HK : Hid (Keeps [] w w1) := Keeps.trans (by exact Keeps.K) hk (fun _ _ h => h)
    have HB1 : Hid (w1.heap[w.heap.size]? = some (.cells #[.int .i64 m.kind, .int .i64 m.frm, .int .i64 m.to, .int .i64 m.term, .int .i64 m.a, .int .i64 m.b, .int .i64 m.c, .bool m.ok, .slice ea m.entries.length ec, .slice da m.data.length dc] 40 (0, 0))) := (hk.block w.heap.size (by simp) (by simp)).trans (heap_alloc_new w _)
    have hz1 : w.heap.size < w1.heap.size := (Array.getElem?_eq_some_iff.1 HB1.out).1
    have x10 : w1.cell? ⟨n, 10, none⟩ = some (.int .i64 c.term) := (H.out.k HK.out).blk.cell 10
    obtain ⟨⟨c0, c1', c2, c3, c4, c5, c6, c7, c8, c9⟩, f3⟩ := blk10 HB1.out
    clear hk h10
    go_wp2_with fail
    go_quiet (fail)
    go_wp2_with fail
    refine (rises_any _ B n c lv sv m.term 0 (H.out.k ?_) HT.out).mono ?_
    (· have kk := HK.out; exact Keeps.K)
    rintro e w2 ⟨rfl, hc2, hk2⟩
    have HB2 := (hk2.block w.heap.size (by simp; omega) (by simp; omega)).trans HB1.out
    clear c0 c1' c2 c3 c4 c5 c6 c7 c8 c9 f3 x10
    obtain ⟨⟨c0, c1', c2, c3, c4, c5, c6, c7, c8, c9⟩, f3⟩ := blk10 HB2
    have y12 : w2.cell? ⟨n, 12, none⟩ = some (.int .i64 c.role) := hc2.blk.cell 12
    have y13 : w2.cell? ⟨n, 13, none⟩ = some (.int .i64 c.leader) := hc2.blk.cell 13
    have fz : ∀ i, w2.frozen? ⟨n, i, none⟩ = false := fun i => hc2.blk.free i
    have hnz : n ≠ w.heap.size := by omega
    have HX : Hid (∃ w3, w3 = (w2.setCell ⟨n, 12, none⟩ (.int .i64 0)).setCell ⟨n, 13, none⟩ (.int .i64 0) ∧ CoreAt w3 B n c1 lv sv ∧ Keeps [n] w w3 ∧ Keeps [n] _ w3) := HS1.out HS.out _ w2 (by have kk := HK.out; exact Keeps.K) hc2 hk2
    have HB1' : (w1.drewN nq).heap[w.heap.size]? = some (.cells #[.int .i64 m.kind, .int .i64 m.frm, .int .i64 m.to, .int .i64 m.term, .int .i64 m.a, .int .i64 m.b, .int .i64 m.c, .bool m.ok, .slice ea m.entries.length ec, .slice da m.data.length dc] 40 (0, 0)) := HB1.out
    have hz1' : w.heap.size < (w1.drewN nq).heap.size := hz1
    clear hc2 hk2 HB2
    go_wp2_with fail
    obtain ⟨w3, hw3, hc3, hk3, hk13⟩ := HX.out
    rw [← hw3]
    have HB3 : Hid (w3.heap[w.heap.size]? = some (.cells #[.int .i64 m.kind, .int .i64 m.frm, .int .i64 m.to, .int .i64 m.term, .int .i64 m.a, .int .i64 m.b, .int .i64 m.c, .bool m.ok, .slice ea m.entries.length ec, .slice da m.data.length dc] 40 (0, 0))) := (hk13.block w.heap.size hz1' (by simp; omega)).trans HB1'
    clear y12 y13 fz hw3 HX hk13 HB1' hz1'
    clear c0 c1' c2 c3 c4 c5 c6 c7 c8 c9 f3
    obtain ⟨⟨c0, c1', c2, c3, c4, c5, c6, c7, c8, c9⟩, f3⟩ := blk10 HB3.out
    have y10 : w3.cell? ⟨n, 10, none⟩ = some (.int .i64 c1.term) := hc3.blk.cell 10
    have y12 : w3.cell? ⟨n, 12, none⟩ = some (.int .i64 c1.role) := hc3.blk.cell 12
    have y13 : w3.cell? ⟨n, 13, none⟩ = some (.int .i64 c1.leader) := hc3.blk.cell 13
    have y20 : w3.cell? ⟨n, 20, none⟩ = some (.int .i64 c1.patience) := hc3.blk.cell 20
    have fz : ∀ i, w3.frozen? ⟨n, i, none⟩ = false := fun i => hc3.blk.free i
    have hz3 : w.heap.size < w3.heap.size := (Array.getElem?_eq_some_iff.1 HB3.out).1
    have C3 := hid hc3
    have K3 := hid hk3
    clear hc3 hk3 hz1
    go_quiet (fail)
    go_wp2_with fail
    refine Plan.wp_region_plan (fun wx => wx.cell? ⟨w.heap.size, 0, none⟩ = some (.int .i64 m.kind) ∧ wx.cell? ⟨w.heap.size, 1, none⟩ = some (.int .i64 m.frm) ∧ wx.cell? ⟨w.heap.size, 2, none⟩ = some (.int .i64 m.to) ∧ wx.cell? ⟨w.heap.size, 3, none⟩ = some (.int .i64 m.term) ∧ wx.cell? ⟨w.heap.size, 4, none⟩ = some (.int .i64 m.a) ∧ wx.cell? ⟨w.heap.size, 5, none⟩ = some (.int .i64 m.b) ∧ wx.cell? ⟨w.heap.size, 6, none⟩ = some (.int .i64 m.c) ∧ wx.cell? ⟨w.heap.size, 7, none⟩ = some (.bool m.ok) ∧ wx.cell? ⟨w.heap.size, 8, none⟩ = some (.slice ea m.entries.length ec) ∧ wx.cell? ⟨w.heap.size, 9, none⟩ = some (.slice da m.data.length dc)) 11 [(true, 0), (true, 1), (true, 2), (true, 3), (true, 4), (true, 5), (true, 6), (false, 7), (true, 8), (true, 9), (false, 10)] (by kernel_rfl) (by as_aux_lemma => kernel_rfl) (by kernel_rfl) (fun _ _ _ _ _ h => h) ?_ (fun hS => ?_)
    (· go_simp)
    simp only [Plan.pick, List.append_eq, List.cons_append, List.nil_append, Plan.g1, Plan.g2, Option.getD_some, List.drop_succ_cons, List.drop_zero]
    iterate 7 (first | refine Plan.tA ?_ | refine Plan.tY ?_ | refine Plan.pN ?_ | refine Plan.pU ?_ | fail)
    refine Plan.step ?_
    go_wp2_with fail
    refine ⟨?_, ?_⟩
    (· go_simp)
    iterate 2 (first | refine Plan.tA ?_ | refine Plan.tY ?_ | refine Plan.pN ?_ | refine Plan.pU ?_ | fail)
    refine Plan.step ?_
    go_wp2_with fail
    refine ⟨?_, ?_⟩
    (· go_simp)
    refine Plan.fin ?_
    have HX : Hid (∃ w5, w5 = (((w3.drewN (nq + 1)).setCell ⟨n, 12, none⟩ (.int .i64 0)).setCell ⟨n, 13, none⟩ (.int .i64 m.frm)).setCell ⟨n, 20, none⟩ (.int .i64 0) ∧ CoreAt w5 B n (followD c1 m) lv sv ∧ Keeps [n] w w5) := by
      have k5 : Keeps [n] w3 ((((w3.drewN (nq + 1)).setCell ⟨n, 12, none⟩ (.int .i64 0)).setCell ⟨n, 13, none⟩ (.int .i64 m.frm)).setCell ⟨n, 20, none⟩ (.int .i64 0)) := by exact Keeps.K
      exact ⟨_, rfl, C3.out.wrote k5 ((((C3.out.k (((Keeps.refl [] w3).drewN (nq + 1)))).blk.set (c' := { c1 with role := 0 }) 12 _ rfl).set (c' := { c1 with role := 0, leader := m.frm }) 13 _ rfl).set 20 _ rfl) rfl rfl (followD_ok C3.out.ok m), K3.out.trans k5 (fun _ _ h => h)⟩
    go_wp2_with fail
    obtain ⟨w5, hw5, hc5, hk5⟩ := HX.out
    rw [← hw5]
    have K5 := hid hk5
    clear hw5 HX
    refine (HH2.out w5 hc5 (HL.out.keep K5.out (fun b hb hb' => by simp at hb'; exact hb.1 hb')) (HD.out.keep K5.out (fun b hb hb' => by simp at hb'; exact hb.1 hb'))).mono ?_
    rintro e w6 hp
    obtain ⟨a, q, lv', sv', rfl, hp2⟩ := CallPost.after K5.out hp
    have HP := hid hp2
    clear hp hp2 hc5 hk5
    go_wp2_with fail
    go_ret
    rw [HE.out, HR.out]
    exact ⟨a, q, lv', sv', rfl, HP.out⟩
  · have gs : decide (c.term < m.term) = false := by simpa using hs
    have HS := hid hs
    clear hs
    skip
    go_enter Try.func22, Try.ntmps22
    go_wp2_with fail
    refine (wrong_is false _ B n c lv sv m ea da ec dc (Off n lv) (H.out.k ((Keeps.refl [] w).alloc _)) (HL.out.k ((Keeps.refl [] w).alloc _)) HW.out).mono ?_
    rintro e w1 ⟨rfl, hk⟩
    have HK : Hid (Keeps [] w w1) := Keeps.trans (by exact Keeps.K) hk (fun _ _ h => h)
    have HB1 : Hid (w1.heap[w.heap.size]? = some (.cells #[.int .i64 m.kind, .int .i64 m.frm, .int .i64 m.to, .int .i64 m.term, .int .i64 m.a, .int .i64 m.b, .int .i64 m.c, .bool m.ok, .slice ea m.entries.length ec, .slice da m.data.length dc] 40 (0, 0))) := (hk.block w.heap.size (by simp) (by simp)).trans (heap_alloc_new w _)
    have hz1 : w.heap.size < w1.heap.size := (Array.getElem?_eq_some_iff.1 HB1.out).1
    have x10 : w1.cell? ⟨n, 10, none⟩ = some (.int .i64 c.term) := (H.out.k HK.out).blk.cell 10
    obtain ⟨⟨c0, c1', c2, c3, c4, c5, c6, c7, c8, c9⟩, f3⟩ := blk10 HB1.out
    clear hk h10
    go_wp2_with fail
    go_quiet (fail)
    have HX : Hid (∃ w3, w3 = w1.drewN nq ∧ CoreAt w3 B n c1 lv sv ∧ Keeps [n] w w3 ∧ w3.heap[w.heap.size]? = some (.cells #[.int .i64 m.kind, .int .i64 m.frm, .int .i64 m.to, .int .i64 m.term, .int .i64 m.a, .int .i64 m.b, .int .i64 m.c, .bool m.ok, .slice ea m.entries.length ec, .slice da m.data.length dc] 40 (0, 0))) := ⟨_, rfl, by rw [← HS0.out HS.out]; exact H.out.k (by have kk := HK.out; exact Keeps.K), Keeps.mono (F := []) (by have kk := HK.out; exact Keeps.K) (fun _ _ h => by cases h), HB1.out⟩
    obtain ⟨w3, hw3, hc3, hk3, hb3⟩ := HX.out
    rw [← hw3]
    have HB3 := hid hb3
    have hnz : n ≠ w.heap.size := by omega
    clear hw3 HX hb3
    clear c0 c1' c2 c3 c4 c5 c6 c7 c8 c9 f3
    clear x10
    obtain ⟨⟨c0, c1', c2, c3, c4, c5, c6, c7, c8, c9⟩, f3⟩ := blk10 HB3.out
    have y10 : w3.cell? ⟨n, 10, none⟩ = some (.int .i64 c1.term) := hc3.blk.cell 10
    have y12 : w3.cell? ⟨n, 12, none⟩ = some (.int .i64 c1.role) := hc3.blk.cell 12
    have y13 : w3.cell? ⟨n, 13, none⟩ = some (.int .i64 c1.leader) := hc3.blk.cell 13
    have y20 : w3.cell? ⟨n, 20, none⟩ = some (.int .i64 c1.patience) := hc3.blk.cell 20
    have fz : ∀ i, w3.frozen? ⟨n, i, none⟩ = false := fun i => hc3.blk.free i
    have hz3 : w.heap.size < w3.heap.size := (Array.getElem?_eq_some_iff.1 HB3.out).1
    have C3 := hid hc3
    have K3 := hid hk3
    clear hc3 hk3 hz1
    go_wp2_with fail
    go_quiet (fail)
    go_wp2_with fail
    refine Plan.wp_region_plan (fun wx => wx.cell? ⟨w.heap.size, 0, none⟩ = some (.int .i64 m.kind) ∧ wx.cell? ⟨w.heap.size, 1, none⟩ = some (.int .i64 m.frm) ∧ wx.cell? ⟨w.heap.size, 2, none⟩ = some (.int .i64 m.to) ∧ wx.cell? ⟨w.heap.size, 3, none⟩ = some (.int .i64 m.term) ∧ wx.cell? ⟨w.heap.size, 4, none⟩ = some (.int .i64 m.a) ∧ wx.cell? ⟨w.heap.size, 5, none⟩ = some (.int .i64 m.b) ∧ wx.cell? ⟨w.heap.size, 6, none⟩ = some (.int .i64 m.c) ∧ wx.cell? ⟨w.heap.size, 7, none⟩ = some (.bool m.ok) ∧ wx.cell? ⟨w.heap.size, 8, none⟩ = some (.slice ea m.entries.length ec) ∧ wx.cell? ⟨w.heap.size, 9, none⟩ = some (.slice da m.data.length dc)) 11 [(true, 0), (true, 1), (true, 2), (true, 3), (true, 4), (true, 5), (true, 6), (false, 7), (true, 8), (true, 9), (false, 10)] (by kernel_rfl) (by as_aux_lemma => kernel_rfl) (by kernel_rfl) (fun _ _ _ _ _ h => h) ?_ (fun hS => ?_)
    (· go_simp)
    simp only [Plan.pick, List.append_eq, List.cons_append, List.nil_append, Plan.g1, Plan.g2, Option.getD_some, List.drop_succ_cons, List.drop_zero]
    iterate 7 (first | refine Plan.tA ?_ | refine Plan.tY ?_ | refine Plan.pN ?_ | refine Plan.pU ?_ | fail)
    refine Plan.step ?_
    go_wp2_with fail
    refine ⟨?_, ?_⟩
    (· go_simp)
    iterate 2 (first | refine Plan.tA ?_ | refine Plan.tY ?_ | refine Plan.pN ?_ | refine Plan.pU ?_ | fail)
    refine Plan.step ?_
    go_wp2_with fail
    refine ⟨?_, ?_⟩
    (· go_simp)
    refine Plan.fin ?_
    have HX : Hid (∃ w5, w5 = (((w3.drewN (nq + 1)).setCell ⟨n, 12, none⟩ (.int .i64 0)).setCell ⟨n, 13, none⟩ (.int .i64 m.frm)).setCell ⟨n, 20, none⟩ (.int .i64 0) ∧ CoreAt w5 B n (followD c1 m) lv sv ∧ Keeps [n] w w5) := by
      have k5 : Keeps [n] w3 ((((w3.drewN (nq + 1)).setCell ⟨n, 12, none⟩ (.int .i64 0)).setCell ⟨n, 13, none⟩ (.int .i64 m.frm)).setCell ⟨n, 20, none⟩ (.int .i64 0)) := by exact Keeps.K
      exact ⟨_, rfl, C3.out.wrote k5 ((((C3.out.k (((Keeps.refl [] w3).drewN (nq + 1)))).blk.set (c' := { c1 with role := 0 }) 12 _ rfl).set (c' := { c1 with role := 0, leader := m.frm }) 13 _ rfl).set 20 _ rfl) rfl rfl (followD_ok C3.out.ok m), K3.out.trans k5 (fun _ _ h => h)⟩
    go_wp2_with fail
    obtain ⟨w5, hw5, hc5, hk5⟩ := HX.out
    rw [← hw5]
    have K5 := hid hk5
    clear hw5 HX
    refine (HH2.out w5 hc5 (HL.out.keep K5.out (fun b hb hb' => by simp at hb'; exact hb.1 hb')) (HD.out.keep K5.out (fun b hb hb' => by simp at hb'; exact hb.1 hb'))).mono ?_
    rintro e w6 hp
    obtain ⟨a, q, lv', sv', rfl, hp2⟩ := CallPost.after K5.out hp
    have HP := hid hp2
    clear hp hp2 hc5 hk5
    go_wp2_with fail
    go_ret
    rw [HE.out, HR.out]
    exact ⟨a, q, lv', sv', rfl, HP.out⟩

set_option maxRecDepth 100000 in
set_option maxHeartbeats 6400000 in
theorem hear_5F (w : World) (B n : Nat) (c c1 : CoreD) (lv sv : Value) (m : MsgD) (ea da : Option Addr) (ec dc : Nat) (h : CoreAt w B n c lv sv) (hl : ListAt entL w (Off n lv) (.slice ea m.entries.length ec) m.entries) (hd : BytesAt w (Off n lv) (.slice da m.data.length dc) m.data) (hw : wrongD c m = false) (hc1 : stepD c m = c1)
    (hk : m.kind = 5) (ht : c1.term ≤ m.term) (hr : c1.role ≠ 2) (hi : inD m.a 1 549755813888 = true) (hj : inD m.b 1 m.term = true) (H2 : HearC 58 takesD B n (followD c1 m) lv sv m ea da ec dc) :
    Calls Try.prog 22 #[.pointer (some ⟨n, 0, none⟩), msgV m (.slice ea m.entries.length ec) (.slice da m.data.length dc)] w (CallPost B n lv (hearD c m) w) := by
  have h10 : w.cell? ⟨n, 10, none⟩ = some (.int .i64 c.term) := h.blk.cell 10
  have hlt := h.blk.lt
  have hz := hw
  unfold wrongD at hz
  simp only [Bool.or_eq_false_iff] at hz
  have hn := wrongHead_no hz.1
  have HT : Hid (0 ≤ m.term ∧ m.term ≤ 1099511627776) := ⟨by have := hn.2.2.2.2.1; omega, hn.2.2.2.2.1.2⟩
  clear hn hz
  have HE : Hid (hearD c m = heardD c1 m) := by show _ = _; unfold hearD; rw [hw, hc1]; rfl
  have HW := hid hw
  have H := hid h
  have HL := hid hl
  have HD := hid hd
  have HS1 : Hid (c.term < m.term → ∀ w1 w2, Keeps [] w w1 → CoreAt w2 B n (risesD c m.term 0) lv sv → Keeps [n] w1 w2 → ∃ w3, w3 = (w2.setCell ⟨n, 12, none⟩ (.int .i64 0)).setCell ⟨n, 13, none⟩ (.int .i64 0) ∧ CoreAt w3 B n c1 lv sv ∧ Keeps [n] w w3 ∧ Keeps [n] w1 w3) := fun ht w1 w2 k1 h2 k2 => by
    have k3 : Keeps [n] w2 ((w2.setCell ⟨n, 12, none⟩ (.int .i64 0)).setCell ⟨n, 13, none⟩ (.int .i64 0)) := ((Keeps.refl _ _).setCell (.inl (by simp)) _).setCell (.inl (by simp)) _
    have e : stepD c m = { risesD c m.term 0 with role := 0, leader := 0 } := by unfold stepD; rw [if_pos ht]
    have ho := stepD_ok h.ok hw
    rw [← hc1]
    rw [e] at ho ⊢
    exact ⟨_, rfl, h2.wrote k3 ((h2.blk.set (c' := { risesD c m.term 0 with role := 0 }) 12 _ rfl).set 13 _ rfl) rfl rfl ho, ((k1.mono (G := [n]) (fun _ _ h => by cases h)).trans k2 (fun _ _ h => h)).trans k3 (fun _ _ h => h), k2.trans k3 (fun _ _ h => h)⟩
  have HS0 : Hid (¬ c.term < m.term → c = c1) := fun ht => by rw [← hc1]; unfold stepD; rw [if_neg ht]
  have g1 : (m.kind == 1) = false := by simp [hk]
  have g2 : (m.kind == 2) = false := by simp [hk]
  have g4 : (m.kind == 4) = false := by simp [hk]
  have g5 : (m.kind == 5) = true := by simp [hk]
  have t1 : decide (m.term < c1.term) = false := by simpa using ht
  have r1 : (c1.role == 2) = false := by simp [hr]
  have HR : Hid (heardD c1 m = takesD (followD c1 m) m) := by show _ = _; unfold heardD snapNo; simp [hk, hr, hi, hj, Int.not_lt.2 ht]
  have HH2 := hid H2
  have HI := hid hi
  have HJ := hid hj
  clear hi hj
  clear hk ht hr H2
  clear h hl hd hw hc1
  unfold msgV
  by_cases hs : c.term < m.term
  · have gs : decide (c.term < m.term) = true := by simpa using hs
    have HS := hid hs
    clear hs
    skip
    go_enter Try.func22, Try.ntmps22
    go_wp2_with fail
    refine (wrong_is false _ B n c lv sv m ea da ec dc (Off n lv) (H.out.k ((Keeps.refl [] w).alloc _)) (HL.out.k ((Keeps.refl [] w).alloc _)) HW.out).mono ?_
    rintro e w1 ⟨rfl, hk⟩
    have HK : Hid (Keeps [] w w1) := Keeps.trans (by exact Keeps.K) hk (fun _ _ h => h)
    have HB1 : Hid (w1.heap[w.heap.size]? = some (.cells #[.int .i64 m.kind, .int .i64 m.frm, .int .i64 m.to, .int .i64 m.term, .int .i64 m.a, .int .i64 m.b, .int .i64 m.c, .bool m.ok, .slice ea m.entries.length ec, .slice da m.data.length dc] 40 (0, 0))) := (hk.block w.heap.size (by simp) (by simp)).trans (heap_alloc_new w _)
    have hz1 : w.heap.size < w1.heap.size := (Array.getElem?_eq_some_iff.1 HB1.out).1
    have x10 : w1.cell? ⟨n, 10, none⟩ = some (.int .i64 c.term) := (H.out.k HK.out).blk.cell 10
    obtain ⟨⟨c0, c1', c2, c3, c4, c5, c6, c7, c8, c9⟩, f3⟩ := blk10 HB1.out
    clear hk h10
    go_wp2_with fail
    go_quiet (fail)
    go_wp2_with fail
    refine (rises_any _ B n c lv sv m.term 0 (H.out.k ?_) HT.out).mono ?_
    (· have kk := HK.out; exact Keeps.K)
    rintro e w2 ⟨rfl, hc2, hk2⟩
    have HB2 := (hk2.block w.heap.size (by simp; omega) (by simp; omega)).trans HB1.out
    clear c0 c1' c2 c3 c4 c5 c6 c7 c8 c9 f3 x10
    obtain ⟨⟨c0, c1', c2, c3, c4, c5, c6, c7, c8, c9⟩, f3⟩ := blk10 HB2
    have y12 : w2.cell? ⟨n, 12, none⟩ = some (.int .i64 c.role) := hc2.blk.cell 12
    have y13 : w2.cell? ⟨n, 13, none⟩ = some (.int .i64 c.leader) := hc2.blk.cell 13
    have fz : ∀ i, w2.frozen? ⟨n, i, none⟩ = false := fun i => hc2.blk.free i
    have hnz : n ≠ w.heap.size := by omega
    have HX : Hid (∃ w3, w3 = (w2.setCell ⟨n, 12, none⟩ (.int .i64 0)).setCell ⟨n, 13, none⟩ (.int .i64 0) ∧ CoreAt w3 B n c1 lv sv ∧ Keeps [n] w w3 ∧ Keeps [n] _ w3) := HS1.out HS.out _ w2 (by have kk := HK.out; exact Keeps.K) hc2 hk2
    have HB1' : (w1.drewN nq).heap[w.heap.size]? = some (.cells #[.int .i64 m.kind, .int .i64 m.frm, .int .i64 m.to, .int .i64 m.term, .int .i64 m.a, .int .i64 m.b, .int .i64 m.c, .bool m.ok, .slice ea m.entries.length ec, .slice da m.data.length dc] 40 (0, 0)) := HB1.out
    have hz1' : w.heap.size < (w1.drewN nq).heap.size := hz1
    clear hc2 hk2 HB2
    go_wp2_with fail
    obtain ⟨w3, hw3, hc3, hk3, hk13⟩ := HX.out
    rw [← hw3]
    have HB3 : Hid (w3.heap[w.heap.size]? = some (.cells #[.int .i64 m.kind, .int .i64 m.frm, .int .i64 m.to, .int .i64 m.term, .int .i64 m.a, .int .i64 m.b, .int .i64 m.c, .bool m.ok, .slice ea m.entries.length ec, .slice da m.data.length dc] 40 (0, 0))) := (hk13.block w.heap.size hz1' (by simp; omega)).trans HB1'
    clear y12 y13 fz hw3 HX hk13 HB1' hz1'
    clear c0 c1' c2 c3 c4 c5 c6 c7 c8 c9 f3
    obtain ⟨⟨c0, c1', c2, c3, c4, c5, c6, c7, c8, c9⟩, f3⟩ := blk10 HB3.out
    have y10 : w3.cell? ⟨n, 10, none⟩ = some (.int .i64 c1.term) := hc3.blk.cell 10
    have y12 : w3.cell? ⟨n, 12, none⟩ = some (.int .i64 c1.role) := hc3.blk.cell 12
    have y13 : w3.cell? ⟨n, 13, none⟩ = some (.int .i64 c1.leader) := hc3.blk.cell 13
    have y20 : w3.cell? ⟨n, 20, none⟩ = some (.int .i64 c1.patience) := hc3.blk.cell 20
    have fz : ∀ i, w3.frozen? ⟨n, i, none⟩ = false := fun i => hc3.blk.free i
    have hz3 : w.heap.size < w3.heap.size := (Array.getElem?_eq_some_iff.1 HB3.out).1
    have C3 := hid hc3
    have K3 := hid hk3
    clear hc3 hk3 hz1
    go_quiet (fail)
    go_wp2_with fail
    refine (cin_is true _ _ _ _ HI.out).mono ?_
    rintro e w' ⟨rfl, hw'⟩
    subst hw'
    go_wp2_with fail
    refine (cin_is true _ _ _ _ HJ.out).mono ?_
    rintro e w' ⟨rfl, hw'⟩
    subst hw'
    go_wp2_with fail
    refine Plan.wp_region_plan (fun wx => wx.cell? ⟨w.heap.size, 0, none⟩ = some (.int .i64 m.kind) ∧ wx.cell? ⟨w.heap.size, 1, none⟩ = some (.int .i64 m.frm) ∧ wx.cell? ⟨w.heap.size, 2, none⟩ = some (.int .i64 m.to) ∧ wx.cell? ⟨w.heap.size, 3, none⟩ = some (.int .i64 m.term) ∧ wx.cell? ⟨w.heap.size, 4, none⟩ = some (.int .i64 m.a) ∧ wx.cell? ⟨w.heap.size, 5, none⟩ = some (.int .i64 m.b) ∧ wx.cell? ⟨w.heap.size, 6, none⟩ = some (.int .i64 m.c) ∧ wx.cell? ⟨w.heap.size, 7, none⟩ = some (.bool m.ok) ∧ wx.cell? ⟨w.heap.size, 8, none⟩ = some (.slice ea m.entries.length ec) ∧ wx.cell? ⟨w.heap.size, 9, none⟩ = some (.slice da m.data.length dc)) 11 [(true, 0), (true, 1), (true, 2), (true, 3), (true, 4), (true, 5), (true, 6), (false, 7), (true, 8), (true, 9), (false, 10)] (by kernel_rfl) (by as_aux_lemma => kernel_rfl) (by kernel_rfl) (fun _ _ _ _ _ h => h) ?_ (fun hS => ?_)
    (· go_simp)
    simp only [Plan.pick, List.append_eq, List.cons_append, List.nil_append, Plan.g1, Plan.g2, Option.getD_some, List.drop_succ_cons, List.drop_zero]
    iterate 7 (first | refine Plan.tA ?_ | refine Plan.tY ?_ | refine Plan.pN ?_ | refine Plan.pU ?_ | fail)
    refine Plan.step ?_
    go_wp2_with fail
    refine ⟨?_, ?_⟩
    (· go_simp)
    iterate 2 (first | refine Plan.tA ?_ | refine Plan.tY ?_ | refine Plan.pN ?_ | refine Plan.pU ?_ | fail)
    refine Plan.step ?_
    go_wp2_with fail
    refine ⟨?_, ?_⟩
    (· go_simp)
    refine Plan.fin ?_
    have HX : Hid (∃ w5, w5 = (((w3.drewN (nq + 1)).setCell ⟨n, 12, none⟩ (.int .i64 0)).setCell ⟨n, 13, none⟩ (.int .i64 m.frm)).setCell ⟨n, 20, none⟩ (.int .i64 0) ∧ CoreAt w5 B n (followD c1 m) lv sv ∧ Keeps [n] w w5) := by
      have k5 : Keeps [n] w3 ((((w3.drewN (nq + 1)).setCell ⟨n, 12, none⟩ (.int .i64 0)).setCell ⟨n, 13, none⟩ (.int .i64 m.frm)).setCell ⟨n, 20, none⟩ (.int .i64 0)) := by exact Keeps.K
      exact ⟨_, rfl, C3.out.wrote k5 ((((C3.out.k (((Keeps.refl [] w3).drewN (nq + 1)))).blk.set (c' := { c1 with role := 0 }) 12 _ rfl).set (c' := { c1 with role := 0, leader := m.frm }) 13 _ rfl).set 20 _ rfl) rfl rfl (followD_ok C3.out.ok m), K3.out.trans k5 (fun _ _ h => h)⟩
    go_wp2_with fail
    obtain ⟨w5, hw5, hc5, hk5⟩ := HX.out
    rw [← hw5]
    have K5 := hid hk5
    clear hw5 HX
    refine (HH2.out w5 hc5 (HL.out.keep K5.out (fun b hb hb' => by simp at hb'; exact hb.1 hb')) (HD.out.keep K5.out (fun b hb hb' => by simp at hb'; exact hb.1 hb'))).mono ?_
    rintro e w6 hp
    obtain ⟨a, q, lv', sv', rfl, hp2⟩ := CallPost.after K5.out hp
    have HP := hid hp2
    clear hp hp2 hc5 hk5
    go_wp2_with fail
    go_ret
    rw [HE.out, HR.out]
    exact ⟨a, q, lv', sv', rfl, HP.out⟩
  · have gs : decide (c.term < m.term) = false := by simpa using hs
    have HS := hid hs
    clear hs
    skip
    go_enter Try.func22, Try.ntmps22
    go_wp2_with fail
    refine (wrong_is false _ B n c lv sv m ea da ec dc (Off n lv) (H.out.k ((Keeps.refl [] w).alloc _)) (HL.out.k ((Keeps.refl [] w).alloc _)) HW.out).mono ?_
    rintro e w1 ⟨rfl, hk⟩
    have HK : Hid (Keeps [] w w1) := Keeps.trans (by exact Keeps.K) hk (fun _ _ h => h)
    have HB1 : Hid (w1.heap[w.heap.size]? = some (.cells #[.int .i64 m.kind, .int .i64 m.frm, .int .i64 m.to, .int .i64 m.term, .int .i64 m.a, .int .i64 m.b, .int .i64 m.c, .bool m.ok, .slice ea m.entries.length ec, .slice da m.data.length dc] 40 (0, 0))) := (hk.block w.heap.size (by simp) (by simp)).trans (heap_alloc_new w _)
    have hz1 : w.heap.size < w1.heap.size := (Array.getElem?_eq_some_iff.1 HB1.out).1
    have x10 : w1.cell? ⟨n, 10, none⟩ = some (.int .i64 c.term) := (H.out.k HK.out).blk.cell 10
    obtain ⟨⟨c0, c1', c2, c3, c4, c5, c6, c7, c8, c9⟩, f3⟩ := blk10 HB1.out
    clear hk h10
    go_wp2_with fail
    go_quiet (fail)
    have HX : Hid (∃ w3, w3 = w1.drewN nq ∧ CoreAt w3 B n c1 lv sv ∧ Keeps [n] w w3 ∧ w3.heap[w.heap.size]? = some (.cells #[.int .i64 m.kind, .int .i64 m.frm, .int .i64 m.to, .int .i64 m.term, .int .i64 m.a, .int .i64 m.b, .int .i64 m.c, .bool m.ok, .slice ea m.entries.length ec, .slice da m.data.length dc] 40 (0, 0))) := ⟨_, rfl, by rw [← HS0.out HS.out]; exact H.out.k (by have kk := HK.out; exact Keeps.K), Keeps.mono (F := []) (by have kk := HK.out; exact Keeps.K) (fun _ _ h => by cases h), HB1.out⟩
    obtain ⟨w3, hw3, hc3, hk3, hb3⟩ := HX.out
    rw [← hw3]
    have HB3 := hid hb3
    have hnz : n ≠ w.heap.size := by omega
    clear hw3 HX hb3
    clear c0 c1' c2 c3 c4 c5 c6 c7 c8 c9 f3
    clear x10
    obtain ⟨⟨c0, c1', c2, c3, c4, c5, c6, c7, c8, c9⟩, f3⟩ := blk10 HB3.out
    have y10 : w3.cell? ⟨n, 10, none⟩ = some (.int .i64 c1.term) := hc3.blk.cell 10
    have y12 : w3.cell? ⟨n, 12, none⟩ = some (.int .i64 c1.role) := hc3.blk.cell 12
    have y13 : w3.cell? ⟨n, 13, none⟩ = some (.int .i64 c1.leader) := hc3.blk.cell 13
    have y20 : w3.cell? ⟨n, 20, none⟩ = some (.int .i64 c1.patience) := hc3.blk.cell 20
    have fz : ∀ i, w3.frozen? ⟨n, i, none⟩ = false := fun i => hc3.blk.free i
    have hz3 : w.heap.size < w3.heap.size := (Array.getElem?_eq_some_iff.1 HB3.out).1
    have C3 := hid hc3
    have K3 := hid hk3
    clear hc3 hk3 hz1
    go_wp2_with fail
    go_quiet (fail)
    go_wp2_with fail
    refine (cin_is true _ _ _ _ HI.out).mono ?_
    rintro e w' ⟨rfl, hw'⟩
    subst hw'
    go_wp2_with fail
    refine (cin_is true _ _ _ _ HJ.out).mono ?_
    rintro e w' ⟨rfl, hw'⟩
    subst hw'
    go_wp2_with fail
    refine Plan.wp_region_plan (fun wx => wx.cell? ⟨w.heap.size, 0, none⟩ = some (.int .i64 m.kind) ∧ wx.cell? ⟨w.heap.size, 1, none⟩ = some (.int .i64 m.frm) ∧ wx.cell? ⟨w.heap.size, 2, none⟩ = some (.int .i64 m.to) ∧ wx.cell? ⟨w.heap.size, 3, none⟩ = some (.int .i64 m.term) ∧ wx.cell? ⟨w.heap.size, 4, none⟩ = some (.int .i64 m.a) ∧ wx.cell? ⟨w.heap.size, 5, none⟩ = some (.int .i64 m.b) ∧ wx.cell? ⟨w.heap.size, 6, none⟩ = some (.int .i64 m.c) ∧ wx.cell? ⟨w.heap.size, 7, none⟩ = some (.bool m.ok) ∧ wx.cell? ⟨w.heap.size, 8, none⟩ = some (.slice ea m.entries.length ec) ∧ wx.cell? ⟨w.heap.size, 9, none⟩ = some (.slice da m.data.length dc)) 11 [(true, 0), (true, 1), (true, 2), (true, 3), (true, 4), (true, 5), (true, 6), (false, 7), (true, 8), (true, 9), (false, 10)] (by kernel_rfl) (by as_aux_lemma => kernel_rfl) (by kernel_rfl) (fun _ _ _ _ _ h => h) ?_ (fun hS => ?_)
    (· go_simp)
    simp only [Plan.pick, List.append_eq, List.cons_append, List.nil_append, Plan.g1, Plan.g2, Option.getD_some, List.drop_succ_cons, List.drop_zero]
    iterate 7 (first | refine Plan.tA ?_ | refine Plan.tY ?_ | refine Plan.pN ?_ | refine Plan.pU ?_ | fail)
    refine Plan.step ?_
    go_wp2_with fail
    refine ⟨?_, ?_⟩
    (· go_simp)
    iterate 2 (first | refine Plan.tA ?_ | refine Plan.tY ?_ | refine Plan.pN ?_ | refine Plan.pU ?_ | fail)
    refine Plan.step ?_
    go_wp2_with fail
    refine ⟨?_, ?_⟩
    (· go_simp)
    refine Plan.fin ?_
    have HX : Hid (∃ w5, w5 = (((w3.drewN (nq + 1)).setCell ⟨n, 12, none⟩ (.int .i64 0)).setCell ⟨n, 13, none⟩ (.int .i64 m.frm)).setCell ⟨n, 20, none⟩ (.int .i64 0) ∧ CoreAt w5 B n (followD c1 m) lv sv ∧ Keeps [n] w w5) := by
      have k5 : Keeps [n] w3 ((((w3.drewN (nq + 1)).setCell ⟨n, 12, none⟩ (.int .i64 0)).setCell ⟨n, 13, none⟩ (.int .i64 m.frm)).setCell ⟨n, 20, none⟩ (.int .i64 0)) := by exact Keeps.K
      exact ⟨_, rfl, C3.out.wrote k5 ((((C3.out.k (((Keeps.refl [] w3).drewN (nq + 1)))).blk.set (c' := { c1 with role := 0 }) 12 _ rfl).set (c' := { c1 with role := 0, leader := m.frm }) 13 _ rfl).set 20 _ rfl) rfl rfl (followD_ok C3.out.ok m), K3.out.trans k5 (fun _ _ h => h)⟩
    go_wp2_with fail
    obtain ⟨w5, hw5, hc5, hk5⟩ := HX.out
    rw [← hw5]
    have K5 := hid hk5
    clear hw5 HX
    refine (HH2.out w5 hc5 (HL.out.keep K5.out (fun b hb hb' => by simp at hb'; exact hb.1 hb')) (HD.out.keep K5.out (fun b hb hb' => by simp at hb'; exact hb.1 hb'))).mono ?_
    rintro e w6 hp
    obtain ⟨a, q, lv', sv', rfl, hp2⟩ := CallPost.after K5.out hp
    have HP := hid hp2
    clear hp hp2 hc5 hk5
    go_wp2_with fail
    go_ret
    rw [HE.out, HR.out]
    exact ⟨a, q, lv', sv', rfl, HP.out⟩

end Go.Proofs.Ytpppoajnbhipeaa
