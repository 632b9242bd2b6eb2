/- Hear: what is done with a message, by what the four great ones do. -/
import Derived.Test.YtpppoajnbhipeaaCoreM
namespace Go.Proofs.Ytpppoajnbhipeaa
open Go Go.RowKit

theorem CallPost.after {B n : Nat} {lv : Value} {r : CoreD × List MsgD} {w w1 w' : World} {e : Ending} (k : Keeps [n] w w1) (h : CallPost B n lv r w1 e w') : CallPost B n lv r w e w' := by
  obtain ⟨a, q, lv', sv', he, hc, ⟨hm1, hm2⟩, hk, hv⟩ := h
  have hz := k.size
  exact ⟨a, q, lv', sv', he, hc, ⟨(hm1.base hz).mono (fun b _ hb => ⟨⟨Nat.le_trans hz hb.1.1, hb.1.2⟩, hb.2⟩), hm2⟩, (k.mono (G := n :: ownB lv) (fun b _ h => by simp at h; simp [h])).trans hk (fun b _ h => h), fun b hb => (hv b hb).imp (fun h => h) (fun h => Nat.le_trans hz h)⟩

/-- What a part of Hear does with a message. -/
def HearC (f : Nat) (F : CoreD → MsgD → CoreD × List MsgD) (B n : Nat) (c : CoreD) (lv sv : Value) (m : MsgD) (ea da : Option Addr) (ec dc : Nat) : Prop :=
  ∀ w1, CoreAt w1 B n c lv sv → ListAt entL w1 (Off n lv) (.slice ea m.entries.length ec) m.entries → BytesAt w1 (Off n lv) (.slice da m.data.length dc) m.data → Calls Try.prog f #[.pointer (some ⟨n, 0, none⟩), msgV m (.slice ea m.entries.length ec) (.slice da m.data.length dc)] w1 (CallPost B n lv (F c m) w1)

theorem stepD_ok {c : CoreD} {m : MsgD} (h : CoreOk c) (hw : wrongD c m = false) : CoreOk (stepD c m) := by
  unfold wrongD at hw
  simp only [Bool.or_eq_false_iff] at hw
  have h5 := (wrongHead_no hw.1).2.2.2.2.1
  unfold stepD
  split
  · exact { may := h.may, id := h.id, term := ⟨by show 0 ≤ m.term; omega, h5.2⟩, base := h.base, baseTerm := h.baseTerm, len := h.len, last := h.last, commit := h.commit, draw := h.draw, votes := h.votes, next := h.next, matc := h.matc, nexts := h.nexts, matcs := h.matcs, ents := h.ents, frm := h.frm, data := h.data, snap := h.snap }
  · exact h
theorem followD_ok {c : CoreD} (h : CoreOk c) (m : MsgD) : CoreOk (followD c m) :=
  { may := h.may, id := h.id, term := h.term, base := h.base, baseTerm := h.baseTerm, len := h.len, last := h.last, commit := h.commit, draw := h.draw, votes := h.votes, next := h.next, matc := h.matc, nexts := h.nexts, matcs := h.matcs, ents := h.ents, frm := h.frm, data := h.data, snap := h.snap }

set_option maxRecDepth 100000 in
set_option maxHeartbeats 6400000 in
theorem hear_wrong (w : World) (B n : Nat) (c : CoreD) (lv sv : Value) (m : MsgD) (ea da : Option Addr) (ec dc : Nat) (h : CoreAt w B n c lv sv) (hl : ListAt entL w (Off n lv) (.slice ea m.entries.length ec) m.entries) (hw : wrongD c m = true) :
    Calls Try.prog 22 #[.pointer (some ⟨n, 0, none⟩), msgV m (.slice ea m.entries.length ec) (.slice da m.data.length dc)] w (CallPost B n lv (hearD c m) w) := by
  have HW := hid hw
  have H := hid h
  have HL := hid hl
  have HE : Hid (∀ w', Keeps [] w w' → CallPost B n lv (hearD c m) w (.returned (.slice none 0 0)) w') := fun w' k => by
    have e : hearD c m = (c, []) := by unfold hearD; rw [hw]; rfl
    rw [e]
    exact CallPost.silent rfl (h.k k) (k.mono (fun _ _ h => by cases h))
  clear h hl hw
  unfold msgV
  go_enter Try.func22, Try.ntmps22
  go_wp2_with fail
  refine (wrong_is true _ B n c lv sv m ea da ec dc (Off n lv) (H.out.k ((Keeps.refl [] w).alloc _)) (HL.out.k ((Keeps.refl [] w).alloc _)) HW.out).mono ?_
  rintro e w1 ⟨rfl, hk⟩
  have HK : Hid (Keeps [] w w1) := Keeps.trans (by exact Keeps.K) hk (fun _ _ h => h)
  clear hk
  go_wp2_with fail
  go_ret
  exact HE.out _ HK.out

set_option maxRecDepth 100000 in
set_option maxHeartbeats 6400000 in
theorem hear_1 (w : World) (B n : Nat) (c c1 : CoreD) (lv sv : Value) (m : MsgD) (ea da : Option Addr) (ec dc : Nat) (h : CoreAt w B n c lv sv) (hl : ListAt entL w (Off n lv) (.slice ea m.entries.length ec) m.entries) (hd : BytesAt w (Off n lv) (.slice da m.data.length dc) m.data) (hw : wrongD c m = false) (hc1 : stepD c m = c1)
    (hk : m.kind = 1) :
    Calls Try.prog 22 #[.pointer (some ⟨n, 0, none⟩), msgV m (.slice ea m.entries.length ec) (.slice da m.data.length dc)] w (CallPost B n lv (hearD c m) w) := by
  have h10 : w.cell? ⟨n, 10, none⟩ = some (.int .i64 c.term) := h.blk.cell 10
  have hlt := h.blk.lt
  have hz := hw
  unfold wrongD at hz
  simp only [Bool.or_eq_false_iff] at hz
  have hn := wrongHead_no hz.1
  have HT : Hid (0 ≤ m.term ∧ m.term ≤ 1099511627776) := ⟨by have := hn.2.2.2.2.1; omega, hn.2.2.2.2.1.2⟩
  clear hn hz
  have HE : Hid (hearD c m = heardD c1 m) := by show _ = _; unfold hearD; rw [hw, hc1]; rfl
  have HW := hid hw
  have H := hid h
  have HL := hid hl
  have HD := hid hd
  have HS1 : Hid (c.term < m.term → ∀ w1 w2, Keeps [] w w1 → CoreAt w2 B n (risesD c m.term 0) lv sv → Keeps [n] w1 w2 → ∃ w3, w3 = (w2.setCell ⟨n, 12, none⟩ (.int .i64 0)).setCell ⟨n, 13, none⟩ (.int .i64 0) ∧ CoreAt w3 B n c1 lv sv ∧ Keeps [n] w w3 ∧ Keeps [n] w1 w3) := fun ht w1 w2 k1 h2 k2 => by
    have k3 : Keeps [n] w2 ((w2.setCell ⟨n, 12, none⟩ (.int .i64 0)).setCell ⟨n, 13, none⟩ (.int .i64 0)) := ((Keeps.refl _ _).setCell (.inl (by simp)) _).setCell (.inl (by simp)) _
    have e : stepD c m = { risesD c m.term 0 with role := 0, leader := 0 } := by unfold stepD; rw [if_pos ht]
    have ho := stepD_ok h.ok hw
    rw [← hc1]
    rw [e] at ho ⊢
    exact ⟨_, rfl, h2.wrote k3 ((h2.blk.set (c' := { risesD c m.term 0 with role := 0 }) 12 _ rfl).set 13 _ rfl) rfl rfl ho, ((k1.mono (G := [n]) (fun _ _ h => by cases h)).trans k2 (fun _ _ h => h)).trans k3 (fun _ _ h => h), k2.trans k3 (fun _ _ h => h)⟩
  have HS0 : Hid (¬ c.term < m.term → c = c1) := fun ht => by rw [← hc1]; unfold stepD; rw [if_neg ht]
  have HR : Hid (heardD c1 m = askedD c1 m) := by show _ = _; unfold heardD; simp [hk]
  have g1 : (m.kind == 1) = true := by simp [hk]
  clear hk
  clear h hl hd hw hc1
  unfold msgV
  by_cases hs : c.term < m.term
  · have gs : decide (c.term < m.term) = true := by simpa using hs
    have HS := hid hs
    clear hs
    skip
    go_enter Try.func22, Try.ntmps22
    go_wp2_with fail
    refine (wrong_is false _ B n c lv sv m ea da ec dc (Off n lv) (H.out.k ((Keeps.refl [] w).alloc _)) (HL.out.k ((Keeps.refl [] w).alloc _)) HW.out).mono ?_
    rintro e w1 ⟨rfl, hk⟩
    have HK : Hid (Keeps [] w w1) := Keeps.trans (by exact Keeps.K) hk (fun _ _ h => h)
    have HB1 : Hid (w1.heap[w.heap.size]? = some (.cells #[.int .i64 m.kind, .int .i64 m.frm, .int .i64 m.to, .int .i64 m.term, .int .i64 m.a, .int .i64 m.b, .int .i64 m.c, .bool m.ok, .slice ea m.entries.length ec, .slice da m.data.length dc] 40 (0, 0))) := (hk.block w.heap.size (by simp) (by simp)).trans (heap_alloc_new w _)
    have hz1 : w.heap.size < w1.heap.size := (Array.getElem?_eq_some_iff.1 HB1.out).1
    have x10 : w1.cell? ⟨n, 10, none⟩ = some (.int .i64 c.term) := (H.out.k HK.out).blk.cell 10
    obtain ⟨⟨c0, c1', c2, c3, c4, c5, c6, c7, c8, c9⟩, f3⟩ := blk10 HB1.out
    clear hk h10
    go_wp2_with fail
    go_quiet (fail)
    go_wp2_with fail
    refine (rises_any _ B n c lv sv m.term 0 (H.out.k ?_) HT.out).mono ?_
    (· have kk := HK.out; exact Keeps.K)
    rintro e w2 ⟨rfl, hc2, hk2⟩
    have HB2 := (hk2.block w.heap.size (by simp; omega) (by simp; omega)).trans HB1.out
    clear c0 c1' c2 c3 c4 c5 c6 c7 c8 c9 f3 x10
    obtain ⟨⟨c0, c1', c2, c3, c4, c5, c6, c7, c8, c9⟩, f3⟩ := blk10 HB2
    have y12 : w2.cell? ⟨n, 12, none⟩ = some (.int .i64 c.role) := hc2.blk.cell 12
    have y13 : w2.cell? ⟨n, 13, none⟩ = some (.int .i64 c.leader) := hc2.blk.cell 13
    have fz : ∀ i, w2.frozen? ⟨n, i, none⟩ = false := fun i => hc2.blk.free i
    have hnz : n ≠ w.heap.size := by omega
    have HX : Hid (∃ w3, w3 = (w2.setCell ⟨n, 12, none⟩ (.int .i64 0)).setCell ⟨n, 13, none⟩ (.int .i64 0) ∧ CoreAt w3 B n c1 lv sv ∧ Keeps [n] w w3 ∧ Keeps [n] _ w3) := HS1.out HS.out _ w2 (by have kk := HK.out; exact Keeps.K) hc2 hk2
    have HB1' : (w1.drewN nq).heap[w.heap.size]? = some (.cells #[.int .i64 m.kind, .int .i64 m.frm, .int .i64 m.to, .int .i64 m.term, .int .i64 m.a, .int .i64 m.b, .int .i64 m.c, .bool m.ok, .slice ea m.entries.length ec, .slice da m.data.length dc] 40 (0, 0)) := HB1.out
    have hz1' : w.heap.size < (w1.drewN nq).heap.size := hz1
    clear hc2 hk2 HB2
    go_wp2_with fail
    obtain ⟨w3, hw3, hc3, hk3, hk13⟩ := HX.out
    rw [← hw3]
    have HB3 : Hid (w3.heap[w.heap.size]? = some (.cells #[.int .i64 m.kind, .int .i64 m.frm, .int .i64 m.to, .int .i64 m.term, .int .i64 m.a, .int .i64 m.b, .int .i64 m.c, .bool m.ok, .slice ea m.entries.length ec, .slice da m.data.length dc] 40 (0, 0))) := (hk13.block w.heap.size hz1' (by simp; omega)).trans HB1'
    clear y12 y13 fz hw3 HX hk13 HB1' hz1'
    clear c0 c1' c2 c3 c4 c5 c6 c7 c8 c9 f3
    obtain ⟨⟨c0, c1', c2, c3, c4, c5, c6, c7, c8, c9⟩, f3⟩ := blk10 HB3.out
    have y10 : w3.cell? ⟨n, 10, none⟩ = some (.int .i64 c1.term) := hc3.blk.cell 10
    have y12 : w3.cell? ⟨n, 12, none⟩ = some (.int .i64 c1.role) := hc3.blk.cell 12
    have y13 : w3.cell? ⟨n, 13, none⟩ = some (.int .i64 c1.leader) := hc3.blk.cell 13
    have y20 : w3.cell? ⟨n, 20, none⟩ = some (.int .i64 c1.patience) := hc3.blk.cell 20
    have fz : ∀ i, w3.frozen? ⟨n, i, none⟩ = false := fun i => hc3.blk.free i
    have hz3 : w.heap.size < w3.heap.size := (Array.getElem?_eq_some_iff.1 HB3.out).1
    have C3 := hid hc3
    have K3 := hid hk3
    clear hc3 hk3 hz1
    refine (asked_any w3 B n c1 lv sv m ea da ec dc C3.out).mono ?_
    rintro e w4 hp
    obtain ⟨a, q, lv', sv', rfl, hp2⟩ := CallPost.after K3.out hp
    have HP := hid hp2
    clear hp hp2
    go_wp2_with fail
    go_ret
    rw [HE.out, HR.out]
    exact ⟨a, q, lv', sv', rfl, HP.out⟩
  · have gs : decide (c.term < m.term) = false := by simpa using hs
    have HS := hid hs
    clear hs
    skip
    go_enter Try.func22, Try.ntmps22
    go_wp2_with fail
    refine (wrong_is false _ B n c lv sv m ea da ec dc (Off n lv) (H.out.k ((Keeps.refl [] w).alloc _)) (HL.out.k ((Keeps.refl [] w).alloc _)) HW.out).mono ?_
    rintro e w1 ⟨rfl, hk⟩
    have HK : Hid (Keeps [] w w1) := Keeps.trans (by exact Keeps.K) hk (fun _ _ h => h)
    have HB1 : Hid (w1.heap[w.heap.size]? = some (.cells #[.int .i64 m.kind, .int .i64 m.frm, .int .i64 m.to, .int .i64 m.term, .int .i64 m.a, .int .i64 m.b, .int .i64 m.c, .bool m.ok, .slice ea m.entries.length ec, .slice da m.data.length dc] 40 (0, 0))) := (hk.block w.heap.size (by simp) (by simp)).trans (heap_alloc_new w _)
    have hz1 : w.heap.size < w1.heap.size := (Array.getElem?_eq_some_iff.1 HB1.out).1
    have x10 : w1.cell? ⟨n, 10, none⟩ = some (.int .i64 c.term) := (H.out.k HK.out).blk.cell 10
    obtain ⟨⟨c0, c1', c2, c3, c4, c5, c6, c7, c8, c9⟩, f3⟩ := blk10 HB1.out
    clear hk h10
    go_wp2_with fail
    go_quiet (fail)
    have HX : Hid (∃ w3, w3 = w1.drewN nq ∧ CoreAt w3 B n c1 lv sv ∧ Keeps [n] w w3 ∧ w3.heap[w.heap.size]? = some (.cells #[.int .i64 m.kind, .int .i64 m.frm, .int .i64 m.to, .int .i64 m.term, .int .i64 m.a, .int .i64 m.b, .int .i64 m.c, .bool m.ok, .slice ea m.entries.length ec, .slice da m.data.length dc] 40 (0, 0))) := ⟨_, rfl, by rw [← HS0.out HS.out]; exact H.out.k (by have kk := HK.out; exact Keeps.K), Keeps.mono (F := []) (by have kk := HK.out; exact Keeps.K) (fun _ _ h => by cases h), HB1.out⟩
    obtain ⟨w3, hw3, hc3, hk3, hb3⟩ := HX.out
    rw [← hw3]
    have HB3 := hid hb3
    have hnz : n ≠ w.heap.size := by omega
    clear hw3 HX hb3
    clear c0 c1' c2 c3 c4 c5 c6 c7 c8 c9 f3
    clear x10
    obtain ⟨⟨c0, c1', c2, c3, c4, c5, c6, c7, c8, c9⟩, f3⟩ := blk10 HB3.out
    have y10 : w3.cell? ⟨n, 10, none⟩ = some (.int .i64 c1.term) := hc3.blk.cell 10
    have y12 : w3.cell? ⟨n, 12, none⟩ = some (.int .i64 c1.role) := hc3.blk.cell 12
    have y13 : w3.cell? ⟨n, 13, none⟩ = some (.int .i64 c1.leader) := hc3.blk.cell 13
    have y20 : w3.cell? ⟨n, 20, none⟩ = some (.int .i64 c1.patience) := hc3.blk.cell 20
    have fz : ∀ i, w3.frozen? ⟨n, i, none⟩ = false := fun i => hc3.blk.free i
    have hz3 : w.heap.size < w3.heap.size := (Array.getElem?_eq_some_iff.1 HB3.out).1
    have C3 := hid hc3
    have K3 := hid hk3
    clear hc3 hk3 hz1
    go_wp2_with fail
    refine (asked_any w3 B n c1 lv sv m ea da ec dc C3.out).mono ?_
    rintro e w4 hp
    obtain ⟨a, q, lv', sv', rfl, hp2⟩ := CallPost.after K3.out hp
    have HP := hid hp2
    clear hp hp2
    go_wp2_with fail
    go_ret
    rw [HE.out, HR.out]
    exact ⟨a, q, lv', sv', rfl, HP.out⟩

set_option maxRecDepth 100000 in
set_option maxHeartbeats 6400000 in
theorem hear_2 (w : World) (B n : Nat) (c c1 : CoreD) (lv sv : Value) (m : MsgD) (ea da : Option Addr) (ec dc : Nat) (h : CoreAt w B n c lv sv) (hl : ListAt entL w (Off n lv) (.slice ea m.entries.length ec) m.entries) (hd : BytesAt w (Off n lv) (.slice da m.data.length dc) m.data) (hw : wrongD c m = false) (hc1 : stepD c m = c1)
    (hk : m.kind = 2) (H2 : HearC 55 votedD B n c1 lv sv m ea da ec dc) :
    Calls Try.prog 22 #[.pointer (some ⟨n, 0, none⟩), msgV m (.slice ea m.entries.length ec) (.slice da m.data.length dc)] w (CallPost B n lv (hearD c m) w) := by
  have h10 : w.cell? ⟨n, 10, none⟩ = some (.int .i64 c.term) := h.blk.cell 10
  have hlt := h.blk.lt
  have hz := hw
  unfold wrongD at hz
  simp only [Bool.or_eq_false_iff] at hz
  have hn := wrongHead_no hz.1
  have HT : Hid (0 ≤ m.term ∧ m.term ≤ 1099511627776) := ⟨by have := hn.2.2.2.2.1; omega, hn.2.2.2.2.1.2⟩
  clear hn hz
  have HE : Hid (hearD c m = heardD c1 m) := by show _ = _; unfold hearD; rw [hw, hc1]; rfl
  have HW := hid hw
  have H := hid h
  have HL := hid hl
  have HD := hid hd
  have HS1 : Hid (c.term < m.term → ∀ w1 w2, Keeps [] w w1 → CoreAt w2 B n (risesD c m.term 0) lv sv → Keeps [n] w1 w2 → ∃ w3, w3 = (w2.setCell ⟨n, 12, none⟩ (.int .i64 0)).setCell ⟨n, 13, none⟩ (.int .i64 0) ∧ CoreAt w3 B n c1 lv sv ∧ Keeps [n] w w3 ∧ Keeps [n] w1 w3) := fun ht w1 w2 k1 h2 k2 => by
    have k3 : Keeps [n] w2 ((w2.setCell ⟨n, 12, none⟩ (.int .i64 0)).setCell ⟨n, 13, none⟩ (.int .i64 0)) := ((Keeps.refl _ _).setCell (.inl (by simp)) _).setCell (.inl (by simp)) _
    have e : stepD c m = { risesD c m.term 0 with role := 0, leader := 0 } := by unfold stepD; rw [if_pos ht]
    have ho := stepD_ok h.ok hw
    rw [← hc1]
    rw [e] at ho ⊢
    exact ⟨_, rfl, h2.wrote k3 ((h2.blk.set (c' := { risesD c m.term 0 with role := 0 }) 12 _ rfl).set 13 _ rfl) rfl rfl ho, ((k1.mono (G := [n]) (fun _ _ h => by cases h)).trans k2 (fun _ _ h => h)).trans k3 (fun _ _ h => h), k2.trans k3 (fun _ _ h => h)⟩
  have HS0 : Hid (¬ c.term < m.term → c = c1) := fun ht => by rw [← hc1]; unfold stepD; rw [if_neg ht]
  have HR : Hid (heardD c1 m = votedD c1 m) := by show _ = _; unfold heardD; simp [hk]
  have g1 : (m.kind == 1) = false := by simp [hk]
  have g2 : (m.kind == 2) = true := by simp [hk]
  have HH2 := hid H2
  clear hk H2
  clear h hl hd hw hc1
  unfold msgV
  by_cases hs : c.term < m.term
  · have gs : decide (c.term < m.term) = true := by simpa using hs
    have HS := hid hs
    clear hs
    skip
    go_enter Try.func22, Try.ntmps22
    go_wp2_with fail
    refine (wrong_is false _ B n c lv sv m ea da ec dc (Off n lv) (H.out.k ((Keeps.refl [] w).alloc _)) (HL.out.k ((Keeps.refl [] w).alloc _)) HW.out).mono ?_
    rintro e w1 ⟨rfl, hk⟩
    have HK : Hid (Keeps [] w w1) := Keeps.trans (by exact Keeps.K) hk (fun _ _ h => h)
    have HB1 : Hid (w1.heap[w.heap.size]? = some (.cells #[.int .i64 m.kind, .int .i64 m.frm, .int .i64 m.to, .int .i64 m.term, .int .i64 m.a, .int .i64 m.b, .int .i64 m.c, .bool m.ok, .slice ea m.entries.length ec, .slice da m.data.length dc] 40 (0, 0))) := (hk.block w.heap.size (by simp) (by simp)).trans (heap_alloc_new w _)
    have hz1 : w.heap.size < w1.heap.size := (Array.getElem?_eq_some_iff.1 HB1.out).1
    have x10 : w1.cell? ⟨n, 10, none⟩ = some (.int .i64 c.term) := (H.out.k HK.out).blk.cell 10
    obtain ⟨⟨c0, c1', c2, c3, c4, c5, c6, c7, c8, c9⟩, f3⟩ := blk10 HB1.out
    clear hk h10
    go_wp2_with fail
    go_quiet (fail)
    go_wp2_with fail
    refine (rises_any _ B n c lv sv m.term 0 (H.out.k ?_) HT.out).mono ?_
    (· have kk := HK.out; exact Keeps.K)
    rintro e w2 ⟨rfl, hc2, hk2⟩
    have HB2 := (hk2.block w.heap.size (by simp; omega) (by simp; omega)).trans HB1.out
    clear c0 c1' c2 c3 c4 c5 c6 c7 c8 c9 f3 x10
    obtain ⟨⟨c0, c1', c2, c3, c4, c5, c6, c7, c8, c9⟩, f3⟩ := blk10 HB2
    have y12 : w2.cell? ⟨n, 12, none⟩ = some (.int .i64 c.role) := hc2.blk.cell 12
    have y13 : w2.cell? ⟨n, 13, none⟩ = some (.int .i64 c.leader) := hc2.blk.cell 13
    have fz : ∀ i, w2.frozen? ⟨n, i, none⟩ = false := fun i => hc2.blk.free i
    have hnz : n ≠ w.heap.size := by omega
    have HX : Hid (∃ w3, w3 = (w2.setCell ⟨n, 12, none⟩ (.int .i64 0)).setCell ⟨n, 13, none⟩ (.int .i64 0) ∧ CoreAt w3 B n c1 lv sv ∧ Keeps [n] w w3 ∧ Keeps [n] _ w3) := HS1.out HS.out _ w2 (by have kk := HK.out; exact Keeps.K) hc2 hk2
    have HB1' : (w1.drewN nq).heap[w.heap.size]? = some (.cells #[.int .i64 m.kind, .int .i64 m.frm, .int .i64 m.to, .int .i64 m.term, .int .i64 m.a, .int .i64 m.b, .int .i64 m.c, .bool m.ok, .slice ea m.entries.length ec, .slice da m.data.length dc] 40 (0, 0)) := HB1.out
    have hz1' : w.heap.size < (w1.drewN nq).heap.size := hz1
    clear hc2 hk2 HB2
    go_wp2_with fail
    obtain ⟨w3, hw3, hc3, hk3, hk13⟩ := HX.out
    rw [← hw3]
    have HB3 : Hid (w3.heap[w.heap.size]? = some (.cells #[.int .i64 m.kind, .int .i64 m.frm, .int .i64 m.to, .int .i64 m.term, .int .i64 m.a, .int .i64 m.b, .int .i64 m.c, .bool m.ok, .slice ea m.entries.length ec, .slice da m.data.length dc] 40 (0, 0))) := (hk13.block w.heap.size hz1' (by simp; omega)).trans HB1'
    clear y12 y13 fz hw3 HX hk13 HB1' hz1'
    clear c0 c1' c2 c3 c4 c5 c6 c7 c8 c9 f3
    obtain ⟨⟨c0, c1', c2, c3, c4, c5, c6, c7, c8, c9⟩, f3⟩ := blk10 HB3.out
    have y10 : w3.cell? ⟨n, 10, none⟩ = some (.int .i64 c1.term) := hc3.blk.cell 10
    have y12 : w3.cell? ⟨n, 12, none⟩ = some (.int .i64 c1.role) := hc3.blk.cell 12
    have y13 : w3.cell? ⟨n, 13, none⟩ = some (.int .i64 c1.leader) := hc3.blk.cell 13
    have y20 : w3.cell? ⟨n, 20, none⟩ = some (.int .i64 c1.patience) := hc3.blk.cell 20
    have fz : ∀ i, w3.frozen? ⟨n, i, none⟩ = false := fun i => hc3.blk.free i
    have hz3 : w.heap.size < w3.heap.size := (Array.getElem?_eq_some_iff.1 HB3.out).1
    have C3 := hid hc3
    have K3 := hid hk3
    clear hc3 hk3 hz1
    refine (HH2.out w3 C3.out (HL.out.keep K3.out (fun b hb hb' => by simp at hb'; exact hb.1 hb')) (HD.out.keep K3.out (fun b hb hb' => by simp at hb'; exact hb.1 hb'))).mono ?_
    rintro e w4 hp
    obtain ⟨a, q, lv', sv', rfl, hp2⟩ := CallPost.after K3.out hp
    have HP := hid hp2
    clear hp hp2
    go_wp2_with fail
    go_ret
    rw [HE.out, HR.out]
    exact ⟨a, q, lv', sv', rfl, HP.out⟩
  · have gs : decide (c.term < m.term) = false := by simpa using hs
    have HS := hid hs
    clear hs
    skip
    go_enter Try.func22, Try.ntmps22
    go_wp2_with fail
    refine (wrong_is false _ B n c lv sv m ea da ec dc (Off n lv) (H.out.k ((Keeps.refl [] w).alloc _)) (HL.out.k ((Keeps.refl [] w).alloc _)) HW.out).mono ?_
    rintro e w1 ⟨rfl, hk⟩
    have HK : Hid (Keeps [] w w1) := Keeps.trans (by exact Keeps.K) hk (fun _ _ h => h)
    have HB1 : Hid (w1.heap[w.heap.size]? = some (.cells #[.int .i64 m.kind, .int .i64 m.frm, .int .i64 m.to, .int .i64 m.term, .int .i64 m.a, .int .i64 m.b, .int .i64 m.c, .bool m.ok, .slice ea m.entries.length ec, .slice da m.data.length dc] 40 (0, 0))) := (hk.block w.heap.size (by simp) (by simp)).trans (heap_alloc_new w _)
    have hz1 : w.heap.size < w1.heap.size := (Array.getElem?_eq_some_iff.1 HB1.out).1
    have x10 : w1.cell? ⟨n, 10, none⟩ = some (.int .i64 c.term) := (H.out.k HK.out).blk.cell 10
    obtain ⟨⟨c0, c1', c2, c3, c4, c5, c6, c7, c8, c9⟩, f3⟩ := blk10 HB1.out
    clear hk h10
    go_wp2_with fail
    go_quiet (fail)
    have HX : Hid (∃ w3, w3 = w1.drewN nq ∧ CoreAt w3 B n c1 lv sv ∧ Keeps [n] w w3 ∧ w3.heap[w.heap.size]? = some (.cells #[.int .i64 m.kind, .int .i64 m.frm, .int .i64 m.to, .int .i64 m.term, .int .i64 m.a, .int .i64 m.b, .int .i64 m.c, .bool m.ok, .slice ea m.entries.length ec, .slice da m.data.length dc] 40 (0, 0))) := ⟨_, rfl, by rw [← HS0.out HS.out]; exact H.out.k (by have kk := HK.out; exact Keeps.K), Keeps.mono (F := []) (by have kk := HK.out; exact Keeps.K) (fun _ _ h => by cases h), HB1.out⟩
    obtain ⟨w3, hw3, hc3, hk3, hb3⟩ := HX.out
    rw [← hw3]
    have HB3 := hid hb3
    have hnz : n ≠ w.heap.size := by omega
    clear hw3 HX hb3
    clear c0 c1' c2 c3 c4 c5 c6 c7 c8 c9 f3
    clear x10
    obtain ⟨⟨c0, c1', c2, c3, c4, c5, c6, c7, c8, c9⟩, f3⟩ := blk10 HB3.out
    have y10 : w3.cell? ⟨n, 10, none⟩ = some (.int .i64 c1.term) := hc3.blk.cell 10
    have y12 : w3.cell? ⟨n, 12, none⟩ = some (.int .i64 c1.role) := hc3.blk.cell 12
    have y13 : w3.cell? ⟨n, 13, none⟩ = some (.int .i64 c1.leader) := hc3.blk.cell 13
    have y20 : w3.cell? ⟨n, 20, none⟩ = some (.int .i64 c1.patience) := hc3.blk.cell 20
    have fz : ∀ i, w3.frozen? ⟨n, i, none⟩ = false := fun i => hc3.blk.free i
    have hz3 : w.heap.size < w3.heap.size := (Array.getElem?_eq_some_iff.1 HB3.out).1
    have C3 := hid hc3
    have K3 := hid hk3
    clear hc3 hk3 hz1
    go_wp2_with fail
    refine (HH2.out w3 C3.out (HL.out.keep K3.out (fun b hb hb' => by simp at hb'; exact hb.1 hb')) (HD.out.keep K3.out (fun b hb hb' => by simp at hb'; exact hb.1 hb'))).mono ?_
    rintro e w4 hp
    obtain ⟨a, q, lv', sv', rfl, hp2⟩ := CallPost.after K3.out hp
    have HP := hid hp2
    clear hp hp2
    go_wp2_with fail
    go_ret
    rw [HE.out, HR.out]
    exact ⟨a, q, lv', sv', rfl, HP.out⟩

set_option maxRecDepth 100000 in
set_option maxHeartbeats 6400000 in
theorem hear_4 (w : World) (B n : Nat) (c c1 : CoreD) (lv sv : Value) (m : MsgD) (ea da : Option Addr) (ec dc : Nat) (h : CoreAt w B n c lv sv) (hl : ListAt entL w (Off n lv) (.slice ea m.entries.length ec) m.entries) (hd : BytesAt w (Off n lv) (.slice da m.data.length dc) m.data) (hw : wrongD c m = false) (hc1 : stepD c m = c1)
    (hk : m.kind = 4) (H2 : HearC 56 appendedD B n c1 lv sv m ea da ec dc) :
    Calls Try.prog 22 #[.pointer (some ⟨n, 0, none⟩), msgV m (.slice ea m.entries.length ec) (.slice da m.data.length dc)] w (CallPost B n lv (hearD c m) w) := by
  have h10 : w.cell? ⟨n, 10, none⟩ = some (.int .i64 c.term) := h.blk.cell 10
  have hlt := h.blk.lt
  have hz := hw
  unfold wrongD at hz
  simp only [Bool.or_eq_false_iff] at hz
  have hn := wrongHead_no hz.1
  have HT : Hid (0 ≤ m.term ∧ m.term ≤ 1099511627776) := ⟨by have := hn.2.2.2.2.1; omega, hn.2.2.2.2.1.2⟩
  clear hn hz
  have HE : Hid (hearD c m = heardD c1 m) := by show _ = _; unfold hearD; rw [hw, hc1]; rfl
  have HW := hid hw
  have H := hid h
  have HL := hid hl
  have HD := hid hd
  have HS1 : Hid (c.term < m.term → ∀ w1 w2, Keeps [] w w1 → CoreAt w2 B n (risesD c m.term 0) lv sv → Keeps [n] w1 w2 → ∃ w3, w3 = (w2.setCell ⟨n, 12, none⟩ (.int .i64 0)).setCell ⟨n, 13, none⟩ (.int .i64 0) ∧ CoreAt w3 B n c1 lv sv ∧ Keeps [n] w w3 ∧ Keeps [n] w1 w3) := fun ht w1 w2 k1 h2 k2 => by
    have k3 : Keeps [n] w2 ((w2.setCell ⟨n, 12, none⟩ (.int .i64 0)).setCell ⟨n, 13, none⟩ (.int .i64 0)) := ((Keeps.refl _ _).setCell (.inl (by simp)) _).setCell (.inl (by simp)) _
    have e : stepD c m = { risesD c m.term 0 with role := 0, leader := 0 } := by unfold stepD; rw [if_pos ht]
    have ho := stepD_ok h.ok hw
    rw [← hc1]
    rw [e] at ho ⊢
    exact ⟨_, rfl, h2.wrote k3 ((h2.blk.set (c' := { risesD c m.term 0 with role := 0 }) 12 _ rfl).set 13 _ rfl) rfl rfl ho, ((k1.mono (G := [n]) (fun _ _ h => by cases h)).trans k2 (fun _ _ h => h)).trans k3 (fun _ _ h => h), k2.trans k3 (fun _ _ h => h)⟩
  have HS0 : Hid (¬ c.term < m.term → c = c1) := fun ht => by rw [← hc1]; unfold stepD; rw [if_neg ht]
  have HR : Hid (heardD c1 m = appendedD c1 m) := by show _ = _; unfold heardD; simp [hk]
  have g1 : (m.kind == 1) = false := by simp [hk]
  have g2 : (m.kind == 2) = false := by simp [hk]
  have g4 : (m.kind == 4) = true := by simp [hk]
  have HH2 := hid H2
  clear hk H2
  clear h hl hd hw hc1
  unfold msgV
  by_cases hs : c.term < m.term
  · have gs : decide (c.term < m.term) = true := by simpa using hs
    have HS := hid hs
    clear hs
    skip
    go_enter Try.func22, Try.ntmps22
    go_wp2_with fail
    refine (wrong_is false _ B n c lv sv m ea da ec dc (Off n lv) (H.out.k ((Keeps.refl [] w).alloc _)) (HL.out.k ((Keeps.refl [] w).alloc _)) HW.out).mono ?_
    rintro e w1 ⟨rfl, hk⟩
    have HK : Hid (Keeps [] w w1) := Keeps.trans (by exact Keeps.K) hk (fun _ _ h => h)
    have HB1 : Hid (w1.heap[w.heap.size]? = some (.cells #[.int .i64 m.kind, .int .i64 m.frm, .int .i64 m.to, .int .i64 m.term, .int .i64 m.a, .int .i64 m.b, .int .i64 m.c, .bool m.ok, .slice ea m.entries.length ec, .slice da m.data.length dc] 40 (0, 0))) := (hk.block w.heap.size (by simp) (by simp)).trans (heap_alloc_new w _)
    have hz1 : w.heap.size < w1.heap.size := (Array.getElem?_eq_some_iff.1 HB1.out).1
    have x10 : w1.cell? ⟨n, 10, none⟩ = some (.int .i64 c.term) := (H.out.k HK.out).blk.cell 10
    obtain ⟨⟨c0, c1', c2, c3, c4, c5, c6, c7, c8, c9⟩, f3⟩ := blk10 HB1.out
    clear hk h10
    go_wp2_with fail
    go_quiet (fail)
    go_wp2_with fail
    refine (rises_any _ B n c lv sv m.term 0 (H.out.k ?_) HT.out).mono ?_
    (· have kk := HK.out; exact Keeps.K)
    rintro e w2 ⟨rfl, hc2, hk2⟩
    have HB2 := (hk2.block w.heap.size (by simp; omega) (by simp; omega)).trans HB1.out
    clear c0 c1' c2 c3 c4 c5 c6 c7 c8 c9 f3 x10
    obtain ⟨⟨c0, c1', c2, c3, c4, c5, c6, c7, c8, c9⟩, f3⟩ := blk10 HB2
    have y12 : w2.cell? ⟨n, 12, none⟩ = some (.int .i64 c.role) := hc2.blk.cell 12
    have y13 : w2.cell? ⟨n, 13, none⟩ = some (.int .i64 c.leader) := hc2.blk.cell 13
    have fz : ∀ i, w2.frozen? ⟨n, i, none⟩ = false := fun i => hc2.blk.free i
    have hnz : n ≠ w.heap.size := by omega
    have HX : Hid (∃ w3, w3 = (w2.setCell ⟨n, 12, none⟩ (.int .i64 0)).setCell ⟨n, 13, none⟩ (.int .i64 0) ∧ CoreAt w3 B n c1 lv sv ∧ Keeps [n] w w3 ∧ Keeps [n] _ w3) := HS1.out HS.out _ w2 (by have kk := HK.out; exact Keeps.K) hc2 hk2
    have HB1' : (w1.drewN nq).heap[w.heap.size]? = some (.cells #[.int .i64 m.kind, .int .i64 m.frm, .int .i64 m.to, .int .i64 m.term, .int .i64 m.a, .int .i64 m.b, .int .i64 m.c, .bool m.ok, .slice ea m.entries.length ec, .slice da m.data.length dc] 40 (0, 0)) := HB1.out
    have hz1' : w.heap.size < (w1.drewN nq).heap.size := hz1
    clear hc2 hk2 HB2
    go_wp2_with fail
    obtain ⟨w3, hw3, hc3, hk3, hk13⟩ := HX.out
    rw [← hw3]
    have HB3 : Hid (w3.heap[w.heap.size]? = some (.cells #[.int .i64 m.kind, .int .i64 m.frm, .int .i64 m.to, .int .i64 m.term, .int .i64 m.a, .int .i64 m.b, .int .i64 m.c, .bool m.ok, .slice ea m.entries.length ec, .slice da m.data.length dc] 40 (0, 0))) := (hk13.block w.heap.size hz1' (by simp; omega)).trans HB1'
    clear y12 y13 fz hw3 HX hk13 HB1' hz1'
    clear c0 c1' c2 c3 c4 c5 c6 c7 c8 c9 f3
    obtain ⟨⟨c0, c1', c2, c3, c4, c5, c6, c7, c8, c9⟩, f3⟩ := blk10 HB3.out
    have y10 : w3.cell? ⟨n, 10, none⟩ = some (.int .i64 c1.term) := hc3.blk.cell 10
    have y12 : w3.cell? ⟨n, 12, none⟩ = some (.int .i64 c1.role) := hc3.blk.cell 12
    have y13 : w3.cell? ⟨n, 13, none⟩ = some (.int .i64 c1.leader) := hc3.blk.cell 13
    have y20 : w3.cell? ⟨n, 20, none⟩ = some (.int .i64 c1.patience) := hc3.blk.cell 20
    have fz : ∀ i, w3.frozen? ⟨n, i, none⟩ = false := fun i => hc3.blk.free i
    have hz3 : w.heap.size < w3.heap.size := (Array.getElem?_eq_some_iff.1 HB3.out).1
    have C3 := hid hc3
    have K3 := hid hk3
    clear hc3 hk3 hz1
    refine (HH2.out w3 C3.out (HL.out.keep K3.out (fun b hb hb' => by simp at hb'; exact hb.1 hb')) (HD.out.keep K3.out (fun b hb hb' => by simp at hb'; exact hb.1 hb'))).mono ?_
    rintro e w4 hp
    obtain ⟨a, q, lv', sv', rfl, hp2⟩ := CallPost.after K3.out hp
    have HP := hid hp2
    clear hp hp2
    go_wp2_with fail
    go_ret
    rw [HE.out, HR.out]
    exact ⟨a, q, lv', sv', rfl, HP.out⟩
  · have gs : decide (c.term < m.term) = false := by simpa using hs
    have HS := hid hs
    clear hs
    skip
    go_enter Try.func22, Try.ntmps22
    go_wp2_with fail
    refine (wrong_is false _ B n c lv sv m ea da ec dc (Off n lv) (H.out.k ((Keeps.refl [] w).alloc _)) (HL.out.k ((Keeps.refl [] w).alloc _)) HW.out).mono ?_
    rintro e w1 ⟨rfl, hk⟩
    have HK : Hid (Keeps [] w w1) := Keeps.trans (by exact Keeps.K) hk (fun _ _ h => h)
    have HB1 : Hid (w1.heap[w.heap.size]? = some (.cells #[.int .i64 m.kind, .int .i64 m.frm, .int .i64 m.to, .int .i64 m.term, .int .i64 m.a, .int .i64 m.b, .int .i64 m.c, .bool m.ok, .slice ea m.entries.length ec, .slice da m.data.length dc] 40 (0, 0))) := (hk.block w.heap.size (by simp) (by simp)).trans (heap_alloc_new w _)
    have hz1 : w.heap.size < w1.heap.size := (Array.getElem?_eq_some_iff.1 HB1.out).1
    have x10 : w1.cell? ⟨n, 10, none⟩ = some (.int .i64 c.term) := (H.out.k HK.out).blk.cell 10
    obtain ⟨⟨c0, c1', c2, c3, c4, c5, c6, c7, c8, c9⟩, f3⟩ := blk10 HB1.out
    clear hk h10
    go_wp2_with fail
    go_quiet (fail)
    have HX : Hid (∃ w3, w3 = w1.drewN nq ∧ CoreAt w3 B n c1 lv sv ∧ Keeps [n] w w3 ∧ w3.heap[w.heap.size]? = some (.cells #[.int .i64 m.kind, .int .i64 m.frm, .int .i64 m.to, .int .i64 m.term, .int .i64 m.a, .int .i64 m.b, .int .i64 m.c, .bool m.ok, .slice ea m.entries.length ec, .slice da m.data.length dc] 40 (0, 0))) := ⟨_, rfl, by rw [← HS0.out HS.out]; exact H.out.k (by have kk := HK.out; exact Keeps.K), Keeps.mono (F := []) (by have kk := HK.out; exact Keeps.K) (fun _ _ h => by cases h), HB1.out⟩
    obtain ⟨w3, hw3, hc3, hk3, hb3⟩ := HX.out
    rw [← hw3]
    have HB3 := hid hb3
    have hnz : n ≠ w.heap.size := by omega
    clear hw3 HX hb3
    clear c0 c1' c2 c3 c4 c5 c6 c7 c8 c9 f3
    clear x10
    obtain ⟨⟨c0, c1', c2, c3, c4, c5, c6, c7, c8, c9⟩, f3⟩ := blk10 HB3.out
    have y10 : w3.cell? ⟨n, 10, none⟩ = some (.int .i64 c1.term) := hc3.blk.cell 10
    have y12 : w3.cell? ⟨n, 12, none⟩ = some (.int .i64 c1.role) := hc3.blk.cell 12
    have y13 : w3.cell? ⟨n, 13, none⟩ = some (.int .i64 c1.leader) := hc3.blk.cell 13
    have y20 : w3.cell? ⟨n, 20, none⟩ = some (.int .i64 c1.patience) := hc3.blk.cell 20
    have fz : ∀ i, w3.frozen? ⟨n, i, none⟩ = false := fun i => hc3.blk.free i
    have hz3 : w.heap.size < w3.heap.size := (Array.getElem?_eq_some_iff.1 HB3.out).1
    have C3 := hid hc3
    have K3 := hid hk3
    clear hc3 hk3 hz1
    go_wp2_with fail
    refine (HH2.out w3 C3.out (HL.out.keep K3.out (fun b hb hb' => by simp at hb'; exact hb.1 hb')) (HD.out.keep K3.out (fun b hb hb' => by simp at hb'; exact hb.1 hb'))).mono ?_
    rintro e w4 hp
    obtain ⟨a, q, lv', sv', rfl, hp2⟩ := CallPost.after K3.out hp
    have HP := hid hp2
    clear hp hp2
    go_wp2_with fail
    go_ret
    rw [HE.out, HR.out]
    exact ⟨a, q, lv', sv', rfl, HP.out⟩

end Go.Proofs.Ytpppoajnbhipeaa
