/- Joined of TakesB, RefO. -/
import Derived.Test.YtpppoajnbhipeaaTakesA
import Derived.Test.YtpppoajnbhipeaaRefN
import Derived.Test.YtpppoajnbhipeaaQ22

/- takes: a snapshot comes from who leads. -/
namespace Go.Proofs.Ytpppoajnbhipeaa
open Go Go.RowKit

theorem takesD_no {c : CoreD} {m : MsgD} (h : m.a ≤ c.commit) : takesD c m = (c, answerD c m true c.commit) := by unfold takesD; rw [if_pos h]
theorem takesD_fit {c : CoreD} {m : MsgD} (h : ¬ m.a ≤ c.commit) (hf : (atD c m.a).2 = true ∧ (atD c m.a).1 = m.b) : takesD c m = ({ standsD c m.a m.data with commit := m.a, tsnap := true }, answerD c m true m.a) := by
  unfold takesD; rw [if_neg h, if_pos hf]
theorem takesD_new {c : CoreD} {m : MsgD} (h : ¬ m.a ≤ c.commit) (hf : ¬ ((atD c m.a).2 = true ∧ (atD c m.a).1 = m.b)) : takesD c m = ({ c with l := [], base := m.a, baseTerm := m.b, snap := m.data, commit := m.a, tsnap := true }, answerD c m true m.a) := by
  unfold takesD; rw [if_neg h, if_neg hf]
theorem standsT_ok {c : CoreD} {i : Int} {data : List UInt8} (h : CoreOk c) (hi : c.base < i ∧ i ≤ lastD c) (hc : c.commit < i) (ht : 0 ≤ (atD c i).1 ∧ (atD c i).1 ≤ 1099511627776) (hd : data.length ≤ 1000000) : CoreOk { standsD c i data with commit := i, tsnap := true } := by
  have h1 := h.base
  have h2 := h.len
  have h3 := h.last
  unfold lastD at hi
  have e : ((c.l.drop (i - c.base).toNat).length : Int) = c.base + c.l.length - i := by simp; omega
  exact { may := h.may, id := h.id, term := h.term, base := ⟨by show 0 ≤ i; omega, Int.le_refl _⟩, baseTerm := ht, len := by show (c.l.drop _).length ≤ _; simp; omega, last := by show i + ((c.l.drop (i - c.base).toNat).length : Int) ≤ _; omega,
          commit := by show i ≤ i + ((c.l.drop (i - c.base).toNat).length : Int); omega, draw := h.draw, votes := h.votes, next := h.next, matc := h.matc, nexts := h.nexts, matcs := h.matcs, ents := fun e he => h.ents e (List.mem_of_mem_drop he), frm := h.frm, data := fun e he => h.data e (List.mem_of_mem_drop he), snap := hd }
theorem takesN_ok {c : CoreD} {m : MsgD} (h : CoreOk c) (hc : ¬ m.a ≤ c.commit) (ha : m.a ≤ 1099511627776) (hb : 0 ≤ m.b ∧ m.b ≤ 1099511627776) (hd : m.data.length ≤ 1000000) : CoreOk { c with l := [], base := m.a, baseTerm := m.b, snap := m.data, commit := m.a, tsnap := true } := by
  have h1 := h.base
  exact { may := h.may, id := h.id, term := h.term, base := ⟨by show 0 ≤ m.a; omega, Int.le_refl _⟩, baseTerm := hb, len := by simp, last := by show m.a + ((0 : Nat) : Int) ≤ _; omega,
          commit := by show m.a ≤ m.a + ((0 : Nat) : Int); omega, draw := h.draw, votes := h.votes, next := h.next, matc := h.matc, nexts := h.nexts, matcs := h.matcs, ents := fun e he => by simp at he, frm := h.frm, data := fun e he => by simp at he, snap := hd }

set_option maxRecDepth 100000 in
set_option maxHeartbeats 3200000 in
theorem takes_no (w : World) (B n : Nat) (c : CoreD) (lv sv : Value) (m : MsgD) (ea da : Option Addr) (ec dc : Nat) (h : CoreAt w B n c lv sv) (hc : m.a ≤ c.commit) :
    Calls Try.prog 58 #[.pointer (some ⟨n, 0, none⟩), msgV m (.slice ea m.entries.length ec) (.slice da m.data.length dc)] w (CallPost B n lv (takesD c m) w) := by
  rw [takesD_no hc]
  have h14 : w.cell? ⟨n, 14, none⟩ = some (.int .i64 c.commit) := h.blk.cell 14
  have hlt := h.blk.lt
  have hd1 : decide (m.a ≤ c.commit) = true := by simpa using hc
  have H := hid h
  unfold msgV
  clear h hc
  go_enter Try.func58, Try.ntmps58
  go_wp2_with fail
  go_quiet (fail)
  go_wp2_with fail
  refine Plan.wp_region_plan (fun wx => (wx.cell? ⟨w.heap.size, 0, none⟩ = some (.int .i64 m.kind) ∧ wx.cell? ⟨w.heap.size, 1, none⟩ = some (.int .i64 m.frm) ∧ wx.cell? ⟨w.heap.size, 2, none⟩ = some (.int .i64 m.to) ∧ wx.cell? ⟨w.heap.size, 3, none⟩ = some (.int .i64 m.term) ∧ wx.cell? ⟨w.heap.size, 4, none⟩ = some (.int .i64 m.a) ∧ wx.cell? ⟨w.heap.size, 5, none⟩ = some (.int .i64 m.b) ∧ wx.cell? ⟨w.heap.size, 6, none⟩ = some (.int .i64 m.c) ∧ wx.cell? ⟨w.heap.size, 7, none⟩ = some (.bool m.ok) ∧ wx.cell? ⟨w.heap.size, 8, none⟩ = some (.slice ea m.entries.length ec) ∧ wx.cell? ⟨w.heap.size, 9, none⟩ = some (.slice da m.data.length dc)) ∧ wx.cell? ⟨n, 14, none⟩ = some (.int .i64 c.commit)) 8 [(true, 0), (true, 1), (true, 2), (true, 3), (true, 4), (true, 5), (false, 6), (true, 7)] (by kernel_rfl) (by as_aux_lemma => kernel_rfl) (by kernel_rfl) (fun _ _ _ _ _ h => h) ?_ (fun hS => ?_)
  (· go_simp)
  simp only [Plan.pick, List.append_eq, List.cons_append, List.nil_append, Plan.g1, Plan.g2, Option.getD_some, List.drop_succ_cons, List.drop_zero]
  iterate 6 (first | refine Plan.tA ?_ | refine Plan.tY ?_ | refine Plan.pN ?_ | refine Plan.pU ?_ | fail)
  refine Plan.step ?_
  go_wp2_with fail
  refine (answer_any _ B n c lv sv m ea da ec dc true c.commit (H.out.k (by exact Keeps.K))).mono ?_
  rintro e w5 hp
  have HS5 : Hid ((w5.cell? ⟨w.heap.size, 0, none⟩ = some (.int .i64 m.kind) ∧ w5.cell? ⟨w.heap.size, 1, none⟩ = some (.int .i64 m.frm) ∧ w5.cell? ⟨w.heap.size, 2, none⟩ = some (.int .i64 m.to) ∧ w5.cell? ⟨w.heap.size, 3, none⟩ = some (.int .i64 m.term) ∧ w5.cell? ⟨w.heap.size, 4, none⟩ = some (.int .i64 m.a) ∧ w5.cell? ⟨w.heap.size, 5, none⟩ = some (.int .i64 m.b) ∧ w5.cell? ⟨w.heap.size, 6, none⟩ = some (.int .i64 m.c) ∧ w5.cell? ⟨w.heap.size, 7, none⟩ = some (.bool m.ok) ∧ w5.cell? ⟨w.heap.size, 8, none⟩ = some (.slice ea m.entries.length ec) ∧ w5.cell? ⟨w.heap.size, 9, none⟩ = some (.slice da m.data.length dc)) ∧ w5.cell? ⟨n, 14, none⟩ = some (.int .i64 c.commit)) := by
    obtain ⟨_, _, _, _, hk⟩ := hp
    have hb0 : w5.heap[w.heap.size]? = some (.cells #[.int .i64 m.kind, .int .i64 m.frm, .int .i64 m.to, .int .i64 m.term, .int .i64 m.a, .int .i64 m.b, .int .i64 m.c, .bool m.ok, .slice ea m.entries.length ec, .slice da m.data.length dc] 40 (0, 0)) := (hk.block w.heap.size (by simp) (by simp)).trans (heap_alloc_new w _)
    obtain ⟨⟨c0, c1, c2, c3, c4, c5, c6, c7, c8, c9⟩, f3⟩ := blk10 hb0
    exact ⟨⟨c0, c1, c2, c3, c4, c5, c6, c7, c8, c9⟩, hk.cellSome (by go_simp) (by simp)⟩
  obtain ⟨a, q, lv', sv', rfl, hp2⟩ : CallPost B n lv (c, answerD c m true c.commit) w e w5 := CallPost.tells (H.out.k (by exact Keeps.K)) (Keeps.mono (F := []) (by exact Keeps.K) (fun _ _ h => by cases h)) hp
  have HP := hid hp2
  clear hp hp2
  go_wp2_with fail
  refine ⟨?_, ?_⟩
  (· exact HS5.out)
  iterate 1 (first | refine Plan.tA ?_ | refine Plan.tY ?_ | refine Plan.pN ?_ | refine Plan.pU ?_ | fail)
  refine Plan.fin ?_
  go_wp2_with fail
  go_ret
  exact ⟨a, q, lv', sv', rfl, HP.out⟩

set_option maxRecDepth 100000 in
set_option maxHeartbeats 3200000 in
theorem takes_fit (w : World) (B n : Nat) (c : CoreD) (lv sv : Value) (m : MsgD) (ea da : Option Addr) (ec dc : Nat) (h : CoreAt w B n c lv sv) (hd : BytesAt w (Off n lv) (.slice da m.data.length dc) m.data) (hdl : m.data.length ≤ 1000000) (hc : ¬ m.a ≤ c.commit) (ha : m.a ≤ 1099511627776) (hb : 0 ≤ m.b ∧ m.b ≤ 1099511627776) (hf : (atD c m.a).2 = true ∧ (atD c m.a).1 = m.b) :
    Calls Try.prog 58 #[.pointer (some ⟨n, 0, none⟩), msgV m (.slice ea m.entries.length ec) (.slice da m.data.length dc)] w (CallPost B n lv (takesD c m) w) := by
  have HTK := hid (takesD_fit hc hf)
  have h14 : w.cell? ⟨n, 14, none⟩ = some (.int .i64 c.commit) := h.blk.cell 14
  have hlt := h.blk.lt
  have hd1 : decide (m.a ≤ c.commit) = false := by simpa using hc
  have hcb := h.ok.base
  have hin : c.base < m.a ∧ m.a ≤ lastD c := by
    refine ⟨by omega, ?_⟩
    have h2 := hf.1
    unfold atD at h2
    split at h2
    · omega
    · split at h2
      · simp at h2
      · omega
  have HIN := hid hin
  have ib1 : -4611686018427387904 ≤ m.a := by omega
  have ib2 : m.a ≤ 4611686018427387904 := by omega
  have HAT : Hid (atD c m.a = (m.b, true)) := by show _ = _; rw [← hf.2, ← hf.1]
  have HOK := hid (standsT_ok (data := m.data) h.ok hin (by omega) (by rw [hf.2]; exact hb) hdl)
  have H := hid h
  have HD := hid hd
  have HNLT : Hid (n < w.heap.size) := hlt
  unfold msgV
  clear h hc hd hf hcb hin ha hb
  go_enter Try.func58, Try.ntmps58
  go_wp2_with fail
  go_quiet (fail)
  go_wp2_with fail
  refine (cAt_is _ B n c lv sv (H.out.k (by exact Keeps.K)) m.a m.b true ib1 ib2 HAT.out).mono ?_
  rintro e w' ⟨rfl, kk, rfl⟩
  go_wp2_with fail
  refine (stands_any _ B n c lv sv m.a m.data da dc (Off n lv) (H.out.k (by exact Keeps.K)) HIN.out (HD.out.k (by exact Keeps.K)) (by omega) (fun b hb => hb.1)).mono ?_
  rintro e w3 ⟨lv', sv', rfl, hr, hk, hv⟩
  have HC3 := hid hr
  have hz2 : w.heap.size < ((w.alloc (.cells #[.int .i64 m.kind, .int .i64 m.frm, .int .i64 m.to, .int .i64 m.term, .int .i64 m.a, .int .i64 m.b, .int .i64 m.c, .bool m.ok, .slice ea m.entries.length ec, .slice da m.data.length dc] 40)).drewN (nq + kk)).heap.size := by simp
  have HK3 : Hid (Keeps [n] w w3) := Keeps.trans (F := [n]) (by exact Keeps.K) hk (fun _ _ h => h)
  have HB3 : Hid (w3.heap[w.heap.size]? = some (.cells #[.int .i64 m.kind, .int .i64 m.frm, .int .i64 m.to, .int .i64 m.term, .int .i64 m.a, .int .i64 m.b, .int .i64 m.c, .bool m.ok, .slice ea m.entries.length ec, .slice da m.data.length dc] 40 (0, 0))) := (hk.block w.heap.size hz2 (by simp; have := HNLT.out; omega)).trans (heap_alloc_new w _)
  have HV : Hid (∀ b ∈ ownB lv', w.heap.size ≤ b) := fun b hb => by have := hv b hb; omega
  clear hr hk hv hz2
  obtain ⟨⟨c0, c1, c2, c3, c4, c5, c6, c7, c8, c9⟩, f3⟩ := blk10 HB3.out
  have x14 : w3.cell? ⟨n, 14, none⟩ = some (.int .i64 c.commit) := HC3.out.blk.cell 14
  have x47 : w3.cell? ⟨n, 47, none⟩ = some (.bool c.tsnap) := (HC3.out.blk.cell (21 + 26)).trans ((get21 _ _ _ 26).trans (tail_get { standsD c m.a m.data with commit := m.a } HOK.out.votes HOK.out.next HOK.out.matc).2.2)
  have fz : ∀ j, w3.frozen? ⟨n, j, none⟩ = false := fun j => HC3.out.blk.free j
  have hnz : n ≠ w.heap.size := by have := HNLT.out; omega
  have hz3 : w.heap.size < w3.heap.size := World.block_lt_of_cell? _ _ c0
  have hl3 : n < w3.heap.size := World.block_lt_of_cell? _ _ x14
  have HX : Hid (∃ w4, w4 = (w3.setCell ⟨n, 14, none⟩ (.int .i64 m.a)).setCell ⟨n, 47, none⟩ (.bool true) ∧ CoreAt w4 B n (takesD c m).1 lv' sv' ∧ Keeps [n] w3 w4) := by
    have k : Keeps [n] w3 ((w3.setCell ⟨n, 14, none⟩ (.int .i64 m.a)).setCell ⟨n, 47, none⟩ (.bool true)) := ((Keeps.refl _ _).setCell (.inl (by simp)) _).setCell (.inl (by simp)) _
    refine ⟨_, rfl, ?_, k⟩
    rw [HTK.out]
    refine CoreRaw.at_ (c := { standsD c m.a m.data with commit := m.a, tsnap := true }) (CoreRaw.wrote (c' := { standsD c m.a m.data with commit := m.a, tsnap := true }) HC3.out k ((HC3.out.blk.set (c' := { standsD c m.a m.data with commit := m.a }) 14 _ rfl).set (21 + 26) (.bool true) ?_) rfl rfl) HOK.out
    rw [set21, tail_tsnap { standsD c m.a m.data with commit := m.a } HOK.out.votes HOK.out.next HOK.out.matc]
    rfl
  go_wp2_with fail
  obtain ⟨w4, hw4, hc4, hk4⟩ := HX.out
  rw [← hw4]
  have HC4 := hid hc4
  have HK4 : Hid (Keeps (n :: ownB lv) w w4) := (HK3.out.trans hk4 (fun _ _ h => h)).mono (fun _ _ h => by simp at h; simp [h])
  obtain ⟨⟨d0, d1, d2, d3, d4, d5, d6, d7, d8, d9⟩, g3⟩ := blk10 ((hk4.block w.heap.size hz3 (by simp; omega)).trans HB3.out)
  clear hw4 hc4 hk4 HX c0 c1 c2 c3 c4 c5 c6 c7 c8 c9 f3 x14 x47 fz
  go_wp2_with fail
  refine (answer_any _ B n _ lv' sv' m ea da ec dc true m.a HC4.out).mono ?_
  rintro e w5 hp
  have hp' : MsgsPost (takesD c m).2 w4 e w5 := by
    have e : (takesD c m).2 = answerD (takesD c m).1 m true m.a := by rw [HTK.out]; rfl
    rw [e]
    exact hp
  obtain ⟨a, q, lv2, sv2, rfl, hp2⟩ : CallPost B n lv (takesD c m) w e w5 := CallPost.tellsOf HC4.out HK4.out (fun b hb => .inr (HV.out b hb)) hp'
  have HP := hid hp2
  clear hp hp' hp2
  go_wp2_with fail
  go_ret
  exact ⟨a, q, lv2, sv2, rfl, HP.out⟩

set_option maxRecDepth 100000 in
set_option maxHeartbeats 3200000 in
theorem takes_new (w : World) (B n : Nat) (c : CoreD) (lv sv : Value) (m : MsgD) (ea da : Option Addr) (ec dc : Nat) (h : CoreAt w B n c lv sv) (hd : BytesAt w (Off n lv) (.slice da m.data.length dc) m.data) (hdl : m.data.length ≤ 1000000) (hc : ¬ m.a ≤ c.commit) (ha : m.a ≤ 1099511627776) (hb : 0 ≤ m.b ∧ m.b ≤ 1099511627776) (hf : ¬ ((atD c m.a).2 = true ∧ (atD c m.a).1 = m.b)) :
    Calls Try.prog 58 #[.pointer (some ⟨n, 0, none⟩), msgV m (.slice ea m.entries.length ec) (.slice da m.data.length dc)] w (CallPost B n lv (takesD c m) w) := by
  obtain ⟨i0, hi, hz0, hz1, hz2⟩ := info_parts Try.infoU8
  have HTK := hid (takesD_new hc hf)
  have h14 : w.cell? ⟨n, 14, none⟩ = some (.int .i64 c.commit) := h.blk.cell 14
  have h17 : w.cell? ⟨n, 17, none⟩ = some lv := h.blk.cell 17
  have fz0 : ∀ j, w.frozen? ⟨n, j, none⟩ = false := fun j => h.blk.free j
  have hlt := h.blk.lt
  have hd1 : decide (m.a ≤ c.commit) = false := by simpa using hc
  have hcb := h.ok.base
  have ib1 : -4611686018427387904 ≤ m.a := by omega
  have ib2 : m.a ≤ 4611686018427387904 := by omega
  have HOK := hid (takesN_ok h.ok hc ha hb hdl)
  have H := hid h
  have HRB : Hid (∀ wx, Keeps [n] w wx → Reads wx 1 (.slice da m.data.length dc) m.data.length (u8s m.data)) := fun wx k => (hd.keep k (fun b hb hb' => hb.1 (by simpa using hb'))).1
  have hnz : n ≠ w.heap.size := by omega
  obtain ⟨T, okT, hT⟩ : ∃ t o, atD c m.a = (t, o) := ⟨_, _, rfl⟩
  rw [hT] at hf
  have HAT := hid hT
  have HREL : Hid (∀ (wz : World) (kk : Nat) (a6 : Option Addr) (q6 : Nat), Keeps [] (((w.alloc (.cells #[.int .i64 m.kind, .int .i64 m.frm, .int .i64 m.to, .int .i64 m.term, .int .i64 m.a, .int .i64 m.b, .int .i64 m.c, .bool m.ok, .slice ea m.entries.length ec, .slice da m.data.length dc] 40)).drewN kk).setCell ⟨n, 17, none⟩ (.slice none 0 0)) wz → wz.ownsRow (w.heap.size + 1) 5 1 (.slice a6 m.data.length q6) m.data.length (u8s m.data) →
      wz.heap[w.heap.size]? = some (.cells #[.int .i64 m.kind, .int .i64 m.frm, .int .i64 m.to, .int .i64 m.term, .int .i64 m.a, .int .i64 m.b, .int .i64 m.c, .bool m.ok, .slice ea m.entries.length ec, .slice da m.data.length dc] 40 (0, 0)) ∧ CoreBlk wz n { c with l := [] } (.slice none 0 0) sv ∧
      ∃ w4, w4 = ((((wz.setCell ⟨n, 15, none⟩ (.int .i64 m.a)).setCell ⟨n, 16, none⟩ (.int .i64 m.b)).setCell ⟨n, 18, none⟩ (.slice a6 m.data.length q6)).setCell ⟨n, 14, none⟩ (.int .i64 m.a)).setCell ⟨n, 47, none⟩ (.bool true) ∧ CoreAt w4 B n (takesD c m).1 (.slice none 0 0) (.slice a6 m.data.length q6) ∧ Keeps [n] w w4 ∧ Keeps [n] wz w4) := fun wz kk a6 q6 kz hr => by
    have k0 : Keeps [] w ((w.alloc (.cells #[.int .i64 m.kind, .int .i64 m.frm, .int .i64 m.to, .int .i64 m.term, .int .i64 m.a, .int .i64 m.b, .int .i64 m.c, .bool m.ok, .slice ea m.entries.length ec, .slice da m.data.length dc] 40)).drewN kk) := by exact Keeps.K
    have k1 : Keeps [n] ((w.alloc (.cells #[.int .i64 m.kind, .int .i64 m.frm, .int .i64 m.to, .int .i64 m.term, .int .i64 m.a, .int .i64 m.b, .int .i64 m.c, .bool m.ok, .slice ea m.entries.length ec, .slice da m.data.length dc] 40)).drewN kk) (((w.alloc (.cells #[.int .i64 m.kind, .int .i64 m.frm, .int .i64 m.to, .int .i64 m.term, .int .i64 m.a, .int .i64 m.b, .int .i64 m.c, .bool m.ok, .slice ea m.entries.length ec, .slice da m.data.length dc] 40)).drewN kk).setCell ⟨n, 17, none⟩ (.slice none 0 0)) := (Keeps.refl _ _).setCell (.inl (by simp)) _
    have hb1 : CoreBlk wz n { c with l := [] } (.slice none 0 0) sv := ((h.blk.keep k0 (by simp)).set (c' := { c with l := [] }) (lv' := .slice none 0 0) (sv' := sv) 17 _ rfl).keep kz (by simp)
    have k4 : Keeps [n] wz (((((wz.setCell ⟨n, 15, none⟩ (.int .i64 m.a)).setCell ⟨n, 16, none⟩ (.int .i64 m.b)).setCell ⟨n, 18, none⟩ (.slice a6 m.data.length q6)).setCell ⟨n, 14, none⟩ (.int .i64 m.a)).setCell ⟨n, 47, none⟩ (.bool true)) := by exact Keeps.K
    have kw : Keeps [n] w wz := ((k0.mono (G := [n]) (fun _ _ h => by cases h)).trans k1 (fun _ _ h => h)).trans kz (fun b h1 h2 => by cases h2)
    have kw4 : Keeps [n] w (((((wz.setCell ⟨n, 15, none⟩ (.int .i64 m.a)).setCell ⟨n, 16, none⟩ (.int .i64 m.b)).setCell ⟨n, 18, none⟩ (.slice a6 m.data.length q6)).setCell ⟨n, 14, none⟩ (.int .i64 m.a)).setCell ⟨n, 47, none⟩ (.bool true)) := kw.trans k4 (fun _ _ h => h)
    have hbox : wz.heap[w.heap.size]? = some (.cells #[.int .i64 m.kind, .int .i64 m.frm, .int .i64 m.to, .int .i64 m.term, .int .i64 m.a, .int .i64 m.b, .int .i64 m.c, .bool m.ok, .slice ea m.entries.length ec, .slice da m.data.length dc] 40 (0, 0)) := (kz.block w.heap.size (by simp) (by simp)).trans ((k1.block w.heap.size (by simp) (by simp; omega)).trans (heap_alloc_new w _))
    refine ⟨hbox, hb1, _, rfl, ?_, kw4, k4⟩
    rw [HTK.out]
    have hb6 : CoreBlk (((((wz.setCell ⟨n, 15, none⟩ (.int .i64 m.a)).setCell ⟨n, 16, none⟩ (.int .i64 m.b)).setCell ⟨n, 18, none⟩ (.slice a6 m.data.length q6)).setCell ⟨n, 14, none⟩ (.int .i64 m.a)).setCell ⟨n, 47, none⟩ (.bool true)) n { c with l := [], base := m.a, baseTerm := m.b, snap := m.data, commit := m.a, tsnap := true } (.slice none 0 0) (.slice a6 m.data.length q6) := by
      refine ((((hb1.set (c' := { c with l := [], base := m.a }) (lv' := .slice none 0 0) (sv' := sv) 15 _ rfl).set (c' := { c with l := [], base := m.a, baseTerm := m.b }) (lv' := .slice none 0 0) (sv' := sv) 16 _ rfl).set (c' := { c with l := [], base := m.a, baseTerm := m.b, snap := m.data }) (lv' := .slice none 0 0) (sv' := .slice a6 m.data.length q6) 18 _ rfl).set (c' := { c with l := [], base := m.a, baseTerm := m.b, snap := m.data, commit := m.a }) (lv' := .slice none 0 0) (sv' := .slice a6 m.data.length q6) 14 _ rfl).set (21 + 26) (.bool true) ?_
      rw [set21, tail_tsnap { c with l := [], base := m.a, baseTerm := m.b, snap := m.data, commit := m.a } HOK.out.votes HOK.out.next HOK.out.matc]
      rfl
    refine (h.relaid (c' := { c with l := [], base := m.a, baseTerm := m.b, snap := m.data, commit := m.a, tsnap := true }) kw4.size hb6 (OwnAt.nil _ _ _ _) ?_ (fun b hb => by simp [mem_ownB, Value.ownBlock] at hb)).at_ HOK.out
    refine BytesAt.keep (P := fun b => w.heap.size < b) (BytesAt.mono (P := fun b => w.heap.size < b) (BytesAt.ofOwn hr rfl (fun b hb _ => by omega)) (fun b _ hb => hb)) k4 (fun b hb hb' => by simp at hb'; omega) |>.mono (fun b _ hb => ⟨⟨by omega, fun h2 => by have := h.old b h2; omega⟩, by simp [mem_ownB, Value.ownBlock]⟩)
  unfold msgV
  clear h hc hd ha hb hcb hT
  rcases okT with _ | _
  · clear hf
    go_enter Try.func58, Try.ntmps58
    go_wp2_with fail
    go_quiet (fail)
    go_wp2_with fail
    refine (cAt_is _ B n c lv sv (H.out.k (by exact Keeps.K)) m.a T false ib1 ib2 HAT.out).mono ?_
    rintro e w' ⟨rfl, kk, rfl⟩
    go_wp2_with fail
    refine Plan.wp_region_plan (fun wx => wx.cell? ⟨w.heap.size, 4, none⟩ = some (.int .i64 m.a) ∧ wx.cell? ⟨w.heap.size, 5, none⟩ = some (.int .i64 m.b) ∧ wx.cell? ⟨w.heap.size, 9, none⟩ = some (.slice da m.data.length dc)) 19 [(true, 0), (true, 1), (true, 2), (true, 3), (true, 4), (true, 5), (true, 6), (true, 7), (true, 8), (false, 9), (true, 10), (true, 11), (false, 12), (true, 13), (true, 14), (false, 15), (true, 16), (true, 17), (false, 18)] (by kernel_rfl) (by as_aux_lemma => kernel_rfl) (by kernel_rfl) (fun _ _ _ _ _ h => h) ?_ (fun hS => ?_)
    (· go_simp)
    simp only [Plan.pick, List.append_eq, List.cons_append, List.nil_append, Plan.g1, Plan.g2, Option.getD_some, List.drop_succ_cons, List.drop_zero]
    iterate 9 (first | refine Plan.tA ?_ | refine Plan.tY ?_ | refine Plan.pN ?_ | refine Plan.pU ?_ | fail)
    refine Plan.step ?_
    go_wp2_with (at_builtin; go_must (refine wpList_append_copy _ rfl (.tmp 52) 38 rfl 5 i0 (.int .u8 0) 1 1 Try.underlying38 hi hz0 hz1 hz2 rfl (by decide) (.slice da m.data.length dc) m.data.length (u8s m.data) rfl (HRB.out _ (by exact Keeps.K)) (u8s_one m.data) (by omega) (le_maxLen (by omega)) ?_; intro v' wz g1 g2; obtain ⟨qa, qc, hv⟩ := len_form g1; subst hv; have HO := hid g1; have HK := hid (Keeps.grown ((Keeps.refl [] (((w.alloc (.cells #[.int .i64 m.kind, .int .i64 m.frm, .int .i64 m.to, .int .i64 m.term, .int .i64 m.a, .int .i64 m.b, .int .i64 m.c, .bool m.ok, .slice ea m.entries.length ec, .slice da m.data.length dc] 40)).drewN (nq + kk)).setCell ⟨n, 17, none⟩ (.slice none 0 0))).drew) g2 rfl rfl rfl rfl (fun _ h => by cases h)); clear g1 g2))
    have HX := hid (HREL.out wz (nq + kk) qa qc HK.out (by have := HO.out; simpa using this))
    obtain ⟨⟨c0, c1, c2, c3, c4, c5, c6, c7, c8, c9⟩, f3⟩ := blk10 HX.out.1
    have x14 : wz.cell? ⟨n, 14, none⟩ = some (.int .i64 c.commit) := HX.out.2.1.cell 14
    have x15 : wz.cell? ⟨n, 15, none⟩ = some (.int .i64 c.base) := HX.out.2.1.cell 15
    have x16 : wz.cell? ⟨n, 16, none⟩ = some (.int .i64 c.baseTerm) := HX.out.2.1.cell 16
    have x18 : wz.cell? ⟨n, 18, none⟩ = some sv := HX.out.2.1.cell 18
    have x47 : wz.cell? ⟨n, 47, none⟩ = some (.bool c.tsnap) := (HX.out.2.1.cell (21 + 26)).trans ((get21 _ _ _ 26).trans (tail_get { c with l := [] } HOK.out.votes HOK.out.next HOK.out.matc).2.2)
    have fz : ∀ j, wz.frozen? ⟨n, j, none⟩ = false := fun j => HX.out.2.1.free j
    refine ⟨⟨c4, c5, c9⟩, ?_⟩
    iterate 2 (first | refine Plan.tA ?_ | refine Plan.tY ?_ | refine Plan.pN ?_ | refine Plan.pU ?_ | fail)
    refine Plan.step ?_
    go_wp2_with fail
    refine ⟨?_, ?_⟩
    (· go_simp)
    iterate 2 (first | refine Plan.tA ?_ | refine Plan.tY ?_ | refine Plan.pN ?_ | refine Plan.pU ?_ | fail)
    refine Plan.step ?_
    go_wp2_with fail
    refine ⟨?_, ?_⟩
    (· go_simp)
    iterate 2 (first | refine Plan.tA ?_ | refine Plan.tY ?_ | refine Plan.pN ?_ | refine Plan.pU ?_ | fail)
    refine Plan.step ?_
    go_wp2_with fail
    refine ⟨?_, ?_⟩
    (· go_simp)
    refine Plan.fin ?_
    go_wp2_with fail
    obtain ⟨_, _, w4, hw4, hc4, hkw4, hk4⟩ := HX.out
    rw [← hw4]
    have HC4 := hid hc4
    have HK4 : Hid (Keeps (n :: ownB lv) w w4) := hkw4.mono (fun _ _ h => by simp at h; simp [h])
    clear hw4 hc4 hkw4 hk4
    refine (answer_any _ B n _ (.slice none 0 0) _ m ea da ec dc true m.a HC4.out).mono ?_
    rintro e w5 hp
    have hp' : MsgsPost (takesD c m).2 w4 e w5 := by
      have e : (takesD c m).2 = answerD (takesD c m).1 m true m.a := by rw [HTK.out]; rfl
      rw [e]
      exact hp
    obtain ⟨a, q, lv2, sv2, rfl, hp2⟩ : CallPost B n lv (takesD c m) w e w5 := CallPost.tellsOf HC4.out HK4.out (fun b hb => by simp [mem_ownB, Value.ownBlock] at hb) hp'
    have HP := hid hp2
    clear hp hp' hp2
    go_wp2_with fail
    go_ret
    exact ⟨a, q, lv2, sv2, rfl, HP.out⟩
  · have he : (T == m.b) = false := by simpa using hf
    clear hf
    go_enter Try.func58, Try.ntmps58
    go_wp2_with fail
    go_quiet (fail)
    go_wp2_with fail
    refine (cAt_is _ B n c lv sv (H.out.k (by exact Keeps.K)) m.a T true ib1 ib2 HAT.out).mono ?_
    rintro e w' ⟨rfl, kk, rfl⟩
    go_wp2_with fail
    refine Plan.wp_region_plan (fun wx => wx.cell? ⟨w.heap.size, 4, none⟩ = some (.int .i64 m.a) ∧ wx.cell? ⟨w.heap.size, 5, none⟩ = some (.int .i64 m.b) ∧ wx.cell? ⟨w.heap.size, 9, none⟩ = some (.slice da m.data.length dc)) 19 [(true, 0), (true, 1), (true, 2), (true, 3), (true, 4), (true, 5), (true, 6), (true, 7), (true, 8), (false, 9), (true, 10), (true, 11), (false, 12), (true, 13), (true, 14), (false, 15), (true, 16), (true, 17), (false, 18)] (by kernel_rfl) (by as_aux_lemma => kernel_rfl) (by kernel_rfl) (fun _ _ _ _ _ h => h) ?_ (fun hS => ?_)
    (· go_simp)
    simp only [Plan.pick, List.append_eq, List.cons_append, List.nil_append, Plan.g1, Plan.g2, Option.getD_some, List.drop_succ_cons, List.drop_zero]
    iterate 9 (first | refine Plan.tA ?_ | refine Plan.tY ?_ | refine Plan.pN ?_ | refine Plan.pU ?_ | fail)
    refine Plan.step ?_
    go_wp2_with (at_builtin; go_must (refine wpList_append_copy _ rfl (.tmp 52) 38 rfl 5 i0 (.int .u8 0) 1 1 Try.underlying38 hi hz0 hz1 hz2 rfl (by decide) (.slice da m.data.length dc) m.data.length (u8s m.data) rfl (HRB.out _ (by exact Keeps.K)) (u8s_one m.data) (by omega) (le_maxLen (by omega)) ?_; intro v' wz g1 g2; obtain ⟨qa, qc, hv⟩ := len_form g1; subst hv; have HO := hid g1; have HK := hid (Keeps.grown ((Keeps.refl [] (((w.alloc (.cells #[.int .i64 m.kind, .int .i64 m.frm, .int .i64 m.to, .int .i64 m.term, .int .i64 m.a, .int .i64 m.b, .int .i64 m.c, .bool m.ok, .slice ea m.entries.length ec, .slice da m.data.length dc] 40)).drewN (nq + kk)).setCell ⟨n, 17, none⟩ (.slice none 0 0))).drew) g2 rfl rfl rfl rfl (fun _ h => by cases h)); clear g1 g2))
    have HX := hid (HREL.out wz (nq + kk) qa qc HK.out (by have := HO.out; simpa using this))
    obtain ⟨⟨c0, c1, c2, c3, c4, c5, c6, c7, c8, c9⟩, f3⟩ := blk10 HX.out.1
    have x14 : wz.cell? ⟨n, 14, none⟩ = some (.int .i64 c.commit) := HX.out.2.1.cell 14
    have x15 : wz.cell? ⟨n, 15, none⟩ = some (.int .i64 c.base) := HX.out.2.1.cell 15
    have x16 : wz.cell? ⟨n, 16, none⟩ = some (.int .i64 c.baseTerm) := HX.out.2.1.cell 16
    have x18 : wz.cell? ⟨n, 18, none⟩ = some sv := HX.out.2.1.cell 18
    have x47 : wz.cell? ⟨n, 47, none⟩ = some (.bool c.tsnap) := (HX.out.2.1.cell (21 + 26)).trans ((get21 _ _ _ 26).trans (tail_get { c with l := [] } HOK.out.votes HOK.out.next HOK.out.matc).2.2)
    have fz : ∀ j, wz.frozen? ⟨n, j, none⟩ = false := fun j => HX.out.2.1.free j
    refine ⟨⟨c4, c5, c9⟩, ?_⟩
    iterate 2 (first | refine Plan.tA ?_ | refine Plan.tY ?_ | refine Plan.pN ?_ | refine Plan.pU ?_ | fail)
    refine Plan.step ?_
    go_wp2_with fail
    refine ⟨?_, ?_⟩
    (· go_simp)
    iterate 2 (first | refine Plan.tA ?_ | refine Plan.tY ?_ | refine Plan.pN ?_ | refine Plan.pU ?_ | fail)
    refine Plan.step ?_
    go_wp2_with fail
    refine ⟨?_, ?_⟩
    (· go_simp)
    iterate 2 (first | refine Plan.tA ?_ | refine Plan.tY ?_ | refine Plan.pN ?_ | refine Plan.pU ?_ | fail)
    refine Plan.step ?_
    go_wp2_with fail
    refine ⟨?_, ?_⟩
    (· go_simp)
    refine Plan.fin ?_
    go_wp2_with fail
    obtain ⟨_, _, w4, hw4, hc4, hkw4, hk4⟩ := HX.out
    rw [← hw4]
    have HC4 := hid hc4
    have HK4 : Hid (Keeps (n :: ownB lv) w w4) := hkw4.mono (fun _ _ h => by simp at h; simp [h])
    clear hw4 hc4 hkw4 hk4
    refine (answer_any _ B n _ (.slice none 0 0) _ m ea da ec dc true m.a HC4.out).mono ?_
    rintro e w5 hp
    have hp' : MsgsPost (takesD c m).2 w4 e w5 := by
      have e : (takesD c m).2 = answerD (takesD c m).1 m true m.a := by rw [HTK.out]; rfl
      rw [e]
      exact hp
    obtain ⟨a, q, lv2, sv2, rfl, hp2⟩ : CallPost B n lv (takesD c m) w e w5 := CallPost.tellsOf HC4.out HK4.out (fun b hb => by simp [mem_ownB, Value.ownBlock] at hb) hp'
    have HP := hid hp2
    clear hp hp' hp2
    go_wp2_with fail
    go_ret
    exact ⟨a, q, lv2, sv2, rfl, HP.out⟩

theorem takes_any (w : World) (B n : Nat) (c : CoreD) (lv sv : Value) (m : MsgD) (ea da : Option Addr) (ec dc : Nat) (h : CoreAt w B n c lv sv) (hd : BytesAt w (Off n lv) (.slice da m.data.length dc) m.data) (hdl : m.data.length ≤ 1000000) (ha : m.a ≤ 1099511627776) (hb : 0 ≤ m.b ∧ m.b ≤ 1099511627776) :
    Calls Try.prog 58 #[.pointer (some ⟨n, 0, none⟩), msgV m (.slice ea m.entries.length ec) (.slice da m.data.length dc)] w (CallPost B n lv (takesD c m) w) := by
  by_cases hc : m.a ≤ c.commit
  · exact takes_no w B n c lv sv m ea da ec dc h hc
  · by_cases hf : (atD c m.a).2 = true ∧ (atD c m.a).1 = m.b
    · exact takes_fit w B n c lv sv m ea da ec dc h hd hdl hc ha hb hf
    · exact takes_new w B n c lv sv m ea da ec dc h hd hdl hc ha hb hf

end Go.Proofs.Ytpppoajnbhipeaa

/- The document's core: snap. -/
namespace Go.Proofs.Ytpppoajnbhipeaa
open Go Go.RowKit

/-- Bytes behind nothing: a copy in new memory. -/
theorem wpB_append {ops : Array Oper} {rest : List Oper} {o : Oper} {a : Act} {Q : Exit → Act → World → Prop} (w : World) (hgd : o.guard = none) (x : Operand)
    (ho : o.op = .call { callee := .builtin .append, args := #[.const (.slice none 0 0), x], argTypes := #[38, 38] })
    (v : Value) (bs : List UInt8) (hx : a.eval x = v) (hr : Reads w 1 v bs.length (u8s bs)) (hb : bs.length ≤ 140737488355328)
    (h : ∀ a' q w', Hid (BytesAt w' (fun b => w.heap.size ≤ b) (.slice a' bs.length q) bs) → Hid (Keeps [] w w') → wpList Try.prog ops Q rest (a.put o.dst (.slice a' bs.length q)) w') : wpList Try.prog ops Q (o :: rest) a w := by
  obtain ⟨i0, hi, hz0, hz1, hz2⟩ := info_parts Try.infoU8
  refine wpList_append_copy w hgd x 38 ho 5 i0 (.int .u8 0) 1 1 Try.underlying38 hi hz0 hz1 hz2 rfl (by decide) v bs.length (u8s bs) hx hr (u8s_one bs) (by omega) (le_maxLen (by omega)) (fun v' w' g1 g2 => ?_)
  obtain ⟨a', q, hv⟩ := len_form g1
  subst hv
  exact h a' q w' (BytesAt.ofOwn g1 rfl (fun b hb _ => hb)) ((Keeps.refl [] w).grown g2 rfl rfl rfl rfl (fun _ h => by cases h))

theorem RefBlk.tsnap {w : World} {n : Nat} {c : CoreD} {lv sv : Value} (h : RefBlk w n c lv sv) (h1 : c.votes.length = 8) (h2 : c.next.length = 8) (h3 : c.matc.length = 8) (b : Bool) : RefBlk (w.setCell ⟨n, 46, none⟩ (.bool b)) n { c with tsnap := b } lv sv :=
  h.set 46 _ (by rw [show 46 = 21 + 25 from rfl, rset21, rtail_tsnap c h1 h2 h3]; rfl)

def rsnapNo (m : MsgD) : Bool := !inD m.a 1 549755813888 || !inD m.b 1 m.term
def rsnapD (c : CoreD) (m : MsgD) : CoreD × List MsgD :=
  if m.term < c.term then (c, answerD c m false (lastD c)) else if c.role = 2 ∨ rsnapNo m = true then (c, []) else takesD (followD c m) m

set_option maxRecDepth 100000 in
set_option maxHeartbeats 6400000 in
theorem rsnap_old (w : World) (B n : Nat) (c : CoreD) (P : Nat → Prop) (lv sv : Value) (m : MsgD) (ea da : Option Addr) (ec dc : Nat) (h : RefAt w B n c P lv sv) (ht : m.term < c.term) :
    Calls Try.prog 87 #[.pointer (some ⟨n, 0, none⟩), msgV m (.slice ea m.entries.length ec) (.slice da m.data.length dc)] w (RCallPost B n P (c, answerD c m false (lastD c)) w) := by
  have h10 : w.cell? ⟨n, 10, none⟩ = some (.int .i64 c.term) := h.blk.cell 10
  have hlt := h.blk.lt
  have H := hid h
  have hd : decide (m.term < c.term) = true := by simpa using ht
  obtain ⟨L, hL⟩ : ∃ L, lastD c = L := ⟨_, rfl⟩
  have HL := hid hL
  rw [hL]
  unfold msgV
  clear h hL
  go_enter Try.func87, Try.ntmps87
  go_wp2_with fail
  go_quiet (fail)
  go_wp2_with fail
  refine Plan.wp_region_plan (fun wx => wx.cell? ⟨w.heap.size, 1, none⟩ = some (.int .i64 m.frm)) 5 [(true, 0), (true, 1), (true, 2), (true, 3), (false, 4)] (by kernel_rfl) (by as_aux_lemma => kernel_rfl) (by kernel_rfl) (fun _ _ _ _ _ h => h) ?_ (fun hS => ?_)
  (· go_simp)
  simp only [Plan.pick, List.append_eq, List.cons_append, List.nil_append, Plan.g1, Plan.g2, Option.getD_some, List.drop_succ_cons, List.drop_zero]
  iterate 4 (first | refine Plan.tA ?_ | refine Plan.tY ?_ | refine Plan.pN ?_ | refine Plan.pU ?_ | fail)
  refine Plan.step ?_
  go_wp2_with fail
  refine (rLast_is _ B n c P lv sv (H.out.k (by exact Keeps.K)) L HL.out).mono ?_
  rintro e w' ⟨rfl, kk, rfl⟩
  go_wp2_with fail
  refine ⟨?_, ?_⟩
  (· go_simp)
  refine Plan.fin ?_
  go_wp2_with fail
  refine calls_fold (fun wx => Keeps [] w wx) (by exact Keeps.K) ?_
  intro w5 k5
  have K5 := hid k5
  clear k5
  refine (ranswer_any _ B n c P lv sv m false L (H.out.k K5.out)).mono ?_
  rintro e w6 ⟨a, q, rfl, hf, hk⟩
  have HP : Hid (RCallPost B n P (c, answerD c m false L) w (.returned (.slice a (answerD c m false L).length q)) w6) := RCallPost.tells ((H.out.k K5.out).toGr hlt) hlt (K5.out.mono (fun _ _ h => by cases h)) (RMsgsPost.of ⟨a, q, rfl, hf, hk⟩)
  clear hf hk
  go_wp2_with fail
  go_ret
  exact HP.out

set_option maxRecDepth 100000 in
set_option maxHeartbeats 6400000 in
theorem rsnap_no (w : World) (B n : Nat) (c : CoreD) (P : Nat → Prop) (lv sv : Value) (m : MsgD) (ea da : Option Addr) (ec dc : Nat) (h : RefAt w B n c P lv sv) (ht : ¬ m.term < c.term) (hr : c.role = 2 ∨ rsnapNo m = true) :
    Calls Try.prog 87 #[.pointer (some ⟨n, 0, none⟩), msgV m (.slice ea m.entries.length ec) (.slice da m.data.length dc)] w (RCallPost B n P (c, []) w) := by
  have h10 : w.cell? ⟨n, 10, none⟩ = some (.int .i64 c.term) := h.blk.cell 10
  have h12 : w.cell? ⟨n, 12, none⟩ = some (.int .i64 c.role) := h.blk.cell 12
  have hlt := h.blk.lt
  have H := hid h
  have hd : decide (m.term < c.term) = false := by simpa using ht
  have hcs : (c.role == 2) = true ∨ ((c.role == 2) = false ∧ Hid (inD m.a 1 549755813888 = false)) ∨ ((c.role == 2) = false ∧ Hid (inD m.a 1 549755813888 = true) ∧ Hid (inD m.b 1 m.term = false)) := by
    by_cases e : c.role = 2
    · exact .inl (by simpa using e)
    · have e' : (c.role == 2) = false := by simpa using e
      rcases hr with h1 | h1
      · exact absurd h1 e
      · unfold rsnapNo at h1
        cases h2 : inD m.a 1 549755813888 with
        | false => exact .inr (.inl ⟨e', rfl⟩)
        | true =>
          rw [h2] at h1
          refine .inr (.inr ⟨e', rfl, ?_⟩)
          show _ = _
          simpa using h1
  unfold msgV
  clear h hr ht
  have HE : Hid (∀ w', Keeps [] w w' → RCallPost B n P (c, []) w (.returned (.slice none 0 0)) w') := fun w' k => RCallPost.silent rfl ((H.out.k k).toGr hlt) (k.mono (fun _ _ h => by cases h))
  rcases hcs with hb | ⟨hb, F1⟩ | ⟨hb, F1, F2⟩
  · go_enter Try.func87, Try.ntmps87
    go_wp2_with fail
    go_quiet (fail)
    go_wp2_with fail
    go_ret
    exact HE.out _ (by exact Keeps.K)
  · go_enter Try.func87, Try.ntmps87
    go_wp2_with fail
    go_quiet (fail)
    go_wp2_with fail
    refine (rin_is false _ _ _ _ F1.out).mono ?_
    rintro z w3 ⟨rfl, hw3⟩
    subst hw3
    go_wp2_with fail
    go_ret
    exact HE.out _ (by exact Keeps.K)
  · go_enter Try.func87, Try.ntmps87
    go_wp2_with fail
    go_quiet (fail)
    go_wp2_with fail
    refine (rin_is true _ _ _ _ F1.out).mono ?_
    rintro z w3 ⟨rfl, hw3⟩
    subst hw3
    go_wp2_with fail
    refine (rin_is false _ _ _ _ F2.out).mono ?_
    rintro z w3 ⟨rfl, hw3⟩
    subst hw3
    go_wp2_with fail
    go_ret
    exact HE.out _ (by exact Keeps.K)

end Go.Proofs.Ytpppoajnbhipeaa
