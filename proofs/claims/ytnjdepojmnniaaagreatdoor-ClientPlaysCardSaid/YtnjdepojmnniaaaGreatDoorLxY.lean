/- The document's lexer: a text. -/
import Derived.Test.YtnjdepojmnniaaaGreatDoorLxX
import Derived.Test.YtnjdepojmnniaaaGreatDoorLxV
import Derived.Test.YtnjdepojmnniaaaGreatDoorQ05

set_option linter.unusedSimpArgs false
set_option linter.unusedVariables false
namespace Go.Proofs.YtnjdepojmnniaaaGreatDoor
open Go Go.RowKit

theorem str_app (a b : List UInt8) : str a ++ str b = str (a ++ b) := by
  refine ByteArray.ext ?_
  rw [ByteArray.data_append]
  show a.toArray ++ b.toArray = (a ++ b).toArray
  simp
/-- The text's state in memory: the result's cell at block g, its token at block h. -/
structure TxSt (s : ByteArray) (n : Nat) (pa : Option Addr) (pq p g h : Nat) (w wr : World) (k q : Nat) (acc : List UInt8) (N : Nat) : Prop where
  place : PAt s.data.toList k (p + q)
  text : TxAt (s.data.toList.drop p) q acc N
  few : N ≤ q
  lex : LAt wr n s pa pq k
  res : wr.heap[g]? = some (.cells #[.int .i64 0, .string ⟨#[]⟩, .int .i64 0, .int .i64 0] 93 (0, 0))
  tok : wr.heap[h]? = some (.cells #[.int .i64 2, .string (str acc), .int .i64 0, .int .i64 p] 93 (0, 0))
  keeps : Keeps [n] w wr
theorem TxSt.k {s : ByteArray} {n : Nat} {pa : Option Addr} {pq p g h : Nat} {w wr w' : World} {k q : Nat} {acc : List UInt8} {N : Nat} (H : TxSt s n pa pq p g h w wr k q acc N) (c : Keeps [] wr w') : TxSt s n pa pq p g h w w' k q acc N :=
  ⟨H.place, H.text, H.few, H.lex.k c, (c.block _ (Array.getElem?_eq_some_iff.1 H.res).1 (by simp)).trans H.res, (c.block _ (Array.getElem?_eq_some_iff.1 H.tok).1 (by simp)).trans H.tok, H.keeps.trans c (fun _ _ h => by cases h)⟩
/-- What it is that comes back. -/
theorem TxSt.fail {s : ByteArray} {n : Nat} {pa : Option Addr} {pq p g h : Nat} {w wr wF : World} {k q : Nat} {acc : List UInt8} {N : Nat} (H : TxSt s n pa pq p g h w wr k q acc N) (h34 : (s.data.toList.drop p).head? = some 34) (hu : unqL (s.data.toList.drop p) = none) {kd nn : Int} {ss : ByteArray} (c : Keeps [n] w wF) :
    TokPost s n pa pq p w (.returned (.tuple #[.agg #[.int .i64 kd, .string ss, .int .i64 nn, .int .i64 p], .bool false])) wF :=
  TokPost.none_ (by rw [one_text_at h34, hu]) c

set_option maxRecDepth 100000 in
set_option maxHeartbeats 8000000 in
theorem r6text_any (s : ByteArray) (n : Nat) (pa : Option Addr) (pq k p : Nat) (w : World) (H : LAt w n s pa pq k) (hp : PAt s.data.toList k p) (hk : k < (pieces s.data.toList).length) (h34 : (s.data.toList.drop p).head? = some 34) (hs : s.size ≤ 400) :
    Calls Tryz.prog 97 #[.pointer (some ⟨n, 0, none⟩)] w (TokPost s n pa pq p w) := by
  have HH := hid H
  have HP := hid hp
  have H34 := hid h34
  have HL : Hid (s.data.toList.length = s.size) := Array.length_toList
  have hk2 := hp.le
  have hL := HL.out
  have k0 : (0 : Int) ≤ (k : Int) := Int.natCast_nonneg _
  have k1 : (k : Int) ≤ 400 := by omega
  obtain ⟨m, hm⟩ : ∃ m, (pieces s.data.toList).length = m := ⟨_, rfl⟩
  have HM := hid hm
  have HT0 : Hid (∃ tl, s.data.toList.drop p = 34 :: tl) := by
    show ∃ tl, _
    rcases hd : s.data.toList.drop p with _ | ⟨c, tl⟩
    · rw [hd] at h34; cases h34
    · rw [hd] at h34
      obtain rfl : c = 34 := by simpa using h34
      exact ⟨tl, rfl⟩
  have HP1 : Hid (PAt s.data.toList (k + 1) (p + 1)) := by
    have := (hp.next hk).2
    obtain ⟨tl, ht⟩ := HT0.out
    rw [ht, show wid (34 :: tl) = 1 by unfold wid; rw [decode_byte 34 tl (by decide)]] at this
    exact this
  have HT1 : Hid (TxAt (s.data.toList.drop p) 1 [] 0) := by
    obtain ⟨tl, ht⟩ := HT0.out
    show TxAt _ _ _ _
    rw [ht]
    exact TxAt.zero
  clear hp h34 hk hL H
  go_enter Tryz.func97, Tryz.ntmps97
  go_wp2_with fail
  refine (r6here_any s n pa pq k p _ (HH.out.k (by exact Keeps.K)) HP.out).mono ?_
  rintro e w2 ⟨rfl, hk⟩
  have K2 : Hid (Keeps [] w w2) := Keeps.trans (G := []) (by exact Keeps.K) hk (fun _ _ h => h)
  have HZ2 : w.heap.size < w2.heap.size := by have := hk.size; simp at this; omega
  have HB2 : Hid (w2.heap[w.heap.size]? = some (.cells #[.int .i64 0, .string ⟨#[]⟩, .int .i64 0, .int .i64 0] 93 (0, 0))) := (hk.block _ (by simp) (by simp)).trans (heap_alloc_new _ _)
  have HL2 : Hid (LAt w2 n s pa pq k) := HH.out.k K2.out
  have hnw : n < w.heap.size := HH.out.lt
  have hn2 : n < w2.heap.size := by omega
  obtain ⟨⟨c0, c1, c2⟩, f2⟩ := HL2.out.cells
  clear hk
  go_wp2_with fail
  go_loopw [5] (fun nv wr => ∃ (N q k2 : Nat) (acc : List UInt8), nv = .int .i64 N ∧ w2.heap.size < wr.heap.size ∧ Hid (TxSt s n pa pq p w.heap.size w2.heap.size w wr k2 q acc N)) (fun _ wr => (pieces s.data.toList).length - ixAt wr n)
  case atStart =>
    obtain ⟨wA, hwA⟩ : ∃ wA, w2.setCell ⟨n, 2, none⟩ (.int .i64 ((k : Int) + 1)) = wA := ⟨_, rfl⟩
    have KA : Keeps [n] w2 wA := by rw [← hwA]; exact Keeps.K
    have HA : LAt wA n s pa pq (k + 1) := by rw [← hwA]; exact HL2.out.go (by push_cast; rfl)
    have hz : wA.heap.size = w2.heap.size := by rw [← hwA]; simp
    have hnew := heap_alloc_new wA (.cells #[.int .i64 2, .string ⟨#[]⟩, .int .i64 0, .int .i64 p] 93)
    rw [hz] at hnew
    rw [hwA]
    have K1 : Keeps [] wA (wA.alloc (.cells #[.int .i64 2, .string ⟨#[]⟩, .int .i64 0, .int .i64 p] 93)) := (Keeps.refl [] wA).alloc _
    refine ⟨0, 1, k + 1, [], rfl, by simp [hz], HP1.out, HT1.out, by omega, HA.k K1, ?_, hnew, (K2.out.mono (G := [n]) (fun _ _ h => by cases h)).trans (KA.trans K1 (fun _ _ h => by cases h)) (fun _ _ h => h)⟩
    exact (K1.block _ (by rw [hz]; exact HZ2) (by simp)).trans ((KA.block _ HZ2 (by simp; omega)).trans HB2.out)
  case round =>
    clear c0 c1 c2 f2
    obtain ⟨N, q, k2, acc, rfl, hsz, HW⟩ := hrel
    obtain ⟨⟨c0, c1, c2⟩, f2⟩ := HW.out.lex.cells
    obtain ⟨⟨z0, z1, z2, z3⟩, fz⟩ := blk4 HW.out.res
    obtain ⟨⟨e0, e1, e2, e3⟩, f1⟩ := blk4 HW.out.tok
    have hkp := HW.out.place.le
    have hL := HL.out
    have hNq := HW.out.few
    have N0 : (0 : Int) ≤ (N : Int) := Int.natCast_nonneg _
    have N1 : (N : Int) ≤ 400 := by omega
    have kk0 : (0 : Int) ≤ (k2 : Int) := Int.natCast_nonneg _
    have kk1 : (k2 : Int) ≤ 400 := by omega
    have hnn : n ≠ w2.heap.size := by omega
    have hzz : w2.heap.size ≠ w.heap.size := by omega
    have hzw : w.heap.size < wr.heap.size := by omega
    have hnr : n < wr.heap.size := by omega
    have HDD : Hid ((s.data.toList.drop p).drop q = s.data.toList.drop (p + q)) := List.drop_drop
    rw [HM.out] at c1
    clear hkp hL hNq
    by_cases hkm : k2 < m
    · have hkmI : (k2 : Int) < (m : Int) := by omega
      have hM := HM.out
      have hlt := HW.out.place.lt (by omega)
      have hne := drop_ne hlt
      obtain ⟨hx, hpn⟩ := HW.out.place.next (by omega)
      obtain ⟨b, off, rfl, hbn, _, hq⟩ := HW.out.lex.addr (by omega)
      obtain ⟨y0, y1, y2, y3⟩ := pc_get HW.out.lex.list hx
      dsimp only at y0 y1 y2 y3
      have hqL : q < (s.data.toList.drop p).length := by rw [List.length_drop]; omega
      have hval := decodeL_valid (s.data.toList.drop (p + q))
      obtain ⟨wi, hwi⟩ : ∃ wi, wid (s.data.toList.drop (p + q)) = wi := ⟨_, rfl⟩
      obtain ⟨r, hr⟩ : ∃ r, (Lib.decodeL (s.data.toList.drop (p + q))).1 = r := ⟨_, rfl⟩
      obtain ⟨bd, hbd⟩ : ∃ bd, badL (s.data.toList.drop (p + q)) = bd := ⟨_, rfl⟩
      rw [hwi] at y1 hpn
      rw [hr] at y2 hval
      rw [hbd] at y3
      have HY0 := hid y0
      have HY1 := hid y1
      have HY2 := hid y2
      have HY3 := hid y3
      have HWI := hid hwi
      have HRR := hid hr
      have HBD := hid hbd
      have HPN := hid hpn
      have HQL := hid hqL
      have HNE := hid hne
      have HVAL := hid hval
      have r0 : (0 : Int) ≤ (r : Int) := Int.natCast_nonneg _
      have hbz : b < wr.heap.size := by omega
      clear hM hx hpn hwi hr hbd hlt hne hqL hval
      go_wp2_with fail
      go_quiet (fail)
      go_wp2_with fail
      have HKQ : Hid (∀ o m', Keeps [] wr ((wr.drewN m').alloc o)) := fun o m' => ((Keeps.refl [] wr).drewN m').alloc o
      refine Plan.wp_region_plan (fun wx => (wx.cell? ⟨n, 1, none⟩ = some (.slice (some ⟨b, off, none⟩) m pq) ∧ wx.cell? ⟨n, 2, none⟩ = some (.int .i64 k2)) ∧ wx.cell? ⟨b, off + k2 * 4, none⟩ = some (.int .i64 (p + q : Nat)) ∧ wx.cell? ⟨b, off + k2 * 4 + 1, none⟩ = some (.int .i64 wi) ∧ wx.cell? ⟨b, off + k2 * 4 + 2, none⟩ = some (.int .i32 r) ∧ wx.cell? ⟨b, off + k2 * 4 + 3, none⟩ = some (.bool bd)) 12 [(true, 0), (true, 1), (true, 2), (true, 3), (true, 4), (true, 5), (true, 6), (true, 7), (true, 8), (true, 9), (false, 10), (false, 11)] (by kernel_rfl) (by as_aux_lemma => kernel_rfl) (by kernel_rfl) (fun _ _ _ _ _ h => h) ?_ (fun hS => ?_)
      (· go_simp)
      simp only [Plan.pick, List.append_eq, List.cons_append, List.nil_append, Plan.g1, Plan.g2, Option.getD_some, List.drop_succ_cons, List.drop_zero]
      iterate 10 (first | refine Plan.tA ?_ | refine Plan.tY ?_ | refine Plan.pN ?_ | refine Plan.pU ?_ | fail)
      refine Plan.step ?_
      go_wp2_with fail
      refine ⟨⟨⟨(HKQ.out _ _).cellSome c1 (by simp), (HKQ.out _ _).cellSome c2 (by simp)⟩, (HKQ.out _ _).cellSome y0 (by simp), (HKQ.out _ _).cellSome y1 (by simp), (HKQ.out _ _).cellSome y2 (by simp), (HKQ.out _ _).cellSome y3 (by simp)⟩, ?_⟩
      obtain ⟨wA, hwA⟩ : ∃ wA, (wr.drewN (nq + 1)).alloc (.cells #[.int .i64 0, .int .i64 0, .int .i32 0, .bool false] 105) = wA := ⟨_, rfl⟩
      have KA : Hid (Keeps [] wr wA) := by rw [← hwA]; exact HKQ.out _ _
      have HA : Hid (wA.heap[wr.heap.size]? = some (.cells #[.int .i64 0, .int .i64 0, .int .i32 0, .bool false] 105 (0, 0))) := by
        rw [← hwA]
        exact heap_alloc_new (wr.drewN (nq + 1)) _
      rw [hwA]
      obtain ⟨⟨g0, g1, g2, g3⟩, fg⟩ := blk4 HA.out
      clear hwA c0 c1 c2 f2 z0 z1 z2 z3 fz e0 e1 e2 e3 f1 y0 y1 y2 y3
      refine Plan.step ?_
      go_wp2_with fail
      obtain ⟨wB, hwB⟩ : ∃ wB, (((wA.setCell ⟨wr.heap.size, 0, none⟩ (.int .i64 ((p : Int) + (q : Int)))).setCell ⟨wr.heap.size, 1, none⟩ (.int .i64 wi)).setCell ⟨wr.heap.size, 2, none⟩ (.int .i32 r)).setCell ⟨wr.heap.size, 3, none⟩ (.bool bd) = wB := ⟨_, rfl⟩
      have KB : Hid (Keeps [] wr wB) := by
        have h : Keeps [wr.heap.size] wA wB := by rw [← hwB]; exact Keeps.K
        exact ((KA.out.mono (G := [wr.heap.size]) (fun _ _ h => by cases h)).trans h (fun _ _ h => h)).mono (fun b hb hb' => by simp at hb'; omega)
      have HB : Hid (wB.heap[wr.heap.size]? = some (.cells #[.int .i64 ((p : Int) + (q : Int)), .int .i64 wi, .int .i32 r, .bool bd] 105 (0, 0))) := by
        rw [← hwB]
        exact heap_setCell_same _ wr.heap.size 3 _ _ _ (heap_setCell_same _ wr.heap.size 2 _ _ _ (heap_setCell_same _ wr.heap.size 1 _ _ _ (heap_setCell_same _ wr.heap.size 0 _ _ _ HA.out)))
      rw [hwB]
      have HWB := hid (HW.out.k KB.out)
      obtain ⟨⟨c0, c1, c2⟩, f2⟩ := HWB.out.lex.cells
      rw [HM.out] at c1
      obtain ⟨⟨z0, z1, z2, z3⟩, fz⟩ := blk4 HWB.out.res
      obtain ⟨⟨e0, e1, e2, e3⟩, f1⟩ := blk4 HWB.out.tok
      clear hwB g0 g1 g2 g3 fg
      refine ⟨⟨⟨c1, c2⟩, KB.out.cellSome HY0.out (by simp), KB.out.cellSome HY1.out (by simp), KB.out.cellSome HY2.out (by simp), KB.out.cellSome HY3.out (by simp)⟩, ?_⟩
      refine Plan.fin ?_
      obtain ⟨⟨g0, g1, g2, g3⟩, fg⟩ := blk4 HB.out
      have hnr2 : n ≠ wr.heap.size := by omega
      have hzr2 : w.heap.size ≠ wr.heap.size := by omega
      have hsr2 : w2.heap.size ≠ wr.heap.size := by omega
      have hnz : n ≠ w.heap.size := by omega
      have hszB : wr.heap.size < wB.heap.size := (Array.getElem?_eq_some_iff.1 HB.out).1
      have HRET : Hid (unqL (s.data.toList.drop p) = none → ∀ (v0 v1 v2 v3 : Value), v0 = .int .i64 2 → v1 = .string (str acc) → v2 = .int .i64 0 → v3 = .int .i64 p → ∀ wF, Keeps [n, w.heap.size, wr.heap.size] wB wF →
          TokPost s n (some ⟨b, off, none⟩) pq p w (.returned (.tuple #[.agg #[v0, v1, v2, v3], .bool false])) wF) := by
        intro hu v0 v1 v2 v3 h0 h1 h2 h3 wF hk
        rw [h0, h1, h2, h3]
        exact HWB.out.fail H34.out hu (HWB.out.keeps.trans hk (fun b hb hb' => by simp at hb' ⊢; omega))
      have HBADV : Hid (bd = true ∨ ctlR r = true → unqL (s.data.toList.drop p) = none) := fun h => by
        refine HWB.out.text.bad HQL.out ?_
        rw [HDD.out, HBD.out, HRR.out]
        exact h
      by_cases hbad : bd = true ∨ ctlR r = true
      · have HU := hid (HBADV.out hbad)
        have hcs : bd = true ∨ (bd = false ∧ (r : Int) < 32) ∨ (bd = false ∧ (32 ≤ (r : Int) ∧ 127 ≤ (r : Int) ∧ (r : Int) ≤ 159)) := by
          rcases bd with _ | _
          · rcases hbad with h | h
            · cases h
            · simp [ctlR] at h
              by_cases h32 : r < 32
              · exact .inr (.inl ⟨rfl, by omega⟩)
              · exact .inr (.inr ⟨rfl, by omega, by omega, by omega⟩)
          · exact .inl rfl
        clear hbad
        rcases hcs with rfl | ⟨rfl, q1⟩ | ⟨rfl, q1, q2, q3⟩
        all_goals
          go_wp2_with fail
          refine bodyPost_ret (v := .tuple #[.agg #[.int .i64 2, .string (str acc), .int .i64 0, .int .i64 p], .bool false]) (by simp [results, Tryz.results97, go_sem, z0, z1, z2, z3, hnz]) rfl ?_
          exact HRET.out HU.out _ _ _ _ rfl rfl rfl rfl _ (by exact Keeps.K)
      · obtain ⟨rfl, hctl⟩ : bd = false ∧ ctlR r = false := by
          rcases bd with _ | _
          · refine ⟨rfl, ?_⟩
            rcases hc : ctlR r with _ | _
            · rfl
            · exact absurd (.inr hc) hbad
          · exact absurd (.inl rfl) hbad
        have hcs : 32 ≤ (r : Int) ∧ ((r : Int) < 127 ∨ (127 ≤ (r : Int) ∧ 159 < (r : Int))) := by
          simp [ctlR] at hctl
          omega
        have HNB : Hid (¬ (badL ((s.data.toList.drop p).drop q) = true ∨ ctlR (Lib.decodeL ((s.data.toList.drop p).drop q)).1 = true)) := by
          show ¬ _
          rw [HDD.out, HBD.out, HRR.out]
          exact hbad
        clear hbad hctl
        obtain ⟨q1, q2⟩ := hcs
        by_cases h34 : r = 34
        · subst h34
          obtain ⟨hu, hw1⟩ := HWB.out.text.close HQL.out (by rw [HDD.out]; exact HRR.out)
          rw [HDD.out, HWI.out] at hw1
          subst hw1
          have HO : Hid (oneD (s.data.toList.drop p) = if N ≤ 100 then some (⟨2, acc, 0, 0⟩, q + 1) else none) := by
            show _ = _
            rw [one_text_at H34.out, hu]
            dsimp only
            rw [HWB.out.text.count]
          clear hu q1 q2
          go_wp2_with fail
          have HLF : LAt (((((wB.setCell ⟨n, 2, none⟩ (.int .i64 ((k2 : Int) + 1))).setCell ⟨w.heap.size, 0, none⟩ (.int .i64 2)).setCell ⟨w.heap.size, 1, none⟩ (.string (str acc))).setCell ⟨w.heap.size, 2, none⟩ (.int .i64 0)).setCell ⟨w.heap.size, 3, none⟩ (.int .i64 p)) n s (some ⟨b, off, none⟩) pq (k2 + 1) :=
            (HWB.out.lex.go (z := (k2 : Int) + 1) (by push_cast; rfl)).far (F := [w.heap.size]) (by exact Keeps.K) (fun b hb => by simp at hb; omega)
          have HKF : Keeps [n] w (((((wB.setCell ⟨n, 2, none⟩ (.int .i64 ((k2 : Int) + 1))).setCell ⟨w.heap.size, 0, none⟩ (.int .i64 2)).setCell ⟨w.heap.size, 1, none⟩ (.string (str acc))).setCell ⟨w.heap.size, 2, none⟩ (.int .i64 0)).setCell ⟨w.heap.size, 3, none⟩ (.int .i64 p)) :=
            HWB.out.keeps.trans (G := [n, w.heap.size]) (by exact Keeps.K) (fun b hb hb' => by simp at hb' ⊢; omega)
          refine bodyPost_ret (v := .tuple #[.agg #[.int .i64 2, .string (str acc), .int .i64 0, .int .i64 p], .bool (decide ((N : Int) ≤ 100))]) (by simp [results, Tryz.results97, go_sem, z0, z1, z2, z3, hnz]) rfl ?_
          have h1 := HO.out
          by_cases hv : N ≤ 100
          · rw [if_pos hv] at h1
            rw [decide_eq_true (show (N : Int) ≤ 100 by omega)]
            exact TokPost.some_ h1 (k' := k2 + 1) (by rw [← Nat.add_assoc]; exact HPN.out) HLF HKF
          · rw [if_neg hv] at h1
            rw [decide_eq_false (show ¬ (N : Int) ≤ 100 by omega)]
            exact TokPost.none_ h1 HKF
        · have n34 : ((r : Int) == 34) = false := by simp; omega
          by_cases h92 : r = 92
          · subst h92
            have hw1 := (dec34 (c := 92) HNE.out (by decide) HRR.out).1
            rw [HWI.out] at hw1
            subst hw1
            have HE92 : Hid (s.data.toList.drop (p + q) = 92 :: s.data.toList.drop (p + q + 1)) := by
              obtain ⟨tl, htl⟩ := dec_head HNE.out (by decide) HRR.out
              have h1 : (s.data.toList.drop (p + q)).drop 1 = s.data.toList.drop (p + q + 1) := List.drop_drop
              show _ = _
              rw [← h1, htl]
              rfl
            clear q1 q2 h34 n34
            go_wp2_with fail
            obtain ⟨wX, hwX⟩ : ∃ wX, wB.setCell ⟨n, 2, none⟩ (.int .i64 ((k2 : Int) + 1)) = wX := ⟨_, rfl⟩
            have KX : Hid (Keeps [n] wB wX) := by rw [← hwX]; exact Keeps.K
            have HLX : Hid (LAt wX n s (some ⟨b, off, none⟩) pq (k2 + 1)) := by rw [← hwX]; exact HWB.out.lex.go (by push_cast; rfl)
            rw [hwX]
            refine (r6escape_any s n (some ⟨b, off, none⟩) pq (k2 + 1) (p + q + 1) _ HLX.out HPN.out hs).mono ?_
            rintro e w7 he
            have HTOK' : ∀ w7, Keeps [n] wX w7 → w7.heap[w2.heap.size]? = some (.cells #[.int .i64 2, .string (str acc), .int .i64 0, .int .i64 p] 93 (0, 0)) := fun w7 g => (g.block _ (Nat.lt_of_lt_of_le (by omega) KX.out.size) (by simp; omega)).trans ((KX.out.block _ (by omega) (by simp; omega)).trans HWB.out.tok)
            have HRES' : ∀ w7, Keeps [n] wX w7 → w7.heap[w.heap.size]? = some (.cells #[.int .i64 0, .string ⟨#[]⟩, .int .i64 0, .int .i64 0] 93 (0, 0)) := fun w7 g => (g.block _ (Nat.lt_of_lt_of_le (by omega) KX.out.size) (by simp; omega)).trans ((KX.out.block _ (by omega) (by simp; omega)).trans HWB.out.res)
            clear hwX
            rcases he with ⟨h0, x, rfl, hk⟩ | ⟨h0, rfl, ⟨k', hp', hl'⟩, hk⟩
            · have HU : Hid (unqL (s.data.toList.drop p) = none) := HWB.out.text.escBad HQL.out (by rw [HDD.out]; exact HRR.out) (by rw [HDD.out, HE92.out]; exact h0)
              have K7 := hid hk
              obtain ⟨⟨z0, z1, z2, z3⟩, fz⟩ := blk4 (HRES' _ hk)
              obtain ⟨⟨e0, e1, e2, e3⟩, f1⟩ := blk4 (HTOK' _ hk)
              clear h0 hk HTOK' HRES'
              go_wp2_with fail
              refine bodyPost_ret (v := .tuple #[.agg #[.int .i64 2, .string (str acc), .int .i64 0, .int .i64 p], .bool false]) (by simp [results, Tryz.results97, go_sem, z0, z1, z2, z3, hnz]) rfl ?_
              exact HRET.out HU.out _ _ _ _ rfl rfl rfl rfl _ (((KX.out.trans K7.out (fun _ _ h => h)).mono (G := [n, w.heap.size, wr.heap.size]) (fun b hb hb' => by simp at hb' ⊢; omega)).trans (G := [n, w.heap.size, wr.heap.size]) (by exact Keeps.K) (fun _ _ h => h))
            · obtain ⟨x, hx⟩ : ∃ x, (escL (92 :: s.data.toList.drop (p + q + 1))).1 = x := ⟨_, rfl⟩
              have hvx := esc_rune (92 :: s.data.toList.drop (p + q + 1))
              obtain ⟨d, hd⟩ : ∃ d, (escL (92 :: s.data.toList.drop (p + q + 1))).2 = d + 1 := ⟨(escL (92 :: s.data.toList.drop (p + q + 1))).2 - 1, by omega⟩
              have htx := HWB.out.text.esc HQL.out (by rw [HDD.out]; exact HRR.out) (by rw [HDD.out, HE92.out]; exact h0) (by rw [HDD.out, HE92.out]; exact hvx)
              rw [HDD.out, HE92.out, hx, hd] at htx
              rw [hx] at hvx ⊢
              rw [hd, Nat.add_sub_cancel] at hp'
              have HTX := hid htx
              have HPY : Hid (PAt s.data.toList k' (p + (q + (d + 1)))) := by
                show PAt _ _ _
                rw [show p + (q + (d + 1)) = p + q + 1 + d by omega]
                exact hp'
              have HVX := hid hvx
              have HLY := hid hl'
              have HTOK := hid (HTOK' _ hk)
              have HRES := hid (HRES' _ hk)
              have HKY := hid (HWB.out.keeps.trans (KX.out.trans hk (fun _ _ h => h)) (fun _ _ h => h))
              have hfw : N + 1 ≤ q + (d + 1) := by have := HWB.out.few; omega
              have hky : k2 < k' := HW.out.place.rise HPY.out (by omega)
              clear h0 hx hvx htx hd hp' hl' hk HTOK' HRES'
              go_wp2_with fail
              obtain ⟨⟨e0, e1, e2, e3⟩, f1⟩ := blk4 HTOK.out
              refine Plan.wp_region_plan (fun wx => wx.cell? ⟨w2.heap.size, 1, none⟩ = some (.string (str acc))) 4 [(true, 0), (true, 1), (true, 2), (false, 3)] (by kernel_rfl) (by as_aux_lemma => kernel_rfl) (by kernel_rfl) (fun _ _ _ _ _ h => h) ?_ (fun hS => ?_)
              (· go_simp)
              simp only [Plan.pick, List.append_eq, List.cons_append, List.nil_append, Plan.g1, Plan.g2, Option.getD_some, List.drop_succ_cons, List.drop_zero]
              iterate 3 (first | refine Plan.tA ?_ | refine Plan.tY ?_ | refine Plan.pN ?_ | refine Plan.pU ?_ | fail)
              refine Plan.step ?_
              go_wp2_with fail
              refine (r1Bytes_any x (by have := HVX.out; omega) _).mono ?_
              rintro e w8 ⟨rfl, hk⟩
              have K8 : Hid (Keeps [] w7 w8) := Keeps.trans (G := []) (by exact Keeps.K) hk (fun _ _ h => h)
              clear hk e0 e1 e2 e3 f1 hS
              have HTOK8 : Hid (w8.heap[w2.heap.size]? = some (.cells #[.int .i64 2, .string (str acc), .int .i64 0, .int .i64 p] 93 (0, 0))) := (K8.out.block _ (Array.getElem?_eq_some_iff.1 HTOK.out).1 (by simp)).trans HTOK.out
              have HBY : Hid (str acc ++ str (byL x) = str (acc ++ Lib.encodeRune (x : Int))) := by
                show _ = _
                rw [str_app, byL_enc HVX.out]
              obtain ⟨⟨e0, e1, e2, e3⟩, f1⟩ := blk4 HTOK8.out
              obtain ⟨za, hza⟩ : ∃ za, (str acc).size = za := ⟨_, rfl⟩
              obtain ⟨zb, hzb⟩ : ∃ zb, (str (byL x)).size = zb := ⟨_, rfl⟩
              have ha4 : za ≤ 1600 := by
                rw [← hza]
                show acc.length ≤ _
                have := HWB.out.text.len
                omega
              have hb4 : zb ≤ 4 := by rw [← hzb]; exact byL_len x
              have hab : (za : Int) + (zb : Int) ≤ 1604 := by omega
              have hsz8 : w2.heap.size < w8.heap.size := (Array.getElem?_eq_some_iff.1 HTOK8.out).1
              go_wp2_with fail
              refine ⟨e1, ?_⟩
              refine Plan.fin ?_
              go_wp2_with fail
              rw [HBY.out]
              obtain ⟨w9, hw9⟩ : ∃ w9, w8.setCell ⟨w2.heap.size, 1, none⟩ (.string (str (acc ++ Lib.encodeRune (x : Int)))) = w9 := ⟨_, rfl⟩
              have K9 : Hid (Keeps [w2.heap.size] w8 w9) := by rw [← hw9]; exact Keeps.K
              have HTOK9 : Hid (w9.heap[w2.heap.size]? = some (.cells #[.int .i64 2, .string (str (acc ++ Lib.encodeRune (x : Int))), .int .i64 0, .int .i64 p] 93 (0, 0))) := by
                rw [← hw9]
                exact heap_setCell_same w8 w2.heap.size 1 _ _ _ HTOK8.out
              rw [hw9]
              have HL9 : Hid (LAt w9 n s (some ⟨b, off, none⟩) pq k') := (HLY.out.k K8.out).far K9.out (fun b hb => by simp at hb; omega)
              refine ⟨⟨N + 1, q + (d + 1), k', acc ++ Lib.encodeRune (x : Int), rfl, Nat.lt_of_lt_of_le hsz8 K9.out.size, HPY.out, HTX.out, hfw, HL9.out, ?_, HTOK9.out, ?_⟩, ?_⟩
              · exact (K9.out.block _ (Nat.lt_trans (by omega) hsz8) (by simp; omega)).trans ((K8.out.block _ (Array.getElem?_eq_some_iff.1 HRES.out).1 (by simp)).trans HRES.out)
              · exact (HKY.out.trans K8.out (fun _ _ h => by cases h)).trans K9.out (fun b hb hb' => by simp at hb'; omega)
              · rw [HL9.out.ix, HW.out.lex.ix]
                omega
          · have n92 : ((r : Int) == 92) = false := by simp; omega
            have HTX : Hid (TxAt (s.data.toList.drop p) (q + wi) (acc ++ Lib.encodeRune (r : Int)) (N + 1)) := by
              have h1 := HWB.out.text.step HQL.out (by rw [HDD.out, HRR.out]; exact h34) (by rw [HDD.out, HRR.out]; exact h92) HNB.out
              rw [HDD.out, HRR.out, HWI.out] at h1
              exact h1
            have HPY : Hid (PAt s.data.toList (k2 + 1) (p + (q + wi))) := by
              show PAt _ _ _
              rw [← Nat.add_assoc]
              exact HPN.out
            have hfw : N + 1 ≤ q + wi := by
              have := HWB.out.few
              have := wid_pos (s.data.toList.drop (p + q))
              rw [HWI.out] at this
              omega
            have hky : k2 < k2 + 1 := by omega
            have hrm := HVAL.out
            rcases q2 with q2 | ⟨q2, q3⟩
            all_goals
              clear hrm h34 h92
              go_wp2_with fail
              obtain ⟨wX, hwX⟩ : ∃ wX, wB.setCell ⟨n, 2, none⟩ (.int .i64 ((k2 : Int) + 1)) = wX := ⟨_, rfl⟩
              have KX : Hid (Keeps [n] wB wX) := by rw [← hwX]; exact Keeps.K
              have HLY : Hid (LAt wX n s (some ⟨b, off, none⟩) pq (k2 + 1)) := by rw [← hwX]; exact HWB.out.lex.go (by push_cast; rfl)
              rw [hwX]
              have HTOK : Hid _ := (KX.out.block _ (Array.getElem?_eq_some_iff.1 HWB.out.tok).1 (by simp; omega)).trans HWB.out.tok
              have HRES : Hid _ := (KX.out.block _ (Array.getElem?_eq_some_iff.1 HWB.out.res).1 (by simp; omega)).trans HWB.out.res
              have HKY := hid (HWB.out.keeps.trans KX.out (fun _ _ h => h))
              clear hwX
              obtain ⟨⟨e0, e1, e2, e3⟩, f1⟩ := blk4 HTOK.out
              refine Plan.wp_region_plan (fun wx => wx.cell? ⟨w2.heap.size, 1, none⟩ = some (.string (str acc))) 4 [(true, 0), (true, 1), (true, 2), (false, 3)] (by kernel_rfl) (by as_aux_lemma => kernel_rfl) (by kernel_rfl) (fun _ _ _ _ _ h => h) ?_ (fun hS => ?_)
              (· go_simp)
              simp only [Plan.pick, List.append_eq, List.cons_append, List.nil_append, Plan.g1, Plan.g2, Option.getD_some, List.drop_succ_cons, List.drop_zero]
              iterate 3 (first | refine Plan.tA ?_ | refine Plan.tY ?_ | refine Plan.pN ?_ | refine Plan.pU ?_ | fail)
              refine Plan.step ?_
              go_wp2_with fail
              refine (r1Bytes_any r (by have := HVAL.out; omega) _).mono ?_
              rintro e w8 ⟨rfl, hk⟩
              have K8 : Hid (Keeps [] wX w8) := Keeps.trans (G := []) (by exact Keeps.K) hk (fun _ _ h => h)
              clear hk e0 e1 e2 e3 f1 hS
              have HTOK8 : Hid (w8.heap[w2.heap.size]? = some (.cells #[.int .i64 2, .string (str acc), .int .i64 0, .int .i64 p] 93 (0, 0))) := (K8.out.block _ (Array.getElem?_eq_some_iff.1 HTOK.out).1 (by simp)).trans HTOK.out
              have HBY : Hid (str acc ++ str (byL r) = str (acc ++ Lib.encodeRune (r : Int))) := by
                show _ = _
                rw [str_app, byL_enc HVAL.out]
              obtain ⟨⟨e0, e1, e2, e3⟩, f1⟩ := blk4 HTOK8.out
              obtain ⟨za, hza⟩ : ∃ za, (str acc).size = za := ⟨_, rfl⟩
              obtain ⟨zb, hzb⟩ : ∃ zb, (str (byL r)).size = zb := ⟨_, rfl⟩
              have ha4 : za ≤ 1600 := by
                rw [← hza]
                show acc.length ≤ _
                have := HWB.out.text.len
                omega
              have hb4 : zb ≤ 4 := by rw [← hzb]; exact byL_len r
              have hab : (za : Int) + (zb : Int) ≤ 1604 := by omega
              have hsz8 : w2.heap.size < w8.heap.size := (Array.getElem?_eq_some_iff.1 HTOK8.out).1
              go_wp2_with fail
              refine ⟨e1, ?_⟩
              refine Plan.fin ?_
              go_wp2_with fail
              rw [HBY.out]
              obtain ⟨w9, hw9⟩ : ∃ w9, w8.setCell ⟨w2.heap.size, 1, none⟩ (.string (str (acc ++ Lib.encodeRune (r : Int)))) = w9 := ⟨_, rfl⟩
              have K9 : Hid (Keeps [w2.heap.size] w8 w9) := by rw [← hw9]; exact Keeps.K
              have HTOK9 : Hid (w9.heap[w2.heap.size]? = some (.cells #[.int .i64 2, .string (str (acc ++ Lib.encodeRune (r : Int))), .int .i64 0, .int .i64 p] 93 (0, 0))) := by
                rw [← hw9]
                exact heap_setCell_same w8 w2.heap.size 1 _ _ _ HTOK8.out
              rw [hw9]
              have HL9 : Hid (LAt w9 n s (some ⟨b, off, none⟩) pq (k2 + 1)) := (HLY.out.k K8.out).far K9.out (fun b hb => by simp at hb; omega)
              refine ⟨⟨N + 1, q + wi, (k2 + 1), acc ++ Lib.encodeRune (r : Int), rfl, Nat.lt_of_lt_of_le hsz8 K9.out.size, HPY.out, HTX.out, hfw, HL9.out, ?_, HTOK9.out, ?_⟩, ?_⟩
              · exact (K9.out.block _ (Nat.lt_trans (by omega) hsz8) (by simp; omega)).trans ((K8.out.block _ (Array.getElem?_eq_some_iff.1 HRES.out).1 (by simp)).trans HRES.out)
              · exact (HKY.out.trans K8.out (fun _ _ h => by cases h)).trans K9.out (fun b hb hb' => by simp at hb'; omega)
              · rw [HL9.out.ix, HW.out.lex.ix]
                omega
    · have hkmF : (m : Int) ≤ (k2 : Int) := by omega
      have hend := HW.out.place.end_ (by rw [HM.out]; exact hkm)
      have HU : Hid (unqL (s.data.toList.drop p) = none) := HW.out.text.open_ (by rw [List.length_drop]; omega)
      clear hend hkm
      (go_wp2_with fail; repeat (go_quiet (fail); go_wp2_with fail))
      refine bodyPost_ret (v := .tuple #[.agg #[.int .i64 2, .string (str acc), .int .i64 0, .int .i64 p], .bool false]) (by simp [results, Tryz.results97, go_sem, z0, z1, z2, z3]) rfl ?_
      refine HW.out.fail H34.out HU.out (HW.out.keeps.trans (G := [w.heap.size]) (by exact Keeps.K) (fun b hb hb' => by simp at hb'; omega))

end Go.Proofs.YtnjdepojmnniaaaGreatDoor
