/- The document's lexer: a sign. -/
import Derived.Test.YtnjdepojmnniaaaGreatDoorLxV

set_option linter.unusedSimpArgs false
set_option linter.unusedVariables false
namespace Go.Proofs.YtnjdepojmnniaaaGreatDoor
open Go Go.RowKit

theorem one_sign_at {l : List UInt8} (h1 : clsL l = 0) (h34 : l.head? ≠ some 34) : oneD l = if signL l = 0 then none else some (⟨4, l.take (signL l), 0, 0⟩, signL l) := by
  unfold oneD
  rw [if_neg (by rw [h1]; decide), if_neg (by rw [h1]; decide), if_neg h34]
def signsB : ByteArray := ⟨#[43, 45, 42, 47, 37, 40, 41, 44, 61, 60, 62, 38, 124, 33]⟩
theorem signs_at : ∀ i : Fin 14, signsB.data.toList.getD i.val 0 = signs.getD i.val 0 ∧ (signs.getD i.val 0).toNat < 128 := by decide
theorem signs_cut : ∀ i : Fin 14, signsB.extract i.val (i.val + 1) = str [signs.getD i.val 0] := by decide
theorem sgn (i : Nat) (hi : i < 14) : ∃ (x : UInt8), (∀ h, (⟨#[43, 45, 42, 47, 37, 40, 41, 44, 61, 60, 62, 38, 124, 33]⟩ : ByteArray)[i]'h = x) ∧ x = signs.getD i 0 ∧ x.toNat < 128 ∧ (⟨#[43, 45, 42, 47, 37, 40, 41, 44, 61, 60, 62, 38, 124, 33]⟩ : ByteArray).extract i (i + 1) = str [x] := by
  have h1 := signs_at ⟨i, hi⟩
  have h2 := signs_cut ⟨i, hi⟩
  refine ⟨signs.getD i 0, fun h => ?_, rfl, h1.2, h2⟩
  rw [← h1.1, List.getD_eq_getElem?_getD, List.getElem?_eq_getElem (show i < signsB.data.toList.length from hi)]
  rfl

theorem sgn2 (i : Nat) (hi : i < 14) (r : Nat) : ∃ (x : UInt8) (d : Nat), (∀ h, (⟨#[43, 45, 42, 47, 37, 40, 41, 44, 61, 60, 62, 38, 124, 33]⟩ : ByteArray)[i]'h = x) ∧ x = signs.getD i 0 ∧ x.toNat = d ∧ (⟨#[43, 45, 42, 47, 37, 40, 41, 44, 61, 60, 62, 38, 124, 33]⟩ : ByteArray).extract i (i + 1) = str [x] ∧ (0 : Int) ≤ (d : Int) ∧ (d : Int) ≤ 127 ∧ wrap32 (d : Int) = (d : Int) ∧ IntKind.i32.wrap (d : Int) = (d : Int) ∧
    (((d : Int) != (r : Int)) = false ∧ d = r ∨ ((d : Int) != (r : Int)) = true ∧ d ≠ r) := by
  obtain ⟨x, h0, h1, h2, h3⟩ := sgn i hi
  refine ⟨x, x.toNat, h0, h1, rfl, h3, Int.natCast_nonneg _, by omega, by unfold wrap32; omega, by rw [IntKind.wrap_i32]; omega, ?_⟩
  by_cases h : x.toNat = r
  · exact .inl ⟨by simp [h], h⟩
  · exact .inr ⟨by simp; omega, h⟩

theorem sign_mem {i : Nat} (h : i < 14) : signs.getD i 0 ∈ signs := by
  rw [List.getD_eq_getElem?_getD, List.getElem?_eq_getElem (show i < signs.length from h)]
  exact List.getElem_mem _
theorem sign_none {c : UInt8} {t : List UInt8} (h : ∀ j, j < 14 → signs.getD j 0 ≠ c) : signL (c :: t) = 0 := by
  have hn : ¬ signs.contains c = true := by
    intro hm
    have hm : c ∈ signs := by simpa using hm
    obtain ⟨j, hj, e⟩ := List.getElem_of_mem hm
    refine h j hj ?_
    rw [List.getD_eq_getElem?_getD, List.getElem?_eq_getElem hj]
    exact e
  have h2 : ¬ ((c = 60 ∨ c = 62 ∨ c = 33) ∧ t.head? = some 61) := by
    rintro ⟨rfl | rfl | rfl, _⟩ <;> exact hn (by decide)
  rw [signL_cons, if_neg h2, if_neg hn]
/-- What sign it is. -/
theorem sign_of {s : ByteArray} {p r wi : Nat} {c x : UInt8} {tl : List UInt8} (hct : s.data.toList.drop p = c :: tl) (hx : x ∈ signs) (hxr : x.toNat = r) (hcr : c.toNat = r) (hwi : wid (s.data.toList.drop p) = wi) (hne : s.data.toList.drop p ≠ []) (hr : (Lib.decodeL (s.data.toList.drop p)).1 = r) (h128 : r < 128) :
    wi = 1 ∧ tl = s.data.toList.drop (p + 1) ∧
    ((r = 60 ∨ r = 62 ∨ r = 33) → (s.data.toList.drop (p + 1)).head? = some 61 → signL (s.data.toList.drop p) = 2 ∧ (s.data.toList.drop p).take 2 = [x, 61]) ∧
    (¬ ((r = 60 ∨ r = 62 ∨ r = 33) ∧ (s.data.toList.drop (p + 1)).head? = some 61) → signL (s.data.toList.drop p) = 1 ∧ (s.data.toList.drop p).take 1 = [x]) := by
  have hw1 := (dec34 hne h128 hr).1
  have htl : tl = s.data.toList.drop (p + 1) := by
    rw [← List.drop_drop, hct]
    rfl
  have hxc : x = c := UInt8.toNat_inj.1 (by rw [hxr, hcr])
  subst hxc
  have hk : (x = 60 ∨ x = 62 ∨ x = 33) ↔ (r = 60 ∨ r = 62 ∨ r = 33) := by
    rw [← hxr]
    constructor
    · rintro (rfl | rfl | rfl) <;> decide
    · rintro (h | h | h)
      · exact .inl (UInt8.toNat_inj.1 h)
      · exact .inr (.inl (UInt8.toNat_inj.1 h))
      · exact .inr (.inr (UInt8.toNat_inj.1 h))
  refine ⟨hwi ▸ hw1, htl, fun h1 h2 => ?_, fun h => ?_⟩
  · rw [hct, signL_cons, if_pos ⟨hk.2 h1, htl ▸ h2⟩]
    refine ⟨rfl, ?_⟩
    rw [← htl] at h2
    rcases tl with _ | ⟨d, tl⟩
    · cases h2
    · obtain rfl : d = 61 := by simpa using h2
      rfl
  · rw [hct, signL_cons, if_neg (fun g => h ⟨hk.1 g.1, htl ▸ g.2⟩), if_pos (by simpa using hx)]
    exact ⟨rfl, rfl⟩
set_option maxRecDepth 100000 in
set_option maxHeartbeats 8000000 in
theorem r6sign_any (s : ByteArray) (n : Nat) (pa : Option Addr) (pq k p : Nat) (w : World) (H : LAt w n s pa pq k) (hp : PAt s.data.toList k p) (hk : k < (pieces s.data.toList).length) (hc : clsL (s.data.toList.drop p) = 0) (h34 : (s.data.toList.drop p).head? ≠ some 34) (hs : s.size ≤ 400) :
    Calls Tryz.prog 98 #[.pointer (some ⟨n, 0, none⟩)] w (TokPost s n pa pq p w) := by
  have HH := hid H
  have HP := hid hp
  have HO := hid (one_sign_at hc h34)
  have HL : Hid (s.data.toList.length = s.size) := Array.length_toList
  have hk2 := hp.le
  have hL := HL.out
  have k0 : (0 : Int) ≤ (k : Int) := Int.natCast_nonneg _
  have k1 : (k : Int) ≤ 400 := by omega
  obtain ⟨m, hm⟩ : ∃ m, (pieces s.data.toList).length = m := ⟨_, rfl⟩
  have HM := hid hm
  have hkI : (k : Int) < (m : Int) := by omega
  have hne := drop_ne (hp.lt hk)
  obtain ⟨hx, hpn⟩ := hp.next hk
  obtain ⟨b, off, rfl, hbn, _, hq⟩ := H.addr hk
  rw [hm] at hq
  obtain ⟨c, tl, hct, hru⟩ := head_rune hne
  obtain ⟨wi, hwi⟩ : ∃ wi, wid (s.data.toList.drop p) = wi := ⟨_, rfl⟩
  obtain ⟨r, hr⟩ : ∃ r, (Lib.decodeL (s.data.toList.drop p)).1 = r := ⟨_, rfl⟩
  obtain ⟨bd, hbd⟩ : ∃ bd, badL (s.data.toList.drop p) = bd := ⟨_, rfl⟩
  have HPC : Hid (∀ w1, LAt w1 n s (some ⟨b, off, none⟩) pq k → w1.cell? ⟨b, off + k * 4, none⟩ = some (.int .i64 p) ∧ w1.cell? ⟨b, off + k * 4 + 1, none⟩ = some (.int .i64 wi) ∧ w1.cell? ⟨b, off + k * 4 + 2, none⟩ = some (.int .i32 r) ∧ w1.cell? ⟨b, off + k * 4 + 3, none⟩ = some (.bool bd)) := fun w1 h1 => by
    have := pc_get h1.list hx
    dsimp only at this
    rw [hwi, hr, hbd] at this
    exact this
  rw [hr] at hru
  rw [hwi] at hpn
  have HPN := hid hpn
  have HCT := hid hct
  have HRU := hid hru
  have HWI := hid hwi
  have HR := hid hr
  have HNE := hid hne
  have HSF : Hid (bd = true ∨ 128 ≤ r → signL (s.data.toList.drop p) = 0) := fun h => by
    have hc128 : 128 ≤ c.toNat := by
      rcases Nat.lt_or_ge c.toNat 128 with g | g
      · exfalso
        have hd := (hru c.toNat g).1 rfl
        rcases h with h | h
        · rw [h] at hbd
          have := ((badL_iff _).1 hbd).1
          omega
        · omega
      · exact g
    rw [hct, signL_cons, if_neg, if_neg]
    · intro hm
      have : ∀ c ∈ signs, c.toNat < 128 := by decide
      have := this c (by simpa using hm)
      omega
    · rintro ⟨rfl | rfl | rfl, _⟩ <;> (revert hc128; decide)
  clear hc h34 hx hpn hr hbd hne hct hru hwi hp hk hL H
  go_enter Tryz.func98, Tryz.ntmps98
  go_wp2_with fail
  refine (r6here_any s n _ pq k p _ (HH.out.k (by exact Keeps.K)) HP.out).mono ?_
  rintro e w2 ⟨rfl, hk⟩
  have K2 : Hid (Keeps [] w w2) := Keeps.trans (G := []) (by exact Keeps.K) hk (fun _ _ h => h)
  have HZ2 : w.heap.size < w2.heap.size := by have := hk.size; simp at this; omega
  have HB2 : Hid (w2.heap[w.heap.size]? = some (.cells #[.int .i64 0, .string ⟨#[]⟩, .int .i64 0, .int .i64 0] 93 (0, 0))) := (hk.block _ (by simp) (by simp)).trans (heap_alloc_new _ _)
  have hnw : n < w.heap.size := HH.out.lt
  clear hk
  go_wp2_with fail
  obtain ⟨w3, hw3⟩ : ∃ w3, w2.alloc (.cells #[.int .i64 4, .string ⟨#[]⟩, .int .i64 0, .int .i64 p] 93) = w3 := ⟨_, rfl⟩
  have K3 : Hid (Keeps [] w2 w3) := by rw [← hw3]; exact Keeps.K
  have HT3 : Hid (w3.heap[w2.heap.size]? = some (.cells #[.int .i64 4, .string ⟨#[]⟩, .int .i64 0, .int .i64 p] 93 (0, 0))) := by rw [← hw3]; exact heap_alloc_new _ _
  have HL3 : Hid (LAt w3 n s (some ⟨b, off, none⟩) pq k) := (HH.out.k K2.out).k K3.out
  have HR3 : Hid (w3.heap[w.heap.size]? = some (.cells #[.int .i64 0, .string ⟨#[]⟩, .int .i64 0, .int .i64 0] 93 (0, 0))) := (K3.out.block _ HZ2 (by simp)).trans HB2.out
  rw [hw3]
  have hz3 : w2.heap.size < w3.heap.size := (Array.getElem?_eq_some_iff.1 HT3.out).1
  obtain ⟨⟨c0, c1, c2⟩, f2⟩ := HL3.out.cells
  obtain ⟨y0, y1, y2, y3⟩ := HPC.out w3 HL3.out
  rw [HM.out] at c1
  clear hw3
  have HKQ : Hid (∀ o, Keeps [] w3 (w3.alloc o).drew) := fun o => ((Keeps.refl [] w3).alloc o).drew
  refine Plan.wp_region_plan (fun wx => (wx.cell? ⟨n, 1, none⟩ = some (.slice (some ⟨b, off, none⟩) m pq) ∧ wx.cell? ⟨n, 2, none⟩ = some (.int .i64 k)) ∧ wx.cell? ⟨b, off + k * 4, none⟩ = some (.int .i64 p) ∧ wx.cell? ⟨b, off + k * 4 + 1, none⟩ = some (.int .i64 wi) ∧ wx.cell? ⟨b, off + k * 4 + 2, none⟩ = some (.int .i32 r) ∧ wx.cell? ⟨b, off + k * 4 + 3, none⟩ = some (.bool bd)) 12 [(true, 0), (true, 1), (true, 2), (true, 3), (true, 4), (true, 5), (true, 6), (true, 7), (true, 8), (true, 9), (false, 10), (false, 11)] (by kernel_rfl) (by as_aux_lemma => kernel_rfl) (by kernel_rfl) (fun _ _ _ _ _ h => h) ?_ (fun hS => ?_)
  (· go_simp)
  simp only [Plan.pick, List.append_eq, List.cons_append, List.nil_append, Plan.g1, Plan.g2, Option.getD_some, List.drop_succ_cons, List.drop_zero]
  iterate 10 (first | refine Plan.tA ?_ | refine Plan.tY ?_ | refine Plan.pN ?_ | refine Plan.pU ?_ | fail)
  refine Plan.step ?_
  go_wp2_with fail
  refine ⟨⟨⟨(HKQ.out _).cellSome c1 (by simp), (HKQ.out _).cellSome c2 (by simp)⟩, (HKQ.out _).cellSome y0 (by simp), (HKQ.out _).cellSome y1 (by simp), (HKQ.out _).cellSome y2 (by simp), (HKQ.out _).cellSome y3 (by simp)⟩, ?_⟩
  obtain ⟨wA, hwA⟩ : ∃ wA, (w3.alloc (.cells #[.int .i64 0, .int .i64 0, .int .i32 0, .bool false] 105)).drew = wA := ⟨_, rfl⟩
  have KA : Hid (Keeps [] w3 wA) := by rw [← hwA]; exact HKQ.out _
  have HA : Hid (wA.heap[w3.heap.size]? = some (.cells #[.int .i64 0, .int .i64 0, .int .i32 0, .bool false] 105 (0, 0))) := by
    rw [← hwA]
    exact heap_alloc_new w3 _
  rw [hwA]
  obtain ⟨⟨g0, g1, g2, g3⟩, fg⟩ := blk4 HA.out
  have HY0 := hid y0
  have HY1 := hid y1
  have HY2 := hid y2
  have HY3 := hid y3
  clear hwA c0 c1 c2 f2 y0 y1 y2 y3
  refine Plan.step ?_
  go_wp2_with fail
  obtain ⟨wB, hwB⟩ : ∃ wB, (((wA.setCell ⟨w3.heap.size, 0, none⟩ (.int .i64 p)).setCell ⟨w3.heap.size, 1, none⟩ (.int .i64 wi)).setCell ⟨w3.heap.size, 2, none⟩ (.int .i32 r)).setCell ⟨w3.heap.size, 3, none⟩ (.bool bd) = wB := ⟨_, rfl⟩
  have KB : Hid (Keeps [] w3 wB) := by
    have h : Keeps [w3.heap.size] wA wB := by rw [← hwB]; exact Keeps.K
    exact ((KA.out.mono (G := [w3.heap.size]) (fun _ _ h => by cases h)).trans h (fun _ _ h => h)).mono (fun b hb hb' => by simp at hb'; omega)
  have HB : Hid (wB.heap[w3.heap.size]? = some (.cells #[.int .i64 p, .int .i64 wi, .int .i32 r, .bool bd] 105 (0, 0))) := by
    rw [← hwB]
    exact heap_setCell_same _ w3.heap.size 3 _ _ _ (heap_setCell_same _ w3.heap.size 2 _ _ _ (heap_setCell_same _ w3.heap.size 1 _ _ _ (heap_setCell_same _ w3.heap.size 0 _ _ _ HA.out)))
  rw [hwB]
  have HLB : Hid (LAt wB n s (some ⟨b, off, none⟩) pq k) := HL3.out.k KB.out
  have HTB : Hid _ := (KB.out.block _ hz3 (by simp)).trans HT3.out
  have HRB : Hid _ := (KB.out.block _ (Nat.lt_trans HZ2 hz3) (by simp)).trans HR3.out
  have HKB : Hid (Keeps [n] w wB) := ((K2.out.trans K3.out (fun _ _ h => h)).trans KB.out (fun _ _ h => h)).mono (fun _ _ h => by cases h)
  obtain ⟨⟨c0, c1, c2⟩, f2⟩ := HLB.out.cells
  rw [HM.out] at c1
  obtain ⟨⟨z0, z1, z2, z3⟩, fz⟩ := blk4 HRB.out
  obtain ⟨⟨e0, e1, e2, e3⟩, f1⟩ := blk4 HTB.out
  clear hwB g0 g1 g2 g3 fg
  refine ⟨⟨⟨c1, c2⟩, KB.out.cellSome HY0.out (by simp), KB.out.cellSome HY1.out (by simp), KB.out.cellSome HY2.out (by simp), KB.out.cellSome HY3.out (by simp)⟩, ?_⟩
  refine Plan.fin ?_
  obtain ⟨⟨g0, g1, g2, g3⟩, fg⟩ := blk4 HB.out
  have hn3 : n ≠ w3.heap.size := by omega
  have hn2 : n ≠ w2.heap.size := by omega
  have hnz : n ≠ w.heap.size := by omega
  have hz23 : w2.heap.size ≠ w3.heap.size := by omega
  have hzz : w2.heap.size ≠ w.heap.size := by omega
  have hz03 : w.heap.size ≠ w3.heap.size := by omega
  have HRET : Hid (oneD (s.data.toList.drop p) = none → ∀ wF, Keeps [n, w.heap.size] wB wF → TokPost s n (some ⟨b, off, none⟩) pq p w (.returned (.tuple #[.agg #[.int .i64 4, .string ⟨#[]⟩, .int .i64 0, .int .i64 p], .bool false])) wF) :=
    fun h wF hk => TokPost.none_ h (HKB.out.trans hk (fun b hb hb' => by simp at hb' ⊢; omega))
  by_cases hbad : bd = true ∨ 128 ≤ r
  · have HO2 : Hid (oneD (s.data.toList.drop p) = none) := by
      show _ = _
      rw [HO.out, if_pos (HSF.out hbad)]
    have hcs : bd = true ∨ (bd = false ∧ 128 ≤ (r : Int)) := by
      rcases bd with _ | _
      · rcases hbad with h | h
        · cases h
        · exact .inr ⟨rfl, by omega⟩
      · exact .inl rfl
    clear hbad
    rcases hcs with rfl | ⟨rfl, q1⟩
    all_goals
      go_wp2_with fail
      refine bodyPost_ret (v := .tuple #[.agg #[.int .i64 4, .string ⟨#[]⟩, .int .i64 0, .int .i64 p], .bool false]) (by simp [results, Tryz.results98, go_sem, z0, z1, z2, z3]) rfl ?_
      exact HRET.out HO2.out _ (by exact Keeps.K)
  · obtain rfl : bd = false := by
      rcases bd with _ | _
      · rfl
      · exact absurd (.inl rfl) hbad
    have hr128 : r < 128 := by omega
    have r0 : (0 : Int) ≤ (r : Int) := Int.natCast_nonneg _
    have r1 : (r : Int) ≤ 127 := by omega
    have HCR : Hid (c.toNat = r) := (HRU.out r hr128).2 rfl
    clear hbad hr128
    go_wp2_with fail
    go_loopw [7] (fun iv wr => ∃ i : Nat, iv = .int .i64 i ∧ i ≤ 14 ∧ Hid ((∀ j, j < i → signs.getD j 0 ≠ c) ∧ Keeps [] wB wr)) (fun iv _ => 14 - (intOf iv).toNat)
    case atStart => exact ⟨0, rfl, by omega, fun j h => by omega, by exact Keeps.K⟩
    case round =>
      obtain ⟨i, rfl, hi, HW⟩ := hrel
      have i0 : (0 : Int) ≤ (i : Int) := Int.natCast_nonneg _
      have hlw := HLB.out.k HW.out.2
      obtain ⟨⟨c0', c1', c2'⟩, f2'⟩ := hlw.cells
      have htr := (HW.out.2.block _ (Array.getElem?_eq_some_iff.1 HTB.out).1 (by simp)).trans HTB.out
      have hrr := (HW.out.2.block _ (Array.getElem?_eq_some_iff.1 HRB.out).1 (by simp)).trans HRB.out
      have hpr := (HW.out.2.block _ (Array.getElem?_eq_some_iff.1 HB.out).1 (by simp)).trans HB.out
      rw [HM.out] at c1'
      have HLW := hid hlw
      have HTR := hid htr
      have HRR := hid hrr
      obtain ⟨⟨z0', z1', z2', z3'⟩, fz'⟩ := blk4 hrr
      obtain ⟨⟨e0', e1', e2', e3'⟩, f1'⟩ := blk4 htr
      obtain ⟨⟨g0', g1', g2', g3'⟩, fg'⟩ := blk4 hpr
      have hpr0 := hid hpr
      clear c0 c1 c2 f2 z0 z1 z2 z3 fz e0 e1 e2 e3 f1 g0 g1 g2 g3 fg hlw htr hrr hpr
      by_cases hlt : i < 14
      · have hltI : (i : Int) < 14 := by omega
        obtain ⟨x, d, hx0, hxs, hd, hxe, d0, d1, hw, hw2, hcs⟩ := sgn2 i hlt r
        have HX := hid hxs
        have HXE := hid hxe
        have HDX := hid hd
        have hx := hx0 hlt
        clear hxs hxe hx0
        rcases hcs with ⟨q1, hxc⟩ | ⟨q1, hxc⟩
        · have HXC := hid hxc
          clear hxc
          go_wp2_with fail
          refine Plan.wp_region_plan (fun wx => wx.cell? ⟨w3.heap.size, 2, none⟩ = some (.int .i32 r)) 7 [(true, 0), (true, 1), (true, 2), (true, 3), (true, 4), (true, 5), (true, 6)] (by kernel_rfl) (by as_aux_lemma => kernel_rfl) (by kernel_rfl) (fun _ _ _ _ _ h => h) ?_ (fun hS => ?_)
          (· go_simp)
          simp only [Plan.pick, List.append_eq, List.cons_append, List.nil_append, Plan.g1, Plan.g2, Option.getD_some, List.drop_succ_cons, List.drop_zero]
          iterate 7 (first | refine Plan.tA ?_ | refine Plan.tY ?_ | refine Plan.pN ?_ | refine Plan.pU ?_ | fail)
          refine Plan.fin ?_
          go_wp2_with fail
          have HSG := hid (sign_of (s := s) (p := p) (r := r) (wi := wi) (c := c) (x := x) HCT.out (HX.out.symm ▸ sign_mem hlt) (by rw [HDX.out, HXC.out]) HCR.out HWI.out HNE.out HR.out (show r < 128 by omega))
          rw [HXE.out]
          have hi14 := hi
          obtain ⟨wT, hwT⟩ : ∃ wT, wr.setCell ⟨w2.heap.size, 1, none⟩ (.string (str [x])) = wT := ⟨_, rfl⟩
          have KT : Hid (Keeps [w2.heap.size] wr wT) := by rw [← hwT]; exact Keeps.K
          have HTT : Hid (wT.heap[w2.heap.size]? = some (.cells #[.int .i64 4, .string (str [x]), .int .i64 0, .int .i64 p] 93 (0, 0))) := by
            rw [← hwT]
            exact heap_setCell_same wr w2.heap.size 1 _ _ _ HTR.out
          have hlT : LAt wT n s (some ⟨b, off, none⟩) pq k := HLW.out.far KT.out (fun b hb => by simp at hb; omega)
          rw [hwT]
          obtain ⟨wC, hwC⟩ : ∃ wC, wT.setCell ⟨n, 2, none⟩ (.int .i64 ((k : Int) + 1)) = wC := ⟨_, rfl⟩
          have KC : Hid (Keeps [n] wT wC) := by rw [← hwC]; exact Keeps.K
          have HLC : Hid (LAt wC n s (some ⟨b, off, none⟩) pq (k + 1)) := by rw [← hwC]; exact hlT.go (by push_cast; rfl)
          have HTC : Hid _ := (KC.out.block _ (Array.getElem?_eq_some_iff.1 HTT.out).1 (by simp; omega)).trans HTT.out
          have HRC : Hid _ := (KC.out.block _ (Nat.lt_of_lt_of_le (Array.getElem?_eq_some_iff.1 HRR.out).1 KT.out.size) (by simp; omega)).trans ((KT.out.block _ (Array.getElem?_eq_some_iff.1 HRR.out).1 (by simp; omega)).trans HRR.out)
          have HPR : Hid _ := (KC.out.block _ (Nat.lt_of_lt_of_le (Array.getElem?_eq_some_iff.1 hpr0.out).1 KT.out.size) (by simp; omega)).trans ((KT.out.block _ (Array.getElem?_eq_some_iff.1 hpr0.out).1 (by simp; omega)).trans hpr0.out)
          have HKC : Hid (Keeps [n] w wC) := ((HKB.out.trans HW.out.2 (fun _ _ h => by cases h)).trans KT.out (fun b hb hb' => by simp at hb'; omega)).trans KC.out (fun _ _ h => h)
          rw [hwC]
          obtain ⟨hw1, _, hs2, hs1⟩ := HSG.out
          subst hw1
          have HS1 := hid hs1
          have HS2 := hid hs2
          clear hs1 hs2 hwC hwT hlT c0' c1' c2' f2' z0' z1' z2' z3' fz' e0' e1' e2' e3' f1' g0' g1' g2' g3' fg'
          obtain ⟨⟨c0, c1, c2⟩, f2⟩ := HLC.out.cells
          obtain ⟨⟨z0, z1, z2, z3⟩, fz⟩ := blk4 HRC.out
          obtain ⟨⟨e0, e1, e2, e3⟩, f1⟩ := blk4 HTC.out
          obtain ⟨⟨g0, g1, g2, g3⟩, fg⟩ := blk4 HPR.out
          rw [HM.out] at c1
          have hnx : k + 1 < m → ∃ r2 : Nat, ((r2 = 61) ↔ (s.data.toList.drop (p + 1)).head? = some 61) ∧ wC.cell? ⟨b, off + (k + 1) * 4 + 2, none⟩ = some (.int .i32 r2) ∧ PAt s.data.toList (k + 2) (p + 1 + wid (s.data.toList.drop (p + 1))) := fun hk1 => by
            obtain ⟨hx, hpn⟩ := HPN.out.next (by rw [HM.out]; exact hk1)
            obtain ⟨_, _, y2, _⟩ := pc_get HLC.out.list hx
            have hne := drop_ne (HPN.out.lt (by rw [HM.out]; exact hk1))
            obtain ⟨c2, t2, hct, hru⟩ := head_rune hne
            refine ⟨_, ?_, y2, hpn⟩
            rw [hct]
            have h61 := hru 61 (by decide)
            rw [hct] at h61
            constructor
            · intro h
              have : c2 = 61 := UInt8.toNat_inj.1 ((h61.2 h).trans rfl)
              rw [this]
              rfl
            · intro h
              obtain rfl : c2 = 61 := by simpa using h
              exact h61.1 rfl
          have hnx2 : ¬ k + 1 < m → (s.data.toList.drop (p + 1)).head? ≠ some 61 := fun hk1 => by
            rw [HPN.out.end_ (by rw [HM.out]; exact hk1), List.drop_of_length_le (Nat.le_refl _)]
            simp
          have HNX := hid hnx
          have HNX2 := hid hnx2
          clear hnx hnx2
          have HONE : Hid (∀ (h : signL (s.data.toList.drop p) = 1 ∧ (s.data.toList.drop p).take 1 = [x]) wF, Keeps [w.heap.size] wC wF → TokPost s n (some ⟨b, off, none⟩) pq p w (.returned (.tuple #[.agg #[.int .i64 4, .string (str [x]), .int .i64 0, .int .i64 p], .bool true])) wF) := fun h wF hk => by
            have ho := HO.out
            rw [h.1, if_neg (by decide), h.2] at ho
            exact TokPost.some_ (t := ⟨4, [x], 0, 0⟩) ho HPN.out (HLC.out.far hk (fun b hb => by simp at hb; omega)) (HKC.out.trans hk (fun b hb hb' => by simp at hb'; omega))
          by_cases h3 : r = 60 ∨ r = 62 ∨ r = 33
          · have hmm : ∀ k' : Nat, (k' : Int) = (k : Int) + 1 ↔ k' = k + 1 := fun k' => by omega
            by_cases hk1 : k + 1 < m
            · obtain ⟨r2, hr2, y2, hpp2⟩ := HNX.out hk1
              have hkI1 : (k : Int) + 1 < (m : Int) := by omega
              have HSG2 := hid hr2
              have HPP2 := hid hpp2
              have hto : ((k : Int) + 1).toNat = k + 1 := by omega
              by_cases h61 : r2 = 61
              · subst h61
                clear hr2 hpp2 hk1 hmm
                obtain ⟨e4, e5⟩ := HS2.out (by omega) (HSG2.out.1 rfl)
                have ho := HO.out
                rw [e4, if_neg (by decide), e5] at ho
                have HOT := hid ho
                have HP2' : Hid (PAt s.data.toList (k + 2) (p + 2)) := by
                  obtain ⟨c2, hc2⟩ : ∃ c2, s.data.toList.drop (p + 1) = 61 :: c2 := by
                    rcases hd : s.data.toList.drop (p + 1) with _ | ⟨d, t2⟩
                    · have := HSG2.out.1 rfl; rw [hd] at this; cases this
                    · have := HSG2.out.1 rfl
                      rw [hd] at this
                      obtain rfl : d = 61 := by simpa using this
                      exact ⟨t2, rfl⟩
                  have := HPP2.out
                  rw [hc2, show wid (61 :: c2) = 1 by unfold wid; rw [decode_byte 61 c2 (by decide)]] at this
                  exact this
                clear e4 e5 ho
                rcases h3 with rfl | rfl | rfl
                all_goals
                  go_wp2_with fail
                  go_quiet (fail)
                  go_wp2_with fail
                  have HXX : str [x] ++ (⟨#[61]⟩ : ByteArray) = str [x, 61] := rfl
                  rw [HXX]
                  obtain ⟨wD, hwD⟩ : ∃ wD, (wC.drewN (1 + nq)).setCell ⟨w2.heap.size, 1, none⟩ (.string (str [x, 61])) = wD := ⟨_, rfl⟩
                  have KD : Keeps [w2.heap.size] wC wD := by rw [← hwD]; exact Keeps.K
                  rw [hwD]
                  have hlD : LAt wD n s (some ⟨b, off, none⟩) pq (k + 1) := HLC.out.far KD (fun b hb => by simp at hb; omega)
                  have hlE : LAt (wD.setCell ⟨n, 2, none⟩ (.int .i64 ((k : Int) + 1 + 1))) n s (some ⟨b, off, none⟩) pq (k + 2) := hlD.go (by push_cast; rfl)
                  have KE : Keeps [n] wD (wD.setCell ⟨n, 2, none⟩ (.int .i64 ((k : Int) + 1 + 1))) := by exact Keeps.K
                  have HKE : Keeps [n] w (wD.setCell ⟨n, 2, none⟩ (.int .i64 ((k : Int) + 1 + 1))) := (HKC.out.trans KD (fun b hb hb' => by simp at hb'; omega)).trans KE (fun _ _ h => h)
                  have HRD := (KE.block _ (Nat.lt_of_lt_of_le (Array.getElem?_eq_some_iff.1 HRC.out).1 KD.size) (by simp; omega)).trans ((KD.block _ (Array.getElem?_eq_some_iff.1 HRC.out).1 (by simp; omega)).trans HRC.out)
                  generalize wD.setCell ⟨n, 2, none⟩ (.int .i64 ((k : Int) + 1 + 1)) = wE at hlE HKE HRD ⊢
                  obtain ⟨⟨z0, z1, z2, z3⟩, fz⟩ := blk4 HRD
                  refine bodyPost_ret (v := .tuple #[.agg #[.int .i64 4, .string (str [x, 61]), .int .i64 0, .int .i64 p], .bool true]) (by simp [results, Tryz.results98, go_sem, z0, z1, z2, z3]) rfl ?_
                  have KF : Keeps [w.heap.size] wE ((((wE.setCell ⟨w.heap.size, 0, none⟩ (.int .i64 4)).setCell ⟨w.heap.size, 1, none⟩ (.string (str [x, 61]))).setCell ⟨w.heap.size, 2, none⟩ (.int .i64 0)).setCell ⟨w.heap.size, 3, none⟩ (.int .i64 p)) := by exact Keeps.K
                  exact TokPost.some_ (t := ⟨4, [x, 61], 0, 0⟩) HOT.out HP2'.out (hlE.far KF (fun b hb => by simp at hb; omega)) (HKE.trans KF (fun b hb hb' => by simp at hb'; omega))
              · have n61 : ((r2 : Int) == 61) = false := by simp; omega
                have HS := hid (HS1.out (fun h => h61 (HSG2.out.2 h.2)))
                clear hr2 hpp2 hk1 hmm h61
                rcases h3 with rfl | rfl | rfl
                all_goals
                  go_wp2_with fail
                  go_quiet (fail)
                  go_wp2_with fail
                  refine bodyPost_ret (v := .tuple #[.agg #[.int .i64 4, .string (str [x]), .int .i64 0, .int .i64 p], .bool true]) (by simp [results, Tryz.results98, go_sem, z0, z1, z2, z3]) rfl ?_
                  exact HONE.out HS.out _ (by exact Keeps.K)
            · have hkI1 : (m : Int) ≤ (k : Int) + 1 := by omega
              have hkF1 : ((k : Int) + 1 < (m : Int)) = False := eq_false (by omega)
              have HS := hid (HS1.out (fun h => HNX2.out hk1 h.2))
              clear hk1 hmm
              rcases h3 with rfl | rfl | rfl
              all_goals
                go_wp2_with fail
                go_quiet (fail)
                go_wp2_with fail
                refine bodyPost_ret (v := .tuple #[.agg #[.int .i64 4, .string (str [x]), .int .i64 0, .int .i64 p], .bool true]) (by simp [results, Tryz.results98, go_sem, z0, z1, z2, z3]) rfl ?_
                exact HONE.out HS.out _ (by exact Keeps.K)
          · have n60 : ((r : Int) == 60) = false := by simp; omega
            have n62 : ((r : Int) == 62) = false := by simp; omega
            have n33 : ((r : Int) == 33) = false := by simp; omega
            have HS := hid (HS1.out (fun h => h3 h.1))
            clear h3
            go_wp2_with fail
            go_quiet (fail)
            go_wp2_with fail
            refine bodyPost_ret (v := .tuple #[.agg #[.int .i64 4, .string (str [x]), .int .i64 0, .int .i64 p], .bool true]) (by simp [results, Tryz.results98, go_sem, z0, z1, z2, z3]) rfl ?_
            exact HONE.out HS.out _ (by exact Keeps.K)
        · have HXC := hid hxc
          clear hxc
          go_wp2_with fail
          refine Plan.wp_region_plan (fun wx => wx.cell? ⟨w3.heap.size, 2, none⟩ = some (.int .i32 r)) 7 [(true, 0), (true, 1), (true, 2), (true, 3), (true, 4), (true, 5), (true, 6)] (by kernel_rfl) (by as_aux_lemma => kernel_rfl) (by kernel_rfl) (fun _ _ _ _ _ h => h) ?_ (fun hS => ?_)
          (· go_simp)
          simp only [Plan.pick, List.append_eq, List.cons_append, List.nil_append, Plan.g1, Plan.g2, Option.getD_some, List.drop_succ_cons, List.drop_zero]
          iterate 7 (first | refine Plan.tA ?_ | refine Plan.tY ?_ | refine Plan.pN ?_ | refine Plan.pU ?_ | fail)
          refine Plan.fin ?_
          go_wp2_with fail
          go_roundw
          case rel =>
            refine ⟨i + 1, by go_num, by omega, fun j hj => ?_, HW.out.2.trans (G := []) (by exact Keeps.K) (fun _ _ h => h)⟩
            rcases Nat.lt_or_ge j i with h | h
            · exact HW.out.1 j h
            · obtain rfl : j = i := by omega
              rw [← HX.out]
              intro e
              exact HXC.out (by rw [← HDX.out, e, HCR.out])
          case measure => simp [intOf]; omega
      · obtain rfl : i = 14 := by omega
        have HO2 : Hid (oneD (s.data.toList.drop p) = none) := by
          show _ = _
          rw [HO.out, if_pos]
          rw [HCT.out]
          exact sign_none (fun j hj => HW.out.1 j hj)
        go_wp2_with fail
        refine bodyPost_ret (v := .tuple #[.agg #[.int .i64 4, .string ⟨#[]⟩, .int .i64 0, .int .i64 p], .bool false]) (by simp [results, Tryz.results98, go_sem, z0', z1', z2', z3']) rfl ?_
        exact HRET.out HO2.out _ ((HW.out.2.mono (G := [n, w.heap.size]) (fun _ _ h => by cases h)).trans (G := [n, w.heap.size]) (by exact Keeps.K) (fun _ _ h => h))

end Go.Proofs.YtnjdepojmnniaaaGreatDoor
