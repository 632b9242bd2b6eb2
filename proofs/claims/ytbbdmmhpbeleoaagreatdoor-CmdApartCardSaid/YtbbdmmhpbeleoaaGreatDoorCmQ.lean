/- CmdApart, walked. (Printed by gen_cmq.py.) -/
import Derived.Test.YtbbdmmhpbeleoaaGreatDoorCmN
import Derived.Test.YtbbdmmhpbeleoaaGreatDoorCmO
import Derived.Test.YtbbdmmhpbeleoaaGreatDoorPlanT

set_option linter.unusedSimpArgs false
set_option linter.unusedVariables false
namespace Go.Proofs.YtbbdmmhpbeleoaaGreatDoor
open Go Go.RowKit

theorem bytes_extC {s s' : ByteArray} (h : s.toList = s'.toList) : s = s' := by
  rw [ByteArray.toList_eq, ByteArray.toList_eq] at h
  exact ByteArray.ext (Array.toList_inj.1 h)

set_option maxRecDepth 100000 in
set_option maxHeartbeats 32000000 in
theorem cmdApart_any (a b : CmdD) (r q : ReplyD) (w : World) (hT : Tabs w) (hE : Errs w) (hA : CmdI a) (hB : CmdI b) (hR : ReplyI r) (hQ : ReplyI q) : Calls Tryz.prog 6 #[cmdV a, cmdV b, replyV r, replyV q] w fun e w' => e = .returned (.bool true) ∧ Keeps [] w w' := by
  have HT := hid hT
  have HE := hid hE
  have HAW : Hid (∀ wx, Keeps [] w wx → Calls Tryz.prog 15 #[] wx fun e w' => e = .returned (.bool true) ∧ Keeps [] wx w') := fun wx g => awake14_any wx (hT.k g) (hE.k g)
  obtain ⟨sa, hsa⟩ : ∃ x, shortC a = x := ⟨_, rfl⟩
  obtain ⟨sb, hsb⟩ : ∃ x, shortC b = x := ⟨_, rfl⟩
  obtain ⟨sr, hsr⟩ : ∃ x, shortR r = x := ⟨_, rfl⟩
  obtain ⟨sq, hsq⟩ : ∃ x, shortR q = x := ⟨_, rfl⟩
  obtain ⟨ca, hca⟩ : ∃ x, checkC a = x := ⟨_, rfl⟩
  obtain ⟨cb, hcb⟩ : ∃ x, checkC b = x := ⟨_, rfl⟩
  obtain ⟨cr, hcr⟩ : ∃ x, checkR r = x := ⟨_, rfl⟩
  obtain ⟨cq, hcq⟩ : ∃ x, checkR q = x := ⟨_, rfl⟩
  have HSA := hid (fun w1 => short14_any a w1)
  have HSB := hid (fun w1 => short14_any b w1)
  have HCA := hid (fun w1 h1 => r14Check_any a w1 h1)
  have HCB := hid (fun w1 h1 => r14Check_any b w1 h1)
  have HCR := hid (fun w1 h1 => r14CheckR_any r w1 h1)
  have HCQ := hid (fun w1 h1 => r14CheckR_any q w1 h1)
  obtain ⟨PA, hPA⟩ : ∃ x, putC a = x := ⟨_, rfl⟩
  obtain ⟨PB, hPB⟩ : ∃ x, putC b = x := ⟨_, rfl⟩
  obtain ⟨PR, hPR⟩ : ∃ x, putR r = x := ⟨_, rfl⟩
  obtain ⟨PQ, hPQ⟩ : ∃ x, putR q = x := ⟨_, rfl⟩
  have HPA := hid (fun h w1 => cmPut_any a (hA.w h) w1)
  have HPB := hid (fun h w1 => cmPut_any b (hB.w h) w1)
  have HPR := hid (fun h w1 => cmPutR_any r (hR.w h) w1)
  have HPQ := hid (fun h w1 => cmPutR_any q (hQ.w h) w1)
  rw [hPA] at HPA
  rw [hPB] at HPB
  rw [hPR] at HPR
  rw [hPQ] at HPQ
  have E1 : Hid (ca = true → cb = true → (a = b ∧ PA = PB) ∨ (a ≠ b ∧ PA ≠ PB)) := fun h1 h2 => by
    by_cases h : a = b
    · exact .inl ⟨h, by rw [← hPA, ← hPB, h]⟩
    · exact .inr ⟨h, fun e => h (putC_inj (hca.trans h1) (hcb.trans h2) (by rw [hPA, hPB, e]))⟩
  have E2 : Hid ((r = q ∧ PR = PQ) ∨ (r ≠ q ∧ PR ≠ PQ)) := by
    by_cases h : r = q
    · exact .inl ⟨h, by rw [← hPR, ← hPQ, h]⟩
    · exact .inr ⟨h, fun e => h (putR_inj (by rw [hPR, hPQ, e]))⟩
  rw [hsa] at HSA HPA
  rw [hsb] at HSB HPB
  rw [hsr] at HPR
  rw [hsq] at HPQ
  rw [hca] at HCA
  rw [hcb] at HCB
  rw [hcr] at HCR
  rw [hcq] at HCQ
  clear hca hcb hcr hcq hsa hsb hPA hPB hPR hPQ hA hB hR hQ hT hE
  obtain ⟨mk, ms, mq, mf, mr, ⟨mx, my, mz⟩⟩ := a
  obtain ⟨nk, ns, nq, nf, nr, ⟨nx, ny, nz⟩⟩ := b
  obtain ⟨re, rn, ⟨rx, ry, rz⟩⟩ := r
  obtain ⟨qe, qn, ⟨qx, qy, qz⟩⟩ := q
  have HSR : Hid (sr = decide (rz.size ≤ 1000)) := by rw [← hsr]; rfl
  have HSQ : Hid (sq = decide (qz.size ≤ 1000)) := by rw [← hsq]; rfl
  clear hsr hsq
  unfold cmdV replyV
  unfold cmdV at HSA HSB HCA HCB HPA HPB
  unfold replyV at HCR HCQ HPR HPQ
  dsimp only at HSA HSB HCA HCB HPA HPB HCR HCQ HPR HPQ ⊢
  go_enter Tryz.func6, Tryz.ntmps6
  go_wp2_with fail
  obtain ⟨wA, hwA⟩ : ∃ wA, (((w.alloc (.cells #[.int .i64 mk, .int .i64 ms, .int .i64 mq, .string mf, .int .i64 mr, .int .i64 mx, .int .i64 my, .string mz] 25)).alloc (.cells #[.int .i64 nk, .int .i64 ns, .int .i64 nq, .string nf, .int .i64 nr, .int .i64 nx, .int .i64 ny, .string nz] 25)).alloc (.cells #[.int .i64 re, .int .i64 rn, .int .i64 rx, .int .i64 ry, .string rz] 37)).alloc (.cells #[.int .i64 qe, .int .i64 qn, .int .i64 qx, .int .i64 qy, .string qz] 37) = wA := ⟨_, rfl⟩
  have KA : Hid (Keeps [] w wA) := by rw [← hwA]; exact Keeps.K
  have G3 : Hid (wA.heap[w.heap.size + 1 + 1 + 1]? = some (.cells #[.int .i64 qe, .int .i64 qn, .int .i64 qx, .int .i64 qy, .string qz] 37 (0, 0))) := by
    have h := heap_alloc_new (((w.alloc (.cells #[.int .i64 mk, .int .i64 ms, .int .i64 mq, .string mf, .int .i64 mr, .int .i64 mx, .int .i64 my, .string mz] 25)).alloc (.cells #[.int .i64 nk, .int .i64 ns, .int .i64 nq, .string nf, .int .i64 nr, .int .i64 nx, .int .i64 ny, .string nz] 25)).alloc (.cells #[.int .i64 re, .int .i64 rn, .int .i64 rx, .int .i64 ry, .string rz] 37)) (.cells #[.int .i64 qe, .int .i64 qn, .int .i64 qx, .int .i64 qy, .string qz] 37)
    rw [show (((w.alloc (.cells #[.int .i64 mk, .int .i64 ms, .int .i64 mq, .string mf, .int .i64 mr, .int .i64 mx, .int .i64 my, .string mz] 25)).alloc (.cells #[.int .i64 nk, .int .i64 ns, .int .i64 nq, .string nf, .int .i64 nr, .int .i64 nx, .int .i64 ny, .string nz] 25)).alloc (.cells #[.int .i64 re, .int .i64 rn, .int .i64 rx, .int .i64 ry, .string rz] 37)).heap.size = w.heap.size + 1 + 1 + 1 by simp, hwA] at h
    exact h
  have G2 : Hid (wA.heap[w.heap.size + 1 + 1]? = some (.cells #[.int .i64 re, .int .i64 rn, .int .i64 rx, .int .i64 ry, .string rz] 37 (0, 0))) := by
    have h := heap_alloc_new ((w.alloc (.cells #[.int .i64 mk, .int .i64 ms, .int .i64 mq, .string mf, .int .i64 mr, .int .i64 mx, .int .i64 my, .string mz] 25)).alloc (.cells #[.int .i64 nk, .int .i64 ns, .int .i64 nq, .string nf, .int .i64 nr, .int .i64 nx, .int .i64 ny, .string nz] 25)) (.cells #[.int .i64 re, .int .i64 rn, .int .i64 rx, .int .i64 ry, .string rz] 37)
    rw [show ((w.alloc (.cells #[.int .i64 mk, .int .i64 ms, .int .i64 mq, .string mf, .int .i64 mr, .int .i64 mx, .int .i64 my, .string mz] 25)).alloc (.cells #[.int .i64 nk, .int .i64 ns, .int .i64 nq, .string nf, .int .i64 nr, .int .i64 nx, .int .i64 ny, .string nz] 25)).heap.size = w.heap.size + 1 + 1 by simp] at h
    rw [← hwA]
    exact (Keeps.block (F := []) (w := ((w.alloc (.cells #[.int .i64 mk, .int .i64 ms, .int .i64 mq, .string mf, .int .i64 mr, .int .i64 mx, .int .i64 my, .string mz] 25)).alloc (.cells #[.int .i64 nk, .int .i64 ns, .int .i64 nq, .string nf, .int .i64 nr, .int .i64 nx, .int .i64 ny, .string nz] 25)).alloc (.cells #[.int .i64 re, .int .i64 rn, .int .i64 rx, .int .i64 ry, .string rz] 37)) (by exact Keeps.K) _ (by simp) (by simp)).trans h
  have G1 : Hid (wA.heap[w.heap.size + 1]? = some (.cells #[.int .i64 nk, .int .i64 ns, .int .i64 nq, .string nf, .int .i64 nr, .int .i64 nx, .int .i64 ny, .string nz] 25 (0, 0))) := by rw [← hwA]; exact (Keeps.block (F := []) (w := (w.alloc (.cells #[.int .i64 mk, .int .i64 ms, .int .i64 mq, .string mf, .int .i64 mr, .int .i64 mx, .int .i64 my, .string mz] 25)).alloc (.cells #[.int .i64 nk, .int .i64 ns, .int .i64 nq, .string nf, .int .i64 nr, .int .i64 nx, .int .i64 ny, .string nz] 25)) (by exact Keeps.K) _ (by simp) (by simp)).trans (new2nd w _ _)
  have G0 : Hid (wA.heap[w.heap.size]? = some (.cells #[.int .i64 mk, .int .i64 ms, .int .i64 mq, .string mf, .int .i64 mr, .int .i64 mx, .int .i64 my, .string mz] 25 (0, 0))) := by rw [← hwA]; exact (Keeps.block (F := []) (w := w.alloc (.cells #[.int .i64 mk, .int .i64 ms, .int .i64 mq, .string mf, .int .i64 mr, .int .i64 mx, .int .i64 my, .string mz] 25)) (by exact Keeps.K) _ (by simp) (by simp)).trans (heap_alloc_new w _)
  have H0 : Hid (∀ w', Keeps [] wA w' → w'.heap[w.heap.size]? = some (.cells #[.int .i64 mk, .int .i64 ms, .int .i64 mq, .string mf, .int .i64 mr, .int .i64 mx, .int .i64 my, .string mz] 25 (0, 0))) := fun w' g => (g.block _ (Array.getElem?_eq_some_iff.1 G0.out).1 (by simp)).trans G0.out
  have H1 : Hid (∀ w', Keeps [] wA w' → w'.heap[w.heap.size + 1]? = some (.cells #[.int .i64 nk, .int .i64 ns, .int .i64 nq, .string nf, .int .i64 nr, .int .i64 nx, .int .i64 ny, .string nz] 25 (0, 0))) := fun w' g => (g.block _ (Array.getElem?_eq_some_iff.1 G1.out).1 (by simp)).trans G1.out
  have H2 : Hid (∀ w', Keeps [] wA w' → w'.heap[w.heap.size + 1 + 1]? = some (.cells #[.int .i64 re, .int .i64 rn, .int .i64 rx, .int .i64 ry, .string rz] 37 (0, 0))) := fun w' g => (g.block _ (Array.getElem?_eq_some_iff.1 G2.out).1 (by simp)).trans G2.out
  have H3 : Hid (∀ w', Keeps [] wA w' → w'.heap[w.heap.size + 1 + 1 + 1]? = some (.cells #[.int .i64 qe, .int .i64 qn, .int .i64 qx, .int .i64 qy, .string qz] 37 (0, 0))) := fun w' g => (g.block _ (Array.getElem?_eq_some_iff.1 G3.out).1 (by simp)).trans G3.out
  have HTT : Hid (∀ wx, Keeps [] wA wx → Tabs wx) := fun wx g => HT.out.k (KA.out.trans g (fun _ _ h => h))
  have HAX : Hid (∀ wx, Keeps [] wA wx → Calls Tryz.prog 15 #[] wx fun e w' => e = .returned (.bool true) ∧ Keeps [] w w') := fun wx g => (HAW.out wx (KA.out.trans g (fun _ _ h => h))).mono fun _ _ h => ⟨h.1, (KA.out.trans g (fun _ _ h => h)).trans h.2 (fun _ _ h => h)⟩
  rw [hwA]
  clear hwA G0 G1 G2 G3 HAW
  refine (HSA.out _).mono ?_
  rintro e w1 ⟨rfl, hk⟩
  have K1 := hid hk
  clear hk
  obtain ⟨⟨x0, x1, x2, x3, x4, x5, x6, x7⟩, -⟩ := blk8 (H0.out _ K1.out)
  obtain ⟨⟨y0, y1, y2, y3, y4, y5, y6, y7⟩, -⟩ := blk8 (H1.out _ K1.out)
  obtain ⟨⟨u0, u1, u2, u3, u4⟩, -⟩ := blk5 (H2.out _ K1.out)
  obtain ⟨⟨v0, v1, v2, v3, v4⟩, -⟩ := blk5 (H3.out _ K1.out)
  rcases sa with _ | _
  · go_wp2_with fail
    refine (HAX.out _ K1.out).mono ?_
    rintro e w9 ⟨rfl, hk⟩
    have K9 := hid hk
    clear hk
    go_wp2_with fail
    go_ret
    exact ⟨rfl, K9.out⟩
  go_wp2_with fail
  refine (HSB.out _).mono ?_
  rintro e w2 ⟨rfl, hk⟩
  have K2 : Hid (Keeps [] wA w2) := K1.out.trans hk (fun _ _ h => h)
  clear hk
  clear x0 x1 x2 x3 x4 x5 x6 x7 y0 y1 y2 y3 y4 y5 y6 y7 u0 u1 u2 u3 u4 v0 v1 v2 v3 v4
  obtain ⟨⟨x0, x1, x2, x3, x4, x5, x6, x7⟩, -⟩ := blk8 (H0.out _ K2.out)
  obtain ⟨⟨y0, y1, y2, y3, y4, y5, y6, y7⟩, -⟩ := blk8 (H1.out _ K2.out)
  obtain ⟨⟨u0, u1, u2, u3, u4⟩, -⟩ := blk5 (H2.out _ K2.out)
  obtain ⟨⟨v0, v1, v2, v3, v4⟩, -⟩ := blk5 (H3.out _ K2.out)
  rcases sb with _ | _
  · go_wp2_with fail
    refine (HAX.out _ K2.out).mono ?_
    rintro e w9 ⟨rfl, hk⟩
    have K9 := hid hk
    clear hk
    go_wp2_with fail
    go_ret
    exact ⟨rfl, K9.out⟩
  rcases sr with _ | _
  · have hz : 1000 < (rz.size : Int) := by have := HSR.out; simp at this; omega
    go_wp2_with fail
    refine (HAX.out _ K2.out).mono ?_
    rintro e w9 ⟨rfl, hk⟩
    have K9 := hid hk
    clear hk
    go_wp2_with fail
    go_ret
    exact ⟨rfl, K9.out⟩
  have hz : (rz.size : Int) ≤ 1000 := by have := HSR.out; simp at this; omega
  rcases sq with _ | _
  · have hz2 : 1000 < (qz.size : Int) := by have := HSQ.out; simp at this; omega
    go_wp2_with fail
    refine (HAX.out _ K2.out).mono ?_
    rintro e w9 ⟨rfl, hk⟩
    have K9 := hid hk
    clear hk
    go_wp2_with fail
    go_ret
    exact ⟨rfl, K9.out⟩
  have hz2 : (qz.size : Int) ≤ 1000 := by have := HSQ.out; simp at this; omega
  go_wp2_with fail
  clear hz hz2
  rename_i K1 hK1 K0 hK0
  have HM : ∀ (wx : World), Keeps [] wA wx → ∀ (u9 u10 u11 u12 u13 u14 u15 u16 u17 u18 u19 u20 u21 u22 u23 u24 u25 u26 u27 u28 u29 u30 u31 u32 u33 u34 u35 u36 u37 u38 u39 u40 u41 u42 u43 u44 u45 u46 u47 u48 u49 : Value), K1 ⟨#[.agg #[.int .i64 mk, .int .i64 ms, .int .i64 mq, .string mf, .int .i64 mr, .int .i64 mx, .int .i64 my, .string mz], .agg #[.int .i64 nk, .int .i64 ns, .int .i64 nq, .string nf, .int .i64 nr, .int .i64 nx, .int .i64 ny, .string nz], .agg #[.int .i64 re, .int .i64 rn, .int .i64 rx, .int .i64 ry, .string rz], .agg #[.int .i64 qe, .int .i64 qn, .int .i64 qx, .int .i64 qy, .string qz], .pointer (some ⟨w.heap.size, 0, none⟩), .pointer (some ⟨w.heap.size + 1, 0, none⟩), .pointer (some ⟨w.heap.size + 1 + 1, 0, none⟩), .pointer (some ⟨w.heap.size + 1 + 1 + 1, 0, none⟩), .bool false, u9, u10, u11, u12, u13, u14, u15, u16, u17, u18, u19, u20, u21, u22, u23, u24, u25, u26, u27, u28, u29, u30, u31, u32, u33, u34, u35, u36, u37, u38, u39, u40, u41, u42, u43, u44, u45, u46, u47, u48, u49, .bool false, undef, undef, undef, undef, undef, undef, undef, undef, undef, undef, undef, undef, undef, undef, undef, undef, undef, undef, undef, undef], []⟩ wx := by
    intro wx kx u9 u10 u11 u12 u13 u14 u15 u16 u17 u18 u19 u20 u21 u22 u23 u24 u25 u26 u27 u28 u29 u30 u31 u32 u33 u34 u35 u36 u37 u38 u39 u40 u41 u42 u43 u44 u45 u46 u47 u48 u49
    refine hK1 _ _ ?_
    clear hK1 hK0
    have KX := hid kx
    clear kx
    clear x0 x1 x2 x3 x4 x5 x6 x7 y0 y1 y2 y3 y4 y5 y6 y7 u0 u1 u2 u3 u4 v0 v1 v2 v3 v4
    obtain ⟨⟨x0, x1, x2, x3, x4, x5, x6, x7⟩, -⟩ := blk8 (H0.out _ KX.out)
    obtain ⟨⟨y0, y1, y2, y3, y4, y5, y6, y7⟩, -⟩ := blk8 (H1.out _ KX.out)
    obtain ⟨⟨u0, u1, u2, u3, u4⟩, -⟩ := blk5 (H2.out _ KX.out)
    obtain ⟨⟨v0, v1, v2, v3, v4⟩, -⟩ := blk5 (H3.out _ KX.out)
    go_wp2_with fail
    rcases cr with _ | _
    · refine Plan.wp_region_plan (fun wx => (wx.cell? ⟨w.heap.size + 1 + 1, 0, none⟩ = some (.int .i64 re) ∧ wx.cell? ⟨w.heap.size + 1 + 1, 1, none⟩ = some (.int .i64 rn) ∧ wx.cell? ⟨w.heap.size + 1 + 1, 2, none⟩ = some (.int .i64 rx) ∧ wx.cell? ⟨w.heap.size + 1 + 1, 3, none⟩ = some (.int .i64 ry) ∧ wx.cell? ⟨w.heap.size + 1 + 1, 4, none⟩ = some (.string rz)) ∧ (wx.cell? ⟨w.heap.size + 1 + 1 + 1, 0, none⟩ = some (.int .i64 qe) ∧ wx.cell? ⟨w.heap.size + 1 + 1 + 1, 1, none⟩ = some (.int .i64 qn) ∧ wx.cell? ⟨w.heap.size + 1 + 1 + 1, 2, none⟩ = some (.int .i64 qx) ∧ wx.cell? ⟨w.heap.size + 1 + 1 + 1, 3, none⟩ = some (.int .i64 qy) ∧ wx.cell? ⟨w.heap.size + 1 + 1 + 1, 4, none⟩ = some (.string qz))) 17 [(true, 0), (false, 1), (true, 2), (true, 3), (false, 4), (true, 5), (true, 6), (true, 7), (true, 10), (true, 14), (true, 15), (true, 16), (false, 8), (true, 9), (false, 11), (true, 12), (true, 13)] (by kernel_rfl) (by as_aux_lemma => kernel_rfl) (by kernel_rfl) (fun _ _ _ _ _ h => h) ?_ (fun hS => ?_)
      (· go_simp)
      simp only [Plan.pick, List.append_eq, List.cons_append, List.nil_append, Plan.g1, Plan.g2, Option.getD_some, List.drop_succ_cons, List.drop_zero]
      iterate 1 (first | refine Plan.tA ?_ | refine Plan.tY ?_ | refine Plan.pN ?_ | refine Plan.pU ?_ | fail)
      refine Plan.step ?_
      go_wp2_with fail
      refine (HCR.out _ (HTT.out _ (by have kk := KX.out; exact Keeps.K))).mono ?_
      rintro e r1 ⟨rfl, hk⟩
      have Kr1 : Hid (Keeps [] wA r1) := KX.out.trans (Keeps.trans (G := []) (by exact Keeps.K) hk (fun _ _ h => h)) (fun _ _ h => h)
      clear hk hS
      clear u0 u1 u2 u3 u4 v0 v1 v2 v3 v4
      obtain ⟨⟨u0, u1, u2, u3, u4⟩, -⟩ := blk5 (H2.out _ Kr1.out)
      obtain ⟨⟨v0, v1, v2, v3, v4⟩, -⟩ := blk5 (H3.out _ Kr1.out)
      go_wp2_with fail
      refine ⟨?_, ?_⟩
      (· go_simp)
      iterate 2 (first | refine Plan.tA ?_ | refine Plan.tY ?_ | refine Plan.pN ?_ | refine Plan.pU ?_ | fail)
      refine Plan.step ?_
      go_wp2_with fail
      refine ⟨?_, ?_⟩
      (· go_simp)
      iterate 7 (first | refine Plan.tA ?_ | refine Plan.tY ?_ | refine Plan.pN ?_ | refine Plan.pU ?_ | fail)
      refine Plan.step ?_
      go_wp2_with fail
      refine ⟨?_, ?_⟩
      (· go_simp)
      iterate 1 (first | refine Plan.tA ?_ | refine Plan.tY ?_ | refine Plan.pN ?_ | refine Plan.pU ?_ | fail)
      refine Plan.step ?_
      go_wp2_with fail
      refine ⟨?_, ?_⟩
      (· go_simp)
      iterate 2 (first | refine Plan.tA ?_ | refine Plan.tY ?_ | refine Plan.pN ?_ | refine Plan.pU ?_ | fail)
      refine Plan.fin ?_
      go_wp2_with fail
      refine (HAX.out _ (by have kk := Kr1.out; exact Keeps.K)).mono ?_
      rintro e w9 ⟨rfl, hk⟩
      have K9 := hid hk
      clear hk
      go_wp2_with fail
      go_ret
      exact ⟨rfl, K9.out⟩
    · rcases cq with _ | _
      · refine Plan.wp_region_plan (fun wx => (wx.cell? ⟨w.heap.size + 1 + 1, 0, none⟩ = some (.int .i64 re) ∧ wx.cell? ⟨w.heap.size + 1 + 1, 1, none⟩ = some (.int .i64 rn) ∧ wx.cell? ⟨w.heap.size + 1 + 1, 2, none⟩ = some (.int .i64 rx) ∧ wx.cell? ⟨w.heap.size + 1 + 1, 3, none⟩ = some (.int .i64 ry) ∧ wx.cell? ⟨w.heap.size + 1 + 1, 4, none⟩ = some (.string rz)) ∧ (wx.cell? ⟨w.heap.size + 1 + 1 + 1, 0, none⟩ = some (.int .i64 qe) ∧ wx.cell? ⟨w.heap.size + 1 + 1 + 1, 1, none⟩ = some (.int .i64 qn) ∧ wx.cell? ⟨w.heap.size + 1 + 1 + 1, 2, none⟩ = some (.int .i64 qx) ∧ wx.cell? ⟨w.heap.size + 1 + 1 + 1, 3, none⟩ = some (.int .i64 qy) ∧ wx.cell? ⟨w.heap.size + 1 + 1 + 1, 4, none⟩ = some (.string qz))) 17 [(true, 0), (false, 1), (true, 2), (true, 3), (false, 4), (true, 5), (true, 6), (true, 7), (true, 10), (true, 14), (true, 15), (true, 16), (false, 8), (true, 9), (false, 11), (true, 12), (true, 13)] (by kernel_rfl) (by as_aux_lemma => kernel_rfl) (by kernel_rfl) (fun _ _ _ _ _ h => h) ?_ (fun hS => ?_)
        (· go_simp)
        simp only [Plan.pick, List.append_eq, List.cons_append, List.nil_append, Plan.g1, Plan.g2, Option.getD_some, List.drop_succ_cons, List.drop_zero]
        iterate 1 (first | refine Plan.tA ?_ | refine Plan.tY ?_ | refine Plan.pN ?_ | refine Plan.pU ?_ | fail)
        refine Plan.step ?_
        go_wp2_with fail
        refine (HCR.out _ (HTT.out _ (by have kk := KX.out; exact Keeps.K))).mono ?_
        rintro e r1 ⟨rfl, hk⟩
        have Kr1 : Hid (Keeps [] wA r1) := KX.out.trans (Keeps.trans (G := []) (by exact Keeps.K) hk (fun _ _ h => h)) (fun _ _ h => h)
        clear hk hS
        clear u0 u1 u2 u3 u4 v0 v1 v2 v3 v4
        obtain ⟨⟨u0, u1, u2, u3, u4⟩, -⟩ := blk5 (H2.out _ Kr1.out)
        obtain ⟨⟨v0, v1, v2, v3, v4⟩, -⟩ := blk5 (H3.out _ Kr1.out)
        go_wp2_with fail
        refine ⟨?_, ?_⟩
        (· go_simp)
        iterate 2 (first | refine Plan.tA ?_ | refine Plan.tY ?_ | refine Plan.pN ?_ | refine Plan.pU ?_ | fail)
        refine Plan.step ?_
        go_wp2_with fail
        refine (HCQ.out _ (HTT.out _ (by have kk := Kr1.out; exact Keeps.K))).mono ?_
        rintro e r2 ⟨rfl, hk⟩
        have Kr2 : Hid (Keeps [] wA r2) := Kr1.out.trans (Keeps.trans (G := []) (by exact Keeps.K) hk (fun _ _ h => h)) (fun _ _ h => h)
        clear hk
        clear u0 u1 u2 u3 u4 v0 v1 v2 v3 v4
        obtain ⟨⟨u0, u1, u2, u3, u4⟩, -⟩ := blk5 (H2.out _ Kr2.out)
        obtain ⟨⟨v0, v1, v2, v3, v4⟩, -⟩ := blk5 (H3.out _ Kr2.out)
        go_wp2_with fail
        refine ⟨?_, ?_⟩
        (· go_simp)
        iterate 7 (first | refine Plan.tA ?_ | refine Plan.tY ?_ | refine Plan.pN ?_ | refine Plan.pU ?_ | fail)
        refine Plan.step ?_
        go_wp2_with fail
        refine ⟨?_, ?_⟩
        (· go_simp)
        iterate 1 (first | refine Plan.tA ?_ | refine Plan.tY ?_ | refine Plan.pN ?_ | refine Plan.pU ?_ | fail)
        refine Plan.step ?_
        go_wp2_with fail
        refine ⟨?_, ?_⟩
        (· go_simp)
        iterate 2 (first | refine Plan.tA ?_ | refine Plan.tY ?_ | refine Plan.pN ?_ | refine Plan.pU ?_ | fail)
        refine Plan.fin ?_
        go_wp2_with fail
        refine (HAX.out _ (by have kk := Kr2.out; exact Keeps.K)).mono ?_
        rintro e w9 ⟨rfl, hk⟩
        have K9 := hid hk
        clear hk
        go_wp2_with fail
        go_ret
        exact ⟨rfl, K9.out⟩
      · rcases E2.out with ⟨he, hp⟩ | ⟨he, hp⟩
        · have Q3 : Hid (re = qe ∧ rn = qn ∧ rx = qx ∧ ry = qy ∧ rz.toList = qz.toList) := by
            show re = qe ∧ rn = qn ∧ rx = qx ∧ ry = qy ∧ rz.toList = qz.toList
            simp only [ReplyD.mk.injEq, ValD.mk.injEq] at he
            simp [he]
          have q2 : (PR == PQ) = true := by rw [hp]; simp
          clear he hp
          refine Plan.wp_region_tree (fun wx => (wx.cell? ⟨w.heap.size + 1 + 1, 0, none⟩ = some (.int .i64 re) ∧ wx.cell? ⟨w.heap.size + 1 + 1, 1, none⟩ = some (.int .i64 rn) ∧ wx.cell? ⟨w.heap.size + 1 + 1, 2, none⟩ = some (.int .i64 rx) ∧ wx.cell? ⟨w.heap.size + 1 + 1, 3, none⟩ = some (.int .i64 ry) ∧ wx.cell? ⟨w.heap.size + 1 + 1, 4, none⟩ = some (.string rz)) ∧ (wx.cell? ⟨w.heap.size + 1 + 1 + 1, 0, none⟩ = some (.int .i64 qe) ∧ wx.cell? ⟨w.heap.size + 1 + 1 + 1, 1, none⟩ = some (.int .i64 qn) ∧ wx.cell? ⟨w.heap.size + 1 + 1 + 1, 2, none⟩ = some (.int .i64 qx) ∧ wx.cell? ⟨w.heap.size + 1 + 1 + 1, 3, none⟩ = some (.int .i64 qy) ∧ wx.cell? ⟨w.heap.size + 1 + 1 + 1, 4, none⟩ = some (.string qz))) 17 (.take 0 (.step 1 (.take 2 (.take 3 (.step 4 (.take 5 (.take 6 (.take 7 (.take 10 (.take 14 (.take 15 (.take 16 (.step 8 (.fork 9 11 (.step 11 (.step 12 (.take 13 .fin))) (.fork 9 12 (.step 12 (.take 13 .fin)) (.step 9 (.take 13 .fin))))))))))))))))) (by kernel_rfl) (by as_aux_lemma => kernel_rfl) (by kernel_rfl) (fun _ _ _ _ _ h => h) ?_ (fun hS => ?_)
          (· go_simp)
          simp only [Plan.pickT, List.append_eq, List.cons_append, List.nil_append, Plan.g1, Plan.g2, Option.getD_some, List.drop_succ_cons, List.drop_zero]
          iterate 1 (first | (refine Plan.takeT (v := ?_) (a' := ?_) (Plan.want_all (by rfl)) ?_ ?_ ?_; rotate_left 2; (· (intro w' hS'; (try dsimp only at hS'); go_simp; try with_reducible rfl)); (· (simp only [Act.put, Plan.l1, Plan.l2, Plan.l3]; try with_reducible rfl))) | (refine Plan.takeT (v := ?_) (a' := ?_) (Plan.want_yes (by rfl) (by rfl) (by rfl) (by rfl)) ?_ ?_ ?_; rotate_left 2; (· (intro w' hS'; (try dsimp only at hS'); go_simp; try with_reducible rfl)); (· (simp only [Act.put, Plan.l1, Plan.l2, Plan.l3]; try with_reducible rfl))) | fail)
          refine Plan.stepT ?_
          go_wp2_with fail
          refine (HCR.out _ (HTT.out _ (by have kk := KX.out; exact Keeps.K))).mono ?_
          rintro e r1 ⟨rfl, hk⟩
          have Kr1 : Hid (Keeps [] wA r1) := KX.out.trans (Keeps.trans (G := []) (by exact Keeps.K) hk (fun _ _ h => h)) (fun _ _ h => h)
          clear hk hS
          clear u0 u1 u2 u3 u4 v0 v1 v2 v3 v4
          obtain ⟨⟨u0, u1, u2, u3, u4⟩, -⟩ := blk5 (H2.out _ Kr1.out)
          obtain ⟨⟨v0, v1, v2, v3, v4⟩, -⟩ := blk5 (H3.out _ Kr1.out)
          go_wp2_with fail
          refine ⟨?_, ?_⟩
          (· go_simp)
          iterate 2 (iterate 1 (first | (refine Plan.takeT (v := ?_) (a' := ?_) (Plan.want_all (by rfl)) ?_ ?_ ?_; rotate_left 2; (· (intro w' hS'; (try dsimp only at hS'); go_simp; try with_reducible rfl)); (· (simp only [Act.put, Plan.l1, Plan.l2, Plan.l3]; try with_reducible rfl))) | (refine Plan.takeT (v := ?_) (a' := ?_) (Plan.want_yes (by rfl) (by rfl) (by rfl) (by rfl)) ?_ ?_ ?_; rotate_left 2; (· (intro w' hS'; (try dsimp only at hS'); go_simp; try with_reducible rfl)); (· (simp only [Act.put, Plan.l1, Plan.l2, Plan.l3]; try with_reducible rfl))) | fail))
          refine Plan.stepT ?_
          go_wp2_with fail
          refine (HCQ.out _ (HTT.out _ (by have kk := Kr1.out; exact Keeps.K))).mono ?_
          rintro e r2 ⟨rfl, hk⟩
          have Kr2 : Hid (Keeps [] wA r2) := Kr1.out.trans (Keeps.trans (G := []) (by exact Keeps.K) hk (fun _ _ h => h)) (fun _ _ h => h)
          clear hk
          clear u0 u1 u2 u3 u4 v0 v1 v2 v3 v4
          obtain ⟨⟨u0, u1, u2, u3, u4⟩, -⟩ := blk5 (H2.out _ Kr2.out)
          obtain ⟨⟨v0, v1, v2, v3, v4⟩, -⟩ := blk5 (H3.out _ Kr2.out)
          go_wp2_with fail
          refine ⟨?_, ?_⟩
          (· go_simp)
          iterate 6 (iterate 1 (first | (refine Plan.takeT (v := ?_) (a' := ?_) (Plan.want_all (by rfl)) ?_ ?_ ?_; rotate_left 2; (· (intro w' hS'; (try dsimp only at hS'); go_simp; try with_reducible rfl)); (· (simp only [Act.put, Plan.l1, Plan.l2, Plan.l3]; try with_reducible rfl))) | (refine Plan.takeT (v := ?_) (a' := ?_) (Plan.want_yes (by rfl) (by rfl) (by rfl) (by rfl)) ?_ ?_ ?_; rotate_left 2; (· (intro w' hS'; (try dsimp only at hS'); go_simp; try with_reducible rfl)); (· (simp only [Act.put, Plan.l1, Plan.l2, Plan.l3]; try with_reducible rfl))) | fail))
          refine Plan.takeT (v := .bool true) (a' := ?_) (by first | exact Plan.want_all (by rfl) | exact Plan.want_yes (by rfl) (by rfl) (by rfl) (by rfl)) ?_ ?_ ?_; rotate_left 1; (· (intro w' hS'; (try dsimp only at hS'); go_simp; rw [if_pos Q3.out.1, if_pos Q3.out.2.1, if_pos Q3.out.2.2.1, if_pos Q3.out.2.2.2.1, if_pos Q3.out.2.2.2.2])); (· (simp only [Act.put, Plan.l1, Plan.l2, Plan.l3]; try with_reducible rfl))
          refine Plan.stepT ?_
          go_wp2_with fail
          refine (HPR.out (by simp) _).mono ?_
          rintro e r3 ⟨ar3, qr3, rfl, hr3, hk⟩
          rw [List.nil_append] at hr3 ⊢
          have Kr3 : Hid (Keeps [] wA r3) := Kr2.out.trans (Keeps.trans (G := []) (by exact Keeps.K) hk (fun _ _ h => h)) (fun _ _ h => h)
          have Rr3 := hid (Reads.ofOwn hr3)
          have cv3 : (convert 28 9 (.slice ar3 PR.length qr3)).run Tryz.prog r3 = .ok (.string (str PR)) r3 := cv_str Rr3.out rfl
          clear hk hr3
          clear u0 u1 u2 u3 u4 v0 v1 v2 v3 v4
          obtain ⟨⟨u0, u1, u2, u3, u4⟩, -⟩ := blk5 (H2.out _ Kr3.out)
          obtain ⟨⟨v0, v1, v2, v3, v4⟩, -⟩ := blk5 (H3.out _ Kr3.out)
          go_wp2_with fail
          refine ⟨?_, ?_⟩
          (· go_simp)
          refine Plan.forkT ?_ ?_
          · go_wp2_with fail
            refine ⟨?_, ?_⟩
            (· go_simp)
            clear cv3
            refine Plan.stepT ?_
            go_wp2_with fail
            refine (HPQ.out (by simp) _).mono ?_
            rintro e r4 ⟨ar4, qr4, rfl, hr4, hk⟩
            rw [List.nil_append] at hr4 ⊢
            have Kr4 : Hid (Keeps [] wA r4) := Kr3.out.trans (Keeps.trans (G := []) (by exact Keeps.K) hk (fun _ _ h => h)) (fun _ _ h => h)
            have R34 := hid (Rr3.out.k0 (Keeps.trans (G := []) (by exact Keeps.K) hk (fun _ _ h => h)))
            have cv4 : (convert 28 9 (.slice ar4 PQ.length qr4)).run Tryz.prog r4 = .ok (.string (str PQ)) r4 := cv_str (Reads.ofOwn hr4) rfl
            clear hk hr4
            clear u0 u1 u2 u3 u4 v0 v1 v2 v3 v4
            obtain ⟨⟨u0, u1, u2, u3, u4⟩, -⟩ := blk5 (H2.out _ Kr4.out)
            obtain ⟨⟨v0, v1, v2, v3, v4⟩, -⟩ := blk5 (H3.out _ Kr4.out)
            go_wp2_with fail
            refine ⟨?_, ?_⟩
            (· go_simp)
            refine Plan.stepT ?_
            go_wp2_with fail
            refine ⟨?_, ?_⟩
            (· go_simp)
            iterate 1 (first | (refine Plan.takeT (v := ?_) (a' := ?_) (Plan.want_all (by rfl)) ?_ ?_ ?_; rotate_left 2; (· (intro w' hS'; (try dsimp only at hS'); go_simp; try with_reducible rfl)); (· (simp only [Act.put, Plan.l1, Plan.l2, Plan.l3]; try with_reducible rfl))) | (refine Plan.takeT (v := ?_) (a' := ?_) (Plan.want_yes (by rfl) (by rfl) (by rfl) (by rfl)) ?_ ?_ ?_; rotate_left 2; (· (intro w' hS'; (try dsimp only at hS'); go_simp; try with_reducible rfl)); (· (simp only [Act.put, Plan.l1, Plan.l2, Plan.l3]; try with_reducible rfl))) | fail)
            refine Plan.finT ?_
            go_wp2_with fail
            refine (HAX.out _ (by have kk := Kr4.out; exact Keeps.K)).mono ?_
            rintro e w9 ⟨rfl, hk⟩
            have K9 := hid hk
            clear hk
            go_wp2_with fail
            go_ret
            exact ⟨rfl, K9.out⟩
          · clear cv3
            go_wp2_with fail
            refine (HPQ.out (by simp) _).mono ?_
            rintro e r4 ⟨ar4, qr4, rfl, hr4, hk⟩
            rw [List.nil_append] at hr4 ⊢
            have Kr4 : Hid (Keeps [] wA r4) := Kr3.out.trans (Keeps.trans (G := []) (by exact Keeps.K) hk (fun _ _ h => h)) (fun _ _ h => h)
            have R34 := hid (Rr3.out.k0 (Keeps.trans (G := []) (by exact Keeps.K) hk (fun _ _ h => h)))
            have cv4 : (convert 28 9 (.slice ar4 PQ.length qr4)).run Tryz.prog r4 = .ok (.string (str PQ)) r4 := cv_str (Reads.ofOwn hr4) rfl
            clear hk hr4
            clear u0 u1 u2 u3 u4 v0 v1 v2 v3 v4
            obtain ⟨⟨u0, u1, u2, u3, u4⟩, -⟩ := blk5 (H2.out _ Kr4.out)
            obtain ⟨⟨v0, v1, v2, v3, v4⟩, -⟩ := blk5 (H3.out _ Kr4.out)
            have cv34 : (convert 28 9 (.slice ar3 PR.length qr3)).run Tryz.prog r4 = .ok (.string (str PR)) r4 := cv_str R34.out rfl
            go_wp2_with fail
            refine ⟨?_, ?_⟩
            (· go_simp)
            refine Plan.forkT ?_ ?_
            · go_wp2_with fail
              refine ⟨?_, ?_⟩
              (· go_simp)
              refine Plan.stepT ?_
              go_wp2_with fail
              refine ⟨?_, ?_⟩
              (· go_simp)
              iterate 1 (first | (refine Plan.takeT (v := ?_) (a' := ?_) (Plan.want_all (by rfl)) ?_ ?_ ?_; rotate_left 2; (· (intro w' hS'; (try dsimp only at hS'); go_simp; try with_reducible rfl)); (· (simp only [Act.put, Plan.l1, Plan.l2, Plan.l3]; try with_reducible rfl))) | (refine Plan.takeT (v := ?_) (a' := ?_) (Plan.want_yes (by rfl) (by rfl) (by rfl) (by rfl)) ?_ ?_ ?_; rotate_left 2; (· (intro w' hS'; (try dsimp only at hS'); go_simp; try with_reducible rfl)); (· (simp only [Act.put, Plan.l1, Plan.l2, Plan.l3]; try with_reducible rfl))) | fail)
              refine Plan.finT ?_
              go_wp2_with fail
              refine (HAX.out _ (by have kk := Kr4.out; exact Keeps.K)).mono ?_
              rintro e w9 ⟨rfl, hk⟩
              have K9 := hid hk
              clear hk
              go_wp2_with fail
              go_ret
              exact ⟨rfl, K9.out⟩
            · go_wp2_with fail
              refine ⟨?_, ?_⟩
              (· go_simp)
              refine Plan.stepT ?_
              go_wp2_with fail
              refine ⟨?_, ?_⟩
              (· go_simp)
              iterate 1 (first | (refine Plan.takeT (v := ?_) (a' := ?_) (Plan.want_all (by rfl)) ?_ ?_ ?_; rotate_left 2; (· (intro w' hS'; (try dsimp only at hS'); go_simp; try with_reducible rfl)); (· (simp only [Act.put, Plan.l1, Plan.l2, Plan.l3]; try with_reducible rfl))) | (refine Plan.takeT (v := ?_) (a' := ?_) (Plan.want_yes (by rfl) (by rfl) (by rfl) (by rfl)) ?_ ?_ ?_; rotate_left 2; (· (intro w' hS'; (try dsimp only at hS'); go_simp; try with_reducible rfl)); (· (simp only [Act.put, Plan.l1, Plan.l2, Plan.l3]; try with_reducible rfl))) | fail)
              refine Plan.finT ?_
              go_wp2_with fail
              refine (HAX.out _ (by have kk := Kr4.out; exact Keeps.K)).mono ?_
              rintro e w9 ⟨rfl, hk⟩
              have K9 := hid hk
              clear hk
              go_wp2_with fail
              go_ret
              exact ⟨rfl, K9.out⟩
        · have Q3 : ¬ (re = qe ∧ rn = qn ∧ rx = qx ∧ ry = qy ∧ rz.toList = qz.toList) := by
            rintro ⟨hre, hrn, hrx, hry, hrz⟩
            have hrz := bytes_extC hrz
            subst hre hrn hrx hry hrz
            exact he rfl
          have q2 : (PR == PQ) = false := by rw [beq_eq_false_iff_ne]; exact hp
          clear he hp
          refine Plan.wp_region_tree (fun wx => (wx.cell? ⟨w.heap.size + 1 + 1, 0, none⟩ = some (.int .i64 re) ∧ wx.cell? ⟨w.heap.size + 1 + 1, 1, none⟩ = some (.int .i64 rn) ∧ wx.cell? ⟨w.heap.size + 1 + 1, 2, none⟩ = some (.int .i64 rx) ∧ wx.cell? ⟨w.heap.size + 1 + 1, 3, none⟩ = some (.int .i64 ry) ∧ wx.cell? ⟨w.heap.size + 1 + 1, 4, none⟩ = some (.string rz)) ∧ (wx.cell? ⟨w.heap.size + 1 + 1 + 1, 0, none⟩ = some (.int .i64 qe) ∧ wx.cell? ⟨w.heap.size + 1 + 1 + 1, 1, none⟩ = some (.int .i64 qn) ∧ wx.cell? ⟨w.heap.size + 1 + 1 + 1, 2, none⟩ = some (.int .i64 qx) ∧ wx.cell? ⟨w.heap.size + 1 + 1 + 1, 3, none⟩ = some (.int .i64 qy) ∧ wx.cell? ⟨w.heap.size + 1 + 1 + 1, 4, none⟩ = some (.string qz))) 17 (.take 0 (.step 1 (.take 2 (.take 3 (.step 4 (.take 5 (.take 6 (.take 7 (.take 10 (.take 14 (.take 15 (.take 16 (.step 8 (.fork 9 11 (.step 11 (.step 12 (.take 13 .fin))) (.fork 9 12 (.step 12 (.take 13 .fin)) (.step 9 (.take 13 .fin))))))))))))))))) (by kernel_rfl) (by as_aux_lemma => kernel_rfl) (by kernel_rfl) (fun _ _ _ _ _ h => h) ?_ (fun hS => ?_)
          (· go_simp)
          simp only [Plan.pickT, List.append_eq, List.cons_append, List.nil_append, Plan.g1, Plan.g2, Option.getD_some, List.drop_succ_cons, List.drop_zero]
          iterate 1 (first | (refine Plan.takeT (v := ?_) (a' := ?_) (Plan.want_all (by rfl)) ?_ ?_ ?_; rotate_left 2; (· (intro w' hS'; (try dsimp only at hS'); go_simp; try with_reducible rfl)); (· (simp only [Act.put, Plan.l1, Plan.l2, Plan.l3]; try with_reducible rfl))) | (refine Plan.takeT (v := ?_) (a' := ?_) (Plan.want_yes (by rfl) (by rfl) (by rfl) (by rfl)) ?_ ?_ ?_; rotate_left 2; (· (intro w' hS'; (try dsimp only at hS'); go_simp; try with_reducible rfl)); (· (simp only [Act.put, Plan.l1, Plan.l2, Plan.l3]; try with_reducible rfl))) | fail)
          refine Plan.stepT ?_
          go_wp2_with fail
          refine (HCR.out _ (HTT.out _ (by have kk := KX.out; exact Keeps.K))).mono ?_
          rintro e r1 ⟨rfl, hk⟩
          have Kr1 : Hid (Keeps [] wA r1) := KX.out.trans (Keeps.trans (G := []) (by exact Keeps.K) hk (fun _ _ h => h)) (fun _ _ h => h)
          clear hk hS
          clear u0 u1 u2 u3 u4 v0 v1 v2 v3 v4
          obtain ⟨⟨u0, u1, u2, u3, u4⟩, -⟩ := blk5 (H2.out _ Kr1.out)
          obtain ⟨⟨v0, v1, v2, v3, v4⟩, -⟩ := blk5 (H3.out _ Kr1.out)
          go_wp2_with fail
          refine ⟨?_, ?_⟩
          (· go_simp)
          iterate 2 (iterate 1 (first | (refine Plan.takeT (v := ?_) (a' := ?_) (Plan.want_all (by rfl)) ?_ ?_ ?_; rotate_left 2; (· (intro w' hS'; (try dsimp only at hS'); go_simp; try with_reducible rfl)); (· (simp only [Act.put, Plan.l1, Plan.l2, Plan.l3]; try with_reducible rfl))) | (refine Plan.takeT (v := ?_) (a' := ?_) (Plan.want_yes (by rfl) (by rfl) (by rfl) (by rfl)) ?_ ?_ ?_; rotate_left 2; (· (intro w' hS'; (try dsimp only at hS'); go_simp; try with_reducible rfl)); (· (simp only [Act.put, Plan.l1, Plan.l2, Plan.l3]; try with_reducible rfl))) | fail))
          refine Plan.stepT ?_
          go_wp2_with fail
          refine (HCQ.out _ (HTT.out _ (by have kk := Kr1.out; exact Keeps.K))).mono ?_
          rintro e r2 ⟨rfl, hk⟩
          have Kr2 : Hid (Keeps [] wA r2) := Kr1.out.trans (Keeps.trans (G := []) (by exact Keeps.K) hk (fun _ _ h => h)) (fun _ _ h => h)
          clear hk
          clear u0 u1 u2 u3 u4 v0 v1 v2 v3 v4
          obtain ⟨⟨u0, u1, u2, u3, u4⟩, -⟩ := blk5 (H2.out _ Kr2.out)
          obtain ⟨⟨v0, v1, v2, v3, v4⟩, -⟩ := blk5 (H3.out _ Kr2.out)
          go_wp2_with fail
          refine ⟨?_, ?_⟩
          (· go_simp)
          iterate 6 (iterate 1 (first | (refine Plan.takeT (v := ?_) (a' := ?_) (Plan.want_all (by rfl)) ?_ ?_ ?_; rotate_left 2; (· (intro w' hS'; (try dsimp only at hS'); go_simp; try with_reducible rfl)); (· (simp only [Act.put, Plan.l1, Plan.l2, Plan.l3]; try with_reducible rfl))) | (refine Plan.takeT (v := ?_) (a' := ?_) (Plan.want_yes (by rfl) (by rfl) (by rfl) (by rfl)) ?_ ?_ ?_; rotate_left 2; (· (intro w' hS'; (try dsimp only at hS'); go_simp; try with_reducible rfl)); (· (simp only [Act.put, Plan.l1, Plan.l2, Plan.l3]; try with_reducible rfl))) | fail))
          refine Plan.takeT (v := .bool false) (a' := ?_) (by first | exact Plan.want_all (by rfl) | exact Plan.want_yes (by rfl) (by rfl) (by rfl) (by rfl)) ?_ ?_ ?_; rotate_left 1; (· (intro w' hS'; (try dsimp only at hS'); go_simp; exact fun h0 h1 h2 h3 h4 => Q3 ⟨h0, h1, h2, h3, h4⟩)); (· (simp only [Act.put, Plan.l1, Plan.l2, Plan.l3]; try with_reducible rfl))
          refine Plan.stepT ?_
          go_wp2_with fail
          refine (HPR.out (by simp) _).mono ?_
          rintro e r3 ⟨ar3, qr3, rfl, hr3, hk⟩
          rw [List.nil_append] at hr3 ⊢
          have Kr3 : Hid (Keeps [] wA r3) := Kr2.out.trans (Keeps.trans (G := []) (by exact Keeps.K) hk (fun _ _ h => h)) (fun _ _ h => h)
          have Rr3 := hid (Reads.ofOwn hr3)
          have cv3 : (convert 28 9 (.slice ar3 PR.length qr3)).run Tryz.prog r3 = .ok (.string (str PR)) r3 := cv_str Rr3.out rfl
          clear hk hr3
          clear u0 u1 u2 u3 u4 v0 v1 v2 v3 v4
          obtain ⟨⟨u0, u1, u2, u3, u4⟩, -⟩ := blk5 (H2.out _ Kr3.out)
          obtain ⟨⟨v0, v1, v2, v3, v4⟩, -⟩ := blk5 (H3.out _ Kr3.out)
          go_wp2_with fail
          refine ⟨?_, ?_⟩
          (· go_simp)
          refine Plan.forkT ?_ ?_
          · go_wp2_with fail
            refine ⟨?_, ?_⟩
            (· go_simp)
            clear cv3
            refine Plan.stepT ?_
            go_wp2_with fail
            refine (HPQ.out (by simp) _).mono ?_
            rintro e r4 ⟨ar4, qr4, rfl, hr4, hk⟩
            rw [List.nil_append] at hr4 ⊢
            have Kr4 : Hid (Keeps [] wA r4) := Kr3.out.trans (Keeps.trans (G := []) (by exact Keeps.K) hk (fun _ _ h => h)) (fun _ _ h => h)
            have R34 := hid (Rr3.out.k0 (Keeps.trans (G := []) (by exact Keeps.K) hk (fun _ _ h => h)))
            have cv4 : (convert 28 9 (.slice ar4 PQ.length qr4)).run Tryz.prog r4 = .ok (.string (str PQ)) r4 := cv_str (Reads.ofOwn hr4) rfl
            clear hk hr4
            clear u0 u1 u2 u3 u4 v0 v1 v2 v3 v4
            obtain ⟨⟨u0, u1, u2, u3, u4⟩, -⟩ := blk5 (H2.out _ Kr4.out)
            obtain ⟨⟨v0, v1, v2, v3, v4⟩, -⟩ := blk5 (H3.out _ Kr4.out)
            go_wp2_with fail
            refine ⟨?_, ?_⟩
            (· go_simp)
            refine Plan.stepT ?_
            go_wp2_with fail
            refine ⟨?_, ?_⟩
            (· go_simp)
            iterate 1 (first | (refine Plan.takeT (v := ?_) (a' := ?_) (Plan.want_all (by rfl)) ?_ ?_ ?_; rotate_left 2; (· (intro w' hS'; (try dsimp only at hS'); go_simp; try with_reducible rfl)); (· (simp only [Act.put, Plan.l1, Plan.l2, Plan.l3]; try with_reducible rfl))) | (refine Plan.takeT (v := ?_) (a' := ?_) (Plan.want_yes (by rfl) (by rfl) (by rfl) (by rfl)) ?_ ?_ ?_; rotate_left 2; (· (intro w' hS'; (try dsimp only at hS'); go_simp; try with_reducible rfl)); (· (simp only [Act.put, Plan.l1, Plan.l2, Plan.l3]; try with_reducible rfl))) | fail)
            refine Plan.finT ?_
            go_wp2_with fail
            refine (HAX.out _ (by have kk := Kr4.out; exact Keeps.K)).mono ?_
            rintro e w9 ⟨rfl, hk⟩
            have K9 := hid hk
            clear hk
            go_wp2_with fail
            go_ret
            exact ⟨rfl, K9.out⟩
          · clear cv3
            go_wp2_with fail
            refine (HPQ.out (by simp) _).mono ?_
            rintro e r4 ⟨ar4, qr4, rfl, hr4, hk⟩
            rw [List.nil_append] at hr4 ⊢
            have Kr4 : Hid (Keeps [] wA r4) := Kr3.out.trans (Keeps.trans (G := []) (by exact Keeps.K) hk (fun _ _ h => h)) (fun _ _ h => h)
            have R34 := hid (Rr3.out.k0 (Keeps.trans (G := []) (by exact Keeps.K) hk (fun _ _ h => h)))
            have cv4 : (convert 28 9 (.slice ar4 PQ.length qr4)).run Tryz.prog r4 = .ok (.string (str PQ)) r4 := cv_str (Reads.ofOwn hr4) rfl
            clear hk hr4
            clear u0 u1 u2 u3 u4 v0 v1 v2 v3 v4
            obtain ⟨⟨u0, u1, u2, u3, u4⟩, -⟩ := blk5 (H2.out _ Kr4.out)
            obtain ⟨⟨v0, v1, v2, v3, v4⟩, -⟩ := blk5 (H3.out _ Kr4.out)
            have cv34 : (convert 28 9 (.slice ar3 PR.length qr3)).run Tryz.prog r4 = .ok (.string (str PR)) r4 := cv_str R34.out rfl
            go_wp2_with fail
            refine ⟨?_, ?_⟩
            (· go_simp)
            refine Plan.forkT ?_ ?_
            · go_wp2_with fail
              refine ⟨?_, ?_⟩
              (· go_simp)
              refine Plan.stepT ?_
              go_wp2_with fail
              refine ⟨?_, ?_⟩
              (· go_simp)
              iterate 1 (first | (refine Plan.takeT (v := ?_) (a' := ?_) (Plan.want_all (by rfl)) ?_ ?_ ?_; rotate_left 2; (· (intro w' hS'; (try dsimp only at hS'); go_simp; try with_reducible rfl)); (· (simp only [Act.put, Plan.l1, Plan.l2, Plan.l3]; try with_reducible rfl))) | (refine Plan.takeT (v := ?_) (a' := ?_) (Plan.want_yes (by rfl) (by rfl) (by rfl) (by rfl)) ?_ ?_ ?_; rotate_left 2; (· (intro w' hS'; (try dsimp only at hS'); go_simp; try with_reducible rfl)); (· (simp only [Act.put, Plan.l1, Plan.l2, Plan.l3]; try with_reducible rfl))) | fail)
              refine Plan.finT ?_
              go_wp2_with fail
              refine (HAX.out _ (by have kk := Kr4.out; exact Keeps.K)).mono ?_
              rintro e w9 ⟨rfl, hk⟩
              have K9 := hid hk
              clear hk
              go_wp2_with fail
              go_ret
              exact ⟨rfl, K9.out⟩
            · go_wp2_with fail
              refine ⟨?_, ?_⟩
              (· go_simp)
              refine Plan.stepT ?_
              go_wp2_with fail
              refine ⟨?_, ?_⟩
              (· go_simp)
              iterate 1 (first | (refine Plan.takeT (v := ?_) (a' := ?_) (Plan.want_all (by rfl)) ?_ ?_ ?_; rotate_left 2; (· (intro w' hS'; (try dsimp only at hS'); go_simp; try with_reducible rfl)); (· (simp only [Act.put, Plan.l1, Plan.l2, Plan.l3]; try with_reducible rfl))) | (refine Plan.takeT (v := ?_) (a' := ?_) (Plan.want_yes (by rfl) (by rfl) (by rfl) (by rfl)) ?_ ?_ ?_; rotate_left 2; (· (intro w' hS'; (try dsimp only at hS'); go_simp; try with_reducible rfl)); (· (simp only [Act.put, Plan.l1, Plan.l2, Plan.l3]; try with_reducible rfl))) | fail)
              refine Plan.finT ?_
              go_wp2_with fail
              refine (HAX.out _ (by have kk := Kr4.out; exact Keeps.K)).mono ?_
              rintro e w9 ⟨rfl, hk⟩
              have K9 := hid hk
              clear hk
              go_wp2_with fail
              go_ret
              exact ⟨rfl, K9.out⟩
  clear hK1
  rcases ca with _ | _
  · refine Plan.wp_region_plan (fun wx => (wx.cell? ⟨w.heap.size, 0, none⟩ = some (.int .i64 mk) ∧ wx.cell? ⟨w.heap.size, 1, none⟩ = some (.int .i64 ms) ∧ wx.cell? ⟨w.heap.size, 2, none⟩ = some (.int .i64 mq) ∧ wx.cell? ⟨w.heap.size, 3, none⟩ = some (.string mf) ∧ wx.cell? ⟨w.heap.size, 4, none⟩ = some (.int .i64 mr) ∧ wx.cell? ⟨w.heap.size, 5, none⟩ = some (.int .i64 mx) ∧ wx.cell? ⟨w.heap.size, 6, none⟩ = some (.int .i64 my) ∧ wx.cell? ⟨w.heap.size, 7, none⟩ = some (.string mz)) ∧ (wx.cell? ⟨w.heap.size + 1, 0, none⟩ = some (.int .i64 nk) ∧ wx.cell? ⟨w.heap.size + 1, 1, none⟩ = some (.int .i64 ns) ∧ wx.cell? ⟨w.heap.size + 1, 2, none⟩ = some (.int .i64 nq) ∧ wx.cell? ⟨w.heap.size + 1, 3, none⟩ = some (.string nf) ∧ wx.cell? ⟨w.heap.size + 1, 4, none⟩ = some (.int .i64 nr) ∧ wx.cell? ⟨w.heap.size + 1, 5, none⟩ = some (.int .i64 nx) ∧ wx.cell? ⟨w.heap.size + 1, 6, none⟩ = some (.int .i64 ny) ∧ wx.cell? ⟨w.heap.size + 1, 7, none⟩ = some (.string nz))) 17 [(true, 0), (false, 1), (true, 2), (true, 3), (false, 4), (true, 5), (true, 6), (true, 7), (true, 10), (true, 14), (true, 15), (true, 16), (false, 8), (true, 9), (false, 11), (true, 12), (true, 13)] (by kernel_rfl) (by as_aux_lemma => kernel_rfl) (by kernel_rfl) (fun _ _ _ _ _ h => h) ?_ (fun hS => ?_)
    (· go_simp)
    simp only [Plan.pick, List.append_eq, List.cons_append, List.nil_append, Plan.g1, Plan.g2, Option.getD_some, List.drop_succ_cons, List.drop_zero]
    iterate 1 (first | refine Plan.tA ?_ | refine Plan.tY ?_ | refine Plan.pN ?_ | refine Plan.pU ?_ | fail)
    refine Plan.step ?_
    go_wp2_with fail
    refine (HCA.out _ (HTT.out _ (by have kk := K2.out; exact Keeps.K))).mono ?_
    rintro e r1 ⟨rfl, hk⟩
    have Kr1 : Hid (Keeps [] wA r1) := K2.out.trans (Keeps.trans (G := []) (by exact Keeps.K) hk (fun _ _ h => h)) (fun _ _ h => h)
    clear hk hS
    clear x0 x1 x2 x3 x4 x5 x6 x7 y0 y1 y2 y3 y4 y5 y6 y7
    obtain ⟨⟨x0, x1, x2, x3, x4, x5, x6, x7⟩, -⟩ := blk8 (H0.out _ Kr1.out)
    obtain ⟨⟨y0, y1, y2, y3, y4, y5, y6, y7⟩, -⟩ := blk8 (H1.out _ Kr1.out)
    go_wp2_with fail
    refine ⟨?_, ?_⟩
    (· go_simp)
    iterate 2 (first | refine Plan.tA ?_ | refine Plan.tY ?_ | refine Plan.pN ?_ | refine Plan.pU ?_ | fail)
    refine Plan.step ?_
    go_wp2_with fail
    refine ⟨?_, ?_⟩
    (· go_simp)
    iterate 7 (first | refine Plan.tA ?_ | refine Plan.tY ?_ | refine Plan.pN ?_ | refine Plan.pU ?_ | fail)
    refine Plan.step ?_
    go_wp2_with fail
    refine ⟨?_, ?_⟩
    (· go_simp)
    iterate 1 (first | refine Plan.tA ?_ | refine Plan.tY ?_ | refine Plan.pN ?_ | refine Plan.pU ?_ | fail)
    refine Plan.step ?_
    go_wp2_with fail
    refine ⟨?_, ?_⟩
    (· go_simp)
    iterate 2 (first | refine Plan.tA ?_ | refine Plan.tY ?_ | refine Plan.pN ?_ | refine Plan.pU ?_ | fail)
    refine Plan.fin ?_
    go_wp2_with fail
    first | exact HM _ (by have kk := Kr1.out; exact Keeps.K) _ _ _ _ _ _ _ _ _ _ _ _ _ _ _ _ _ _ _ _ _ _ _ _ _ _ _ _ _ _ _ _ _ _ _ _ _ _ _ _ _ | (have kk := Kr1.out; exact Keeps.K)
  · rcases cb with _ | _
    · refine Plan.wp_region_plan (fun wx => (wx.cell? ⟨w.heap.size, 0, none⟩ = some (.int .i64 mk) ∧ wx.cell? ⟨w.heap.size, 1, none⟩ = some (.int .i64 ms) ∧ wx.cell? ⟨w.heap.size, 2, none⟩ = some (.int .i64 mq) ∧ wx.cell? ⟨w.heap.size, 3, none⟩ = some (.string mf) ∧ wx.cell? ⟨w.heap.size, 4, none⟩ = some (.int .i64 mr) ∧ wx.cell? ⟨w.heap.size, 5, none⟩ = some (.int .i64 mx) ∧ wx.cell? ⟨w.heap.size, 6, none⟩ = some (.int .i64 my) ∧ wx.cell? ⟨w.heap.size, 7, none⟩ = some (.string mz)) ∧ (wx.cell? ⟨w.heap.size + 1, 0, none⟩ = some (.int .i64 nk) ∧ wx.cell? ⟨w.heap.size + 1, 1, none⟩ = some (.int .i64 ns) ∧ wx.cell? ⟨w.heap.size + 1, 2, none⟩ = some (.int .i64 nq) ∧ wx.cell? ⟨w.heap.size + 1, 3, none⟩ = some (.string nf) ∧ wx.cell? ⟨w.heap.size + 1, 4, none⟩ = some (.int .i64 nr) ∧ wx.cell? ⟨w.heap.size + 1, 5, none⟩ = some (.int .i64 nx) ∧ wx.cell? ⟨w.heap.size + 1, 6, none⟩ = some (.int .i64 ny) ∧ wx.cell? ⟨w.heap.size + 1, 7, none⟩ = some (.string nz))) 17 [(true, 0), (false, 1), (true, 2), (true, 3), (false, 4), (true, 5), (true, 6), (true, 7), (true, 10), (true, 14), (true, 15), (true, 16), (false, 8), (true, 9), (false, 11), (true, 12), (true, 13)] (by kernel_rfl) (by as_aux_lemma => kernel_rfl) (by kernel_rfl) (fun _ _ _ _ _ h => h) ?_ (fun hS => ?_)
      (· go_simp)
      simp only [Plan.pick, List.append_eq, List.cons_append, List.nil_append, Plan.g1, Plan.g2, Option.getD_some, List.drop_succ_cons, List.drop_zero]
      iterate 1 (first | refine Plan.tA ?_ | refine Plan.tY ?_ | refine Plan.pN ?_ | refine Plan.pU ?_ | fail)
      refine Plan.step ?_
      go_wp2_with fail
      refine (HCA.out _ (HTT.out _ (by have kk := K2.out; exact Keeps.K))).mono ?_
      rintro e r1 ⟨rfl, hk⟩
      have Kr1 : Hid (Keeps [] wA r1) := K2.out.trans (Keeps.trans (G := []) (by exact Keeps.K) hk (fun _ _ h => h)) (fun _ _ h => h)
      clear hk hS
      clear x0 x1 x2 x3 x4 x5 x6 x7 y0 y1 y2 y3 y4 y5 y6 y7
      obtain ⟨⟨x0, x1, x2, x3, x4, x5, x6, x7⟩, -⟩ := blk8 (H0.out _ Kr1.out)
      obtain ⟨⟨y0, y1, y2, y3, y4, y5, y6, y7⟩, -⟩ := blk8 (H1.out _ Kr1.out)
      go_wp2_with fail
      refine ⟨?_, ?_⟩
      (· go_simp)
      iterate 2 (first | refine Plan.tA ?_ | refine Plan.tY ?_ | refine Plan.pN ?_ | refine Plan.pU ?_ | fail)
      refine Plan.step ?_
      go_wp2_with fail
      refine (HCB.out _ (HTT.out _ (by have kk := Kr1.out; exact Keeps.K))).mono ?_
      rintro e r2 ⟨rfl, hk⟩
      have Kr2 : Hid (Keeps [] wA r2) := Kr1.out.trans (Keeps.trans (G := []) (by exact Keeps.K) hk (fun _ _ h => h)) (fun _ _ h => h)
      clear hk
      clear x0 x1 x2 x3 x4 x5 x6 x7 y0 y1 y2 y3 y4 y5 y6 y7
      obtain ⟨⟨x0, x1, x2, x3, x4, x5, x6, x7⟩, -⟩ := blk8 (H0.out _ Kr2.out)
      obtain ⟨⟨y0, y1, y2, y3, y4, y5, y6, y7⟩, -⟩ := blk8 (H1.out _ Kr2.out)
      go_wp2_with fail
      refine ⟨?_, ?_⟩
      (· go_simp)
      iterate 7 (first | refine Plan.tA ?_ | refine Plan.tY ?_ | refine Plan.pN ?_ | refine Plan.pU ?_ | fail)
      refine Plan.step ?_
      go_wp2_with fail
      refine ⟨?_, ?_⟩
      (· go_simp)
      iterate 1 (first | refine Plan.tA ?_ | refine Plan.tY ?_ | refine Plan.pN ?_ | refine Plan.pU ?_ | fail)
      refine Plan.step ?_
      go_wp2_with fail
      refine ⟨?_, ?_⟩
      (· go_simp)
      iterate 2 (first | refine Plan.tA ?_ | refine Plan.tY ?_ | refine Plan.pN ?_ | refine Plan.pU ?_ | fail)
      refine Plan.fin ?_
      go_wp2_with fail
      first | exact HM _ (by have kk := Kr2.out; exact Keeps.K) _ _ _ _ _ _ _ _ _ _ _ _ _ _ _ _ _ _ _ _ _ _ _ _ _ _ _ _ _ _ _ _ _ _ _ _ _ _ _ _ _ | (have kk := Kr2.out; exact Keeps.K)
    · rcases (E1.out rfl rfl) with ⟨he, hp⟩ | ⟨he, hp⟩
      · have Q3 : Hid (mk = nk ∧ ms = ns ∧ mq = nq ∧ mf.toList = nf.toList ∧ mr = nr ∧ mx = nx ∧ my = ny ∧ mz.toList = nz.toList) := by
          show mk = nk ∧ ms = ns ∧ mq = nq ∧ mf.toList = nf.toList ∧ mr = nr ∧ mx = nx ∧ my = ny ∧ mz.toList = nz.toList
          simp only [CmdD.mk.injEq, ValD.mk.injEq] at he
          simp [he]
        have q2 : (PA == PB) = true := by rw [hp]; simp
        clear he hp
        refine Plan.wp_region_tree (fun wx => (wx.cell? ⟨w.heap.size, 0, none⟩ = some (.int .i64 mk) ∧ wx.cell? ⟨w.heap.size, 1, none⟩ = some (.int .i64 ms) ∧ wx.cell? ⟨w.heap.size, 2, none⟩ = some (.int .i64 mq) ∧ wx.cell? ⟨w.heap.size, 3, none⟩ = some (.string mf) ∧ wx.cell? ⟨w.heap.size, 4, none⟩ = some (.int .i64 mr) ∧ wx.cell? ⟨w.heap.size, 5, none⟩ = some (.int .i64 mx) ∧ wx.cell? ⟨w.heap.size, 6, none⟩ = some (.int .i64 my) ∧ wx.cell? ⟨w.heap.size, 7, none⟩ = some (.string mz)) ∧ (wx.cell? ⟨w.heap.size + 1, 0, none⟩ = some (.int .i64 nk) ∧ wx.cell? ⟨w.heap.size + 1, 1, none⟩ = some (.int .i64 ns) ∧ wx.cell? ⟨w.heap.size + 1, 2, none⟩ = some (.int .i64 nq) ∧ wx.cell? ⟨w.heap.size + 1, 3, none⟩ = some (.string nf) ∧ wx.cell? ⟨w.heap.size + 1, 4, none⟩ = some (.int .i64 nr) ∧ wx.cell? ⟨w.heap.size + 1, 5, none⟩ = some (.int .i64 nx) ∧ wx.cell? ⟨w.heap.size + 1, 6, none⟩ = some (.int .i64 ny) ∧ wx.cell? ⟨w.heap.size + 1, 7, none⟩ = some (.string nz))) 17 (.take 0 (.step 1 (.take 2 (.take 3 (.step 4 (.take 5 (.take 6 (.take 7 (.take 10 (.take 14 (.take 15 (.take 16 (.step 8 (.fork 9 11 (.step 11 (.step 12 (.take 13 .fin))) (.fork 9 12 (.step 12 (.take 13 .fin)) (.step 9 (.take 13 .fin))))))))))))))))) (by kernel_rfl) (by as_aux_lemma => kernel_rfl) (by kernel_rfl) (fun _ _ _ _ _ h => h) ?_ (fun hS => ?_)
        (· go_simp)
        simp only [Plan.pickT, List.append_eq, List.cons_append, List.nil_append, Plan.g1, Plan.g2, Option.getD_some, List.drop_succ_cons, List.drop_zero]
        iterate 1 (first | (refine Plan.takeT (v := ?_) (a' := ?_) (Plan.want_all (by rfl)) ?_ ?_ ?_; rotate_left 2; (· (intro w' hS'; (try dsimp only at hS'); go_simp; try with_reducible rfl)); (· (simp only [Act.put, Plan.l1, Plan.l2, Plan.l3]; try with_reducible rfl))) | (refine Plan.takeT (v := ?_) (a' := ?_) (Plan.want_yes (by rfl) (by rfl) (by rfl) (by rfl)) ?_ ?_ ?_; rotate_left 2; (· (intro w' hS'; (try dsimp only at hS'); go_simp; try with_reducible rfl)); (· (simp only [Act.put, Plan.l1, Plan.l2, Plan.l3]; try with_reducible rfl))) | fail)
        refine Plan.stepT ?_
        go_wp2_with fail
        refine (HCA.out _ (HTT.out _ (by have kk := K2.out; exact Keeps.K))).mono ?_
        rintro e r1 ⟨rfl, hk⟩
        have Kr1 : Hid (Keeps [] wA r1) := K2.out.trans (Keeps.trans (G := []) (by exact Keeps.K) hk (fun _ _ h => h)) (fun _ _ h => h)
        clear hk hS
        clear x0 x1 x2 x3 x4 x5 x6 x7 y0 y1 y2 y3 y4 y5 y6 y7
        obtain ⟨⟨x0, x1, x2, x3, x4, x5, x6, x7⟩, -⟩ := blk8 (H0.out _ Kr1.out)
        obtain ⟨⟨y0, y1, y2, y3, y4, y5, y6, y7⟩, -⟩ := blk8 (H1.out _ Kr1.out)
        go_wp2_with fail
        refine ⟨?_, ?_⟩
        (· go_simp)
        iterate 2 (iterate 1 (first | (refine Plan.takeT (v := ?_) (a' := ?_) (Plan.want_all (by rfl)) ?_ ?_ ?_; rotate_left 2; (· (intro w' hS'; (try dsimp only at hS'); go_simp; try with_reducible rfl)); (· (simp only [Act.put, Plan.l1, Plan.l2, Plan.l3]; try with_reducible rfl))) | (refine Plan.takeT (v := ?_) (a' := ?_) (Plan.want_yes (by rfl) (by rfl) (by rfl) (by rfl)) ?_ ?_ ?_; rotate_left 2; (· (intro w' hS'; (try dsimp only at hS'); go_simp; try with_reducible rfl)); (· (simp only [Act.put, Plan.l1, Plan.l2, Plan.l3]; try with_reducible rfl))) | fail))
        refine Plan.stepT ?_
        go_wp2_with fail
        refine (HCB.out _ (HTT.out _ (by have kk := Kr1.out; exact Keeps.K))).mono ?_
        rintro e r2 ⟨rfl, hk⟩
        have Kr2 : Hid (Keeps [] wA r2) := Kr1.out.trans (Keeps.trans (G := []) (by exact Keeps.K) hk (fun _ _ h => h)) (fun _ _ h => h)
        clear hk
        clear x0 x1 x2 x3 x4 x5 x6 x7 y0 y1 y2 y3 y4 y5 y6 y7
        obtain ⟨⟨x0, x1, x2, x3, x4, x5, x6, x7⟩, -⟩ := blk8 (H0.out _ Kr2.out)
        obtain ⟨⟨y0, y1, y2, y3, y4, y5, y6, y7⟩, -⟩ := blk8 (H1.out _ Kr2.out)
        go_wp2_with fail
        refine ⟨?_, ?_⟩
        (· go_simp)
        iterate 6 (iterate 1 (first | (refine Plan.takeT (v := ?_) (a' := ?_) (Plan.want_all (by rfl)) ?_ ?_ ?_; rotate_left 2; (· (intro w' hS'; (try dsimp only at hS'); go_simp; try with_reducible rfl)); (· (simp only [Act.put, Plan.l1, Plan.l2, Plan.l3]; try with_reducible rfl))) | (refine Plan.takeT (v := ?_) (a' := ?_) (Plan.want_yes (by rfl) (by rfl) (by rfl) (by rfl)) ?_ ?_ ?_; rotate_left 2; (· (intro w' hS'; (try dsimp only at hS'); go_simp; try with_reducible rfl)); (· (simp only [Act.put, Plan.l1, Plan.l2, Plan.l3]; try with_reducible rfl))) | fail))
        refine Plan.takeT (v := .bool true) (a' := ?_) (by first | exact Plan.want_all (by rfl) | exact Plan.want_yes (by rfl) (by rfl) (by rfl) (by rfl)) ?_ ?_ ?_; rotate_left 1; (· (intro w' hS'; (try dsimp only at hS'); go_simp; rw [if_pos Q3.out.1, if_pos Q3.out.2.1, if_pos Q3.out.2.2.1, if_pos Q3.out.2.2.2.1, if_pos Q3.out.2.2.2.2.1, if_pos Q3.out.2.2.2.2.2.1, if_pos Q3.out.2.2.2.2.2.2.1, if_pos Q3.out.2.2.2.2.2.2.2])); (· (simp only [Act.put, Plan.l1, Plan.l2, Plan.l3]; try with_reducible rfl))
        refine Plan.stepT ?_
        go_wp2_with fail
        refine (HPA.out (by simp) _).mono ?_
        rintro e r3 ⟨ar3, qr3, rfl, hr3, hk⟩
        rw [List.nil_append] at hr3 ⊢
        have Kr3 : Hid (Keeps [] wA r3) := Kr2.out.trans (Keeps.trans (G := []) (by exact Keeps.K) hk (fun _ _ h => h)) (fun _ _ h => h)
        have Rr3 := hid (Reads.ofOwn hr3)
        have cv3 : (convert 28 9 (.slice ar3 PA.length qr3)).run Tryz.prog r3 = .ok (.string (str PA)) r3 := cv_str Rr3.out rfl
        clear hk hr3
        clear x0 x1 x2 x3 x4 x5 x6 x7 y0 y1 y2 y3 y4 y5 y6 y7
        obtain ⟨⟨x0, x1, x2, x3, x4, x5, x6, x7⟩, -⟩ := blk8 (H0.out _ Kr3.out)
        obtain ⟨⟨y0, y1, y2, y3, y4, y5, y6, y7⟩, -⟩ := blk8 (H1.out _ Kr3.out)
        go_wp2_with fail
        refine ⟨?_, ?_⟩
        (· go_simp)
        refine Plan.forkT ?_ ?_
        · go_wp2_with fail
          refine ⟨?_, ?_⟩
          (· go_simp)
          clear cv3
          refine Plan.stepT ?_
          go_wp2_with fail
          refine (HPB.out (by simp) _).mono ?_
          rintro e r4 ⟨ar4, qr4, rfl, hr4, hk⟩
          rw [List.nil_append] at hr4 ⊢
          have Kr4 : Hid (Keeps [] wA r4) := Kr3.out.trans (Keeps.trans (G := []) (by exact Keeps.K) hk (fun _ _ h => h)) (fun _ _ h => h)
          have R34 := hid (Rr3.out.k0 (Keeps.trans (G := []) (by exact Keeps.K) hk (fun _ _ h => h)))
          have cv4 : (convert 28 9 (.slice ar4 PB.length qr4)).run Tryz.prog r4 = .ok (.string (str PB)) r4 := cv_str (Reads.ofOwn hr4) rfl
          clear hk hr4
          clear x0 x1 x2 x3 x4 x5 x6 x7 y0 y1 y2 y3 y4 y5 y6 y7
          obtain ⟨⟨x0, x1, x2, x3, x4, x5, x6, x7⟩, -⟩ := blk8 (H0.out _ Kr4.out)
          obtain ⟨⟨y0, y1, y2, y3, y4, y5, y6, y7⟩, -⟩ := blk8 (H1.out _ Kr4.out)
          go_wp2_with fail
          refine ⟨?_, ?_⟩
          (· go_simp)
          refine Plan.stepT ?_
          go_wp2_with fail
          refine ⟨?_, ?_⟩
          (· go_simp)
          iterate 1 (first | (refine Plan.takeT (v := ?_) (a' := ?_) (Plan.want_all (by rfl)) ?_ ?_ ?_; rotate_left 2; (· (intro w' hS'; (try dsimp only at hS'); go_simp; try with_reducible rfl)); (· (simp only [Act.put, Plan.l1, Plan.l2, Plan.l3]; try with_reducible rfl))) | (refine Plan.takeT (v := ?_) (a' := ?_) (Plan.want_yes (by rfl) (by rfl) (by rfl) (by rfl)) ?_ ?_ ?_; rotate_left 2; (· (intro w' hS'; (try dsimp only at hS'); go_simp; try with_reducible rfl)); (· (simp only [Act.put, Plan.l1, Plan.l2, Plan.l3]; try with_reducible rfl))) | fail)
          refine Plan.finT ?_
          go_wp2_with fail
          first | exact HM _ (by have kk := Kr4.out; exact Keeps.K) _ _ _ _ _ _ _ _ _ _ _ _ _ _ _ _ _ _ _ _ _ _ _ _ _ _ _ _ _ _ _ _ _ _ _ _ _ _ _ _ _ | (have kk := Kr4.out; exact Keeps.K)
        · clear cv3
          go_wp2_with fail
          refine (HPB.out (by simp) _).mono ?_
          rintro e r4 ⟨ar4, qr4, rfl, hr4, hk⟩
          rw [List.nil_append] at hr4 ⊢
          have Kr4 : Hid (Keeps [] wA r4) := Kr3.out.trans (Keeps.trans (G := []) (by exact Keeps.K) hk (fun _ _ h => h)) (fun _ _ h => h)
          have R34 := hid (Rr3.out.k0 (Keeps.trans (G := []) (by exact Keeps.K) hk (fun _ _ h => h)))
          have cv4 : (convert 28 9 (.slice ar4 PB.length qr4)).run Tryz.prog r4 = .ok (.string (str PB)) r4 := cv_str (Reads.ofOwn hr4) rfl
          clear hk hr4
          clear x0 x1 x2 x3 x4 x5 x6 x7 y0 y1 y2 y3 y4 y5 y6 y7
          obtain ⟨⟨x0, x1, x2, x3, x4, x5, x6, x7⟩, -⟩ := blk8 (H0.out _ Kr4.out)
          obtain ⟨⟨y0, y1, y2, y3, y4, y5, y6, y7⟩, -⟩ := blk8 (H1.out _ Kr4.out)
          have cv34 : (convert 28 9 (.slice ar3 PA.length qr3)).run Tryz.prog r4 = .ok (.string (str PA)) r4 := cv_str R34.out rfl
          go_wp2_with fail
          refine ⟨?_, ?_⟩
          (· go_simp)
          refine Plan.forkT ?_ ?_
          · go_wp2_with fail
            refine ⟨?_, ?_⟩
            (· go_simp)
            refine Plan.stepT ?_
            go_wp2_with fail
            refine ⟨?_, ?_⟩
            (· go_simp)
            iterate 1 (first | (refine Plan.takeT (v := ?_) (a' := ?_) (Plan.want_all (by rfl)) ?_ ?_ ?_; rotate_left 2; (· (intro w' hS'; (try dsimp only at hS'); go_simp; try with_reducible rfl)); (· (simp only [Act.put, Plan.l1, Plan.l2, Plan.l3]; try with_reducible rfl))) | (refine Plan.takeT (v := ?_) (a' := ?_) (Plan.want_yes (by rfl) (by rfl) (by rfl) (by rfl)) ?_ ?_ ?_; rotate_left 2; (· (intro w' hS'; (try dsimp only at hS'); go_simp; try with_reducible rfl)); (· (simp only [Act.put, Plan.l1, Plan.l2, Plan.l3]; try with_reducible rfl))) | fail)
            refine Plan.finT ?_
            go_wp2_with fail
            first | exact HM _ (by have kk := Kr4.out; exact Keeps.K) _ _ _ _ _ _ _ _ _ _ _ _ _ _ _ _ _ _ _ _ _ _ _ _ _ _ _ _ _ _ _ _ _ _ _ _ _ _ _ _ _ | (have kk := Kr4.out; exact Keeps.K)
          · go_wp2_with fail
            refine ⟨?_, ?_⟩
            (· go_simp)
            refine Plan.stepT ?_
            go_wp2_with fail
            refine ⟨?_, ?_⟩
            (· go_simp)
            iterate 1 (first | (refine Plan.takeT (v := ?_) (a' := ?_) (Plan.want_all (by rfl)) ?_ ?_ ?_; rotate_left 2; (· (intro w' hS'; (try dsimp only at hS'); go_simp; try with_reducible rfl)); (· (simp only [Act.put, Plan.l1, Plan.l2, Plan.l3]; try with_reducible rfl))) | (refine Plan.takeT (v := ?_) (a' := ?_) (Plan.want_yes (by rfl) (by rfl) (by rfl) (by rfl)) ?_ ?_ ?_; rotate_left 2; (· (intro w' hS'; (try dsimp only at hS'); go_simp; try with_reducible rfl)); (· (simp only [Act.put, Plan.l1, Plan.l2, Plan.l3]; try with_reducible rfl))) | fail)
            refine Plan.finT ?_
            go_wp2_with fail
            first | exact HM _ (by have kk := Kr4.out; exact Keeps.K) _ _ _ _ _ _ _ _ _ _ _ _ _ _ _ _ _ _ _ _ _ _ _ _ _ _ _ _ _ _ _ _ _ _ _ _ _ _ _ _ _ | (have kk := Kr4.out; exact Keeps.K)
      · have Q3 : ¬ (mk = nk ∧ ms = ns ∧ mq = nq ∧ mf.toList = nf.toList ∧ mr = nr ∧ mx = nx ∧ my = ny ∧ mz.toList = nz.toList) := by
          rintro ⟨hmk, hms, hmq, hmf, hmr, hmx, hmy, hmz⟩
          have hmf := bytes_extC hmf
          have hmz := bytes_extC hmz
          subst hmk hms hmq hmf hmr hmx hmy hmz
          exact he rfl
        have q2 : (PA == PB) = false := by rw [beq_eq_false_iff_ne]; exact hp
        clear he hp
        refine Plan.wp_region_tree (fun wx => (wx.cell? ⟨w.heap.size, 0, none⟩ = some (.int .i64 mk) ∧ wx.cell? ⟨w.heap.size, 1, none⟩ = some (.int .i64 ms) ∧ wx.cell? ⟨w.heap.size, 2, none⟩ = some (.int .i64 mq) ∧ wx.cell? ⟨w.heap.size, 3, none⟩ = some (.string mf) ∧ wx.cell? ⟨w.heap.size, 4, none⟩ = some (.int .i64 mr) ∧ wx.cell? ⟨w.heap.size, 5, none⟩ = some (.int .i64 mx) ∧ wx.cell? ⟨w.heap.size, 6, none⟩ = some (.int .i64 my) ∧ wx.cell? ⟨w.heap.size, 7, none⟩ = some (.string mz)) ∧ (wx.cell? ⟨w.heap.size + 1, 0, none⟩ = some (.int .i64 nk) ∧ wx.cell? ⟨w.heap.size + 1, 1, none⟩ = some (.int .i64 ns) ∧ wx.cell? ⟨w.heap.size + 1, 2, none⟩ = some (.int .i64 nq) ∧ wx.cell? ⟨w.heap.size + 1, 3, none⟩ = some (.string nf) ∧ wx.cell? ⟨w.heap.size + 1, 4, none⟩ = some (.int .i64 nr) ∧ wx.cell? ⟨w.heap.size + 1, 5, none⟩ = some (.int .i64 nx) ∧ wx.cell? ⟨w.heap.size + 1, 6, none⟩ = some (.int .i64 ny) ∧ wx.cell? ⟨w.heap.size + 1, 7, none⟩ = some (.string nz))) 17 (.take 0 (.step 1 (.take 2 (.take 3 (.step 4 (.take 5 (.take 6 (.take 7 (.take 10 (.take 14 (.take 15 (.take 16 (.step 8 (.fork 9 11 (.step 11 (.step 12 (.take 13 .fin))) (.fork 9 12 (.step 12 (.take 13 .fin)) (.step 9 (.take 13 .fin))))))))))))))))) (by kernel_rfl) (by as_aux_lemma => kernel_rfl) (by kernel_rfl) (fun _ _ _ _ _ h => h) ?_ (fun hS => ?_)
        (· go_simp)
        simp only [Plan.pickT, List.append_eq, List.cons_append, List.nil_append, Plan.g1, Plan.g2, Option.getD_some, List.drop_succ_cons, List.drop_zero]
        iterate 1 (first | (refine Plan.takeT (v := ?_) (a' := ?_) (Plan.want_all (by rfl)) ?_ ?_ ?_; rotate_left 2; (· (intro w' hS'; (try dsimp only at hS'); go_simp; try with_reducible rfl)); (· (simp only [Act.put, Plan.l1, Plan.l2, Plan.l3]; try with_reducible rfl))) | (refine Plan.takeT (v := ?_) (a' := ?_) (Plan.want_yes (by rfl) (by rfl) (by rfl) (by rfl)) ?_ ?_ ?_; rotate_left 2; (· (intro w' hS'; (try dsimp only at hS'); go_simp; try with_reducible rfl)); (· (simp only [Act.put, Plan.l1, Plan.l2, Plan.l3]; try with_reducible rfl))) | fail)
        refine Plan.stepT ?_
        go_wp2_with fail
        refine (HCA.out _ (HTT.out _ (by have kk := K2.out; exact Keeps.K))).mono ?_
        rintro e r1 ⟨rfl, hk⟩
        have Kr1 : Hid (Keeps [] wA r1) := K2.out.trans (Keeps.trans (G := []) (by exact Keeps.K) hk (fun _ _ h => h)) (fun _ _ h => h)
        clear hk hS
        clear x0 x1 x2 x3 x4 x5 x6 x7 y0 y1 y2 y3 y4 y5 y6 y7
        obtain ⟨⟨x0, x1, x2, x3, x4, x5, x6, x7⟩, -⟩ := blk8 (H0.out _ Kr1.out)
        obtain ⟨⟨y0, y1, y2, y3, y4, y5, y6, y7⟩, -⟩ := blk8 (H1.out _ Kr1.out)
        go_wp2_with fail
        refine ⟨?_, ?_⟩
        (· go_simp)
        iterate 2 (iterate 1 (first | (refine Plan.takeT (v := ?_) (a' := ?_) (Plan.want_all (by rfl)) ?_ ?_ ?_; rotate_left 2; (· (intro w' hS'; (try dsimp only at hS'); go_simp; try with_reducible rfl)); (· (simp only [Act.put, Plan.l1, Plan.l2, Plan.l3]; try with_reducible rfl))) | (refine Plan.takeT (v := ?_) (a' := ?_) (Plan.want_yes (by rfl) (by rfl) (by rfl) (by rfl)) ?_ ?_ ?_; rotate_left 2; (· (intro w' hS'; (try dsimp only at hS'); go_simp; try with_reducible rfl)); (· (simp only [Act.put, Plan.l1, Plan.l2, Plan.l3]; try with_reducible rfl))) | fail))
        refine Plan.stepT ?_
        go_wp2_with fail
        refine (HCB.out _ (HTT.out _ (by have kk := Kr1.out; exact Keeps.K))).mono ?_
        rintro e r2 ⟨rfl, hk⟩
        have Kr2 : Hid (Keeps [] wA r2) := Kr1.out.trans (Keeps.trans (G := []) (by exact Keeps.K) hk (fun _ _ h => h)) (fun _ _ h => h)
        clear hk
        clear x0 x1 x2 x3 x4 x5 x6 x7 y0 y1 y2 y3 y4 y5 y6 y7
        obtain ⟨⟨x0, x1, x2, x3, x4, x5, x6, x7⟩, -⟩ := blk8 (H0.out _ Kr2.out)
        obtain ⟨⟨y0, y1, y2, y3, y4, y5, y6, y7⟩, -⟩ := blk8 (H1.out _ Kr2.out)
        go_wp2_with fail
        refine ⟨?_, ?_⟩
        (· go_simp)
        iterate 6 (iterate 1 (first | (refine Plan.takeT (v := ?_) (a' := ?_) (Plan.want_all (by rfl)) ?_ ?_ ?_; rotate_left 2; (· (intro w' hS'; (try dsimp only at hS'); go_simp; try with_reducible rfl)); (· (simp only [Act.put, Plan.l1, Plan.l2, Plan.l3]; try with_reducible rfl))) | (refine Plan.takeT (v := ?_) (a' := ?_) (Plan.want_yes (by rfl) (by rfl) (by rfl) (by rfl)) ?_ ?_ ?_; rotate_left 2; (· (intro w' hS'; (try dsimp only at hS'); go_simp; try with_reducible rfl)); (· (simp only [Act.put, Plan.l1, Plan.l2, Plan.l3]; try with_reducible rfl))) | fail))
        refine Plan.takeT (v := .bool false) (a' := ?_) (by first | exact Plan.want_all (by rfl) | exact Plan.want_yes (by rfl) (by rfl) (by rfl) (by rfl)) ?_ ?_ ?_; rotate_left 1; (· (intro w' hS'; (try dsimp only at hS'); go_simp; exact fun h0 h1 h2 h3 h4 h5 h6 h7 => Q3 ⟨h0, h1, h2, h3, h4, h5, h6, h7⟩)); (· (simp only [Act.put, Plan.l1, Plan.l2, Plan.l3]; try with_reducible rfl))
        refine Plan.stepT ?_
        go_wp2_with fail
        refine (HPA.out (by simp) _).mono ?_
        rintro e r3 ⟨ar3, qr3, rfl, hr3, hk⟩
        rw [List.nil_append] at hr3 ⊢
        have Kr3 : Hid (Keeps [] wA r3) := Kr2.out.trans (Keeps.trans (G := []) (by exact Keeps.K) hk (fun _ _ h => h)) (fun _ _ h => h)
        have Rr3 := hid (Reads.ofOwn hr3)
        have cv3 : (convert 28 9 (.slice ar3 PA.length qr3)).run Tryz.prog r3 = .ok (.string (str PA)) r3 := cv_str Rr3.out rfl
        clear hk hr3
        clear x0 x1 x2 x3 x4 x5 x6 x7 y0 y1 y2 y3 y4 y5 y6 y7
        obtain ⟨⟨x0, x1, x2, x3, x4, x5, x6, x7⟩, -⟩ := blk8 (H0.out _ Kr3.out)
        obtain ⟨⟨y0, y1, y2, y3, y4, y5, y6, y7⟩, -⟩ := blk8 (H1.out _ Kr3.out)
        go_wp2_with fail
        refine ⟨?_, ?_⟩
        (· go_simp)
        refine Plan.forkT ?_ ?_
        · go_wp2_with fail
          refine ⟨?_, ?_⟩
          (· go_simp)
          clear cv3
          refine Plan.stepT ?_
          go_wp2_with fail
          refine (HPB.out (by simp) _).mono ?_
          rintro e r4 ⟨ar4, qr4, rfl, hr4, hk⟩
          rw [List.nil_append] at hr4 ⊢
          have Kr4 : Hid (Keeps [] wA r4) := Kr3.out.trans (Keeps.trans (G := []) (by exact Keeps.K) hk (fun _ _ h => h)) (fun _ _ h => h)
          have R34 := hid (Rr3.out.k0 (Keeps.trans (G := []) (by exact Keeps.K) hk (fun _ _ h => h)))
          have cv4 : (convert 28 9 (.slice ar4 PB.length qr4)).run Tryz.prog r4 = .ok (.string (str PB)) r4 := cv_str (Reads.ofOwn hr4) rfl
          clear hk hr4
          clear x0 x1 x2 x3 x4 x5 x6 x7 y0 y1 y2 y3 y4 y5 y6 y7
          obtain ⟨⟨x0, x1, x2, x3, x4, x5, x6, x7⟩, -⟩ := blk8 (H0.out _ Kr4.out)
          obtain ⟨⟨y0, y1, y2, y3, y4, y5, y6, y7⟩, -⟩ := blk8 (H1.out _ Kr4.out)
          go_wp2_with fail
          refine ⟨?_, ?_⟩
          (· go_simp)
          refine Plan.stepT ?_
          go_wp2_with fail
          refine ⟨?_, ?_⟩
          (· go_simp)
          iterate 1 (first | (refine Plan.takeT (v := ?_) (a' := ?_) (Plan.want_all (by rfl)) ?_ ?_ ?_; rotate_left 2; (· (intro w' hS'; (try dsimp only at hS'); go_simp; try with_reducible rfl)); (· (simp only [Act.put, Plan.l1, Plan.l2, Plan.l3]; try with_reducible rfl))) | (refine Plan.takeT (v := ?_) (a' := ?_) (Plan.want_yes (by rfl) (by rfl) (by rfl) (by rfl)) ?_ ?_ ?_; rotate_left 2; (· (intro w' hS'; (try dsimp only at hS'); go_simp; try with_reducible rfl)); (· (simp only [Act.put, Plan.l1, Plan.l2, Plan.l3]; try with_reducible rfl))) | fail)
          refine Plan.finT ?_
          go_wp2_with fail
          first | exact HM _ (by have kk := Kr4.out; exact Keeps.K) _ _ _ _ _ _ _ _ _ _ _ _ _ _ _ _ _ _ _ _ _ _ _ _ _ _ _ _ _ _ _ _ _ _ _ _ _ _ _ _ _ | (have kk := Kr4.out; exact Keeps.K)
        · clear cv3
          go_wp2_with fail
          refine (HPB.out (by simp) _).mono ?_
          rintro e r4 ⟨ar4, qr4, rfl, hr4, hk⟩
          rw [List.nil_append] at hr4 ⊢
          have Kr4 : Hid (Keeps [] wA r4) := Kr3.out.trans (Keeps.trans (G := []) (by exact Keeps.K) hk (fun _ _ h => h)) (fun _ _ h => h)
          have R34 := hid (Rr3.out.k0 (Keeps.trans (G := []) (by exact Keeps.K) hk (fun _ _ h => h)))
          have cv4 : (convert 28 9 (.slice ar4 PB.length qr4)).run Tryz.prog r4 = .ok (.string (str PB)) r4 := cv_str (Reads.ofOwn hr4) rfl
          clear hk hr4
          clear x0 x1 x2 x3 x4 x5 x6 x7 y0 y1 y2 y3 y4 y5 y6 y7
          obtain ⟨⟨x0, x1, x2, x3, x4, x5, x6, x7⟩, -⟩ := blk8 (H0.out _ Kr4.out)
          obtain ⟨⟨y0, y1, y2, y3, y4, y5, y6, y7⟩, -⟩ := blk8 (H1.out _ Kr4.out)
          have cv34 : (convert 28 9 (.slice ar3 PA.length qr3)).run Tryz.prog r4 = .ok (.string (str PA)) r4 := cv_str R34.out rfl
          go_wp2_with fail
          refine ⟨?_, ?_⟩
          (· go_simp)
          refine Plan.forkT ?_ ?_
          · go_wp2_with fail
            refine ⟨?_, ?_⟩
            (· go_simp)
            refine Plan.stepT ?_
            go_wp2_with fail
            refine ⟨?_, ?_⟩
            (· go_simp)
            iterate 1 (first | (refine Plan.takeT (v := ?_) (a' := ?_) (Plan.want_all (by rfl)) ?_ ?_ ?_; rotate_left 2; (· (intro w' hS'; (try dsimp only at hS'); go_simp; try with_reducible rfl)); (· (simp only [Act.put, Plan.l1, Plan.l2, Plan.l3]; try with_reducible rfl))) | (refine Plan.takeT (v := ?_) (a' := ?_) (Plan.want_yes (by rfl) (by rfl) (by rfl) (by rfl)) ?_ ?_ ?_; rotate_left 2; (· (intro w' hS'; (try dsimp only at hS'); go_simp; try with_reducible rfl)); (· (simp only [Act.put, Plan.l1, Plan.l2, Plan.l3]; try with_reducible rfl))) | fail)
            refine Plan.finT ?_
            go_wp2_with fail
            first | exact HM _ (by have kk := Kr4.out; exact Keeps.K) _ _ _ _ _ _ _ _ _ _ _ _ _ _ _ _ _ _ _ _ _ _ _ _ _ _ _ _ _ _ _ _ _ _ _ _ _ _ _ _ _ | (have kk := Kr4.out; exact Keeps.K)
          · go_wp2_with fail
            refine ⟨?_, ?_⟩
            (· go_simp)
            refine Plan.stepT ?_
            go_wp2_with fail
            refine ⟨?_, ?_⟩
            (· go_simp)
            iterate 1 (first | (refine Plan.takeT (v := ?_) (a' := ?_) (Plan.want_all (by rfl)) ?_ ?_ ?_; rotate_left 2; (· (intro w' hS'; (try dsimp only at hS'); go_simp; try with_reducible rfl)); (· (simp only [Act.put, Plan.l1, Plan.l2, Plan.l3]; try with_reducible rfl))) | (refine Plan.takeT (v := ?_) (a' := ?_) (Plan.want_yes (by rfl) (by rfl) (by rfl) (by rfl)) ?_ ?_ ?_; rotate_left 2; (· (intro w' hS'; (try dsimp only at hS'); go_simp; try with_reducible rfl)); (· (simp only [Act.put, Plan.l1, Plan.l2, Plan.l3]; try with_reducible rfl))) | fail)
            refine Plan.finT ?_
            go_wp2_with fail
            first | exact HM _ (by have kk := Kr4.out; exact Keeps.K) _ _ _ _ _ _ _ _ _ _ _ _ _ _ _ _ _ _ _ _ _ _ _ _ _ _ _ _ _ _ _ _ _ _ _ _ _ _ _ _ _ | (have kk := Kr4.out; exact Keeps.K)

end Go.Proofs.YtbbdmmhpbeleoaaGreatDoor
