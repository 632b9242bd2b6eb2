/- Joined of CmB, VaR, RdP. -/
import Derived.Test.YtbbdmmhpbeleoaaDoorQ14
import Derived.Lib.VarintBits
import Derived.Laws.Bits64b
import Derived.Lib.Zigzag

set_option linter.unusedSimpArgs false
set_option linter.unusedVariables false

/- May a command be, a reply be: both. -/
namespace Go.Proofs.YtbbdmmhpbeleoaaDoor
open Go Go.RowKit

theorem countsD_no {v f : Int} (h : countsD v f = false) : v < f ∨ (f ≤ v ∧ 1099511627776 < v) := by
  simp [countsD] at h
  omega
theorem countsD_yes {v f : Int} (h : countsD v f = true) : f ≤ v ∧ v ≤ 1099511627776 := by
  simpa [countsD] using h

set_option maxRecDepth 100000 in
set_option maxHeartbeats 8000000 in
theorem cmCheck_any (c : CmdD) (w : World) (hT : Tabs w) (hE : Errs w) (hs : c.value.s.size ≤ 9223372036854775806) : Calls Tryd.prog 19 #[cmdV c] w fun e w' => e = .returned (.bool (checkC c)) ∧ Keeps [] w w' := by
  obtain ⟨kd, se, sq, fd, vr, vk, vn, vs⟩ := c
  have HT := hid hT
  have HE := hid hE
  have HVS := hid hs
  clear hT hE hs
  unfold cmdV
  dsimp only
  by_cases k1 : kd = 1
  · subst k1
    go_enter Tryd.func19, Tryd.ntmps19
    go_wp2_with fail
    all_goals
      go_ret
      refine ⟨?_, by exact Keeps.K⟩
      clear HT HE HVS
      simp_all [checkC, noneV, emptyB]
  · by_cases ko : kd < 1 ∨ 4 < kd
    · have HD : Hid (checkC ⟨kd, se, sq, fd, vr, ⟨vk, vn, vs⟩⟩ = false) := by
        show _ = _
        unfold checkC
        rw [if_neg k1]
        dsimp only
        rw [if_neg (by omega), if_neg (by omega), if_neg (by omega)]
        simp
      have hko : kd < 1 ∨ (1 ≤ kd ∧ 4 < kd) := by omega
      clear ko k1
      rcases hko with q1 | ⟨q1, q2⟩
      all_goals
        go_enter Tryd.func19, Tryd.ntmps19
        go_wp2_with fail
        go_ret
        exact ⟨by rw [HD.out]; rfl, by exact Keeps.K⟩
    · have hk : kd = 2 ∨ kd = 3 ∨ kd = 4 := by omega
      clear ko k1
      rcases hk with rfl | rfl | rfl
      · obtain ⟨b3, hb3⟩ : ∃ b3, nameD fd = b3 := ⟨_, rfl⟩
        obtain ⟨b5, hb5⟩ : ∃ b5, checkD ⟨vk, vn, vs⟩ = b5 := ⟨_, rfl⟩
        have HC3 := hid (fun w1 hT1 hE1 => lxName_any fd w1 hT1 hE1)
        have HC5 := hid (fun w1 hT1 => vCheck_any ⟨vk, vn, vs⟩ w1 hT1 HVS.out)
        unfold valV at HC5
        dsimp only at HC5
        have HD : Hid (checkC ⟨2, se, sq, fd, vr, ⟨vk, vn, vs⟩⟩ = (countsD se 1 && countsD sq 1 && (b3 && countsD vr 0 && b5))) := by
          show _ = _
          unfold checkC
          simp [hb3, hb5]
        rw [hb3] at HC3
        rw [hb5] at HC5
        clear hb3 hb5
        have hses : (countsD se 1 = false ∧ (se < 1 ∨ (1 ≤ se ∧ 1099511627776 < se))) ∨ (countsD se 1 = true ∧ 1 ≤ se ∧ se ≤ 1099511627776) := by
          rcases h : countsD se 1 with _ | _
          · exact .inl ⟨rfl, countsD_no h⟩
          · exact .inr ⟨rfl, countsD_yes h⟩
        have hseq : (countsD sq 1 = false ∧ (sq < 1 ∨ (1 ≤ sq ∧ 1099511627776 < sq))) ∨ (countsD sq 1 = true ∧ 1 ≤ sq ∧ sq ≤ 1099511627776) := by
          rcases h : countsD sq 1 with _ | _
          · exact .inl ⟨rfl, countsD_no h⟩
          · exact .inr ⟨rfl, countsD_yes h⟩
        have HS := hid hses
        have HQ := hid hseq
        clear hses hseq
        rcases hv : countsD vr 0 with _ | _
        · have HF : Hid (checkC ⟨2, se, sq, fd, vr, ⟨vk, vn, vs⟩⟩ = false) := by
            show _ = _
            rw [HD.out, hv]
            simp
          have hc := countsD_no hv
          clear hv
          rcases hc with q1 | ⟨q1, q2⟩
          all_goals
            go_enter Tryd.func19, Tryd.ntmps19
            go_wp2_with fail
            go_ret
            exact ⟨by rw [HF.out]; rfl, by exact Keeps.K⟩
        · obtain ⟨v1, v2⟩ := countsD_yes hv
          rw [hv] at HD
          clear hv
          go_enter Tryd.func19, Tryd.ntmps19
          go_wp2_with fail
          obtain ⟨wA, hwA⟩ : ∃ wA, (w.alloc (.cells #[.int .i64 2, .int .i64 se, .int .i64 sq, .string fd, .int .i64 vr, .int .i64 vk, .int .i64 vn, .string vs] 34)).alloc (.cells #[.int .i64 0, .int .i64 se, .int .i64 sq, .string fd, .int .i64 vr, .int .i64 vk, .int .i64 vn, .string vs] 34) = wA := ⟨_, rfl⟩
          have KA : Hid (Keeps [] w wA) := by rw [← hwA]; exact Keeps.K
          have HRB : Hid (wA.heap[w.heap.size + 1]? = some (.cells #[.int .i64 0, .int .i64 se, .int .i64 sq, .string fd, .int .i64 vr, .int .i64 vk, .int .i64 vn, .string vs] 34 (0, 0))) := by
            have h1 := heap_alloc_new (w.alloc (.cells #[.int .i64 2, .int .i64 se, .int .i64 sq, .string fd, .int .i64 vr, .int .i64 vk, .int .i64 vn, .string vs] 34)) (.cells #[.int .i64 0, .int .i64 se, .int .i64 sq, .string fd, .int .i64 vr, .int .i64 vk, .int .i64 vn, .string vs] 34)
            rw [show (w.alloc (.cells #[.int .i64 2, .int .i64 se, .int .i64 sq, .string fd, .int .i64 vr, .int .i64 vk, .int .i64 vn, .string vs] 34)).heap.size = w.heap.size + 1 by simp, hwA] at h1
            exact h1
          have HRC : Hid (wA.heap[w.heap.size]? = some (.cells #[.int .i64 2, .int .i64 se, .int .i64 sq, .string fd, .int .i64 vr, .int .i64 vk, .int .i64 vn, .string vs] 34 (0, 0))) := by
            rw [← hwA]
            exact (((Keeps.refl [] (w.alloc (.cells #[.int .i64 2, .int .i64 se, .int .i64 sq, .string fd, .int .i64 vr, .int .i64 vk, .int .i64 vn, .string vs] 34))).alloc (.cells #[.int .i64 0, .int .i64 se, .int .i64 sq, .string fd, .int .i64 vr, .int .i64 vk, .int .i64 vn, .string vs] 34)).block w.heap.size (by simp) (by simp)).trans (heap_alloc_new _ _)
          have HROW : Hid (∀ w', Keeps [] wA w' → w'.heap[w.heap.size]? = some (.cells #[.int .i64 2, .int .i64 se, .int .i64 sq, .string fd, .int .i64 vr, .int .i64 vk, .int .i64 vn, .string vs] 34 (0, 0)) ∧ w'.heap[w.heap.size + 1]? = some (.cells #[.int .i64 0, .int .i64 se, .int .i64 sq, .string fd, .int .i64 vr, .int .i64 vk, .int .i64 vn, .string vs] 34 (0, 0))) := fun w' g => ⟨(g.block _ (Array.getElem?_eq_some_iff.1 HRC.out).1 (by simp)).trans HRC.out, (g.block _ (Array.getElem?_eq_some_iff.1 HRB.out).1 (by simp)).trans HRB.out⟩
          rw [hwA]
          clear hwA
          refine (HC5.out _ (HT.out.k KA.out)).mono ?_
          rintro e w2 ⟨rfl, hk⟩
          have Kw2 : Hid (Keeps [] wA w2) := hk
          clear hk
          obtain ⟨⟨x0, x1, x2, x3, x4, x5, x6, x7⟩, f0⟩ := blk8 (HROW.out _ Kw2.out).1
          obtain ⟨⟨y0, y1, y2, y3, y4, y5, y6, y7⟩, g0⟩ := blk8 (HROW.out _ Kw2.out).2
          rcases b5 with _ | _
          · have HF : Hid (checkC ⟨2, se, sq, fd, vr, ⟨vk, vn, vs⟩⟩ = false) := by
              show _ = _
              rw [HD.out]
              simp
            go_wp2_with fail
            go_ret
            exact ⟨by rw [HF.out]; rfl, KA.out.trans Kw2.out (fun _ _ h => h)⟩
          · go_wp2_with fail
            obtain ⟨wB, hwB⟩ : ∃ wB, (((w2.setCell ⟨w.heap.size + 1, 4, none⟩ (.int .i64 0)).setCell ⟨w.heap.size + 1, 5, none⟩ (.int .i64 0)).setCell ⟨w.heap.size + 1, 6, none⟩ (.int .i64 0)).setCell ⟨w.heap.size + 1, 7, none⟩ (.string ⟨#[]⟩) = wB := ⟨_, rfl⟩
            have K2B : Hid (Keeps [w.heap.size + 1] w2 wB) := by rw [← hwB]; exact Keeps.K
            have HBB : Hid (wB.heap[w.heap.size + 1]? = some (.cells #[.int .i64 0, .int .i64 se, .int .i64 sq, .string fd, .int .i64 0, .int .i64 0, .int .i64 0, .string ⟨#[]⟩] 34 (0, 0))) := by
              rw [← hwB]
              exact heap_setCell_same _ (w.heap.size + 1) 7 _ _ _ (heap_setCell_same _ (w.heap.size + 1) 6 _ _ _ (heap_setCell_same _ (w.heap.size + 1) 5 _ _ _ (heap_setCell_same _ (w.heap.size + 1) 4 _ _ _ (HROW.out _ Kw2.out).2)))
            have HBC : Hid (wB.heap[w.heap.size]? = some (.cells #[.int .i64 2, .int .i64 se, .int .i64 sq, .string fd, .int .i64 vr, .int .i64 vk, .int .i64 vn, .string vs] 34 (0, 0))) := (K2B.out.block _ (Array.getElem?_eq_some_iff.1 (HROW.out _ Kw2.out).1).1 (by simp)).trans (HROW.out _ Kw2.out).1
            have KwB : Hid (Keeps [] w wB) := (KA.out.trans Kw2.out (fun _ _ h => h)).trans K2B.out (fun b hb hb' => by simp at hb'; omega)
            rw [hwB]
            clear hwB x0 x1 x2 x3 x4 x5 x6 x7 f0 y0 y1 y2 y3 y4 y5 y6 y7 g0
            refine (HC3.out _ (HT.out.k KwB.out) (HE.out.k KwB.out)).mono ?_
            rintro e w3 ⟨rfl, hk⟩
            have Kw3 : Hid (Keeps [] wB w3) := hk
            clear hk
            obtain ⟨⟨x0, x1, x2, x3, x4, x5, x6, x7⟩, f0⟩ := blk8 ((Kw3.out.block _ (Array.getElem?_eq_some_iff.1 HBC.out).1 (by simp)).trans HBC.out)
            obtain ⟨⟨y0, y1, y2, y3, y4, y5, y6, y7⟩, g0⟩ := blk8 ((Kw3.out.block _ (Array.getElem?_eq_some_iff.1 HBB.out).1 (by simp)).trans HBB.out)
            rcases b3 with _ | _
            · have HF : Hid (checkC ⟨2, se, sq, fd, vr, ⟨vk, vn, vs⟩⟩ = false) := by
                show _ = _
                rw [HD.out]
                simp
              go_wp2_with fail
              go_ret
              exact ⟨by rw [HF.out]; rfl, KwB.out.trans Kw3.out (fun _ _ h => h)⟩
            · rcases HS.out with ⟨hb, hc⟩ | ⟨hb, q1, q2⟩
              · have HF : Hid (checkC ⟨2, se, sq, fd, vr, ⟨vk, vn, vs⟩⟩ = false) := by show _ = _; rw [HD.out, hb]; rfl
                clear hb
                rcases hc with q1 | ⟨q1, q2⟩
                all_goals
                  go_wp2_with fail
                  go_ret
                  exact ⟨by rw [HF.out]; rfl, (KwB.out.trans Kw3.out (fun _ _ h => h)).trans (G := [w.heap.size + 1]) (by exact Keeps.K) (fun b hb hb' => by simp at hb'; omega)⟩
              · rcases HQ.out with ⟨hb2, hc⟩ | ⟨hb2, q3, q4⟩
                · have HF : Hid (checkC ⟨2, se, sq, fd, vr, ⟨vk, vn, vs⟩⟩ = false) := by show _ = _; rw [HD.out, hb, hb2]; rfl
                  clear hb hb2
                  rcases hc with q3 | ⟨q3, q4⟩
                  all_goals
                    go_wp2_with fail
                    go_ret
                    exact ⟨by rw [HF.out]; rfl, (KwB.out.trans Kw3.out (fun _ _ h => h)).trans (G := [w.heap.size + 1]) (by exact Keeps.K) (fun b hb hb' => by simp at hb'; omega)⟩
                · have HF : Hid (checkC ⟨2, se, sq, fd, vr, ⟨vk, vn, vs⟩⟩ = true) := by show _ = _; rw [HD.out, hb, hb2]; rfl
                  clear hb hb2
                  go_wp2_with fail
                  go_ret
                  exact ⟨by rw [HF.out]; rfl, (KwB.out.trans Kw3.out (fun _ _ h => h)).trans (G := [w.heap.size + 1]) (by exact Keeps.K) (fun b hb hb' => by simp at hb'; omega)⟩
      · have HD : Hid (checkC ⟨3, se, sq, fd, vr, ⟨vk, vn, vs⟩⟩ = (countsD se 1 && countsD sq 1 && (emptyB fd && vr == 0 && noneV ⟨vk, vn, vs⟩))) := by
          show _ = _
          unfold checkC
          simp
        have hses : (countsD se 1 = false ∧ (se < 1 ∨ (1 ≤ se ∧ 1099511627776 < se))) ∨ (countsD se 1 = true ∧ 1 ≤ se ∧ se ≤ 1099511627776) := by
          rcases h : countsD se 1 with _ | _
          · exact .inl ⟨rfl, countsD_no h⟩
          · exact .inr ⟨rfl, countsD_yes h⟩
        have hseq : (countsD sq 1 = false ∧ (sq < 1 ∨ (1 ≤ sq ∧ 1099511627776 < sq))) ∨ (countsD sq 1 = true ∧ 1 ≤ sq ∧ sq ≤ 1099511627776) := by
          rcases h : countsD sq 1 with _ | _
          · exact .inl ⟨rfl, countsD_no h⟩
          · exact .inr ⟨rfl, countsD_yes h⟩
        have HS := hid hses
        have HQ := hid hseq
        clear hses hseq
        rcases HS.out with ⟨hb, hc⟩ | ⟨hb, q1, q2⟩
        · have HF : Hid (checkC ⟨3, se, sq, fd, vr, ⟨vk, vn, vs⟩⟩ = false) := by show _ = _; rw [HD.out, hb]; rfl
          clear hb
          rcases hc with q1 | ⟨q1, q2⟩
          all_goals
            go_enter Tryd.func19, Tryd.ntmps19
            go_wp2_with fail
            go_ret
            exact ⟨by rw [HF.out]; rfl, by exact Keeps.K⟩
        · rcases HQ.out with ⟨hb2, hc⟩ | ⟨hb2, q3, q4⟩
          · have HF : Hid (checkC ⟨3, se, sq, fd, vr, ⟨vk, vn, vs⟩⟩ = false) := by show _ = _; rw [HD.out, hb, hb2]; rfl
            clear hb hb2
            rcases hc with q3 | ⟨q3, q4⟩
            all_goals
              go_enter Tryd.func19, Tryd.ntmps19
              go_wp2_with fail
              go_ret
              exact ⟨by rw [HF.out]; rfl, by exact Keeps.K⟩
          · have HF : Hid (checkC ⟨3, se, sq, fd, vr, ⟨vk, vn, vs⟩⟩ = (emptyB fd && vr == 0 && noneV ⟨vk, vn, vs⟩)) := by show _ = _; rw [HD.out, hb, hb2]; rfl
            clear hb hb2
            go_enter Tryd.func19, Tryd.ntmps19
            go_wp2_with fail
            all_goals
              go_ret
              refine ⟨?_, by exact Keeps.K⟩
              have hf := HF.out
              clear HT HE HVS HD HS HQ HF q1 q2 q3 q4
              simp_all [noneV, emptyB]
      · obtain ⟨b3, hb3⟩ : ∃ b3, nameD fd = b3 := ⟨_, rfl⟩
        have HC3 := hid (fun w1 hT1 hE1 => lxName_any fd w1 hT1 hE1)
        have HD : Hid (checkC ⟨4, se, sq, fd, vr, ⟨vk, vn, vs⟩⟩ = (countsD se 1 && countsD sq 1 && (b3 && vr == 0 && noneV ⟨vk, vn, vs⟩))) := by
          show _ = _
          unfold checkC
          simp [hb3]
        rw [hb3] at HC3
        clear hb3
        have hses : (countsD se 1 = false ∧ (se < 1 ∨ (1 ≤ se ∧ 1099511627776 < se))) ∨ (countsD se 1 = true ∧ 1 ≤ se ∧ se ≤ 1099511627776) := by
          rcases h : countsD se 1 with _ | _
          · exact .inl ⟨rfl, countsD_no h⟩
          · exact .inr ⟨rfl, countsD_yes h⟩
        have hseq : (countsD sq 1 = false ∧ (sq < 1 ∨ (1 ≤ sq ∧ 1099511627776 < sq))) ∨ (countsD sq 1 = true ∧ 1 ≤ sq ∧ sq ≤ 1099511627776) := by
          rcases h : countsD sq 1 with _ | _
          · exact .inl ⟨rfl, countsD_no h⟩
          · exact .inr ⟨rfl, countsD_yes h⟩
        have HS := hid hses
        have HQ := hid hseq
        clear hses hseq
        go_enter Tryd.func19, Tryd.ntmps19
        go_wp2_with fail
        obtain ⟨wA, hwA⟩ : ∃ wA, (w.alloc (.cells #[.int .i64 4, .int .i64 se, .int .i64 sq, .string fd, .int .i64 vr, .int .i64 vk, .int .i64 vn, .string vs] 34)).alloc (.cells #[.int .i64 0, .int .i64 se, .int .i64 sq, .string fd, .int .i64 vr, .int .i64 vk, .int .i64 vn, .string vs] 34) = wA := ⟨_, rfl⟩
        have KA : Hid (Keeps [] w wA) := by rw [← hwA]; exact Keeps.K
        have HRB : Hid (wA.heap[w.heap.size + 1]? = some (.cells #[.int .i64 0, .int .i64 se, .int .i64 sq, .string fd, .int .i64 vr, .int .i64 vk, .int .i64 vn, .string vs] 34 (0, 0))) := by
          have h1 := heap_alloc_new (w.alloc (.cells #[.int .i64 4, .int .i64 se, .int .i64 sq, .string fd, .int .i64 vr, .int .i64 vk, .int .i64 vn, .string vs] 34)) (.cells #[.int .i64 0, .int .i64 se, .int .i64 sq, .string fd, .int .i64 vr, .int .i64 vk, .int .i64 vn, .string vs] 34)
          rw [show (w.alloc (.cells #[.int .i64 4, .int .i64 se, .int .i64 sq, .string fd, .int .i64 vr, .int .i64 vk, .int .i64 vn, .string vs] 34)).heap.size = w.heap.size + 1 by simp, hwA] at h1
          exact h1
        have HRC : Hid (wA.heap[w.heap.size]? = some (.cells #[.int .i64 4, .int .i64 se, .int .i64 sq, .string fd, .int .i64 vr, .int .i64 vk, .int .i64 vn, .string vs] 34 (0, 0))) := by
          rw [← hwA]
          exact (((Keeps.refl [] (w.alloc (.cells #[.int .i64 4, .int .i64 se, .int .i64 sq, .string fd, .int .i64 vr, .int .i64 vk, .int .i64 vn, .string vs] 34))).alloc (.cells #[.int .i64 0, .int .i64 se, .int .i64 sq, .string fd, .int .i64 vr, .int .i64 vk, .int .i64 vn, .string vs] 34)).block w.heap.size (by simp) (by simp)).trans (heap_alloc_new _ _)
        have HROW : Hid (∀ w', Keeps [] wA w' → w'.heap[w.heap.size]? = some (.cells #[.int .i64 4, .int .i64 se, .int .i64 sq, .string fd, .int .i64 vr, .int .i64 vk, .int .i64 vn, .string vs] 34 (0, 0)) ∧ w'.heap[w.heap.size + 1]? = some (.cells #[.int .i64 0, .int .i64 se, .int .i64 sq, .string fd, .int .i64 vr, .int .i64 vk, .int .i64 vn, .string vs] 34 (0, 0))) := fun w' g => ⟨(g.block _ (Array.getElem?_eq_some_iff.1 HRC.out).1 (by simp)).trans HRC.out, (g.block _ (Array.getElem?_eq_some_iff.1 HRB.out).1 (by simp)).trans HRB.out⟩
        rw [hwA]
        clear hwA
        refine (HC3.out _ (HT.out.k KA.out) (HE.out.k KA.out)).mono ?_
        rintro e w2 ⟨rfl, hk⟩
        have Kw2 : Hid (Keeps [] wA w2) := hk
        clear hk
        obtain ⟨⟨x0, x1, x2, x3, x4, x5, x6, x7⟩, f0⟩ := blk8 (HROW.out _ Kw2.out).1
        obtain ⟨⟨y0, y1, y2, y3, y4, y5, y6, y7⟩, g0⟩ := blk8 (HROW.out _ Kw2.out).2
        rcases b3 with _ | _
        · have HF : Hid (checkC ⟨4, se, sq, fd, vr, ⟨vk, vn, vs⟩⟩ = false) := by
            show _ = _
            rw [HD.out]
            simp
          go_wp2_with fail
          go_ret
          exact ⟨by rw [HF.out]; rfl, KA.out.trans Kw2.out (fun _ _ h => h)⟩
        · rcases HS.out with ⟨hb, hc⟩ | ⟨hb, q1, q2⟩
          · have HF : Hid (checkC ⟨4, se, sq, fd, vr, ⟨vk, vn, vs⟩⟩ = false) := by show _ = _; rw [HD.out, hb]; rfl
            clear hb
            rcases hc with q1 | ⟨q1, q2⟩
            all_goals
              go_wp2_with fail
              go_ret
              exact ⟨by rw [HF.out]; rfl, (KA.out.trans Kw2.out (fun _ _ h => h)).trans (G := [w.heap.size + 1]) (by exact Keeps.K) (fun b hb hb' => by simp at hb'; omega)⟩
          · rcases HQ.out with ⟨hb2, hc⟩ | ⟨hb2, q3, q4⟩
            · have HF : Hid (checkC ⟨4, se, sq, fd, vr, ⟨vk, vn, vs⟩⟩ = false) := by show _ = _; rw [HD.out, hb, hb2]; rfl
              clear hb hb2
              rcases hc with q3 | ⟨q3, q4⟩
              all_goals
                go_wp2_with fail
                go_ret
                exact ⟨by rw [HF.out]; rfl, (KA.out.trans Kw2.out (fun _ _ h => h)).trans (G := [w.heap.size + 1]) (by exact Keeps.K) (fun b hb hb' => by simp at hb'; omega)⟩
            · have HF : Hid (checkC ⟨4, se, sq, fd, vr, ⟨vk, vn, vs⟩⟩ = (vr == 0 && noneV ⟨vk, vn, vs⟩)) := by show _ = _; rw [HD.out, hb, hb2]; simp
              clear hb hb2
              go_wp2_with fail
              all_goals
                go_ret
                refine ⟨?_, (KA.out.trans Kw2.out (fun _ _ h => h)).trans (G := [w.heap.size + 1]) (by exact Keeps.K) (fun b hb hb' => by simp at hb'; omega)⟩
                have hf := HF.out
                clear x0 x1 x2 x3 x4 x5 x6 x7 f0 y0 y1 y2 y3 y4 y5 y6 y7 g0 HT HE HVS HD HS HQ HF HC3 HROW HRB HRC KA Kw2 q1 q2 q3 q4
                simp_all [noneV, emptyB]

end Go.Proofs.YtbbdmmhpbeleoaaDoor

/- Numbers read from bytes: plain. -/
namespace Go.Proofs.YtbbdmmhpbeleoaaDoor
open Go

def unzig (u : Nat) : Int := if u % 2 = 1 then -((u / 2 : Nat) : Int) - 1 else ((u / 2 : Nat) : Int)
theorem unzig_zigzag (v : Int) : unzig (Lib.zigzag v) = v := by
  unfold unzig Lib.zigzag
  repeat' split
  all_goals omega
/-- What is read at byte i: the number (none: it is wrong), and the bytes that were taken. -/
def rdGo : Nat → Nat → List UInt8 → Nat → Nat → Option Int × Nat
  | 0, _, _, _, c => (none, c)
  | _ + 1, _, [], _, c => (none, c)
  | f + 1, i, x :: l, u, c =>
    if (i = 9 ∧ 1 < x.toNat) ∨ (0 < i ∧ x.toNat = 0) then (none, c + 1)
    else if x.toNat < 128 then (some (unzig (u + x.toNat % 128 * 128 ^ i)), c + 1) else rdGo f (i + 1) l (u + x.toNat % 128 * 128 ^ i) (c + 1)
def rdInt (l : List UInt8) : Option Int × Nat := rdGo 10 0 l 0 0
theorem rdGo_uvarint : ∀ (f i x u c : Nat) (t : List UInt8), f + i = 10 → x < 128 ^ f → (i = 9 → x ≤ 1) → (0 < i → 0 < x) → 0 < f →
    (∀ k, i + k = 9 → x < 2 * 128 ^ k) → rdGo f i (Lib.uvarint x ++ t) u c = (some (unzig (u + x * 128 ^ i)), c + (Lib.uvarint x).length)
  | 0, _, _, _, _, _, _, _, _, _, h, _ => by omega
  | f + 1, i, x, u, c, t, hf, hx, h9, h0, _, hk => by
    by_cases hlt : x < 128
    · rw [Lib.uvarint_small hlt]
      show rdGo (f + 1) i (x.toUInt8 :: t) u c = _
      unfold rdGo
      rw [byte_nat x (by omega), if_neg (by omega), if_pos hlt, Nat.mod_eq_of_lt hlt]
      rfl
    · rw [Lib.uvarint_big (by omega)]
      show rdGo (f + 1) i ((x % 128 + 128).toUInt8 :: (Lib.uvarint (x / 128) ++ t)) u c = _
      have hi : i ≠ 9 := by intro h; have := h9 h; omega
      have hf0 : 0 < f := by
        rcases f with _ | f
        · omega
        · omega
      unfold rdGo
      rw [byte_nat (x % 128 + 128) (by omega), if_neg (by omega), if_neg (by omega)]
      have hx' : x / 128 < 128 ^ f := by rw [Nat.pow_succ] at hx; omega
      have hk' : ∀ k, i + 1 + k = 9 → x / 128 < 2 * 128 ^ k := fun k hh => by
        have := hk (k + 1) (by omega)
        rw [Nat.pow_succ] at this
        omega
      rw [rdGo_uvarint f (i + 1) (x / 128) _ _ t (by omega) hx' (fun h => by have := hk' 0 (by omega); simp at this; omega) (fun _ => by omega) hf0 hk']
      refine Prod.ext ?_ ?_
      · show some (unzig _) = some (unzig _)
        congr 2
        have e : (x % 128 + 128) % 128 = x % 128 := by omega
        rw [e, Nat.pow_succ, Nat.mul_comm (128 ^ i) 128, ← Nat.mul_assoc, Nat.add_assoc, ← Nat.add_mul]
        congr 2
        omega
      · show c + 1 + _ = c + ((Lib.uvarint (x / 128)).length + 1)
        omega
theorem rdInt_intL (v : Int) (hv : -9223372036854775808 ≤ v ∧ v ≤ 9223372036854775807) (t : List UInt8) : rdInt (intL v ++ t) = (some v, (intL v).length) := by
  have hz := Lib.zigzag_lt hv.1 hv.2
  unfold rdInt intL
  rw [rdGo_uvarint 10 0 (Lib.zigzag v) 0 0 t rfl (by omega) (by omega) (by omega) (by omega) (fun k hk => by
    obtain rfl : k = 9 := by omega
    have e : 2 * 128 ^ 9 = 18446744073709551616 := by decide
    omega)]
  simp [unzig_zigzag]

end Go.Proofs.YtbbdmmhpbeleoaaDoor

/- Bits of a number that is read: plain. -/
namespace Go.Proofs.YtbbdmmhpbeleoaaDoor
open Go Go.RowKit

theorem pow128 (k : Nat) : (2 : Nat) ^ (7 * k) = 128 ^ k := by rw [Nat.pow_mul]
theorem step_lt {k x : Nat} (hk : k ≤ 9) (h9 : k = 9 → x ≤ 1) : x % 128 * 128 ^ k < 18446744073709551616 := by
  by_cases h : k = 9
  · have := h9 h
    subst h
    have e : (128 : Nat) ^ 9 = 9223372036854775808 := by decide
    rw [e]
    omega
  · have h1 : (128 : Nat) ^ k ≤ 128 ^ 8 := Nat.pow_le_pow_right (by decide) (by omega)
    have e : (128 : Nat) ^ 8 = 72057594037927936 := by decide
    rw [e] at h1
    have h2 : x % 128 * 128 ^ k ≤ 127 * 72057594037927936 := Nat.mul_le_mul (by omega) h1
    omega
theorem u64_id {n : Nat} (h : n < 18446744073709551616) : IntKind.u64.wrap (n : Int) = (n : Int) := by rw [IntKind.wrap_u64]; omega
theorem or_step (u k x : Nat) (hu : u < 128 ^ k) (hk : k ≤ 9) (hx : x < 256) (h9 : k = 9 → x ≤ 1) :
    bits .or .u64 (u : Int) (IntKind.u64.wrap (IntKind.u64.wrap (bits .and .u8 (x : Int) 127) * 2 ^ (7 * k))) = ((u + x % 128 * 128 ^ k : Nat) : Int) := by
  have hs := step_lt hk h9
  have hu64 : u < 18446744073709551616 := by
    have h1 : (128 : Nat) ^ k ≤ 128 ^ 9 := Nat.pow_le_pow_right (by decide) hk
    have e : (128 : Nat) ^ 9 = 9223372036854775808 := by decide
    omega
  rw [u8_and127 _ (by omega) (by omega), show ((x : Int) % 128) = ((x % 128 : Nat) : Int) by omega, u64_id (by omega)]
  have e : ((x % 128 : Nat) : Int) * 2 ^ (7 * k) = ((x % 128 * 128 ^ k : Nat) : Int) := by
    rw [← pow128]; push_cast; rfl
  rw [e, u64_id hs, bits_or_u64_nat _ _ hu64 hs]
  congr 1
  have hp : u < 2 ^ (7 * k) := by rw [pow128]; exact hu
  have := Nat.two_pow_add_eq_or_of_lt hp (x % 128)
  rw [Nat.or_comm, Nat.mul_comm (x % 128) (128 ^ k), ← pow128, ← this]
  omega
theorem step_bound {u k x : Nat} (hu : u < 128 ^ k) : u + x % 128 * 128 ^ k < 128 ^ (k + 1) := by
  rw [Nat.pow_succ]
  have h : x % 128 * 128 ^ k ≤ 127 * 128 ^ k := Nat.mul_le_mul_right _ (by omega)
  omega

theorem unzig_bits (z : Nat) (hz : z < 18446744073709551616) : bits .xor .i64 (wrap64 ((z : Int) / 2)) (wrap64 (-wrap64 (bits .and .u64 (z : Int) 1))) = unzig z := by
  rw [Lib.u64_and1 _ (by omega) (by omega)]
  have h1 : wrap64 ((z : Int) / 2) = ((z / 2 : Nat) : Int) := by unfold wrap64; omega
  rw [h1]
  unfold unzig
  have hc : ∀ x y : Int, bits .xor .i64 x y = bits .xor .i64 y x := fun x y => by simp [bits, BitVec.xor_comm]
  by_cases h : z % 2 = 1
  · have h2 : wrap64 (-wrap64 ((z : Int) % 2)) = -1 := by unfold wrap64; omega
    rw [h2, if_pos h, hc, Lib.i64_not _ (by omega)]
  · have h2 : wrap64 (-wrap64 ((z : Int) % 2)) = 0 := by unfold wrap64; omega
    rw [h2, if_neg h]
    have h3 : IntKind.i64.wrap ((z / 2 : Nat) : Int) = ((z / 2 : Nat) : Int) := by rw [IntKind.wrap_i64]; omega
    show IntKind.i64.wrap ((BitVec.ofInt 64 ((z / 2 : Nat) : Int) ^^^ BitVec.ofInt 64 0).toNat : Int) = _
    have h4 : (BitVec.ofInt 64 ((z / 2 : Nat) : Int)).toNat = z / 2 := by
      rw [BitVec.ofInt_natCast, BitVec.toNat_ofNat]; exact Nat.mod_eq_of_lt (by omega)
    have h5 : (BitVec.ofInt 64 0).toNat = 0 := by decide
    rw [BitVec.toNat_xor, h4, h5, Nat.xor_zero]
    exact h3

end Go.Proofs.YtbbdmmhpbeleoaaDoor
