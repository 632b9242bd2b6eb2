/- Joined of CmD, CmB, VaR. -/
import Derived.Test.YtnjdepojmnniaaaGreatDoorQ19
import Derived.Test.YtnjdepojmnniaaaGreatDoorQ20
import Derived.Test.YtnjdepojmnniaaaGreatDoorQ02

set_option linter.unusedSimpArgs false
set_option linter.unusedVariables false

/- A command's bytes, as the program puts them. -/
namespace Go.Proofs.YtnjdepojmnniaaaGreatDoor
open Go Go.RowKit

/-- A command whose numbers are int64s, whose texts are short. -/
structure CmdW (c : CmdD) : Prop where
  kind : I64 c.kind
  session : I64 c.session
  seq : I64 c.seq
  version : I64 c.version
  vkind : I64 c.value.kind
  vn : I64 c.value.n
  field : c.field.size ≤ 1000000
  vs : c.value.s.size ≤ 1000000
theorem PutPost.up {bs xs ys : List UInt8} {w wA : World} {e : Ending} {w' : World} (h : PutPost bs xs wA e w') (hk : Keeps [] w wA) (he : bs ++ xs = ys) : PutPost [] ys w e w' := by
  obtain ⟨a, q, h1, h2, h3⟩ := h
  subst he
  exact ⟨a, q, by rw [h1, List.nil_append], by rw [List.nil_append]; exact ownsRow_base h2 hk.size, hk.trans h3 (fun _ _ h => h)⟩

theorem PutPost.is {ys l : List UInt8} {w w' : World} {a : Option Addr} {q : Nat} (h : ys = l) (ho : w'.ownsRow w.heap.size 5 1 (.slice a l.length q) l.length (u8s l)) (hk : Keeps [] w w') : PutPost [] ys w (.returned (.slice a l.length q)) w' := by
  subst h
  exact ⟨a, q, rfl, ho, hk⟩
set_option maxRecDepth 100000 in
set_option maxHeartbeats 8000000 in
theorem cmPut_any (c : CmdD) (hc : CmdW c) (w : World) : Calls Tryz.prog 41 #[cmdV c] w (PutPost [] (putC c) w) := by
  obtain ⟨kd, se, sq, fd, vr, vk, vn, vs⟩ := c
  have HC := hid hc
  clear hc
  have lk := intL_len HC.out.kind
  have ls := intL_len HC.out.session
  have lq := intL_len HC.out.seq
  have lv := intL_len HC.out.version
  have hfd := HC.out.field
  have hvs := HC.out.vs
  dsimp only at lk ls lq lv hfd hvs
  unfold cmdV
  dsimp only
  go_enter Tryz.func41, Tryz.ntmps41
  go_wp2_with fail
  obtain ⟨wA, hwA⟩ : ∃ wA, w.alloc (.cells #[.int .i64 kd, .int .i64 se, .int .i64 sq, .string fd, .int .i64 vr, .int .i64 vk, .int .i64 vn, .string vs] 34) = wA := ⟨_, rfl⟩
  have KA : Hid (Keeps [] w wA) := by rw [← hwA]; exact Keeps.K
  have HA : Hid (wA.heap[w.heap.size]? = some (.cells #[.int .i64 kd, .int .i64 se, .int .i64 sq, .string fd, .int .i64 vr, .int .i64 vk, .int .i64 vn, .string vs] 34 (0, 0))) := by rw [← hwA]; exact heap_alloc_new _ _
  have HROW : Hid (∀ w', Keeps [] wA w' → w'.heap[w.heap.size]? = some (.cells #[.int .i64 kd, .int .i64 se, .int .i64 sq, .string fd, .int .i64 vr, .int .i64 vk, .int .i64 vn, .string vs] 34 (0, 0))) := fun w' g => (g.block _ (Array.getElem?_eq_some_iff.1 HA.out).1 (by simp)).trans HA.out
  rw [hwA]
  clear hwA
  refine (putInt_any none [] 0 kd HC.out.kind wA ⟨rfl, .inl ⟨rfl, none, 0, rfl⟩⟩ (by simp)).mono ?_
  intro e w1 hp
  obtain ⟨a1, q1, rfl, h1, h2⟩ := hp
  rw [List.nil_append] at h1 ⊢
  obtain ⟨l1, hl1⟩ : ∃ l1, Lib.uvarint (Lib.zigzag kd) = l1 := ⟨_, rfl⟩
  have HL1 : Hid (intL kd = l1) := hl1
  have hz1 : l1.length ≤ 10 := by rw [← hl1]; exact lk
  rw [hl1] at h1 ⊢
  have O1 : Hid (w1.ownsRow w.heap.size 5 1 (.slice a1 l1.length q1) l1.length (u8s l1)) := ownsRow_base h1 KA.out.size
  have K1 := hid h2
  obtain ⟨⟨x0, x1, x2, x3, x4, x5, x6, x7⟩, f0⟩ := blk8 (HROW.out _ h2)
  clear h1 h2 hl1
  by_cases k1 : kd = 1
  · subst k1
    go_wp2_with fail
    go_ret
    exact PutPost.is (by rw [← HL1.out]; unfold putC; simp) O1.out (KA.out.trans K1.out (fun _ _ h => h))
  · have n1 : (kd == 1) = false := by simp; exact k1
    go_wp2_with fail
    refine Plan.wp_region_plan (fun wx => wx.cell? ⟨w.heap.size, 1, none⟩ = some (.int .i64 se) ∧ wx.cell? ⟨w.heap.size, 2, none⟩ = some (.int .i64 sq)) 6 [(true, 0), (true, 1), (true, 2), (true, 4), (true, 5), (false, 3)] (by kernel_rfl) (by as_aux_lemma => kernel_rfl) (by kernel_rfl) (fun _ _ _ _ _ h => h) ?_ (fun hS => ?_)
    (· go_simp)
    simp only [Plan.pick, List.append_eq, List.cons_append, List.nil_append, Plan.g1, Plan.g2, Option.getD_some, List.drop_succ_cons, List.drop_zero]
    iterate 5 (first | refine Plan.tA ?_ | refine Plan.tY ?_ | refine Plan.pN ?_ | refine Plan.pU ?_ | fail)
    refine Plan.step ?_
    go_wp2_with fail
    refine (putInt_any a1 l1 q1 se HC.out.session _ (Reads.k0 (Reads.ofOwn O1.out) (by exact Keeps.K)) (by omega)).mono ?_
    intro e w2 hp
    obtain ⟨a2, q2, rfl, h1, h2⟩ := hp
    obtain ⟨l2, hl2⟩ : ∃ l2, l1 ++ Lib.uvarint (Lib.zigzag se) = l2 := ⟨_, rfl⟩
    have HL2 : Hid (intL kd ++ intL se = l2) := by show _ = _; rw [HL1.out]; exact hl2
    have hz2 : l2.length ≤ 20 := by rw [← hl2, List.length_append]; unfold intL at ls; omega
    rw [hl2] at h1 ⊢
    have K2 : Hid (Keeps [] wA w2) := K1.out.trans (Keeps.trans (G := []) (by exact Keeps.K) h2 (fun _ _ h => h)) (fun _ _ h => h)
    have O2 : Hid (w2.ownsRow w.heap.size 5 1 (.slice a2 l2.length q2) l2.length (u8s l2)) := ownsRow_base h1 (Nat.le_trans KA.out.size K1.out.size)
    clear h1 h2 hl2 hS x0 x1 x2 x3 x4 x5 x6 x7 f0
    obtain ⟨⟨x0, x1, x2, x3, x4, x5, x6, x7⟩, f0⟩ := blk8 (HROW.out _ K2.out)
    go_wp2_with fail
    refine ⟨?_, ?_⟩
    (· go_simp)
    refine Plan.fin ?_
    go_wp2_with fail
    refine (putInt_any a2 l2 q2 sq HC.out.seq _ (Reads.k0 (Reads.ofOwn O2.out) (by exact Keeps.K)) (by omega)).mono ?_
    intro e w3 hp
    obtain ⟨a3, q3, rfl, h1, h2⟩ := hp
    obtain ⟨l3, hl3⟩ : ∃ l3, l2 ++ Lib.uvarint (Lib.zigzag sq) = l3 := ⟨_, rfl⟩
    have HL3 : Hid (intL kd ++ intL se ++ intL sq = l3) := by show _ = _; rw [HL2.out]; exact hl3
    have hz3 : l3.length ≤ 30 := by rw [← hl3, List.length_append]; unfold intL at lq; omega
    rw [hl3] at h1 ⊢
    have K3 : Hid (Keeps [] wA w3) := K2.out.trans (Keeps.trans (G := []) (by exact Keeps.K) h2 (fun _ _ h => h)) (fun _ _ h => h)
    have O3 : Hid (w3.ownsRow w.heap.size 5 1 (.slice a3 l3.length q3) l3.length (u8s l3)) := ownsRow_base h1 (Nat.le_trans KA.out.size K2.out.size)
    clear h1 h2 hl3 x0 x1 x2 x3 x4 x5 x6 x7 f0
    obtain ⟨⟨x0, x1, x2, x3, x4, x5, x6, x7⟩, f0⟩ := blk8 (HROW.out _ K3.out)
    by_cases k2 : kd = 2
    · subst k2
      clear k1 n1
      go_wp2_with fail
      refine Plan.wp_region_plan (fun wx => (wx.cell? ⟨w.heap.size, 3, none⟩ = some (.string fd) ∧ wx.cell? ⟨w.heap.size, 4, none⟩ = some (.int .i64 vr)) ∧ wx.cell? ⟨w.heap.size, 5, none⟩ = some (.int .i64 vk) ∧ wx.cell? ⟨w.heap.size, 6, none⟩ = some (.int .i64 vn) ∧ wx.cell? ⟨w.heap.size, 7, none⟩ = some (.string vs)) 9 [(true, 0), (true, 1), (true, 2), (true, 4), (true, 5), (true, 7), (true, 8), (false, 3), (false, 6)] (by kernel_rfl) (by as_aux_lemma => kernel_rfl) (by kernel_rfl) (fun _ _ _ _ _ h => h) ?_ (fun hS => ?_)
      (· go_simp)
      simp only [Plan.pick, List.append_eq, List.cons_append, List.nil_append, Plan.g1, Plan.g2, Option.getD_some, List.drop_succ_cons, List.drop_zero]
      iterate 7 (first | refine Plan.tA ?_ | refine Plan.tY ?_ | refine Plan.pN ?_ | refine Plan.pU ?_ | fail)
      refine Plan.step ?_
      go_wp2_with fail
      refine (putText_any a3 l3 l3.length rfl q3 fd _ (Reads.k0 (Reads.ofOwn O3.out) (by exact Keeps.K)) (by omega) hfd).mono ?_
      intro e w4 hp
      obtain ⟨a4, q4, rfl, h1, h2⟩ := hp
      obtain ⟨l4, hl4⟩ : ∃ l4, l3 ++ textL fd = l4 := ⟨_, rfl⟩
      rw [hl4] at h1 ⊢
      have HL4 := hid hl4
      have hz4 : l4.length ≤ 1000050 := by
        have := intL_len (show I64 (fd.size : Int) from ⟨by omega, by omega⟩)
        have e : fd.data.toList.length = fd.size := by rw [Array.length_toList]; rfl
        rw [← hl4, List.length_append]
        unfold textL
        rw [List.length_append, e]
        omega
      have O4 : Hid (w4.ownsRow w.heap.size 5 1 (.slice a4 l4.length q4) l4.length (u8s l4)) := ownsRow_base h1 (Nat.le_trans KA.out.size K3.out.size)
      have K4 : Hid (Keeps [] wA w4) := K3.out.trans (Keeps.trans (G := []) (by exact Keeps.K) h2 (fun _ _ h => h)) (fun _ _ h => h)
      clear h1 h2 hl4 hS x0 x1 x2 x3 x4 x5 x6 x7 f0
      obtain ⟨⟨x0, x1, x2, x3, x4, x5, x6, x7⟩, f0⟩ := blk8 (HROW.out _ K4.out)
      go_wp2_with fail
      refine ⟨?_, ?_⟩
      (· go_simp)
      refine Plan.step ?_
      go_wp2_with fail
      refine (putInt_any a4 l4 q4 vr HC.out.version _ (Reads.k0 (Reads.ofOwn O4.out) (by exact Keeps.K)) (by omega)).mono ?_
      intro e w5 hp
      obtain ⟨a5, q5, rfl, h1, h2⟩ := hp
      obtain ⟨l5, hl5⟩ : ∃ l5, l4 ++ Lib.uvarint (Lib.zigzag vr) = l5 := ⟨_, rfl⟩
      have HL5 : Hid (l4 ++ intL vr = l5) := hl5
      have hz5 : l5.length ≤ 1000060 := by rw [← hl5, List.length_append]; unfold intL at lv; omega
      rw [hl5] at h1 ⊢
      have K5 : Hid (Keeps [] wA w5) := K4.out.trans (Keeps.trans (G := []) (by exact Keeps.K) h2 (fun _ _ h => h)) (fun _ _ h => h)
      have O5 : Hid (w5.ownsRow w.heap.size 5 1 (.slice a5 l5.length q5) l5.length (u8s l5)) := ownsRow_base h1 (Nat.le_trans KA.out.size K4.out.size)
      clear h1 h2 hl5 x0 x1 x2 x3 x4 x5 x6 x7 f0
      obtain ⟨⟨x0, x1, x2, x3, x4, x5, x6, x7⟩, f0⟩ := blk8 (HROW.out _ K5.out)
      go_wp2_with fail
      refine ⟨?_, ?_⟩
      (· go_simp)
      refine Plan.fin ?_
      go_wp2_with fail
      refine (vPut_any a5 l5 l5.length rfl q5 ⟨vk, vn, vs⟩ _ (Reads.k0 (Reads.ofOwn O5.out) (by exact Keeps.K)) (by dsimp only; omega) hvs HC.out.vkind HC.out.vn).mono ?_
      intro e w6 hp
      obtain ⟨a6, q6, rfl, h1, h2⟩ := hp
      obtain ⟨l6, hl6⟩ : ∃ l6, l5 ++ putL ⟨vk, vn, vs⟩ = l6 := ⟨_, rfl⟩
      rw [hl6] at h1 ⊢
      have HL6 := hid hl6
      have O6 : Hid (w6.ownsRow w.heap.size 5 1 (.slice a6 l6.length q6) l6.length (u8s l6)) := ownsRow_base h1 (Nat.le_trans KA.out.size K5.out.size)
      have K6 : Hid (Keeps [] w w6) := KA.out.trans (K5.out.trans (Keeps.trans (G := []) (by exact Keeps.K) h2 (fun _ _ h => h)) (fun _ _ h => h)) (fun _ _ h => h)
      clear h1 h2 hl6
      go_wp2_with fail
      go_ret
      exact PutPost.is (by rw [← HL6.out, ← HL5.out, ← HL4.out, ← HL3.out]; unfold putC; simp) O6.out K6.out
    · have n2 : (kd == 2) = false := by simp; exact k2
      by_cases k4 : kd = 4
      · subst k4
        clear k1 n1 k2 n2
        go_wp2_with fail
        refine (putText_any a3 l3 l3.length rfl q3 fd _ (Reads.k0 (Reads.ofOwn O3.out) (by exact Keeps.K)) (by omega) hfd).mono ?_
        intro e w4 hp
        obtain ⟨a4, q4, rfl, h1, h2⟩ := hp
        obtain ⟨l4, hl4⟩ : ∃ l4, l3 ++ textL fd = l4 := ⟨_, rfl⟩
        rw [hl4] at h1 ⊢
        have HL4 := hid hl4
        have O4 : Hid (w4.ownsRow w.heap.size 5 1 (.slice a4 l4.length q4) l4.length (u8s l4)) := ownsRow_base h1 (Nat.le_trans KA.out.size K3.out.size)
        have K4 : Hid (Keeps [] w w4) := KA.out.trans (K3.out.trans (Keeps.trans (G := []) (by exact Keeps.K) h2 (fun _ _ h => h)) (fun _ _ h => h)) (fun _ _ h => h)
        clear h1 h2 hl4
        go_wp2_with fail
        go_ret
        exact PutPost.is (by rw [← HL4.out, ← HL3.out]; unfold putC; simp) O4.out K4.out
      · have n4 : (kd == 4) = false := by simp; exact k4
        have HE : Hid (putC ⟨kd, se, sq, fd, vr, ⟨vk, vn, vs⟩⟩ = l3) := by
          show _ = _
          rw [← HL3.out]
          unfold putC
          simp [k1, k2, k4]
        clear k1 k2 k4
        go_wp2_with fail
        go_ret
        exact PutPost.is HE.out O3.out (KA.out.trans (K3.out.trans (G := []) (by exact Keeps.K) (fun _ _ h => h)) (fun _ _ h => h))

end Go.Proofs.YtnjdepojmnniaaaGreatDoor

/- May a command be, a reply be: both. -/
namespace Go.Proofs.YtnjdepojmnniaaaGreatDoor
open Go Go.RowKit

theorem countsD_no {v f : Int} (h : countsD v f = false) : v < f ∨ (f ≤ v ∧ 1099511627776 < v) := by
  simp [countsD] at h
  omega
theorem countsD_yes {v f : Int} (h : countsD v f = true) : f ≤ v ∧ v ≤ 1099511627776 := by
  simpa [countsD] using h

set_option maxRecDepth 100000 in
set_option maxHeartbeats 8000000 in
theorem cmCheck_any (c : CmdD) (w : World) (hT : Tabs w) (hE : Errs w) (hs : c.value.s.size ≤ 9223372036854775806) : Calls Tryz.prog 22 #[cmdV c] w fun e w' => e = .returned (.bool (checkC c)) ∧ Keeps [] w w' := by
  obtain ⟨kd, se, sq, fd, vr, vk, vn, vs⟩ := c
  have HT := hid hT
  have HE := hid hE
  have HVS := hid hs
  clear hT hE hs
  unfold cmdV
  dsimp only
  by_cases k1 : kd = 1
  · subst k1
    go_enter Tryz.func22, Tryz.ntmps22
    go_wp2_with fail
    all_goals
      go_ret
      refine ⟨?_, by exact Keeps.K⟩
      clear HT HE HVS
      simp_all [checkC, noneV, emptyB]
  · by_cases ko : kd < 1 ∨ 4 < kd
    · have HD : Hid (checkC ⟨kd, se, sq, fd, vr, ⟨vk, vn, vs⟩⟩ = false) := by
        show _ = _
        unfold checkC
        rw [if_neg k1]
        dsimp only
        rw [if_neg (by omega), if_neg (by omega), if_neg (by omega)]
        simp
      have hko : kd < 1 ∨ (1 ≤ kd ∧ 4 < kd) := by omega
      clear ko k1
      rcases hko with q1 | ⟨q1, q2⟩
      all_goals
        go_enter Tryz.func22, Tryz.ntmps22
        go_wp2_with fail
        go_ret
        exact ⟨by rw [HD.out]; rfl, by exact Keeps.K⟩
    · have hk : kd = 2 ∨ kd = 3 ∨ kd = 4 := by omega
      clear ko k1
      rcases hk with rfl | rfl | rfl
      · obtain ⟨b3, hb3⟩ : ∃ b3, nameD fd = b3 := ⟨_, rfl⟩
        obtain ⟨b5, hb5⟩ : ∃ b5, checkD ⟨vk, vn, vs⟩ = b5 := ⟨_, rfl⟩
        have HC3 := hid (fun w1 hT1 hE1 => lxName_any fd w1 hT1 hE1)
        have HC5 := hid (fun w1 hT1 => vCheck_any ⟨vk, vn, vs⟩ w1 hT1 HVS.out)
        unfold valV at HC5
        dsimp only at HC5
        have HD : Hid (checkC ⟨2, se, sq, fd, vr, ⟨vk, vn, vs⟩⟩ = (countsD se 1 && countsD sq 1 && (b3 && countsD vr 0 && b5))) := by
          show _ = _
          unfold checkC
          simp [hb3, hb5]
        rw [hb3] at HC3
        rw [hb5] at HC5
        clear hb3 hb5
        have hses : (countsD se 1 = false ∧ (se < 1 ∨ (1 ≤ se ∧ 1099511627776 < se))) ∨ (countsD se 1 = true ∧ 1 ≤ se ∧ se ≤ 1099511627776) := by
          rcases h : countsD se 1 with _ | _
          · exact .inl ⟨rfl, countsD_no h⟩
          · exact .inr ⟨rfl, countsD_yes h⟩
        have hseq : (countsD sq 1 = false ∧ (sq < 1 ∨ (1 ≤ sq ∧ 1099511627776 < sq))) ∨ (countsD sq 1 = true ∧ 1 ≤ sq ∧ sq ≤ 1099511627776) := by
          rcases h : countsD sq 1 with _ | _
          · exact .inl ⟨rfl, countsD_no h⟩
          · exact .inr ⟨rfl, countsD_yes h⟩
        have HS := hid hses
        have HQ := hid hseq
        clear hses hseq
        rcases hv : countsD vr 0 with _ | _
        · have HF : Hid (checkC ⟨2, se, sq, fd, vr, ⟨vk, vn, vs⟩⟩ = false) := by
            show _ = _
            rw [HD.out, hv]
            simp
          have hc := countsD_no hv
          clear hv
          rcases hc with q1 | ⟨q1, q2⟩
          all_goals
            go_enter Tryz.func22, Tryz.ntmps22
            go_wp2_with fail
            go_ret
            exact ⟨by rw [HF.out]; rfl, by exact Keeps.K⟩
        · obtain ⟨v1, v2⟩ := countsD_yes hv
          rw [hv] at HD
          clear hv
          go_enter Tryz.func22, Tryz.ntmps22
          go_wp2_with fail
          obtain ⟨wA, hwA⟩ : ∃ wA, (w.alloc (.cells #[.int .i64 2, .int .i64 se, .int .i64 sq, .string fd, .int .i64 vr, .int .i64 vk, .int .i64 vn, .string vs] 34)).alloc (.cells #[.int .i64 0, .int .i64 se, .int .i64 sq, .string fd, .int .i64 vr, .int .i64 vk, .int .i64 vn, .string vs] 34) = wA := ⟨_, rfl⟩
          have KA : Hid (Keeps [] w wA) := by rw [← hwA]; exact Keeps.K
          have HRB : Hid (wA.heap[w.heap.size + 1]? = some (.cells #[.int .i64 0, .int .i64 se, .int .i64 sq, .string fd, .int .i64 vr, .int .i64 vk, .int .i64 vn, .string vs] 34 (0, 0))) := by
            have h1 := heap_alloc_new (w.alloc (.cells #[.int .i64 2, .int .i64 se, .int .i64 sq, .string fd, .int .i64 vr, .int .i64 vk, .int .i64 vn, .string vs] 34)) (.cells #[.int .i64 0, .int .i64 se, .int .i64 sq, .string fd, .int .i64 vr, .int .i64 vk, .int .i64 vn, .string vs] 34)
            rw [show (w.alloc (.cells #[.int .i64 2, .int .i64 se, .int .i64 sq, .string fd, .int .i64 vr, .int .i64 vk, .int .i64 vn, .string vs] 34)).heap.size = w.heap.size + 1 by simp, hwA] at h1
            exact h1
          have HRC : Hid (wA.heap[w.heap.size]? = some (.cells #[.int .i64 2, .int .i64 se, .int .i64 sq, .string fd, .int .i64 vr, .int .i64 vk, .int .i64 vn, .string vs] 34 (0, 0))) := by
            rw [← hwA]
            exact (((Keeps.refl [] (w.alloc (.cells #[.int .i64 2, .int .i64 se, .int .i64 sq, .string fd, .int .i64 vr, .int .i64 vk, .int .i64 vn, .string vs] 34))).alloc (.cells #[.int .i64 0, .int .i64 se, .int .i64 sq, .string fd, .int .i64 vr, .int .i64 vk, .int .i64 vn, .string vs] 34)).block w.heap.size (by simp) (by simp)).trans (heap_alloc_new _ _)
          have HROW : Hid (∀ w', Keeps [] wA w' → w'.heap[w.heap.size]? = some (.cells #[.int .i64 2, .int .i64 se, .int .i64 sq, .string fd, .int .i64 vr, .int .i64 vk, .int .i64 vn, .string vs] 34 (0, 0)) ∧ w'.heap[w.heap.size + 1]? = some (.cells #[.int .i64 0, .int .i64 se, .int .i64 sq, .string fd, .int .i64 vr, .int .i64 vk, .int .i64 vn, .string vs] 34 (0, 0))) := fun w' g => ⟨(g.block _ (Array.getElem?_eq_some_iff.1 HRC.out).1 (by simp)).trans HRC.out, (g.block _ (Array.getElem?_eq_some_iff.1 HRB.out).1 (by simp)).trans HRB.out⟩
          rw [hwA]
          clear hwA
          refine (HC5.out _ (HT.out.k KA.out)).mono ?_
          rintro e w2 ⟨rfl, hk⟩
          have Kw2 : Hid (Keeps [] wA w2) := hk
          clear hk
          obtain ⟨⟨x0, x1, x2, x3, x4, x5, x6, x7⟩, f0⟩ := blk8 (HROW.out _ Kw2.out).1
          obtain ⟨⟨y0, y1, y2, y3, y4, y5, y6, y7⟩, g0⟩ := blk8 (HROW.out _ Kw2.out).2
          rcases b5 with _ | _
          · have HF : Hid (checkC ⟨2, se, sq, fd, vr, ⟨vk, vn, vs⟩⟩ = false) := by
              show _ = _
              rw [HD.out]
              simp
            go_wp2_with fail
            go_ret
            exact ⟨by rw [HF.out]; rfl, KA.out.trans Kw2.out (fun _ _ h => h)⟩
          · go_wp2_with fail
            obtain ⟨wB, hwB⟩ : ∃ wB, (((w2.setCell ⟨w.heap.size + 1, 4, none⟩ (.int .i64 0)).setCell ⟨w.heap.size + 1, 5, none⟩ (.int .i64 0)).setCell ⟨w.heap.size + 1, 6, none⟩ (.int .i64 0)).setCell ⟨w.heap.size + 1, 7, none⟩ (.string ⟨#[]⟩) = wB := ⟨_, rfl⟩
            have K2B : Hid (Keeps [w.heap.size + 1] w2 wB) := by rw [← hwB]; exact Keeps.K
            have HBB : Hid (wB.heap[w.heap.size + 1]? = some (.cells #[.int .i64 0, .int .i64 se, .int .i64 sq, .string fd, .int .i64 0, .int .i64 0, .int .i64 0, .string ⟨#[]⟩] 34 (0, 0))) := by
              rw [← hwB]
              exact heap_setCell_same _ (w.heap.size + 1) 7 _ _ _ (heap_setCell_same _ (w.heap.size + 1) 6 _ _ _ (heap_setCell_same _ (w.heap.size + 1) 5 _ _ _ (heap_setCell_same _ (w.heap.size + 1) 4 _ _ _ (HROW.out _ Kw2.out).2)))
            have HBC : Hid (wB.heap[w.heap.size]? = some (.cells #[.int .i64 2, .int .i64 se, .int .i64 sq, .string fd, .int .i64 vr, .int .i64 vk, .int .i64 vn, .string vs] 34 (0, 0))) := (K2B.out.block _ (Array.getElem?_eq_some_iff.1 (HROW.out _ Kw2.out).1).1 (by simp)).trans (HROW.out _ Kw2.out).1
            have KwB : Hid (Keeps [] w wB) := (KA.out.trans Kw2.out (fun _ _ h => h)).trans K2B.out (fun b hb hb' => by simp at hb'; omega)
            rw [hwB]
            clear hwB x0 x1 x2 x3 x4 x5 x6 x7 f0 y0 y1 y2 y3 y4 y5 y6 y7 g0
            refine (HC3.out _ (HT.out.k KwB.out) (HE.out.k KwB.out)).mono ?_
            rintro e w3 ⟨rfl, hk⟩
            have Kw3 : Hid (Keeps [] wB w3) := hk
            clear hk
            obtain ⟨⟨x0, x1, x2, x3, x4, x5, x6, x7⟩, f0⟩ := blk8 ((Kw3.out.block _ (Array.getElem?_eq_some_iff.1 HBC.out).1 (by simp)).trans HBC.out)
            obtain ⟨⟨y0, y1, y2, y3, y4, y5, y6, y7⟩, g0⟩ := blk8 ((Kw3.out.block _ (Array.getElem?_eq_some_iff.1 HBB.out).1 (by simp)).trans HBB.out)
            rcases b3 with _ | _
            · have HF : Hid (checkC ⟨2, se, sq, fd, vr, ⟨vk, vn, vs⟩⟩ = false) := by
                show _ = _
                rw [HD.out]
                simp
              go_wp2_with fail
              go_ret
              exact ⟨by rw [HF.out]; rfl, KwB.out.trans Kw3.out (fun _ _ h => h)⟩
            · rcases HS.out with ⟨hb, hc⟩ | ⟨hb, q1, q2⟩
              · have HF : Hid (checkC ⟨2, se, sq, fd, vr, ⟨vk, vn, vs⟩⟩ = false) := by show _ = _; rw [HD.out, hb]; rfl
                clear hb
                rcases hc with q1 | ⟨q1, q2⟩
                all_goals
                  go_wp2_with fail
                  go_ret
                  exact ⟨by rw [HF.out]; rfl, (KwB.out.trans Kw3.out (fun _ _ h => h)).trans (G := [w.heap.size + 1]) (by exact Keeps.K) (fun b hb hb' => by simp at hb'; omega)⟩
              · rcases HQ.out with ⟨hb2, hc⟩ | ⟨hb2, q3, q4⟩
                · have HF : Hid (checkC ⟨2, se, sq, fd, vr, ⟨vk, vn, vs⟩⟩ = false) := by show _ = _; rw [HD.out, hb, hb2]; rfl
                  clear hb hb2
                  rcases hc with q3 | ⟨q3, q4⟩
                  all_goals
                    go_wp2_with fail
                    go_ret
                    exact ⟨by rw [HF.out]; rfl, (KwB.out.trans Kw3.out (fun _ _ h => h)).trans (G := [w.heap.size + 1]) (by exact Keeps.K) (fun b hb hb' => by simp at hb'; omega)⟩
                · have HF : Hid (checkC ⟨2, se, sq, fd, vr, ⟨vk, vn, vs⟩⟩ = true) := by show _ = _; rw [HD.out, hb, hb2]; rfl
                  clear hb hb2
                  go_wp2_with fail
                  go_ret
                  exact ⟨by rw [HF.out]; rfl, (KwB.out.trans Kw3.out (fun _ _ h => h)).trans (G := [w.heap.size + 1]) (by exact Keeps.K) (fun b hb hb' => by simp at hb'; omega)⟩
      · have HD : Hid (checkC ⟨3, se, sq, fd, vr, ⟨vk, vn, vs⟩⟩ = (countsD se 1 && countsD sq 1 && (emptyB fd && vr == 0 && noneV ⟨vk, vn, vs⟩))) := by
          show _ = _
          unfold checkC
          simp
        have hses : (countsD se 1 = false ∧ (se < 1 ∨ (1 ≤ se ∧ 1099511627776 < se))) ∨ (countsD se 1 = true ∧ 1 ≤ se ∧ se ≤ 1099511627776) := by
          rcases h : countsD se 1 with _ | _
          · exact .inl ⟨rfl, countsD_no h⟩
          · exact .inr ⟨rfl, countsD_yes h⟩
        have hseq : (countsD sq 1 = false ∧ (sq < 1 ∨ (1 ≤ sq ∧ 1099511627776 < sq))) ∨ (countsD sq 1 = true ∧ 1 ≤ sq ∧ sq ≤ 1099511627776) := by
          rcases h : countsD sq 1 with _ | _
          · exact .inl ⟨rfl, countsD_no h⟩
          · exact .inr ⟨rfl, countsD_yes h⟩
        have HS := hid hses
        have HQ := hid hseq
        clear hses hseq
        rcases HS.out with ⟨hb, hc⟩ | ⟨hb, q1, q2⟩
        · have HF : Hid (checkC ⟨3, se, sq, fd, vr, ⟨vk, vn, vs⟩⟩ = false) := by show _ = _; rw [HD.out, hb]; rfl
          clear hb
          rcases hc with q1 | ⟨q1, q2⟩
          all_goals
            go_enter Tryz.func22, Tryz.ntmps22
            go_wp2_with fail
            go_ret
            exact ⟨by rw [HF.out]; rfl, by exact Keeps.K⟩
        · rcases HQ.out with ⟨hb2, hc⟩ | ⟨hb2, q3, q4⟩
          · have HF : Hid (checkC ⟨3, se, sq, fd, vr, ⟨vk, vn, vs⟩⟩ = false) := by show _ = _; rw [HD.out, hb, hb2]; rfl
            clear hb hb2
            rcases hc with q3 | ⟨q3, q4⟩
            all_goals
              go_enter Tryz.func22, Tryz.ntmps22
              go_wp2_with fail
              go_ret
              exact ⟨by rw [HF.out]; rfl, by exact Keeps.K⟩
          · have HF : Hid (checkC ⟨3, se, sq, fd, vr, ⟨vk, vn, vs⟩⟩ = (emptyB fd && vr == 0 && noneV ⟨vk, vn, vs⟩)) := by show _ = _; rw [HD.out, hb, hb2]; rfl
            clear hb hb2
            go_enter Tryz.func22, Tryz.ntmps22
            go_wp2_with fail
            all_goals
              go_ret
              refine ⟨?_, by exact Keeps.K⟩
              have hf := HF.out
              clear HT HE HVS HD HS HQ HF q1 q2 q3 q4
              simp_all [noneV, emptyB]
      · obtain ⟨b3, hb3⟩ : ∃ b3, nameD fd = b3 := ⟨_, rfl⟩
        have HC3 := hid (fun w1 hT1 hE1 => lxName_any fd w1 hT1 hE1)
        have HD : Hid (checkC ⟨4, se, sq, fd, vr, ⟨vk, vn, vs⟩⟩ = (countsD se 1 && countsD sq 1 && (b3 && vr == 0 && noneV ⟨vk, vn, vs⟩))) := by
          show _ = _
          unfold checkC
          simp [hb3]
        rw [hb3] at HC3
        clear hb3
        have hses : (countsD se 1 = false ∧ (se < 1 ∨ (1 ≤ se ∧ 1099511627776 < se))) ∨ (countsD se 1 = true ∧ 1 ≤ se ∧ se ≤ 1099511627776) := by
          rcases h : countsD se 1 with _ | _
          · exact .inl ⟨rfl, countsD_no h⟩
          · exact .inr ⟨rfl, countsD_yes h⟩
        have hseq : (countsD sq 1 = false ∧ (sq < 1 ∨ (1 ≤ sq ∧ 1099511627776 < sq))) ∨ (countsD sq 1 = true ∧ 1 ≤ sq ∧ sq ≤ 1099511627776) := by
          rcases h : countsD sq 1 with _ | _
          · exact .inl ⟨rfl, countsD_no h⟩
          · exact .inr ⟨rfl, countsD_yes h⟩
        have HS := hid hses
        have HQ := hid hseq
        clear hses hseq
        go_enter Tryz.func22, Tryz.ntmps22
        go_wp2_with fail
        obtain ⟨wA, hwA⟩ : ∃ wA, (w.alloc (.cells #[.int .i64 4, .int .i64 se, .int .i64 sq, .string fd, .int .i64 vr, .int .i64 vk, .int .i64 vn, .string vs] 34)).alloc (.cells #[.int .i64 0, .int .i64 se, .int .i64 sq, .string fd, .int .i64 vr, .int .i64 vk, .int .i64 vn, .string vs] 34) = wA := ⟨_, rfl⟩
        have KA : Hid (Keeps [] w wA) := by rw [← hwA]; exact Keeps.K
        have HRB : Hid (wA.heap[w.heap.size + 1]? = some (.cells #[.int .i64 0, .int .i64 se, .int .i64 sq, .string fd, .int .i64 vr, .int .i64 vk, .int .i64 vn, .string vs] 34 (0, 0))) := by
          have h1 := heap_alloc_new (w.alloc (.cells #[.int .i64 4, .int .i64 se, .int .i64 sq, .string fd, .int .i64 vr, .int .i64 vk, .int .i64 vn, .string vs] 34)) (.cells #[.int .i64 0, .int .i64 se, .int .i64 sq, .string fd, .int .i64 vr, .int .i64 vk, .int .i64 vn, .string vs] 34)
          rw [show (w.alloc (.cells #[.int .i64 4, .int .i64 se, .int .i64 sq, .string fd, .int .i64 vr, .int .i64 vk, .int .i64 vn, .string vs] 34)).heap.size = w.heap.size + 1 by simp, hwA] at h1
          exact h1
        have HRC : Hid (wA.heap[w.heap.size]? = some (.cells #[.int .i64 4, .int .i64 se, .int .i64 sq, .string fd, .int .i64 vr, .int .i64 vk, .int .i64 vn, .string vs] 34 (0, 0))) := by
          rw [← hwA]
          exact (((Keeps.refl [] (w.alloc (.cells #[.int .i64 4, .int .i64 se, .int .i64 sq, .string fd, .int .i64 vr, .int .i64 vk, .int .i64 vn, .string vs] 34))).alloc (.cells #[.int .i64 0, .int .i64 se, .int .i64 sq, .string fd, .int .i64 vr, .int .i64 vk, .int .i64 vn, .string vs] 34)).block w.heap.size (by simp) (by simp)).trans (heap_alloc_new _ _)
        have HROW : Hid (∀ w', Keeps [] wA w' → w'.heap[w.heap.size]? = some (.cells #[.int .i64 4, .int .i64 se, .int .i64 sq, .string fd, .int .i64 vr, .int .i64 vk, .int .i64 vn, .string vs] 34 (0, 0)) ∧ w'.heap[w.heap.size + 1]? = some (.cells #[.int .i64 0, .int .i64 se, .int .i64 sq, .string fd, .int .i64 vr, .int .i64 vk, .int .i64 vn, .string vs] 34 (0, 0))) := fun w' g => ⟨(g.block _ (Array.getElem?_eq_some_iff.1 HRC.out).1 (by simp)).trans HRC.out, (g.block _ (Array.getElem?_eq_some_iff.1 HRB.out).1 (by simp)).trans HRB.out⟩
        rw [hwA]
        clear hwA
        refine (HC3.out _ (HT.out.k KA.out) (HE.out.k KA.out)).mono ?_
        rintro e w2 ⟨rfl, hk⟩
        have Kw2 : Hid (Keeps [] wA w2) := hk
        clear hk
        obtain ⟨⟨x0, x1, x2, x3, x4, x5, x6, x7⟩, f0⟩ := blk8 (HROW.out _ Kw2.out).1
        obtain ⟨⟨y0, y1, y2, y3, y4, y5, y6, y7⟩, g0⟩ := blk8 (HROW.out _ Kw2.out).2
        rcases b3 with _ | _
        · have HF : Hid (checkC ⟨4, se, sq, fd, vr, ⟨vk, vn, vs⟩⟩ = false) := by
            show _ = _
            rw [HD.out]
            simp
          go_wp2_with fail
          go_ret
          exact ⟨by rw [HF.out]; rfl, KA.out.trans Kw2.out (fun _ _ h => h)⟩
        · rcases HS.out with ⟨hb, hc⟩ | ⟨hb, q1, q2⟩
          · have HF : Hid (checkC ⟨4, se, sq, fd, vr, ⟨vk, vn, vs⟩⟩ = false) := by show _ = _; rw [HD.out, hb]; rfl
            clear hb
            rcases hc with q1 | ⟨q1, q2⟩
            all_goals
              go_wp2_with fail
              go_ret
              exact ⟨by rw [HF.out]; rfl, (KA.out.trans Kw2.out (fun _ _ h => h)).trans (G := [w.heap.size + 1]) (by exact Keeps.K) (fun b hb hb' => by simp at hb'; omega)⟩
          · rcases HQ.out with ⟨hb2, hc⟩ | ⟨hb2, q3, q4⟩
            · have HF : Hid (checkC ⟨4, se, sq, fd, vr, ⟨vk, vn, vs⟩⟩ = false) := by show _ = _; rw [HD.out, hb, hb2]; rfl
              clear hb hb2
              rcases hc with q3 | ⟨q3, q4⟩
              all_goals
                go_wp2_with fail
                go_ret
                exact ⟨by rw [HF.out]; rfl, (KA.out.trans Kw2.out (fun _ _ h => h)).trans (G := [w.heap.size + 1]) (by exact Keeps.K) (fun b hb hb' => by simp at hb'; omega)⟩
            · have HF : Hid (checkC ⟨4, se, sq, fd, vr, ⟨vk, vn, vs⟩⟩ = (vr == 0 && noneV ⟨vk, vn, vs⟩)) := by show _ = _; rw [HD.out, hb, hb2]; simp
              clear hb hb2
              go_wp2_with fail
              all_goals
                go_ret
                refine ⟨?_, (KA.out.trans Kw2.out (fun _ _ h => h)).trans (G := [w.heap.size + 1]) (by exact Keeps.K) (fun b hb hb' => by simp at hb'; omega)⟩
                have hf := HF.out
                clear x0 x1 x2 x3 x4 x5 x6 x7 f0 y0 y1 y2 y3 y4 y5 y6 y7 g0 HT HE HVS HD HS HQ HF HC3 HROW HRB HRC KA Kw2 q1 q2 q3 q4
                simp_all [noneV, emptyB]

end Go.Proofs.YtnjdepojmnniaaaGreatDoor

/- Numbers read from bytes: plain. -/
namespace Go.Proofs.YtnjdepojmnniaaaGreatDoor
open Go

def unzig (u : Nat) : Int := if u % 2 = 1 then -((u / 2 : Nat) : Int) - 1 else ((u / 2 : Nat) : Int)
theorem unzig_zigzag (v : Int) : unzig (Lib.zigzag v) = v := by
  unfold unzig Lib.zigzag
  repeat' split
  all_goals omega
/-- What is read at byte i: the number (none: it is wrong), and the bytes that were taken. -/
def rdGo : Nat → Nat → List UInt8 → Nat → Nat → Option Int × Nat
  | 0, _, _, _, c => (none, c)
  | _ + 1, _, [], _, c => (none, c)
  | f + 1, i, x :: l, u, c =>
    if (i = 9 ∧ 1 < x.toNat) ∨ (0 < i ∧ x.toNat = 0) then (none, c + 1)
    else if x.toNat < 128 then (some (unzig (u + x.toNat % 128 * 128 ^ i)), c + 1) else rdGo f (i + 1) l (u + x.toNat % 128 * 128 ^ i) (c + 1)
def rdInt (l : List UInt8) : Option Int × Nat := rdGo 10 0 l 0 0
theorem rdGo_uvarint : ∀ (f i x u c : Nat) (t : List UInt8), f + i = 10 → x < 128 ^ f → (i = 9 → x ≤ 1) → (0 < i → 0 < x) → 0 < f →
    (∀ k, i + k = 9 → x < 2 * 128 ^ k) → rdGo f i (Lib.uvarint x ++ t) u c = (some (unzig (u + x * 128 ^ i)), c + (Lib.uvarint x).length)
  | 0, _, _, _, _, _, _, _, _, _, h, _ => by omega
  | f + 1, i, x, u, c, t, hf, hx, h9, h0, _, hk => by
    by_cases hlt : x < 128
    · rw [Lib.uvarint_small hlt]
      show rdGo (f + 1) i (x.toUInt8 :: t) u c = _
      unfold rdGo
      rw [byte_nat x (by omega), if_neg (by omega), if_pos hlt, Nat.mod_eq_of_lt hlt]
      rfl
    · rw [Lib.uvarint_big (by omega)]
      show rdGo (f + 1) i ((x % 128 + 128).toUInt8 :: (Lib.uvarint (x / 128) ++ t)) u c = _
      have hi : i ≠ 9 := by intro h; have := h9 h; omega
      have hf0 : 0 < f := by
        rcases f with _ | f
        · omega
        · omega
      unfold rdGo
      rw [byte_nat (x % 128 + 128) (by omega), if_neg (by omega), if_neg (by omega)]
      have hx' : x / 128 < 128 ^ f := by rw [Nat.pow_succ] at hx; omega
      have hk' : ∀ k, i + 1 + k = 9 → x / 128 < 2 * 128 ^ k := fun k hh => by
        have := hk (k + 1) (by omega)
        rw [Nat.pow_succ] at this
        omega
      rw [rdGo_uvarint f (i + 1) (x / 128) _ _ t (by omega) hx' (fun h => by have := hk' 0 (by omega); simp at this; omega) (fun _ => by omega) hf0 hk']
      refine Prod.ext ?_ ?_
      · show some (unzig _) = some (unzig _)
        congr 2
        have e : (x % 128 + 128) % 128 = x % 128 := by omega
        rw [e, Nat.pow_succ, Nat.mul_comm (128 ^ i) 128, ← Nat.mul_assoc, Nat.add_assoc, ← Nat.add_mul]
        congr 2
        omega
      · show c + 1 + _ = c + ((Lib.uvarint (x / 128)).length + 1)
        omega
theorem rdInt_intL (v : Int) (hv : -9223372036854775808 ≤ v ∧ v ≤ 9223372036854775807) (t : List UInt8) : rdInt (intL v ++ t) = (some v, (intL v).length) := by
  have hz := Lib.zigzag_lt hv.1 hv.2
  unfold rdInt intL
  rw [rdGo_uvarint 10 0 (Lib.zigzag v) 0 0 t rfl (by omega) (by omega) (by omega) (by omega) (fun k hk => by
    obtain rfl : k = 9 := by omega
    have e : 2 * 128 ^ 9 = 18446744073709551616 := by decide
    omega)]
  simp [unzig_zigzag]

end Go.Proofs.YtnjdepojmnniaaaGreatDoor
