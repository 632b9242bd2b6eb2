/- CmdChecks, walked. -/
import Derived.Test.YtbbdmmhpbeleoaaGreatDoorQ31

set_option linter.unusedSimpArgs false
set_option linter.unusedVariables false
namespace Go.Proofs.YtbbdmmhpbeleoaaGreatDoor
open Go Go.RowKit

def shortR (r : ReplyD) : Bool := decide (r.value.s.size ≤ 1000)
def rowC (c : CmdD) : Obj := .cells #[.int .i64 c.kind, .int .i64 c.session, .int .i64 c.seq, .string c.field, .int .i64 c.version, .int .i64 c.value.kind, .int .i64 c.value.n, .string c.value.s] 25 (0, 0)
def rowR (r : ReplyD) : Obj := .cells #[.int .i64 r.err, .int .i64 r.n, .int .i64 r.value.kind, .int .i64 r.value.n, .string r.value.s] 37 (0, 0)

set_option maxRecDepth 100000 in
set_option maxHeartbeats 8000000 in
theorem cmdChecks_any (c : CmdD) (r : ReplyD) (w : World) (hT : Tabs w) (hE : Errs w) : Calls Tryz.prog 5 #[cmdV c, replyV r] w fun e w' => e = .returned (.bool true) ∧ Keeps [] w w' := by
  obtain ⟨kd, se, sq, fd, vr, vk, vn, vs⟩ := c
  obtain ⟨er, nn, rk, rn, rs⟩ := r
  have HT := hid hT
  have HE := hid hE
  clear hT hE
  have HCV : Hid (cmdV ⟨kd, se, sq, fd, vr, vk, vn, vs⟩ = .agg #[.int .i64 kd, .int .i64 se, .int .i64 sq, .string fd, .int .i64 vr, .int .i64 vk, .int .i64 vn, .string vs]) := rfl
  have HRV : Hid (replyV ⟨er, nn, rk, rn, rs⟩ = .agg #[.int .i64 er, .int .i64 nn, .int .i64 rk, .int .i64 rn, .string rs]) := rfl
  have HSH := hid (fun w1 => short14_any ⟨kd, se, sq, fd, vr, vk, vn, vs⟩ w1)
  have HC1 : Hid ((shortC ⟨kd, se, sq, fd, vr, vk, vn, vs⟩ = true) → ∀ w1, Tabs w1 → Errs w1 → Calls Tryz.prog 21 #[cmdV ⟨kd, se, sq, fd, vr, vk, vn, vs⟩] w1 fun e w' => e = .returned (.bool (checkC ⟨kd, se, sq, fd, vr, vk, vn, vs⟩)) ∧ Keeps [] w1 w') := fun hs w1 h1 h2 => cmCheck_any _ w1 h1 h2 (by
    unfold shortC at hs
    simp at hs
    show vs.size ≤ _
    omega)
  have HC2 := hid (fun w1 h1 => r14Check_any ⟨kd, se, sq, fd, vr, vk, vn, vs⟩ w1 h1)
  have HR1 := hid (fun hs w1 h1 => cmCheckR_any ⟨er, nn, rk, rn, rs⟩ w1 h1 hs)
  have HR2 := hid (fun w1 h1 => r14CheckR_any ⟨er, nn, rk, rn, rs⟩ w1 h1)
  rw [HCV.out] at HSH HC1 HC2 ⊢
  rw [HRV.out] at HR1 HR2 ⊢
  dsimp only at HR1
  obtain ⟨bs, hbs⟩ : ∃ b, shortC ⟨kd, se, sq, fd, vr, vk, vn, vs⟩ = b := ⟨_, rfl⟩
  obtain ⟨bc, hbc⟩ : ∃ b, checkC ⟨kd, se, sq, fd, vr, vk, vn, vs⟩ = b := ⟨_, rfl⟩
  obtain ⟨br, hbr⟩ : ∃ b, checkR ⟨er, nn, rk, rn, rs⟩ = b := ⟨_, rfl⟩
  rw [hbs] at HSH HC1
  rw [hbc] at HC1 HC2
  rw [hbr] at HR1 HR2
  clear hbs hbc hbr HCV HRV
  go_enter Tryz.func5, Tryz.ntmps5
  go_wp2_with fail
  obtain ⟨wA, hwA⟩ : ∃ wA, (w.alloc (.cells #[.int .i64 kd, .int .i64 se, .int .i64 sq, .string fd, .int .i64 vr, .int .i64 vk, .int .i64 vn, .string vs] 25)).alloc (.cells #[.int .i64 er, .int .i64 nn, .int .i64 rk, .int .i64 rn, .string rs] 37) = wA := ⟨_, rfl⟩
  have KA : Hid (Keeps [] w wA) := by rw [← hwA]; exact Keeps.K
  have HA : Hid (wA.heap[w.heap.size]? = some (.cells #[.int .i64 kd, .int .i64 se, .int .i64 sq, .string fd, .int .i64 vr, .int .i64 vk, .int .i64 vn, .string vs] 25 (0, 0))) := by rw [← hwA]; exact (Keeps.block (F := []) (w := w.alloc _) (by exact Keeps.K) w.heap.size (by simp) (by simp)).trans (heap_alloc_new w _)
  have HB : Hid (wA.heap[w.heap.size + 1]? = some (.cells #[.int .i64 er, .int .i64 nn, .int .i64 rk, .int .i64 rn, .string rs] 37 (0, 0))) := by rw [← hwA]; exact new2nd w _ _
  have HROW : Hid (∀ w', Keeps [] wA w' → w'.heap[w.heap.size]? = some (.cells #[.int .i64 kd, .int .i64 se, .int .i64 sq, .string fd, .int .i64 vr, .int .i64 vk, .int .i64 vn, .string vs] 25 (0, 0))) := fun w' g => (g.block _ (Array.getElem?_eq_some_iff.1 HA.out).1 (by simp)).trans HA.out
  have HROB : Hid (∀ w', Keeps [] wA w' → w'.heap[w.heap.size + 1]? = some (.cells #[.int .i64 er, .int .i64 nn, .int .i64 rk, .int .i64 rn, .string rs] 37 (0, 0))) := fun w' g => (g.block _ (Array.getElem?_eq_some_iff.1 HB.out).1 (by simp)).trans HB.out
  rw [hwA]
  clear hwA
  refine (HSH.out _).mono ?_
  rintro e w1 ⟨rfl, hk⟩
  have K1 := hid hk
  obtain ⟨⟨x0, x1, x2, x3, x4, x5, x6, x7⟩, -⟩ := blk8 (HROW.out _ hk)
  obtain ⟨⟨y0, y1, y2, y3, y4⟩, -⟩ := blk5 (HROB.out _ hk)
  clear hk
  rcases bs with _ | _
  · go_wp2_with fail
    refine (awake14_any _ (HT.out.k (KA.out.trans K1.out (fun _ _ h => h))) (HE.out.k (KA.out.trans K1.out (fun _ _ h => h)))).mono ?_
    rintro e w2 ⟨rfl, hk⟩
    have K2 := hid hk
    clear hk
    go_wp2_with fail
    go_ret
    exact ⟨rfl, (KA.out.trans K1.out (fun _ _ h => h)).trans K2.out (fun _ _ h => h)⟩
  · by_cases hrs : 1000 < (rs.size : Int)
    · go_wp2_with fail
      refine (awake14_any _ (HT.out.k (KA.out.trans K1.out (fun _ _ h => h))) (HE.out.k (KA.out.trans K1.out (fun _ _ h => h)))).mono ?_
      rintro e w2 ⟨rfl, hk⟩
      have K2 := hid hk
      clear hk
      go_wp2_with fail
      go_ret
      exact ⟨rfl, (KA.out.trans K1.out (fun _ _ h => h)).trans K2.out (fun _ _ h => h)⟩
    · have HR3 := hid (fun w1 h1 => HR1.out (by omega) w1 h1)
      have HC3 := hid (fun w1 h1 h2 => HC1.out rfl w1 h1 h2)
      clear HR1 HC1
      go_wp2_with fail
      clear hrs
      refine Plan.wp_region_plan (fun wx => (wx.cell? ⟨w.heap.size, 0, none⟩ = some (.int .i64 kd) ∧ wx.cell? ⟨w.heap.size, 1, none⟩ = some (.int .i64 se) ∧ wx.cell? ⟨w.heap.size, 2, none⟩ = some (.int .i64 sq) ∧ wx.cell? ⟨w.heap.size, 3, none⟩ = some (.string fd) ∧ wx.cell? ⟨w.heap.size, 4, none⟩ = some (.int .i64 vr) ∧ wx.cell? ⟨w.heap.size, 5, none⟩ = some (.int .i64 vk) ∧ wx.cell? ⟨w.heap.size, 6, none⟩ = some (.int .i64 vn) ∧ wx.cell? ⟨w.heap.size, 7, none⟩ = some (.string vs)) ∧ wx.cell? ⟨w.heap.size + 1, 0, none⟩ = some (.int .i64 er) ∧ wx.cell? ⟨w.heap.size + 1, 1, none⟩ = some (.int .i64 nn) ∧ wx.cell? ⟨w.heap.size + 1, 2, none⟩ = some (.int .i64 rk) ∧ wx.cell? ⟨w.heap.size + 1, 3, none⟩ = some (.int .i64 rn) ∧ wx.cell? ⟨w.heap.size + 1, 4, none⟩ = some (.string rs)) 9 [(true, 0), (true, 2), (false, 1), (false, 3), (true, 4), (true, 5), (true, 6), (true, 8), (false, 7)] (by kernel_rfl) (by as_aux_lemma => kernel_rfl) (by kernel_rfl) (fun _ _ _ _ _ h => h) ?_ (fun hS => ?_)
      (· go_simp)
      simp only [Plan.pick, List.append_eq, List.cons_append, List.nil_append, Plan.g1, Plan.g2, Option.getD_some, List.drop_succ_cons, List.drop_zero]
      iterate 2 (first | refine Plan.tA ?_ | refine Plan.tY ?_ | refine Plan.pN ?_ | refine Plan.pU ?_ | fail)
      refine Plan.step ?_
      go_wp2_with fail
      refine (HC3.out _ (HT.out.k (KA.out.trans (Keeps.trans (F := []) K1.out (G := []) (by exact Keeps.K) (fun _ _ h => h)) (fun _ _ h => h))) (HE.out.k (KA.out.trans (Keeps.trans (F := []) K1.out (G := []) (by exact Keeps.K) (fun _ _ h => h)) (fun _ _ h => h)))).mono ?_
      rintro e w2 ⟨rfl, hk⟩
      have K2 : Hid (Keeps [] wA w2) := K1.out.trans (Keeps.trans (G := []) (by exact Keeps.K) hk (fun _ _ h => h)) (fun _ _ h => h)
      clear hk x0 x1 x2 x3 x4 x5 x6 x7 y0 y1 y2 y3 y4
      obtain ⟨⟨x0, x1, x2, x3, x4, x5, x6, x7⟩, -⟩ := blk8 (HROW.out _ K2.out)
      obtain ⟨⟨y0, y1, y2, y3, y4⟩, -⟩ := blk5 (HROB.out _ K2.out)
      go_wp2_with fail
      refine ⟨?_, ?_⟩
      (· go_simp)
      refine Plan.step ?_
      go_wp2_with fail
      refine (HC2.out _ (HT.out.k (KA.out.trans (Keeps.trans (F := []) K2.out (G := []) (by exact Keeps.K) (fun _ _ h => h)) (fun _ _ h => h)))).mono ?_
      rintro e w3 ⟨rfl, hk⟩
      have K3 : Hid (Keeps [] wA w3) := K2.out.trans (Keeps.trans (G := []) (by exact Keeps.K) hk (fun _ _ h => h)) (fun _ _ h => h)
      clear hk x0 x1 x2 x3 x4 x5 x6 x7 y0 y1 y2 y3 y4
      obtain ⟨⟨x0, x1, x2, x3, x4, x5, x6, x7⟩, -⟩ := blk8 (HROW.out _ K3.out)
      obtain ⟨⟨y0, y1, y2, y3, y4⟩, -⟩ := blk5 (HROB.out _ K3.out)
      go_wp2_with fail
      refine ⟨?_, ?_⟩
      (· go_simp)
      iterate 4 (first | refine Plan.tA ?_ | refine Plan.tY ?_ | refine Plan.pN ?_ | refine Plan.pU ?_ | fail)
      refine Plan.step ?_
      go_wp2_with fail
      refine (HR3.out _ (HT.out.k (KA.out.trans (Keeps.trans (F := []) K3.out (G := []) (by exact Keeps.K) (fun _ _ h => h)) (fun _ _ h => h)))).mono ?_
      rintro e w4 ⟨rfl, hk⟩
      have K4 : Hid (Keeps [] wA w4) := K3.out.trans (Keeps.trans (G := []) (by exact Keeps.K) hk (fun _ _ h => h)) (fun _ _ h => h)
      clear hk x0 x1 x2 x3 x4 x5 x6 x7 y0 y1 y2 y3 y4
      obtain ⟨⟨x0, x1, x2, x3, x4, x5, x6, x7⟩, -⟩ := blk8 (HROW.out _ K4.out)
      obtain ⟨⟨y0, y1, y2, y3, y4⟩, -⟩ := blk5 (HROB.out _ K4.out)
      go_wp2_with fail
      refine ⟨?_, ?_⟩
      (· go_simp)
      refine Plan.fin ?_
      go_wp2_with fail
      refine (HR2.out _ (HT.out.k (KA.out.trans (Keeps.trans (F := []) K4.out (G := []) (by exact Keeps.K) (fun _ _ h => h)) (fun _ _ h => h)))).mono ?_
      rintro e w5 ⟨rfl, hk⟩
      have K5 : Hid (Keeps [] w w5) := KA.out.trans (K4.out.trans (Keeps.trans (G := []) (by exact Keeps.K) hk (fun _ _ h => h)) (fun _ _ h => h)) (fun _ _ h => h)
      clear hk x0 x1 x2 x3 x4 x5 x6 x7 y0 y1 y2 y3 y4
      go_wp2_with fail
      refine (awake14_any _ (HT.out.k K5.out) (HE.out.k K5.out)).mono ?_
      rintro e w6 ⟨rfl, hk⟩
      have K6 : Hid (Keeps [] w w6) := K5.out.trans hk (fun _ _ h => h)
      clear hk
      go_wp2_with fail
      go_ret
      exact ⟨rfl, K6.out⟩

end Go.Proofs.YtbbdmmhpbeleoaaGreatDoor
