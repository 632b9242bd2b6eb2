/- CmdReads, walked. (Printed by gen_cmn.py.) -/
import Derived.Test.YtbbdmmhpbeleoaaGreatDoorCmM

set_option linter.unusedSimpArgs false
set_option linter.unusedVariables false
namespace Go.Proofs.YtbbdmmhpbeleoaaGreatDoor
open Go Go.RowKit

set_option maxRecDepth 100000 in
set_option maxHeartbeats 16000000 in
theorem cmdReads_any (a : Option Addr) (q : Nat) (bs : List UInt8) (w : World) (hT : Tabs w) (hE : Errs w) (hr : Reads w 1 (.slice a bs.length q) bs.length (u8s bs)) (hb : bs.length ≤ 140737488351232) :
    Calls Tryz.prog 7 #[.slice a bs.length q] w fun e w' => e = .returned (.bool true) ∧ Keeps [] w w' := by
  have HT := hid hT
  have HE := hid hE
  have HR := hid hr
  clear hT hE hr
  have hpb : bs.length ≤ 140737488355328 := by omega
  have hbI : (bs.length : Int) ≤ 140737488351232 := by omega
  by_cases hbig : 5000 < (bs.length : Int)
  · go_enter Tryz.func7, Tryz.ntmps7
    go_wp2_with fail
    refine (awake14_any _ HT.out HE.out).mono ?_
    rintro e w1 ⟨rfl, hk⟩
    have K1 := hid hk
    clear hk
    go_wp2_with fail
    go_ret
    exact ⟨rfl, K1.out⟩
  obtain ⟨⟨⟨kd, se, sq, fd, vr, ⟨vk, vn, vs⟩⟩, ok⟩, hgc⟩ : ∃ r, getC bs = r := ⟨_, rfl⟩
  obtain ⟨⟨⟨er, nn, ⟨rk, rn, rs⟩⟩, good⟩, hgr⟩ : ∃ r, getR bs = r := ⟨_, rfl⟩
  have HG1 := hid (fun v0 w1 h1 h2 h3 => cmGet_any v0 bs w1 h1 h2 h3 hpb)
  have HG2 := hid (fun w1 h1 h3 => r14Get_any a q bs w1 h1 h3 hpb)
  have HG3 := hid (fun v0 w1 h1 h3 => cmGetR_any v0 bs w1 h1 h3 hpb)
  have HG4 := hid (fun w1 h1 h3 => r14GetR_any a q bs w1 h1 h3 hpb)
  rw [hgc] at HG1 HG2
  rw [hgr] at HG3 HG4
  have HPC : Hid (ok = true → ∀ w1, Calls Tryz.prog 16 #[.agg #[.int .i64 kd, .int .i64 se, .int .i64 sq, .string fd, .int .i64 vr, .int .i64 vk, .int .i64 vn, .string vs]] w1 (PutPost [] bs w1)) := fun h w1 => by
    subst h
    obtain ⟨h1, -, h3⟩ := getC_is hgc
    have := cmPut_any _ h3 w1
    rw [← h1] at this
    exact this
  have HPR : Hid (good = true → ∀ w1, Calls Tryz.prog 24 #[.agg #[.int .i64 er, .int .i64 nn, .int .i64 rk, .int .i64 rn, .string rs]] w1 (PutPost [] bs w1)) := fun h w1 => by
    subst h
    obtain ⟨h1, -, h3⟩ := getR_is hgr
    have := cmPutR_any _ h3 w1
    rw [← h1] at this
    exact this
  unfold cmdV at HG1 HG2
  unfold replyV at HG3 HG4
  dsimp only at HG1 HG2 HG3 HG4
  clear hgc hgr
  go_enter Tryz.func7, Tryz.ntmps7
  go_wp2_with fail
  clear hbig
  refine (lawBytesC_any _ bs _ HR.out hpb).mono ?_
  rintro e w1 ⟨a1, q1, rfl, h1, hk⟩
  have K1 := hid hk
  have R1 := hid (Reads.ofOwn h1)
  clear hk h1
  go_wp2_with fail
  refine (HG1.out _ _ (HT.out.k K1.out) (HE.out.k K1.out) R1.out).mono ?_
  rintro e w2 ⟨rfl, hk⟩
  have K2 : Hid (Keeps [] w w2) := K1.out.trans hk (fun _ _ h => h)
  clear hk R1
  dsimp only
  go_wp2_with fail
  have K2' : Hid (Keeps [] w (w2.alloc (.cells #[.int .i64 kd, .int .i64 se, .int .i64 sq, .string fd, .int .i64 vr, .int .i64 vk, .int .i64 vn, .string vs] 25))) := K2.out.trans (G := []) (by exact Keeps.K) (fun _ _ h => h)
  refine (HG2.out _ (HT.out.k K2'.out) (HR.out.k0 K2'.out)).mono ?_
  rintro e w3 ⟨rfl, hk⟩
  have K3 : Hid (Keeps [] w w3) := K2'.out.trans hk (fun _ _ h => h)
  have HC3 : Hid (w3.heap[w2.heap.size]? = some (.cells #[.int .i64 kd, .int .i64 se, .int .i64 sq, .string fd, .int .i64 vr, .int .i64 vk, .int .i64 vn, .string vs] 25 (0, 0))) := (hk.block _ (by simp) (by simp)).trans (heap_alloc_new w2 _)
  clear hk
  dsimp only
  go_wp2_with fail
  obtain ⟨wD, hwD⟩ : ∃ wD, w3.alloc (.cells #[.int .i64 kd, .int .i64 se, .int .i64 sq, .string fd, .int .i64 vr, .int .i64 vk, .int .i64 vn, .string vs] 25) = wD := ⟨_, rfl⟩
  have KD : Hid (Keeps [] w3 wD) := by rw [← hwD]; exact Keeps.K
  have HD : Hid (wD.heap[w3.heap.size]? = some (.cells #[.int .i64 kd, .int .i64 se, .int .i64 sq, .string fd, .int .i64 vr, .int .i64 vk, .int .i64 vn, .string vs] 25 (0, 0))) := by rw [← hwD]; exact heap_alloc_new w3 _
  rw [hwD]
  clear hwD
  have K3' : Hid (Keeps [] w wD) := K3.out.trans KD.out (fun _ _ h => h)
  refine (lawBytesC_any _ bs _ (HR.out.k0 K3'.out) hpb).mono ?_
  rintro e w4 ⟨a4, q4, rfl, h4, hk⟩
  have KD4 : Hid (Keeps [] wD w4) := hk
  have K4 : Hid (Keeps [] w w4) := K3'.out.trans hk (fun _ _ h => h)
  have R4 := hid (Reads.ofOwn h4)
  clear hk h4
  go_wp2_with fail
  refine (HG3.out _ _ (HT.out.k K4.out) R4.out).mono ?_
  rintro e w5 ⟨rfl, hk⟩
  have KD5 : Hid (Keeps [] wD w5) := KD4.out.trans hk (fun _ _ h => h)
  have K5 : Hid (Keeps [] w w5) := K4.out.trans hk (fun _ _ h => h)
  clear hk R4
  dsimp only
  go_wp2_with fail
  have K5' : Hid (Keeps [] w (w5.alloc (.cells #[.int .i64 er, .int .i64 nn, .int .i64 rk, .int .i64 rn, .string rs] 37))) := K5.out.trans (G := []) (by exact Keeps.K) (fun _ _ h => h)
  refine (HG4.out _ (HT.out.k K5'.out) (HR.out.k0 K5'.out)).mono ?_
  rintro e w6 ⟨rfl, hk⟩
  have K6 : Hid (Keeps [] w w6) := K5'.out.trans hk (fun _ _ h => h)
  have KD6 : Hid (Keeps [] wD w6) := (KD5.out.trans (G := []) (by exact Keeps.K) (fun _ _ h => h)).trans hk (fun _ _ h => h)
  have HR6 : Hid (w6.heap[w5.heap.size]? = some (.cells #[.int .i64 er, .int .i64 nn, .int .i64 rk, .int .i64 rn, .string rs] 37 (0, 0))) := (hk.block _ (by simp) (by simp)).trans (heap_alloc_new w5 _)
  have HC6 : Hid (w6.heap[w2.heap.size]? = some (.cells #[.int .i64 kd, .int .i64 se, .int .i64 sq, .string fd, .int .i64 vr, .int .i64 vk, .int .i64 vn, .string vs] 25 (0, 0))) := ((KD.out.trans KD6.out (fun _ _ h => h)).block _ (Array.getElem?_eq_some_iff.1 HC3.out).1 (by simp)).trans HC3.out
  have HD6 : Hid (w6.heap[w3.heap.size]? = some (.cells #[.int .i64 kd, .int .i64 se, .int .i64 sq, .string fd, .int .i64 vr, .int .i64 vk, .int .i64 vn, .string vs] 25 (0, 0))) := (KD6.out.block _ (Array.getElem?_eq_some_iff.1 HD.out).1 (by simp)).trans HD.out
  have hlt2 : w2.heap.size < w6.heap.size := (Array.getElem?_eq_some_iff.1 HC6.out).1
  have hlt3 : w3.heap.size < w6.heap.size := (Array.getElem?_eq_some_iff.1 HD6.out).1
  have hlt5 : w5.heap.size < w6.heap.size := (Array.getElem?_eq_some_iff.1 HR6.out).1
  clear hk HC3 HD KD KD4 KD5 KD6
  dsimp only
  obtain ⟨⟨x0, x1, x2, x3, x4, x5, x6, x7⟩, -⟩ := blk8 HC6.out
  obtain ⟨⟨z0, z1, z2, z3, z4, z5, z6, z7⟩, -⟩ := blk8 HD6.out
  obtain ⟨⟨y0, y1, y2, y3, y4⟩, -⟩ := blk5 HR6.out
  have HAW : Hid (∀ wx, Keeps [] w wx → Calls Tryz.prog 15 #[] wx fun e w' => e = .returned (.bool true) ∧ Keeps [] wx w') := fun wx g => awake14_any wx (HT.out.k g) (HE.out.k g)
  have HCV : Hid (∀ wx, Keeps [] w wx → (convert 28 9 (.slice a bs.length q)).run Tryz.prog wx = .ok (.string (str bs)) wx) := fun wx g => cv_str (HR.out.k0 g) rfl
  rcases ok with _ | _
  · rcases good with _ | _
    · go_wp2_with fail
      obtain ⟨wB, hwB⟩ : ∃ wB, w6.alloc (.cells #[.int .i64 er, .int .i64 nn, .int .i64 rk, .int .i64 rn, .string rs] 37) = wB := ⟨_, rfl⟩
      have KB : Hid (Keeps [] w6 wB) := by rw [← hwB]; exact Keeps.K
      have HROW : Hid (∀ w', Keeps [] wB w' → w'.heap[w2.heap.size]? = some (.cells #[.int .i64 kd, .int .i64 se, .int .i64 sq, .string fd, .int .i64 vr, .int .i64 vk, .int .i64 vn, .string vs] 25 (0, 0))) := fun w' g => ((KB.out.trans g (fun _ _ h => h)).block _ (Array.getElem?_eq_some_iff.1 HC6.out).1 (by simp)).trans HC6.out
      have HROB : Hid (∀ w', Keeps [] wB w' → w'.heap[w5.heap.size]? = some (.cells #[.int .i64 er, .int .i64 nn, .int .i64 rk, .int .i64 rn, .string rs] 37 (0, 0))) := fun w' g => ((KB.out.trans g (fun _ _ h => h)).block _ (Array.getElem?_eq_some_iff.1 HR6.out).1 (by simp)).trans HR6.out
      have KWB : Hid (Keeps [] w wB) := K6.out.trans KB.out (fun _ _ h => h)
      rw [hwB]
      clear hwB x0 x1 x2 x3 x4 x5 x6 x7 y0 y1 y2 y3 y4 z0 z1 z2 z3 z4 z5 z6 z7
      obtain ⟨⟨x0, x1, x2, x3, x4, x5, x6, x7⟩, -⟩ := blk8 (HROW.out _ (Keeps.refl [] wB))
      obtain ⟨⟨y0, y1, y2, y3, y4⟩, -⟩ := blk5 (HROB.out _ (Keeps.refl [] wB))
      refine Plan.wp_region_plan (fun wx => (wx.cell? ⟨w2.heap.size, 0, none⟩ = some (.int .i64 kd) ∧ wx.cell? ⟨w2.heap.size, 1, none⟩ = some (.int .i64 se) ∧ wx.cell? ⟨w2.heap.size, 2, none⟩ = some (.int .i64 sq) ∧ wx.cell? ⟨w2.heap.size, 3, none⟩ = some (.string fd) ∧ wx.cell? ⟨w2.heap.size, 4, none⟩ = some (.int .i64 vr) ∧ wx.cell? ⟨w2.heap.size, 5, none⟩ = some (.int .i64 vk) ∧ wx.cell? ⟨w2.heap.size, 6, none⟩ = some (.int .i64 vn) ∧ wx.cell? ⟨w2.heap.size, 7, none⟩ = some (.string vs)) ∧ (wx.cell? ⟨w5.heap.size, 0, none⟩ = some (.int .i64 er) ∧ wx.cell? ⟨w5.heap.size, 1, none⟩ = some (.int .i64 nn) ∧ wx.cell? ⟨w5.heap.size, 2, none⟩ = some (.int .i64 rk) ∧ wx.cell? ⟨w5.heap.size, 3, none⟩ = some (.int .i64 rn) ∧ wx.cell? ⟨w5.heap.size, 4, none⟩ = some (.string rs)) ∧ (convert 28 9 (.slice a bs.length q)).run Tryz.prog wx = .ok (.string (str bs)) wx) 19 [(true, 0), (true, 1), (true, 2), (true, 3), (true, 6), (true, 7), (false, 4), (false, 5), (true, 8), (true, 9), (true, 10), (true, 11), (true, 12), (true, 13), (true, 14), (true, 17), (true, 18), (false, 15), (false, 16)] (by kernel_rfl) (by as_aux_lemma => kernel_rfl) (by kernel_rfl) (fun _ _ _ _ _ h => h) ?_ (fun hS => ?_)
      (· go_simp; exact HCV.out _ (by have kk := KWB.out; exact Keeps.K))
      simp only [Plan.pick, List.append_eq, List.cons_append, List.nil_append, Plan.g1, Plan.g2, Option.getD_some, List.drop_succ_cons, List.drop_zero]
      iterate 6 (first | refine Plan.tA ?_ | refine Plan.tY ?_ | refine Plan.pN ?_ | refine Plan.pU ?_ | fail)
      refine Plan.step ?_
      go_wp2_with fail
      refine ⟨?_, ?_⟩
      (· go_simp; try exact HCV.out _ (by have kk := KWB.out; exact Keeps.K))
      refine Plan.step ?_
      go_wp2_with fail
      refine ⟨?_, ?_⟩
      (· go_simp; try exact HCV.out _ (by have kk := KWB.out; exact Keeps.K))
      iterate 9 (first | refine Plan.tA ?_ | refine Plan.tY ?_ | refine Plan.pN ?_ | refine Plan.pU ?_ | fail)
      refine Plan.step ?_
      go_wp2_with fail
      refine ⟨?_, ?_⟩
      (· go_simp; try exact HCV.out _ (by have kk := KWB.out; exact Keeps.K))
      refine Plan.step ?_
      go_wp2_with fail
      refine ⟨?_, ?_⟩
      (· go_simp; try exact HCV.out _ (by have kk := KWB.out; exact Keeps.K))
      refine Plan.fin ?_
      go_wp2_with fail
      refine (HAW.out _ (by have kk := KWB.out; exact Keeps.K)).mono ?_
      rintro e u9 ⟨rfl, hk⟩
      have KW9 : Hid (Keeps [] w u9) := Keeps.trans (by have kk := KWB.out; exact Keeps.K) hk (fun _ _ h => h)
      clear hk
      go_wp2_with fail
      go_ret
      exact ⟨rfl, KW9.out⟩
    · go_wp2_with fail
      obtain ⟨wB, hwB⟩ : ∃ wB, w6.alloc (.cells #[.int .i64 er, .int .i64 nn, .int .i64 rk, .int .i64 rn, .string rs] 37) = wB := ⟨_, rfl⟩
      have KB : Hid (Keeps [] w6 wB) := by rw [← hwB]; exact Keeps.K
      have HROW : Hid (∀ w', Keeps [] wB w' → w'.heap[w2.heap.size]? = some (.cells #[.int .i64 kd, .int .i64 se, .int .i64 sq, .string fd, .int .i64 vr, .int .i64 vk, .int .i64 vn, .string vs] 25 (0, 0))) := fun w' g => ((KB.out.trans g (fun _ _ h => h)).block _ (Array.getElem?_eq_some_iff.1 HC6.out).1 (by simp)).trans HC6.out
      have HROB : Hid (∀ w', Keeps [] wB w' → w'.heap[w5.heap.size]? = some (.cells #[.int .i64 er, .int .i64 nn, .int .i64 rk, .int .i64 rn, .string rs] 37 (0, 0))) := fun w' g => ((KB.out.trans g (fun _ _ h => h)).block _ (Array.getElem?_eq_some_iff.1 HR6.out).1 (by simp)).trans HR6.out
      have KWB : Hid (Keeps [] w wB) := K6.out.trans KB.out (fun _ _ h => h)
      rw [hwB]
      clear hwB x0 x1 x2 x3 x4 x5 x6 x7 y0 y1 y2 y3 y4 z0 z1 z2 z3 z4 z5 z6 z7
      obtain ⟨⟨x0, x1, x2, x3, x4, x5, x6, x7⟩, -⟩ := blk8 (HROW.out _ (Keeps.refl [] wB))
      obtain ⟨⟨y0, y1, y2, y3, y4⟩, -⟩ := blk5 (HROB.out _ (Keeps.refl [] wB))
      refine Plan.wp_region_plan (fun wx => (wx.cell? ⟨w2.heap.size, 0, none⟩ = some (.int .i64 kd) ∧ wx.cell? ⟨w2.heap.size, 1, none⟩ = some (.int .i64 se) ∧ wx.cell? ⟨w2.heap.size, 2, none⟩ = some (.int .i64 sq) ∧ wx.cell? ⟨w2.heap.size, 3, none⟩ = some (.string fd) ∧ wx.cell? ⟨w2.heap.size, 4, none⟩ = some (.int .i64 vr) ∧ wx.cell? ⟨w2.heap.size, 5, none⟩ = some (.int .i64 vk) ∧ wx.cell? ⟨w2.heap.size, 6, none⟩ = some (.int .i64 vn) ∧ wx.cell? ⟨w2.heap.size, 7, none⟩ = some (.string vs)) ∧ (wx.cell? ⟨w5.heap.size, 0, none⟩ = some (.int .i64 er) ∧ wx.cell? ⟨w5.heap.size, 1, none⟩ = some (.int .i64 nn) ∧ wx.cell? ⟨w5.heap.size, 2, none⟩ = some (.int .i64 rk) ∧ wx.cell? ⟨w5.heap.size, 3, none⟩ = some (.int .i64 rn) ∧ wx.cell? ⟨w5.heap.size, 4, none⟩ = some (.string rs)) ∧ (convert 28 9 (.slice a bs.length q)).run Tryz.prog wx = .ok (.string (str bs)) wx) 19 [(true, 0), (true, 1), (true, 2), (true, 3), (true, 6), (true, 7), (false, 4), (false, 5), (true, 8), (true, 9), (true, 10), (true, 11), (true, 12), (true, 13), (true, 14), (true, 17), (true, 18), (false, 15), (false, 16)] (by kernel_rfl) (by as_aux_lemma => kernel_rfl) (by kernel_rfl) (fun _ _ _ _ _ h => h) ?_ (fun hS => ?_)
      (· go_simp; exact HCV.out _ (by have kk := KWB.out; exact Keeps.K))
      simp only [Plan.pick, List.append_eq, List.cons_append, List.nil_append, Plan.g1, Plan.g2, Option.getD_some, List.drop_succ_cons, List.drop_zero]
      iterate 6 (first | refine Plan.tA ?_ | refine Plan.tY ?_ | refine Plan.pN ?_ | refine Plan.pU ?_ | fail)
      refine Plan.step ?_
      go_wp2_with fail
      refine ⟨?_, ?_⟩
      (· go_simp; try exact HCV.out _ (by have kk := KWB.out; exact Keeps.K))
      refine Plan.step ?_
      go_wp2_with fail
      refine ⟨?_, ?_⟩
      (· go_simp; try exact HCV.out _ (by have kk := KWB.out; exact Keeps.K))
      iterate 9 (first | refine Plan.tA ?_ | refine Plan.tY ?_ | refine Plan.pN ?_ | refine Plan.pU ?_ | fail)
      refine Plan.step ?_
      go_wp2_with fail
      refine (HPR.out (by simp) _).mono ?_
      rintro e u2 ⟨au2, qu2, rfl, hu2, hk⟩
      rw [List.nil_append] at hu2 ⊢
      have Ku2 : Hid (Keeps [] wB u2) := Keeps.trans (G := []) (by exact Keeps.K) hk (fun _ _ h => h)
      have KWu2 : Hid (Keeps [] w u2) := KWB.out.trans Ku2.out (fun _ _ h => h)
      have cvu2 : (convert 28 9 (.slice au2 bs.length qu2)).run Tryz.prog u2 = .ok (.string (str bs)) u2 := cv_str (Reads.ofOwn hu2) rfl
      clear hk hu2 x0 x1 x2 x3 x4 x5 x6 x7 y0 y1 y2 y3 y4 hS
      obtain ⟨⟨x0, x1, x2, x3, x4, x5, x6, x7⟩, -⟩ := blk8 (HROW.out _ Ku2.out)
      obtain ⟨⟨y0, y1, y2, y3, y4⟩, -⟩ := blk5 (HROB.out _ Ku2.out)
      go_wp2_with fail
      refine ⟨?_, ?_⟩
      (· go_simp; exact HCV.out _ KWu2.out)
      refine Plan.step ?_
      go_wp2_with fail
      refine ⟨?_, ?_⟩
      (· go_simp; try exact HCV.out _ (by have kk := KWu2.out; exact Keeps.K))
      clear cvu2
      refine Plan.fin ?_
      go_wp2_with fail
      refine (HAW.out _ (by have kk := KWu2.out; exact Keeps.K)).mono ?_
      rintro e u9 ⟨rfl, hk⟩
      have KW9 : Hid (Keeps [] w u9) := Keeps.trans (by have kk := KWu2.out; exact Keeps.K) hk (fun _ _ h => h)
      clear hk
      go_wp2_with fail
      go_ret
      exact ⟨rfl, KW9.out⟩
  · rcases good with _ | _
    · go_wp2_with fail
      obtain ⟨wB, hwB⟩ : ∃ wB, w6.alloc (.cells #[.int .i64 er, .int .i64 nn, .int .i64 rk, .int .i64 rn, .string rs] 37) = wB := ⟨_, rfl⟩
      have KB : Hid (Keeps [] w6 wB) := by rw [← hwB]; exact Keeps.K
      have HROW : Hid (∀ w', Keeps [] wB w' → w'.heap[w2.heap.size]? = some (.cells #[.int .i64 kd, .int .i64 se, .int .i64 sq, .string fd, .int .i64 vr, .int .i64 vk, .int .i64 vn, .string vs] 25 (0, 0))) := fun w' g => ((KB.out.trans g (fun _ _ h => h)).block _ (Array.getElem?_eq_some_iff.1 HC6.out).1 (by simp)).trans HC6.out
      have HROB : Hid (∀ w', Keeps [] wB w' → w'.heap[w5.heap.size]? = some (.cells #[.int .i64 er, .int .i64 nn, .int .i64 rk, .int .i64 rn, .string rs] 37 (0, 0))) := fun w' g => ((KB.out.trans g (fun _ _ h => h)).block _ (Array.getElem?_eq_some_iff.1 HR6.out).1 (by simp)).trans HR6.out
      have KWB : Hid (Keeps [] w wB) := K6.out.trans KB.out (fun _ _ h => h)
      rw [hwB]
      clear hwB x0 x1 x2 x3 x4 x5 x6 x7 y0 y1 y2 y3 y4 z0 z1 z2 z3 z4 z5 z6 z7
      obtain ⟨⟨x0, x1, x2, x3, x4, x5, x6, x7⟩, -⟩ := blk8 (HROW.out _ (Keeps.refl [] wB))
      obtain ⟨⟨y0, y1, y2, y3, y4⟩, -⟩ := blk5 (HROB.out _ (Keeps.refl [] wB))
      refine Plan.wp_region_plan (fun wx => (wx.cell? ⟨w2.heap.size, 0, none⟩ = some (.int .i64 kd) ∧ wx.cell? ⟨w2.heap.size, 1, none⟩ = some (.int .i64 se) ∧ wx.cell? ⟨w2.heap.size, 2, none⟩ = some (.int .i64 sq) ∧ wx.cell? ⟨w2.heap.size, 3, none⟩ = some (.string fd) ∧ wx.cell? ⟨w2.heap.size, 4, none⟩ = some (.int .i64 vr) ∧ wx.cell? ⟨w2.heap.size, 5, none⟩ = some (.int .i64 vk) ∧ wx.cell? ⟨w2.heap.size, 6, none⟩ = some (.int .i64 vn) ∧ wx.cell? ⟨w2.heap.size, 7, none⟩ = some (.string vs)) ∧ (wx.cell? ⟨w5.heap.size, 0, none⟩ = some (.int .i64 er) ∧ wx.cell? ⟨w5.heap.size, 1, none⟩ = some (.int .i64 nn) ∧ wx.cell? ⟨w5.heap.size, 2, none⟩ = some (.int .i64 rk) ∧ wx.cell? ⟨w5.heap.size, 3, none⟩ = some (.int .i64 rn) ∧ wx.cell? ⟨w5.heap.size, 4, none⟩ = some (.string rs)) ∧ (convert 28 9 (.slice a bs.length q)).run Tryz.prog wx = .ok (.string (str bs)) wx) 19 [(true, 0), (true, 1), (true, 2), (true, 3), (true, 6), (true, 7), (false, 4), (false, 5), (true, 8), (true, 9), (true, 10), (true, 11), (true, 12), (true, 13), (true, 14), (true, 17), (true, 18), (false, 15), (false, 16)] (by kernel_rfl) (by as_aux_lemma => kernel_rfl) (by kernel_rfl) (fun _ _ _ _ _ h => h) ?_ (fun hS => ?_)
      (· go_simp; exact HCV.out _ (by have kk := KWB.out; exact Keeps.K))
      simp only [Plan.pick, List.append_eq, List.cons_append, List.nil_append, Plan.g1, Plan.g2, Option.getD_some, List.drop_succ_cons, List.drop_zero]
      iterate 6 (first | refine Plan.tA ?_ | refine Plan.tY ?_ | refine Plan.pN ?_ | refine Plan.pU ?_ | fail)
      refine Plan.step ?_
      go_wp2_with fail
      refine (HPC.out (by simp) _).mono ?_
      rintro e u1 ⟨au1, qu1, rfl, hu1, hk⟩
      rw [List.nil_append] at hu1 ⊢
      have Ku1 : Hid (Keeps [] wB u1) := Keeps.trans (G := []) (by exact Keeps.K) hk (fun _ _ h => h)
      have KWu1 : Hid (Keeps [] w u1) := KWB.out.trans Ku1.out (fun _ _ h => h)
      have cvu1 : (convert 28 9 (.slice au1 bs.length qu1)).run Tryz.prog u1 = .ok (.string (str bs)) u1 := cv_str (Reads.ofOwn hu1) rfl
      clear hk hu1 x0 x1 x2 x3 x4 x5 x6 x7 y0 y1 y2 y3 y4 hS
      obtain ⟨⟨x0, x1, x2, x3, x4, x5, x6, x7⟩, -⟩ := blk8 (HROW.out _ Ku1.out)
      obtain ⟨⟨y0, y1, y2, y3, y4⟩, -⟩ := blk5 (HROB.out _ Ku1.out)
      go_wp2_with fail
      refine ⟨?_, ?_⟩
      (· go_simp; exact HCV.out _ KWu1.out)
      refine Plan.step ?_
      go_wp2_with fail
      refine ⟨?_, ?_⟩
      (· go_simp; try exact HCV.out _ (by have kk := KWu1.out; exact Keeps.K))
      clear cvu1
      iterate 9 (first | refine Plan.tA ?_ | refine Plan.tY ?_ | refine Plan.pN ?_ | refine Plan.pU ?_ | fail)
      refine Plan.step ?_
      go_wp2_with fail
      refine ⟨?_, ?_⟩
      (· go_simp; try exact HCV.out _ (by have kk := KWu1.out; exact Keeps.K))
      refine Plan.step ?_
      go_wp2_with fail
      refine ⟨?_, ?_⟩
      (· go_simp; try exact HCV.out _ (by have kk := KWu1.out; exact Keeps.K))
      refine Plan.fin ?_
      go_wp2_with fail
      refine (HAW.out _ (by have kk := KWu1.out; exact Keeps.K)).mono ?_
      rintro e u9 ⟨rfl, hk⟩
      have KW9 : Hid (Keeps [] w u9) := Keeps.trans (by have kk := KWu1.out; exact Keeps.K) hk (fun _ _ h => h)
      clear hk
      go_wp2_with fail
      go_ret
      exact ⟨rfl, KW9.out⟩
    · go_wp2_with fail
      obtain ⟨wB, hwB⟩ : ∃ wB, w6.alloc (.cells #[.int .i64 er, .int .i64 nn, .int .i64 rk, .int .i64 rn, .string rs] 37) = wB := ⟨_, rfl⟩
      have KB : Hid (Keeps [] w6 wB) := by rw [← hwB]; exact Keeps.K
      have HROW : Hid (∀ w', Keeps [] wB w' → w'.heap[w2.heap.size]? = some (.cells #[.int .i64 kd, .int .i64 se, .int .i64 sq, .string fd, .int .i64 vr, .int .i64 vk, .int .i64 vn, .string vs] 25 (0, 0))) := fun w' g => ((KB.out.trans g (fun _ _ h => h)).block _ (Array.getElem?_eq_some_iff.1 HC6.out).1 (by simp)).trans HC6.out
      have HROB : Hid (∀ w', Keeps [] wB w' → w'.heap[w5.heap.size]? = some (.cells #[.int .i64 er, .int .i64 nn, .int .i64 rk, .int .i64 rn, .string rs] 37 (0, 0))) := fun w' g => ((KB.out.trans g (fun _ _ h => h)).block _ (Array.getElem?_eq_some_iff.1 HR6.out).1 (by simp)).trans HR6.out
      have KWB : Hid (Keeps [] w wB) := K6.out.trans KB.out (fun _ _ h => h)
      rw [hwB]
      clear hwB x0 x1 x2 x3 x4 x5 x6 x7 y0 y1 y2 y3 y4 z0 z1 z2 z3 z4 z5 z6 z7
      obtain ⟨⟨x0, x1, x2, x3, x4, x5, x6, x7⟩, -⟩ := blk8 (HROW.out _ (Keeps.refl [] wB))
      obtain ⟨⟨y0, y1, y2, y3, y4⟩, -⟩ := blk5 (HROB.out _ (Keeps.refl [] wB))
      refine Plan.wp_region_plan (fun wx => (wx.cell? ⟨w2.heap.size, 0, none⟩ = some (.int .i64 kd) ∧ wx.cell? ⟨w2.heap.size, 1, none⟩ = some (.int .i64 se) ∧ wx.cell? ⟨w2.heap.size, 2, none⟩ = some (.int .i64 sq) ∧ wx.cell? ⟨w2.heap.size, 3, none⟩ = some (.string fd) ∧ wx.cell? ⟨w2.heap.size, 4, none⟩ = some (.int .i64 vr) ∧ wx.cell? ⟨w2.heap.size, 5, none⟩ = some (.int .i64 vk) ∧ wx.cell? ⟨w2.heap.size, 6, none⟩ = some (.int .i64 vn) ∧ wx.cell? ⟨w2.heap.size, 7, none⟩ = some (.string vs)) ∧ (wx.cell? ⟨w5.heap.size, 0, none⟩ = some (.int .i64 er) ∧ wx.cell? ⟨w5.heap.size, 1, none⟩ = some (.int .i64 nn) ∧ wx.cell? ⟨w5.heap.size, 2, none⟩ = some (.int .i64 rk) ∧ wx.cell? ⟨w5.heap.size, 3, none⟩ = some (.int .i64 rn) ∧ wx.cell? ⟨w5.heap.size, 4, none⟩ = some (.string rs)) ∧ (convert 28 9 (.slice a bs.length q)).run Tryz.prog wx = .ok (.string (str bs)) wx) 19 [(true, 0), (true, 1), (true, 2), (true, 3), (true, 6), (true, 7), (false, 4), (false, 5), (true, 8), (true, 9), (true, 10), (true, 11), (true, 12), (true, 13), (true, 14), (true, 17), (true, 18), (false, 15), (false, 16)] (by kernel_rfl) (by as_aux_lemma => kernel_rfl) (by kernel_rfl) (fun _ _ _ _ _ h => h) ?_ (fun hS => ?_)
      (· go_simp; exact HCV.out _ (by have kk := KWB.out; exact Keeps.K))
      simp only [Plan.pick, List.append_eq, List.cons_append, List.nil_append, Plan.g1, Plan.g2, Option.getD_some, List.drop_succ_cons, List.drop_zero]
      iterate 6 (first | refine Plan.tA ?_ | refine Plan.tY ?_ | refine Plan.pN ?_ | refine Plan.pU ?_ | fail)
      refine Plan.step ?_
      go_wp2_with fail
      refine (HPC.out (by simp) _).mono ?_
      rintro e u1 ⟨au1, qu1, rfl, hu1, hk⟩
      rw [List.nil_append] at hu1 ⊢
      have Ku1 : Hid (Keeps [] wB u1) := Keeps.trans (G := []) (by exact Keeps.K) hk (fun _ _ h => h)
      have KWu1 : Hid (Keeps [] w u1) := KWB.out.trans Ku1.out (fun _ _ h => h)
      have cvu1 : (convert 28 9 (.slice au1 bs.length qu1)).run Tryz.prog u1 = .ok (.string (str bs)) u1 := cv_str (Reads.ofOwn hu1) rfl
      clear hk hu1 x0 x1 x2 x3 x4 x5 x6 x7 y0 y1 y2 y3 y4 hS
      obtain ⟨⟨x0, x1, x2, x3, x4, x5, x6, x7⟩, -⟩ := blk8 (HROW.out _ Ku1.out)
      obtain ⟨⟨y0, y1, y2, y3, y4⟩, -⟩ := blk5 (HROB.out _ Ku1.out)
      go_wp2_with fail
      refine ⟨?_, ?_⟩
      (· go_simp; exact HCV.out _ KWu1.out)
      refine Plan.step ?_
      go_wp2_with fail
      refine ⟨?_, ?_⟩
      (· go_simp; try exact HCV.out _ (by have kk := KWu1.out; exact Keeps.K))
      clear cvu1
      iterate 9 (first | refine Plan.tA ?_ | refine Plan.tY ?_ | refine Plan.pN ?_ | refine Plan.pU ?_ | fail)
      refine Plan.step ?_
      go_wp2_with fail
      refine (HPR.out (by simp) _).mono ?_
      rintro e u2 ⟨au2, qu2, rfl, hu2, hk⟩
      rw [List.nil_append] at hu2 ⊢
      have Ku2 : Hid (Keeps [] wB u2) := Ku1.out.trans (Keeps.trans (G := []) (by exact Keeps.K) hk (fun _ _ h => h)) (fun _ _ h => h)
      have KWu2 : Hid (Keeps [] w u2) := KWB.out.trans Ku2.out (fun _ _ h => h)
      have cvu2 : (convert 28 9 (.slice au2 bs.length qu2)).run Tryz.prog u2 = .ok (.string (str bs)) u2 := cv_str (Reads.ofOwn hu2) rfl
      clear hk hu2 x0 x1 x2 x3 x4 x5 x6 x7 y0 y1 y2 y3 y4
      obtain ⟨⟨x0, x1, x2, x3, x4, x5, x6, x7⟩, -⟩ := blk8 (HROW.out _ Ku2.out)
      obtain ⟨⟨y0, y1, y2, y3, y4⟩, -⟩ := blk5 (HROB.out _ Ku2.out)
      go_wp2_with fail
      refine ⟨?_, ?_⟩
      (· go_simp; exact HCV.out _ KWu2.out)
      refine Plan.step ?_
      go_wp2_with fail
      refine ⟨?_, ?_⟩
      (· go_simp; try exact HCV.out _ (by have kk := KWu2.out; exact Keeps.K))
      clear cvu2
      refine Plan.fin ?_
      go_wp2_with fail
      refine (HAW.out _ (by have kk := KWu2.out; exact Keeps.K)).mono ?_
      rintro e u9 ⟨rfl, hk⟩
      have KW9 : Hid (Keeps [] w u9) := Keeps.trans (by have kk := KWu2.out; exact Keeps.K) hk (fun _ _ h => h)
      clear hk
      go_wp2_with fail
      go_ret
      exact ⟨rfl, KW9.out⟩

end Go.Proofs.YtbbdmmhpbeleoaaGreatDoor
