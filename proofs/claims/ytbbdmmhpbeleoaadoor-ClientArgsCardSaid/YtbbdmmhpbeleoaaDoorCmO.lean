/- CmdReplies, walked. -/
import Derived.Test.YtbbdmmhpbeleoaaDoorQ22

set_option linter.unusedSimpArgs false
set_option linter.unusedVariables false
namespace Go.Proofs.YtbbdmmhpbeleoaaDoor
open Go Go.RowKit

structure ReplyI (r : ReplyD) : Prop where
  err : I64 r.err
  n : I64 r.n
  vkind : I64 r.value.kind
  vn : I64 r.value.n
theorem ReplyI.w {r : ReplyD} (h : ReplyI r) (hs : shortR r = true) : ReplyW r := by
  unfold shortR at hs
  simp at hs
  exact ⟨h.err, h.n, h.vkind, h.vn, by omega⟩

set_option maxRecDepth 100000 in
set_option maxHeartbeats 8000000 in
theorem cmdReplies_any (c : ReplyD) (w : World) (hT : Tabs w) (hE : Errs w) (hI : ReplyI c) : Calls Tryd.prog 3 #[replyV c] w fun e w' => e = .returned (.bool true) ∧ Keeps [] w w' := by
  obtain ⟨bs, hbs⟩ : ∃ b, shortR c = b := ⟨_, rfl⟩
  obtain ⟨bc, hbc⟩ : ∃ b, checkR c = b := ⟨_, rfl⟩
  have HI := hid hI
  have HBS := hid hbs
  have HBC := hid hbc
  have HC2 := hid (fun w1 h1 => r14CheckR_any c w1 h1)
  have HPUT := hid (fun h w1 => cmPutR_any c (hI.w h) w1)
  have HPUR := hid (fun h w1 => r14PutR_any c (hI.w h) w1)
  obtain ⟨PC, hPC⟩ : ∃ PC, putR c = PC := ⟨_, rfl⟩
  have HPC := hid hPC
  have HGET : Hid (checkR c = true → shortR c = true → ∀ a q w1, Tabs w1 → Errs w1 → Reads w1 1 (.slice a PC.length q) PC.length (u8s PC) → Calls Tryd.prog 8 #[.slice a PC.length q] w1 fun e w' => e = .returned (.tuple #[replyV c, .bool true]) ∧ Keeps [] w1 w') := fun h0 hs a q w1 h1 h2 h3 => by
    have h4 := cmGetR_any (.slice a PC.length q) PC w1 h1 h3 (by rw [← hPC]; have := putR_most c (hI.w hs); omega)
    rw [← hPC, getR_put c h0 hI.vkind hI.vn] at h4
    rw [← hPC]
    exact h4
  rw [hbc] at HC2
  rw [hPC] at HPUT HPUR
  have HT := hid hT
  have HE := hid hE
  clear hI hT hE hbs hbc hPC
  obtain ⟨er, nn, rk, rn, rs⟩ := c
  have HCV : Hid (replyV ⟨er, nn, rk, rn, rs⟩ = .agg #[.int .i64 er, .int .i64 nn, .int .i64 rk, .int .i64 rn, .string rs]) := rfl
  rw [HCV.out] at HC2 HPUT HPUR HGET ⊢
  clear HCV
  rcases bs with _ | _
  · have hbig : 1000 < (rs.size : Int) := by have := HBS.out; unfold shortR at this; simp at this; omega
    go_enter Tryd.func3, Tryd.ntmps3
    go_wp2_with fail
    obtain ⟨wA, hwA⟩ : ∃ wA, w.alloc (.cells #[.int .i64 er, .int .i64 nn, .int .i64 rk, .int .i64 rn, .string rs] 26) = wA := ⟨_, rfl⟩
    have KA : Hid (Keeps [] w wA) := by rw [← hwA]; exact Keeps.K
    have HA : Hid (wA.heap[w.heap.size]? = some (.cells #[.int .i64 er, .int .i64 nn, .int .i64 rk, .int .i64 rn, .string rs] 26 (0, 0))) := by rw [← hwA]; exact heap_alloc_new w _
    have HROW : Hid (∀ w', Keeps [] wA w' → w'.heap[w.heap.size]? = some (.cells #[.int .i64 er, .int .i64 nn, .int .i64 rk, .int .i64 rn, .string rs] 26 (0, 0))) := fun w' g => (g.block _ (Array.getElem?_eq_some_iff.1 HA.out).1 (by simp)).trans HA.out
    rw [hwA]
    clear hwA
    obtain ⟨⟨x0, x1, x2, x3, x4⟩, -⟩ := blk5 HA.out
    refine (awake14_any _ (HT.out.k KA.out) (HE.out.k KA.out)).mono ?_
    rintro e w2 ⟨rfl, hk⟩
    have K2 := hid hk
    clear hk
    go_wp2_with fail
    go_ret
    exact ⟨rfl, KA.out.trans K2.out (fun _ _ h => h)⟩
  · have hbig : ¬ 1000 < (rs.size : Int) := by have := HBS.out; unfold shortR at this; simp at this; omega
    go_enter Tryd.func3, Tryd.ntmps3
    go_wp2_with fail
    obtain ⟨wA, hwA⟩ : ∃ wA, w.alloc (.cells #[.int .i64 er, .int .i64 nn, .int .i64 rk, .int .i64 rn, .string rs] 26) = wA := ⟨_, rfl⟩
    have KA : Hid (Keeps [] w wA) := by rw [← hwA]; exact Keeps.K
    have HA : Hid (wA.heap[w.heap.size]? = some (.cells #[.int .i64 er, .int .i64 nn, .int .i64 rk, .int .i64 rn, .string rs] 26 (0, 0))) := by rw [← hwA]; exact heap_alloc_new w _
    have HROW : Hid (∀ w', Keeps [] wA w' → w'.heap[w.heap.size]? = some (.cells #[.int .i64 er, .int .i64 nn, .int .i64 rk, .int .i64 rn, .string rs] 26 (0, 0))) := fun w' g => (g.block _ (Array.getElem?_eq_some_iff.1 HA.out).1 (by simp)).trans HA.out
    rw [hwA]
    clear hwA
    obtain ⟨⟨x0, x1, x2, x3, x4⟩, -⟩ := blk5 HA.out
    clear hbig
    refine (HC2.out _ (HT.out.k KA.out)).mono ?_
    rintro e w2 ⟨rfl, hk⟩
    have K2 : Hid (Keeps [] wA w2) := hk
    have KW2 : Hid (Keeps [] w w2) := KA.out.trans K2.out (fun _ _ h => h)
    clear hk x0 x1 x2 x3 x4
    obtain ⟨⟨x0, x1, x2, x3, x4⟩, -⟩ := blk5 (HROW.out _ K2.out)
    rcases bc with _ | _
    · go_wp2_with fail
      refine (awake14_any _ (HT.out.k KW2.out) (HE.out.k KW2.out)).mono ?_
      rintro e w3 ⟨rfl, hk⟩
      have K3 := hid hk
      clear hk
      go_wp2_with fail
      go_ret
      exact ⟨rfl, KW2.out.trans K3.out (fun _ _ h => h)⟩
    · go_wp2_with fail
      refine (HPUT.out HBS.out _).mono ?_
      rintro e w3 ⟨a3, q3, rfl, h3, hk⟩
      rw [List.nil_append] at h3 ⊢
      have K3 : Hid (Keeps [] wA w3) := K2.out.trans hk (fun _ _ h => h)
      have KW3 : Hid (Keeps [] w w3) := KA.out.trans K3.out (fun _ _ h => h)
      have R3 := hid (Reads.ofOwn h3)
      clear hk h3 x0 x1 x2 x3 x4
      go_wp2_with fail
      refine (HGET.out HBC.out HBS.out a3 q3 _ (HT.out.k KW3.out) (HE.out.k KW3.out) R3.out).mono ?_
      rintro e w4 ⟨rfl, hk⟩
      have K4 : Hid (Keeps [] wA w4) := K3.out.trans hk (fun _ _ h => h)
      have KW4 : Hid (Keeps [] w w4) := KA.out.trans K4.out (fun _ _ h => h)
      have R4 := hid (R3.out.k0 hk)
      obtain ⟨⟨x0, x1, x2, x3, x4⟩, -⟩ := blk5 (HROW.out _ K4.out)
      have hlt : w.heap.size < w4.heap.size := (Array.getElem?_eq_some_iff.1 (HROW.out _ K4.out)).1
      clear hk
      dsimp only
      go_wp2_with fail
      refine Plan.wp_region_plan (fun wx => (wx.cell? ⟨w.heap.size, 0, none⟩ = some (.int .i64 er) ∧ wx.cell? ⟨w.heap.size, 1, none⟩ = some (.int .i64 nn) ∧ wx.cell? ⟨w.heap.size, 2, none⟩ = some (.int .i64 rk) ∧ wx.cell? ⟨w.heap.size, 3, none⟩ = some (.int .i64 rn) ∧ wx.cell? ⟨w.heap.size, 4, none⟩ = some (.string rs)) ∧ (wx.cell? ⟨w4.heap.size, 0, none⟩ = some (.int .i64 er) ∧ wx.cell? ⟨w4.heap.size, 1, none⟩ = some (.int .i64 nn) ∧ wx.cell? ⟨w4.heap.size, 2, none⟩ = some (.int .i64 rk) ∧ wx.cell? ⟨w4.heap.size, 3, none⟩ = some (.int .i64 rn) ∧ wx.cell? ⟨w4.heap.size, 4, none⟩ = some (.string rs)) ∧ (convert 29 9 (.slice a3 PC.length q3)).run Tryd.prog wx = .ok (.string (str PC)) wx) 12 [(true, 0), (true, 1), (true, 2), (false, 3), (false, 4), (true, 5), (true, 6), (true, 7), (true, 8), (true, 9), (true, 10), (true, 11)] (by kernel_rfl) (by as_aux_lemma => kernel_rfl) (by kernel_rfl) (fun _ _ _ _ _ h => h) ?_ (fun hS => ?_)
      (· go_simp; exact cv_str (R4.out.k0 (by exact Keeps.K)) rfl)
      simp only [Plan.pick, List.append_eq, List.cons_append, List.nil_append, Plan.g1, Plan.g2, Option.getD_some, List.drop_succ_cons, List.drop_zero]
      iterate 3 (first | refine Plan.tA ?_ | refine Plan.tY ?_ | refine Plan.pN ?_ | refine Plan.pU ?_ | fail)
      refine Plan.step ?_
      go_wp2_with fail
      refine (HPUR.out HBS.out _).mono ?_
      rintro e w5 ⟨a5, q5, rfl, h5, hk⟩
      rw [List.nil_append] at h5 ⊢
      have K45 : Keeps [] w4 w5 := Keeps.trans (by exact Keeps.K) hk (fun _ _ h => h)
      have K5 : Hid (Keeps [] wA w5) := K4.out.trans K45 (fun _ _ h => h)
      have y0 : w5.cell? ⟨w4.heap.size, 0, none⟩ = some (.int .i64 er) := hk.cellSome (by go_simp) (by simp)
      have y1 : w5.cell? ⟨w4.heap.size, 1, none⟩ = some (.int .i64 nn) := hk.cellSome (by go_simp) (by simp)
      have y2 : w5.cell? ⟨w4.heap.size, 2, none⟩ = some (.int .i64 rk) := hk.cellSome (by go_simp) (by simp)
      have y3 : w5.cell? ⟨w4.heap.size, 3, none⟩ = some (.int .i64 rn) := hk.cellSome (by go_simp) (by simp)
      have y4 : w5.cell? ⟨w4.heap.size, 4, none⟩ = some (.string rs) := hk.cellSome (by go_simp) (by simp)
      clear x0 x1 x2 x3 x4 hS
      obtain ⟨⟨x0, x1, x2, x3, x4⟩, -⟩ := blk5 (HROW.out _ K5.out)
      have cv : (convert 29 9 (.slice a3 PC.length q3)).run Tryd.prog w5 = .ok (.string (str PC)) w5 := cv_str (R4.out.k0 K45) rfl
      have cv2 : (convert 29 9 (.slice a5 PC.length q5)).run Tryd.prog w5 = .ok (.string (str PC)) w5 := cv_str (Reads.ofOwn h5) rfl
      clear hk h5 K45
      go_wp2_with fail
      refine ⟨?_, ?_⟩
      (· go_simp)
      refine Plan.step ?_
      go_wp2_with fail
      refine ⟨?_, ?_⟩
      (· go_simp)
      iterate 7 (first | refine Plan.tA ?_ | refine Plan.tY ?_ | refine Plan.pN ?_ | refine Plan.pU ?_ | fail)
      refine Plan.fin ?_
      clear cv cv2
      go_wp2_with fail
      have KW5 : Hid (Keeps [] w w5) := KA.out.trans K5.out (fun _ _ h => h)
      refine (awake14_any _ (HT.out.k KW5.out) (HE.out.k KW5.out)).mono ?_
      rintro e w6 ⟨rfl, hk⟩
      have K6 : Hid (Keeps [] w w6) := KW5.out.trans hk (fun _ _ h => h)
      clear hk
      go_wp2_with fail
      go_ret
      exact ⟨rfl, K6.out⟩

end Go.Proofs.YtbbdmmhpbeleoaaDoor
