/- CmdBytes, walked. -/
import Derived.Test.YtbbdmmhpbeleoaaGreatDoorCmK

set_option linter.unusedSimpArgs false
set_option linter.unusedVariables false
namespace Go.Proofs.YtbbdmmhpbeleoaaGreatDoor
open Go Go.RowKit

structure CmdI (c : CmdD) : Prop where
  kind : I64 c.kind
  session : I64 c.session
  seq : I64 c.seq
  version : I64 c.version
  vkind : I64 c.value.kind
  vn : I64 c.value.n
theorem CmdI.w {c : CmdD} (h : CmdI c) (hs : shortC c = true) : CmdW c := by
  unfold shortC at hs
  simp at hs
  exact ⟨h.kind, h.session, h.seq, h.version, h.vkind, h.vn, by omega, by omega⟩
theorem textL_len (s : ByteArray) (h : s.size ≤ 1000000) : (textL s).length ≤ 10 + s.size := by
  have := intL_len (show I64 (s.size : Int) from ⟨by omega, by omega⟩)
  have e : s.data.toList.length = s.size := by rw [Array.length_toList]; rfl
  unfold textL
  rw [List.length_append, e]
  omega
theorem putL_most (v : ValD) (hk : I64 v.kind) (hn : I64 v.n) (hs : v.s.size ≤ 1000000) : (putL v).length ≤ 30 + v.s.size := by
  have h1 := intL_len hk
  have h2 := intL_len hn
  have h3 := textL_len v.s hs
  unfold putL
  rw [List.length_append, List.length_append]
  omega
theorem putC_len (c : CmdD) (h : CmdW c) : (putC c).length ≤ 2000080 := by
  have h1 := intL_len h.kind
  have h2 := intL_len h.session
  have h3 := intL_len h.seq
  have h4 := intL_len h.version
  have h5 := textL_len c.field h.field
  have h6 := putL_most c.value h.vkind h.vn h.vs
  have h7 := h.field
  have h8 := h.vs
  unfold putC
  split
  · simp; omega
  · split
    · simp only [List.length_append]; omega
    · split
      · simp only [List.length_append]; omega
      · simp; omega
theorem putC_pos (c : CmdD) : 0 < (putC c).length := by
  have := Lib.uvarint_pos (Lib.zigzag c.kind)
  unfold putC intL
  rw [List.length_append]
  omega
theorem putR_most (r : ReplyD) (h : ReplyW r) : (putR r).length ≤ 1000080 := by
  have h1 := intL_len h.err
  have h2 := intL_len h.n
  have h6 := putL_most r.value h.vkind h.vn h.vs
  have h8 := h.vs
  unfold putR
  rw [List.length_append, List.length_append]
  omega
/-- What a command's bytes were put as is turned to a text. -/
theorem cv_str {w : World} {a : Option Addr} {n q : Nat} {l : List UInt8} (h : Reads w 1 (.slice a n q) n (u8s l)) (hn : n = l.length) : (convert 28 9 (.slice a n q)).run Tryz.prog w = .ok (.string (str l)) w := by
  subst hn
  exact run_convert_str w 28 9 5 _ _ Tryz.underlying28 Tryz.underlying5 Tryz.underlying9 h

set_option maxRecDepth 100000 in
set_option maxHeartbeats 8000000 in
theorem cmdBytes_any (c : CmdD) (w : World) (hT : Tabs w) (hE : Errs w) (hI : CmdI c) : Calls Tryz.prog 3 #[cmdV c] w fun e w' => e = .returned (.bool true) ∧ Keeps [] w w' := by
  obtain ⟨bs, hbs⟩ : ∃ b, shortC c = b := ⟨_, rfl⟩
  obtain ⟨bc, hbc⟩ : ∃ b, checkC c = b := ⟨_, rfl⟩
  have HI := hid hI
  have HBS := hid hbs
  have HBC := hid hbc
  have HSH := hid (fun w1 => short14_any c w1)
  have HC2 := hid (fun w1 h1 => r14Check_any c w1 h1)
  have HPUT := hid (fun h w1 => cmPut_any c (hI.w h) w1)
  have HPUR := hid (fun h w1 => r14Put_any c (hI.w h) w1)
  obtain ⟨PC, hPC⟩ : ∃ PC, putC c = PC := ⟨_, rfl⟩
  have HPC := hid hPC
  have HGET : Hid (checkC c = true → shortC c = true → ∀ a q w1, Tabs w1 → Errs w1 → Reads w1 1 (.slice a PC.length q) PC.length (u8s PC) → Calls Tryz.prog 17 #[.slice a PC.length q] w1 fun e w' => e = .returned (.tuple #[cmdV c, .bool true]) ∧ Keeps [] w1 w') := fun h0 hs a q w1 h1 h2 h3 => by
    have h4 := cmGet_any (.slice a PC.length q) PC w1 h1 h2 h3 (by rw [← hPC]; have := putC_len c (hI.w hs); omega)
    rw [← hPC, getC_put c h0 hI.vkind hI.vn] at h4
    rw [← hPC]
    exact h4
  rw [hbs] at HSH
  rw [hbc] at HC2
  rw [hPC] at HPUT HPUR
  have HT := hid hT
  have HE := hid hE
  clear hI hT hE hbs hbc hPC
  obtain ⟨kd, se, sq, fd, vr, vk, vn, vs⟩ := c
  have HCV : Hid (cmdV ⟨kd, se, sq, fd, vr, vk, vn, vs⟩ = .agg #[.int .i64 kd, .int .i64 se, .int .i64 sq, .string fd, .int .i64 vr, .int .i64 vk, .int .i64 vn, .string vs]) := rfl
  rw [HCV.out] at HSH HC2 HPUT HPUR HGET ⊢
  clear HCV
  go_enter Tryz.func3, Tryz.ntmps3
  go_wp2_with fail
  obtain ⟨wA, hwA⟩ : ∃ wA, w.alloc (.cells #[.int .i64 kd, .int .i64 se, .int .i64 sq, .string fd, .int .i64 vr, .int .i64 vk, .int .i64 vn, .string vs] 25) = wA := ⟨_, rfl⟩
  have KA : Hid (Keeps [] w wA) := by rw [← hwA]; exact Keeps.K
  have HA : Hid (wA.heap[w.heap.size]? = some (.cells #[.int .i64 kd, .int .i64 se, .int .i64 sq, .string fd, .int .i64 vr, .int .i64 vk, .int .i64 vn, .string vs] 25 (0, 0))) := by rw [← hwA]; exact heap_alloc_new w _
  have HROW : Hid (∀ w', Keeps [] wA w' → w'.heap[w.heap.size]? = some (.cells #[.int .i64 kd, .int .i64 se, .int .i64 sq, .string fd, .int .i64 vr, .int .i64 vk, .int .i64 vn, .string vs] 25 (0, 0))) := fun w' g => (g.block _ (Array.getElem?_eq_some_iff.1 HA.out).1 (by simp)).trans HA.out
  rw [hwA]
  clear hwA
  refine (HSH.out _).mono ?_
  rintro e w1 ⟨rfl, hk⟩
  have K1 := hid hk
  have KW1 : Hid (Keeps [] w w1) := KA.out.trans hk (fun _ _ h => h)
  obtain ⟨⟨x0, x1, x2, x3, x4, x5, x6, x7⟩, -⟩ := blk8 (HROW.out _ hk)
  clear hk
  rcases bs with _ | _
  · go_wp2_with fail
    refine (awake14_any _ (HT.out.k KW1.out) (HE.out.k KW1.out)).mono ?_
    rintro e w2 ⟨rfl, hk⟩
    have K2 := hid hk
    clear hk
    go_wp2_with fail
    go_ret
    exact ⟨rfl, KW1.out.trans K2.out (fun _ _ h => h)⟩
  · go_wp2_with fail
    refine (HC2.out _ (HT.out.k KW1.out)).mono ?_
    rintro e w2 ⟨rfl, hk⟩
    have K2 : Hid (Keeps [] wA w2) := K1.out.trans hk (fun _ _ h => h)
    have KW2 : Hid (Keeps [] w w2) := KA.out.trans K2.out (fun _ _ h => h)
    clear hk x0 x1 x2 x3 x4 x5 x6 x7
    obtain ⟨⟨x0, x1, x2, x3, x4, x5, x6, x7⟩, -⟩ := blk8 (HROW.out _ K2.out)
    rcases bc with _ | _
    · go_wp2_with fail
      refine (awake14_any _ (HT.out.k KW2.out) (HE.out.k KW2.out)).mono ?_
      rintro e w3 ⟨rfl, hk⟩
      have K3 := hid hk
      clear hk
      go_wp2_with fail
      go_ret
      exact ⟨rfl, KW2.out.trans K3.out (fun _ _ h => h)⟩
    · go_wp2_with fail
      refine (HPUT.out HBS.out _).mono ?_
      rintro e w3 ⟨a3, q3, rfl, h3, hk⟩
      rw [List.nil_append] at h3 ⊢
      have K3 : Hid (Keeps [] wA w3) := K2.out.trans hk (fun _ _ h => h)
      have KW3 : Hid (Keeps [] w w3) := KA.out.trans K3.out (fun _ _ h => h)
      have R3 := hid (Reads.ofOwn h3)
      clear hk h3 x0 x1 x2 x3 x4 x5 x6 x7
      go_wp2_with fail
      refine (HGET.out HBC.out HBS.out a3 q3 _ (HT.out.k KW3.out) (HE.out.k KW3.out) R3.out).mono ?_
      rintro e w4 ⟨rfl, hk⟩
      have K4 : Hid (Keeps [] wA w4) := K3.out.trans hk (fun _ _ h => h)
      have KW4 : Hid (Keeps [] w w4) := KA.out.trans K4.out (fun _ _ h => h)
      have R4 := hid (R3.out.k0 hk)
      obtain ⟨⟨x0, x1, x2, x3, x4, x5, x6, x7⟩, -⟩ := blk8 (HROW.out _ K4.out)
      have hlt : w.heap.size < w4.heap.size := (Array.getElem?_eq_some_iff.1 (HROW.out _ K4.out)).1
      clear hk
      dsimp only
      go_wp2_with fail
      refine Plan.wp_region_plan (fun wx => (wx.cell? ⟨w.heap.size, 0, none⟩ = some (.int .i64 kd) ∧ wx.cell? ⟨w.heap.size, 1, none⟩ = some (.int .i64 se) ∧ wx.cell? ⟨w.heap.size, 2, none⟩ = some (.int .i64 sq) ∧ wx.cell? ⟨w.heap.size, 3, none⟩ = some (.string fd) ∧ wx.cell? ⟨w.heap.size, 4, none⟩ = some (.int .i64 vr) ∧ wx.cell? ⟨w.heap.size, 5, none⟩ = some (.int .i64 vk) ∧ wx.cell? ⟨w.heap.size, 6, none⟩ = some (.int .i64 vn) ∧ wx.cell? ⟨w.heap.size, 7, none⟩ = some (.string vs)) ∧ (wx.cell? ⟨w4.heap.size, 0, none⟩ = some (.int .i64 kd) ∧ wx.cell? ⟨w4.heap.size, 1, none⟩ = some (.int .i64 se) ∧ wx.cell? ⟨w4.heap.size, 2, none⟩ = some (.int .i64 sq) ∧ wx.cell? ⟨w4.heap.size, 3, none⟩ = some (.string fd) ∧ wx.cell? ⟨w4.heap.size, 4, none⟩ = some (.int .i64 vr) ∧ wx.cell? ⟨w4.heap.size, 5, none⟩ = some (.int .i64 vk) ∧ wx.cell? ⟨w4.heap.size, 6, none⟩ = some (.int .i64 vn) ∧ wx.cell? ⟨w4.heap.size, 7, none⟩ = some (.string vs)) ∧ (convert 28 9 (.slice a3 PC.length q3)).run Tryz.prog wx = .ok (.string (str PC)) wx) 12 [(true, 0), (true, 1), (true, 2), (false, 3), (false, 4), (true, 5), (true, 6), (true, 7), (true, 8), (true, 9), (true, 10), (true, 11)] (by kernel_rfl) (by as_aux_lemma => kernel_rfl) (by kernel_rfl) (fun _ _ _ _ _ h => h) ?_ (fun hS => ?_)
      (· go_simp; exact cv_str (R4.out.k0 (by exact Keeps.K)) rfl)
      simp only [Plan.pick, List.append_eq, List.cons_append, List.nil_append, Plan.g1, Plan.g2, Option.getD_some, List.drop_succ_cons, List.drop_zero]
      iterate 3 (first | refine Plan.tA ?_ | refine Plan.tY ?_ | refine Plan.pN ?_ | refine Plan.pU ?_ | fail)
      refine Plan.step ?_
      go_wp2_with fail
      refine (HPUR.out HBS.out _).mono ?_
      rintro e w5 ⟨a5, q5, rfl, h5, hk⟩
      rw [List.nil_append] at h5 ⊢
      have K45 : Keeps [] w4 w5 := Keeps.trans (by exact Keeps.K) hk (fun _ _ h => h)
      have K5 : Hid (Keeps [] wA w5) := K4.out.trans K45 (fun _ _ h => h)
      have y0 : w5.cell? ⟨w4.heap.size, 0, none⟩ = some (.int .i64 kd) := hk.cellSome (by go_simp) (by simp)
      have y1 : w5.cell? ⟨w4.heap.size, 1, none⟩ = some (.int .i64 se) := hk.cellSome (by go_simp) (by simp)
      have y2 : w5.cell? ⟨w4.heap.size, 2, none⟩ = some (.int .i64 sq) := hk.cellSome (by go_simp) (by simp)
      have y3 : w5.cell? ⟨w4.heap.size, 3, none⟩ = some (.string fd) := hk.cellSome (by go_simp) (by simp)
      have y4 : w5.cell? ⟨w4.heap.size, 4, none⟩ = some (.int .i64 vr) := hk.cellSome (by go_simp) (by simp)
      have y5 : w5.cell? ⟨w4.heap.size, 5, none⟩ = some (.int .i64 vk) := hk.cellSome (by go_simp) (by simp)
      have y6 : w5.cell? ⟨w4.heap.size, 6, none⟩ = some (.int .i64 vn) := hk.cellSome (by go_simp) (by simp)
      have y7 : w5.cell? ⟨w4.heap.size, 7, none⟩ = some (.string vs) := hk.cellSome (by go_simp) (by simp)
      clear x0 x1 x2 x3 x4 x5 x6 x7 hS
      obtain ⟨⟨x0, x1, x2, x3, x4, x5, x6, x7⟩, -⟩ := blk8 (HROW.out _ K5.out)
      have cv : (convert 28 9 (.slice a3 PC.length q3)).run Tryz.prog w5 = .ok (.string (str PC)) w5 := cv_str (R4.out.k0 K45) rfl
      have cv2 : (convert 28 9 (.slice a5 PC.length q5)).run Tryz.prog w5 = .ok (.string (str PC)) w5 := cv_str (Reads.ofOwn h5) rfl
      clear hk h5 K45
      go_wp2_with fail
      refine ⟨?_, ?_⟩
      (· go_simp)
      refine Plan.step ?_
      go_wp2_with fail
      refine ⟨?_, ?_⟩
      (· go_simp)
      iterate 7 (first | refine Plan.tA ?_ | refine Plan.tY ?_ | refine Plan.pN ?_ | refine Plan.pU ?_ | fail)
      refine Plan.fin ?_
      clear cv cv2
      go_wp2_with fail
      have KW5 : Hid (Keeps [] w w5) := KA.out.trans K5.out (fun _ _ h => h)
      refine (awake14_any _ (HT.out.k KW5.out) (HE.out.k KW5.out)).mono ?_
      rintro e w6 ⟨rfl, hk⟩
      have K6 : Hid (Keeps [] w w6) := KW5.out.trans hk (fun _ _ h => h)
      clear hk
      go_wp2_with fail
      go_ret
      exact ⟨rfl, K6.out⟩

end Go.Proofs.YtbbdmmhpbeleoaaGreatDoor
