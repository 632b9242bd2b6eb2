/- ClientArgs, walked. -/
import Derived.Test.YtbbdmmhpbeleoaaDoorQ28

set_option linter.unusedSimpArgs false
set_option linter.unusedVariables false
namespace Go.Proofs.YtbbdmmhpbeleoaaDoor
open Go Go.RowKit

def c0A : CliD := cliNew confA 101
theorem args_call (x : CmdD) : (x.kind = 1 ∨ checkC { x with session := 1, seq := 1 } = false) ∧ callD c0A x = (c0A, [], 1) ∨
    (2 ≤ x.kind ∧ x.kind ≤ 4) ∧ ∃ c1 m, callD c0A x = (c1, [m], 0) ∧ c1.does = 1 ∧ m.kind = 6 := by
  by_cases h : x.kind = 1 ∨ checkC { x with session := 1, seq := 1 } = false
  · refine .inl ⟨h, ?_⟩
    unfold callD
    rw [if_neg (by decide), if_pos h]
  · refine .inr ⟨?_, ?_⟩
    · have h1 : checkC { x with session := 1, seq := 1 } = true := by
        rcases hc : checkC { x with session := 1, seq := 1 } with _ | _
        · exact absurd (.inr hc) h
        · rfl
      have h2 : x.kind ≠ 1 := fun e => h (.inl e)
      have := checkC_kinds h1
      dsimp only at this
      omega
    · unfold callD
      rw [if_neg (by decide), if_neg h, if_neg (by decide), ask_none _ (by show ¬ (0 : Int) < 0; decide)]
      exact ⟨_, _, rfl, rfl, rfl⟩

set_option maxRecDepth 100000 in
set_option maxHeartbeats 16000000 in
theorem args_any (x : CmdD) (w : World) (hT : Tabs w) (hE : Errs w) (hI : CmdI x) : Calls Tryd.prog 4 #[cmdV x] w fun e w' => e = .returned (.bool true) ∧ Keeps [] w w' := by
  have HT := hid hT
  have HE := hid hE
  have HI := hid hI
  have HAW := hid (fun wx (k : Keeps [] w wx) => awake24_any wx (hT.k k) (hE.k k))
  have HAC := hid (args_call x)
  obtain ⟨kd, se, sq, fd, vr, vk, vn, vs⟩ := x
  have HCV : Hid (cmdV ⟨kd, se, sq, fd, vr, vk, vn, vs⟩ = .agg #[.int .i64 kd, .int .i64 se, .int .i64 sq, .string fd, .int .i64 vr, .int .i64 vk, .int .i64 vn, .string vs]) := rfl
  rw [HCV.out]
  clear hT hE hI
  have hcs : 500 < (fd.size : Int) ∨ (500 < (fd.size : Int)) = False ∧ (1000 < (vs.size : Int) ∨ (1000 < (vs.size : Int)) = False) := by
    by_cases q1 : 500 < (fd.size : Int)
    · exact .inl q1
    · refine .inr ⟨eq_false q1, ?_⟩
      by_cases q2 : 1000 < (vs.size : Int)
      · exact .inl q2
      · exact .inr (eq_false q2)
  have hbig : 500 < (fd.size : Int) ∨ 1000 < (vs.size : Int) ∨ vs.size ≤ 1000 := by omega
  rcases hcs with q1 | ⟨q1, q2 | q2⟩
  iterate 2
    clear hbig
    go_enter Tryd.func4, Tryd.ntmps4
    go_wp2_with fail
    refine (conf24_any 0 5 _ (by decide) (by decide)).mono ?_
    rintro e w1 ⟨rfl, hk⟩
    have x0 : w1.heap[w.heap.size]? = some (.cells #[.int .i64 kd, .int .i64 se, .int .i64 sq, .string fd, .int .i64 vr, .int .i64 vk, .int .i64 vn, .string vs] 34 (0, 0)) := (hk.block _ (by simp) (by simp)).trans (heap_alloc_new w _)
    have K1 : Hid (Keeps [] w w1) := Keeps.trans (G := []) (by exact Keeps.K) hk (fun _ _ h => h)
    have X0 := hid x0
    clear hk x0
    rw [confA_is]
    go_wp2_with fail
    refine (clNew_yes confA 101 (fun b => w1.heap.size + 2 ≤ b) w1 ⟨by decide, by decide, by decide, by decide, by decide⟩ (by decide) (by omega)).mono ?_
    rintro e w2 ⟨rfl, h2, hk⟩
    have K2 : Hid (Keeps [] w w2) := K1.out.trans hk (fun _ _ h => h)
    obtain ⟨⟨y0, y1, y2, y3, y4, y5, y6, y7⟩, -⟩ := blk8 ((hk.block _ (Array.getElem?_eq_some_iff.1 X0.out).1 (by simp)).trans X0.out)
    clear hk h2
    go_wp2_with fail
    refine (HAW.out _ K2.out).mono ?_
    rintro e w3 ⟨rfl, hk⟩
    have K3 : Hid (Keeps [] w w3) := K2.out.trans hk (fun _ _ h => h)
    clear hk
    go_wp2_with fail
    go_ret
    exact ⟨rfl, K3.out⟩
  have hvs : vs.size ≤ 1000000 := by
    have := of_eq_false q2
    omega
  have HVS := hid hvs
  clear hbig hvs
  go_enter Tryd.func4, Tryd.ntmps4
  go_wp2_with fail
  refine (conf24_any 0 5 _ (by decide) (by decide)).mono ?_
  rintro e w1 ⟨rfl, hk⟩
  have x0 : w1.heap[w.heap.size]? = some (.cells #[.int .i64 kd, .int .i64 se, .int .i64 sq, .string fd, .int .i64 vr, .int .i64 vk, .int .i64 vn, .string vs] 34 (0, 0)) := (hk.block _ (by simp) (by simp)).trans (heap_alloc_new w _)
  have K1 : Hid (Keeps [] w w1) := Keeps.trans (G := []) (by exact Keeps.K) hk (fun _ _ h => h)
  have hw1 : w.heap.size < w1.heap.size := (Array.getElem?_eq_some_iff.1 x0).1
  have X0 := hid x0
  clear hk x0
  rw [confA_is]
  go_wp2_with fail
  refine (clNew_yes confA 101 (fun b => w1.heap.size + 2 ≤ b) w1 ⟨by decide, by decide, by decide, by decide, by decide⟩ (by decide) (by omega)).mono ?_
  rintro e w2 ⟨rfl, h2, hk⟩
  have K2 : Hid (Keeps [] w w2) := K1.out.trans hk (fun _ _ h => h)
  have x2 := (hk.block _ (Array.getElem?_eq_some_iff.1 X0.out).1 (by simp)).trans X0.out
  have X2 := hid x2
  obtain ⟨⟨y0, y1, y2, y3, y4, y5, y6, y7⟩, -⟩ := blk8 x2
  have hn := h2.lt
  have H2 := hid h2
  clear hk h2 x2
  go_wp2_with fail
  refine (clCall_any w2 (w1.heap.size + 1) _ c0A _ _ ⟨kd, se, sq, fd, vr, vk, vn, vs⟩ (HT.out.k K2.out) (HE.out.k K2.out) H2.out (by decide) (by decide) (by decide) HI.out HVS.out (fun b hb => by show w1.heap.size + 2 ≤ b; omega)).mono ?_
  rcases HAC.out with ⟨-, hc⟩ | ⟨⟨hk2, hk4⟩, c1, m, hc, hd1, hm6⟩
  · rw [hc]
    rintro e w4 ⟨v, rfl, a4, q4, dv4, fv4, rfl, h4, l4, hk⟩
    dsimp only at h4 l4 hk ⊢
    have H4 := hid h4
    have K4 : Hid (Keeps [] w w4) := K2.out.trans hk (fun x hx hx' => by simp at hx'; omega)
    clear hk h4 l4 hc y0 y1 y2 y3 y4 y5 y6 y7
    go_wp2_with fail
    refine (clBusy_any H4.out).mono ?_
    rintro e w5 ⟨rfl, hk⟩
    have K5 : Hid (Keeps [] w w5) := K4.out.trans hk (fun _ _ h => h)
    clear hk
    rw [show (c0A.does != 0) = false from rfl]
    go_wp2_with fail
    refine (HAW.out _ K5.out).mono ?_
    rintro e w6 ⟨rfl, hk⟩
    have K6 : Hid (Keeps [] w w6) := K5.out.trans hk (fun _ _ h => h)
    clear hk
    go_wp2_with fail
    go_ret
    exact ⟨rfl, K6.out⟩
  · rw [hc]
    rintro e w4 ⟨v, rfl, a4, q4, dv4, fv4, rfl, h4, l4, hk⟩
    dsimp only at h4 l4 hk ⊢
    have H4 := hid h4
    have K4 : Hid (Keeps [] w w4) := K2.out.trans hk (fun x hx hx' => by simp at hx'; omega)
    have x4 := (hk.block _ (Array.getElem?_eq_some_iff.1 X2.out).1 (by simp; omega)).trans X2.out
    have X4 := hid x4
    clear y0 y1 y2 y3 y4 y5 y6 y7
    obtain ⟨⟨y0, y1, y2, y3, y4, y5, y6, y7⟩, -⟩ := blk8 x4
    obtain ⟨g4, o4, k4, e4, c4, d4, f4, ha4, z0, -⟩ := l4.msg (j := 0) rfl
    simp only [Value.slice.injEq] at ha4
    obtain ⟨rfl, -, rfl⟩ := ha4
    rw [hm6, Nat.zero_mul, Nat.add_zero] at z0
    simp only [List.length_cons, List.length_nil, Nat.zero_add]
    clear hk h4 l4 hc x4
    go_wp2_with fail
    refine (clBusy_any H4.out).mono ?_
    rintro e w5 ⟨rfl, hk⟩
    have K5 : Hid (Keeps [] w w5) := K4.out.trans hk (fun _ _ h => h)
    clear y0 y1 y2 y3 y4 y5 y6 y7
    obtain ⟨⟨y0, y1, y2, y3, y4, y5, y6, y7⟩, -⟩ := blk8 ((hk.block _ (Array.getElem?_eq_some_iff.1 X4.out).1 (by simp)).trans X4.out)
    clear hk z0
    rw [show (c1.does != 0) = true by rw [hd1]; rfl]
    go_wp2_with fail
    refine (HAW.out _ K5.out).mono ?_
    rintro e w6 ⟨rfl, hk⟩
    have K6 : Hid (Keeps [] w w6) := K5.out.trans hk (fun _ _ h => h)
    clear hk
    go_wp2_with fail
    go_ret
    exact ⟨rfl, K6.out⟩

end Go.Proofs.YtbbdmmhpbeleoaaDoor
