/- ValueChecks, walked. -/
import Derived.Test.YtnekkkppjofdlaaDoorVaL
import Derived.Test.YtnekkkppjofdlaaDoorPlan
namespace Go.Proofs.YtnekkkppjofdlaaDoor
open Go Go.RowKit

theorem r5check_is (v : ValD) (b : Bool) (hb : checkD v = b) (w : World) (hT : Tabs w) (hs : v.s.size ≤ 9223372036854775806) :
    Calls Tryd.prog 14 #[valV v] w fun e w' => e = .returned (.bool b) ∧ Keeps [] w w' := by
  rw [← hb]; exact r5Check_any v w hT hs
theorem vfits_is (v : ValD) (t : Int) (b : Bool) (hb : fitsD v t = b) (w : World) (hT : Tabs w) (hs : v.s.size ≤ 9223372036854775806) :
    Calls Tryd.prog 21 #[valV v, .int .i64 t] w fun e w' => e = .returned (.bool b) ∧ Keeps [] w w' := by
  rw [← hb]; exact vFits_any v t w hT hs
theorem r5fits_is (v : ValD) (t : Int) (b : Bool) (hb : fitsD v t = b) (w : World) (hT : Tabs w) (hs : v.s.size ≤ 9223372036854775806) :
    Calls Tryd.prog 22 #[valV v, .int .i64 t] w fun e w' => e = .returned (.bool b) ∧ Keeps [] w w' := by
  rw [← hb]; exact r5Fits_any v t w hT hs

set_option maxRecDepth 100000 in
set_option maxHeartbeats 6400000 in
theorem checks_any (v : ValD) (t : Int) (w : World) (hT : Tabs w) : Calls Tryd.prog 5 #[valV v, .int .i64 t] w fun e w' => e = .returned (.bool true) ∧ Keeps [] w w' := by
  have HT := hid hT
  clear hT
  by_cases hl : v.s.size ≤ 5000
  · obtain ⟨c, hc⟩ : ∃ c, checkD v = c := ⟨_, rfl⟩
    obtain ⟨f, hf⟩ : ∃ f, fitsD v t = f := ⟨_, rfl⟩
    have H1 := hid (vcheck_is v c hc)
    have H2 := hid (r5check_is v c hc)
    have H3 := hid (vfits_is v t f hf)
    have H4 := hid (r5fits_is v t f hf)
    have hs : v.s.size ≤ 9223372036854775806 := by omega
    obtain ⟨k, n, s⟩ := v
    have hl' : (s.size : Int) ≤ 5000 := by simp only at hl; omega
    unfold valV at H1 H2 H3 H4 ⊢
    simp only at hs
    clear hc hf hl
    go_enter Tryd.func5, Tryd.ntmps5
    go_wp2_with fail
    refine Plan.wp_region_plan (fun wx => wx.cell? ⟨w.heap.size, 0, none⟩ = some (.int .i64 k) ∧ wx.cell? ⟨w.heap.size, 1, none⟩ = some (.int .i64 n) ∧ wx.cell? ⟨w.heap.size, 2, none⟩ = some (.string s)) 11 [(true, 0), (true, 2), (false, 1), (false, 3), (true, 4), (true, 5), (true, 6), (true, 7), (true, 9), (true, 10), (false, 8)] (by kernel_rfl) (by as_aux_lemma => kernel_rfl) (by kernel_rfl) (fun _ _ _ _ _ h => h) ?_ (fun hS => ?_)
    (· go_simp)
    simp only [Plan.pick, List.append_eq, List.cons_append, List.nil_append, Plan.g1, Plan.g2, Option.getD_some, List.drop_succ_cons, List.drop_zero]
    iterate 2 (first | refine Plan.tA ?_ | refine Plan.tY ?_ | refine Plan.pN ?_ | refine Plan.pU ?_ | fail)
    refine Plan.step ?_
    go_wp2_with fail
    refine (H1.out _ (HT.out.k (by exact Keeps.K)) hs).mono ?_
    rintro e w1 ⟨rfl, hk⟩
    have c0 : w1.cell? ⟨w.heap.size, 0, none⟩ = some (.int .i64 k) := hk.cellSome (by go_simp) (by simp)
    have c1 : w1.cell? ⟨w.heap.size, 1, none⟩ = some (.int .i64 n) := hk.cellSome (by go_simp) (by simp)
    have c2 : w1.cell? ⟨w.heap.size, 2, none⟩ = some (.string s) := hk.cellSome (by go_simp) (by simp)
    have HK1 : Hid (Keeps [] w w1) := Keeps.trans (by exact Keeps.K) hk (fun _ _ h => h)
    clear hk
    go_wp2_with fail
    refine ⟨?_, ?_⟩
    (· go_simp)
    refine Plan.step ?_
    go_wp2_with fail
    refine (H2.out _ (HT.out.k HK1.out) hs).mono ?_
    rintro e w2 ⟨rfl, hk⟩
    have d0 : w2.cell? ⟨w.heap.size, 0, none⟩ = some (.int .i64 k) := hk.cellSome c0 (by simp)
    have d1 : w2.cell? ⟨w.heap.size, 1, none⟩ = some (.int .i64 n) := hk.cellSome c1 (by simp)
    have d2 : w2.cell? ⟨w.heap.size, 2, none⟩ = some (.string s) := hk.cellSome c2 (by simp)
    have HK2 : Hid (Keeps [] w w2) := Keeps.trans HK1.out hk (fun _ _ h => h)
    clear hk c0 c1 c2
    go_wp2_with fail
    refine ⟨?_, ?_⟩
    (· go_simp)
    iterate 6 (first | refine Plan.tA ?_ | refine Plan.tY ?_ | refine Plan.pN ?_ | refine Plan.pU ?_ | fail)
    refine Plan.step ?_
    go_wp2_with fail
    refine (H3.out _ (HT.out.k HK2.out) hs).mono ?_
    rintro e w3 ⟨rfl, hk⟩
    have e0 : w3.cell? ⟨w.heap.size, 0, none⟩ = some (.int .i64 k) := hk.cellSome d0 (by simp)
    have e1 : w3.cell? ⟨w.heap.size, 1, none⟩ = some (.int .i64 n) := hk.cellSome d1 (by simp)
    have e2 : w3.cell? ⟨w.heap.size, 2, none⟩ = some (.string s) := hk.cellSome d2 (by simp)
    have HK3 : Hid (Keeps [] w w3) := Keeps.trans HK2.out hk (fun _ _ h => h)
    clear hk d0 d1 d2
    go_wp2_with fail
    refine ⟨?_, ?_⟩
    (· go_simp)
    refine Plan.fin ?_
    go_wp2_with fail
    refine (H4.out _ (HT.out.k HK3.out) hs).mono ?_
    rintro e w4 ⟨rfl, hk⟩
    have HK4 : Hid (Keeps [] w w4) := Keeps.trans HK3.out hk (fun _ _ h => h)
    clear hk
    go_wp2_with fail
    refine (awake5_any _ (HT.out.k HK4.out)).mono ?_
    rintro e w5 ⟨rfl, hk⟩
    have HK5 : Hid (Keeps [] w w5) := Keeps.trans HK4.out hk (fun _ _ h => h)
    clear hk
    go_wp2_with fail
    go_ret
    exact ⟨rfl, HK5.out⟩
  · have hl' : (5000 : Int) < (v.s.size : Int) := by omega
    obtain ⟨k, n, s⟩ := v
    unfold valV
    simp only at hl'
    clear hl
    go_enter Tryd.func5, Tryd.ntmps5
    go_wp2_with fail
    refine (awake5_any _ (HT.out.k (by exact Keeps.K))).mono ?_
    rintro e w1 ⟨rfl, hk⟩
    have HK : Hid (Keeps [] w w1) := Keeps.trans (by exact Keeps.K) hk (fun _ _ h => h)
    clear hk
    go_wp2_with fail
    go_ret
    exact ⟨rfl, HK.out⟩

end Go.Proofs.YtnekkkppjofdlaaDoor
