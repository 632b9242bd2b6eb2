/- Check of the document, for texts of any length. -/
import Derived.Test.YtnekkkppjofdlaaDoorVaF
namespace Go.Proofs.YtnekkkppjofdlaaDoor
open Go Go.RowKit

set_option maxRecDepth 100000 in
theorem r5Check_all (v : ValD) (w : World) (hT : Tabs w) :
    Calls Tryd.prog 14 #[valV v] w fun e w' => e = .returned (.bool (checkD v)) ∧ Keeps [] w w' := by
  have HT := hid hT
  clear hT
  obtain ⟨k, n, s⟩ := v
  unfold valV
  by_cases k0 : k = 0
  · subst k0
    rcases hn : (n == 0) with _ | _
    all_goals
      have HB := hid (checkD_k (v := ⟨0, n, s⟩) rfl _ rfl)
      simp only [hn] at HB
      go_enter Tryd.func14, Tryd.ntmps14
      go_wp2_with fail
      go_ret
      exact ⟨by rw [HB.out]; rfl, Keeps.K⟩
  by_cases k1 : k = 1
  · subst k1
    have HB := hid (checkD_k (v := ⟨1, n, s⟩) rfl _ rfl)
    go_enter Tryd.func14, Tryd.ntmps14
    go_wp2_with fail
    go_ret
    exact ⟨by rw [HB.out]; rfl, Keeps.K⟩
  by_cases k2 : k = 2
  · subst k2
    rcases hn : (n == 0) with _ | _
    · rcases hm : (n == 1) with _ | _
      all_goals
        have HB := hid (checkD_k (v := ⟨2, n, s⟩) rfl _ rfl)
        simp only [hn, hm] at HB
        go_enter Tryd.func14, Tryd.ntmps14
        go_wp2_with fail
        go_ret
        exact ⟨by rw [HB.out]; rfl, Keeps.K⟩
    · have HB := hid (checkD_k (v := ⟨2, n, s⟩) rfl _ rfl)
      simp only [hn] at HB
      go_enter Tryd.func14, Tryd.ntmps14
      go_wp2_with fail
      go_ret
      exact ⟨by rw [HB.out]; rfl, Keeps.K⟩
  by_cases k3 : k = 3
  · subst k3
    rcases hn : (n == 0) with _ | _
    · have HB := hid (checkD_k (v := ⟨3, n, s⟩) rfl _ rfl)
      simp only [hn] at HB
      go_enter Tryd.func14, Tryd.ntmps14
      go_wp2_with fail
      go_ret
      exact ⟨by rw [HB.out]; rfl, Keeps.K⟩
    · have HB := hid (checkD_k (v := ⟨3, n, s⟩) rfl _ rfl)
      simp only [hn] at HB
      by_cases h4 : s.size ≤ 400
      · have g4 : (s.size : Int) ≤ 400 := by omega
        rcases hv : Lib.validD s.data.toList with _ | _
        · have HC : Hid (textOk s = false) := textOk_no2 hv
          have HV := hid hv
          clear hv
          go_enter Tryd.func14, Tryd.ntmps14
          go_wp2_with fail
          refine (r1Valid_any s _ (by omega)).mono ?_
          rintro e w1 ⟨rfl, hk⟩
          rw [HV.out]
          have HK : Hid (Keeps [] w w1) := Keeps.trans (by exact Keeps.K) hk (fun _ _ h => h)
          clear hk
          go_wp2_with fail
          go_ret
          exact ⟨by rw [HB.out]; show _ = Ending.returned (.bool (true && textOk s)); rw [HC.out]; rfl, HK.out⟩
        · have HC : Hid (textOk s = decide ((Lib.runeCount s : Int) ≤ 100)) := textOk_yes h4 hv
          have HV := hid hv
          clear hv
          go_enter Tryd.func14, Tryd.ntmps14
          go_wp2_with fail
          refine (r1Valid_any s _ (by omega)).mono ?_
          rintro e w1 ⟨rfl, hk⟩
          rw [HV.out]
          have c2 : w1.cell? ⟨w.heap.size, 2, none⟩ = some (.string s) := hk.cellSome (by go_simp) (by simp)
          have HK : Hid (Keeps [] w w1) := Keeps.trans (by exact Keeps.K) hk (fun _ _ h => h)
          clear hk
          go_wp2_with fail
          refine (r1Count_any s _ (by omega)).mono ?_
          rintro e w2 ⟨rfl, hk⟩
          have HK2 : Hid (Keeps [] w w2) := HK.out.trans hk (fun _ _ h => h)
          clear hk HK
          go_wp2_with fail
          go_ret
          exact ⟨by rw [HB.out]; show _ = Ending.returned (.bool (true && textOk s)); rw [HC.out]; rfl, HK2.out⟩
      · have g4 : (400 : Int) < (s.size : Int) := by omega
        have HC : Hid (textOk s = false) := textOk_no1 h4
        clear h4
        go_enter Tryd.func14, Tryd.ntmps14
        go_wp2_with fail
        go_ret
        exact ⟨by rw [HB.out]; show _ = Ending.returned (.bool (true && textOk s)); rw [HC.out]; rfl, Keeps.K⟩
  by_cases k4 : k = 4
  · subst k4
    have hc : n < 1 ∨ (1 ≤ n ∧ 4 < n) ∨ (1 ≤ n ∧ n ≤ 4) := by omega
    rcases hc with c0 | ⟨c0, c1⟩ | ⟨c0, c1⟩
    · have HB := hid (checkD_k (v := ⟨4, n, s⟩) rfl _ rfl)
      simp only [show decide (1 ≤ n) = false by simp; omega] at HB
      go_enter Tryd.func14, Tryd.ntmps14
      go_wp2_with fail
      go_ret
      exact ⟨by rw [HB.out]; rfl, Keeps.K⟩
    · have HB := hid (checkD_k (v := ⟨4, n, s⟩) rfl _ rfl)
      simp only [show decide (1 ≤ n) = true by simp; omega, show decide (n ≤ 4) = false by simp; omega] at HB
      go_enter Tryd.func14, Tryd.ntmps14
      go_wp2_with fail
      go_ret
      exact ⟨by rw [HB.out]; rfl, Keeps.K⟩
    · have HB := hid (checkD_k (v := ⟨4, n, s⟩) rfl _ rfl)
      simp only [show decide (1 ≤ n) = true by simp; omega, show decide (n ≤ 4) = true by simp; omega] at HB
      go_enter Tryd.func14, Tryd.ntmps14
      go_wp2_with fail
      go_ret
      exact ⟨by rw [HB.out]; rfl, Keeps.K⟩
  have HB : Hid (checkD ⟨k, n, s⟩ = false) := by show (if k = 0 then _ else if k = 1 then _ else if k = 2 then _ else if k = 3 then _ else if k = 4 then _ else false) = false; rw [if_neg k0, if_neg k1, if_neg k2, if_neg k3, if_neg k4]
  have e0 : (k == 0) = false := by simpa using k0
  have e1 : (k == 1) = false := by simpa using k1
  have e2 : (k == 2) = false := by simpa using k2
  have e3 : (k == 3) = false := by simpa using k3
  have e4 : (k == 4) = false := by simpa using k4
  clear k0 k1 k2 k3 k4
  go_enter Tryd.func14, Tryd.ntmps14
  go_wp2_with fail
  go_ret
  exact ⟨by rw [HB.out]; rfl, Keeps.K⟩

theorem r5check_all (v : ValD) (b : Bool) (hb : checkD v = b) (w : World) (hT : Tabs w) :
    Calls Tryd.prog 14 #[valV v] w fun e w' => e = .returned (.bool b) ∧ Keeps [] w w' := by
  rw [← hb]; exact r5Check_all v w hT

end Go.Proofs.YtnekkkppjofdlaaDoor
