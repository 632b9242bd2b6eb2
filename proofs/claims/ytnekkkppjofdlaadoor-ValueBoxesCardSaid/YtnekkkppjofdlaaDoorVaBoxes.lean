/- ValueBoxes, walked. (Printed by gen_boxes.py.) -/
import Derived.Test.YtnekkkppjofdlaaDoorVaBoxA
import Derived.Test.YtnekkkppjofdlaaDoorVaBoxB
namespace Go.Proofs.YtnekkkppjofdlaaDoor
open Go Go.RowKit

set_option maxRecDepth 100000 in
set_option maxHeartbeats 3200000 in
theorem boxes_refused (k n : Int) (s : ByteArray) (w : World) (hT : Tabs w) (hl : s.size ≤ 5000) (hc : checkD ⟨k, n, s⟩ = false) :
    Calls Tryd.prog 3 #[.agg #[.int .i64 k, .int .i64 n, .string s]] w fun e w' => e = .returned (.bool true) ∧ Keeps [] w w' := by
  have HT := hid hT
  have hx : boxV ⟨k, n, s⟩ = .nilIface := by unfold boxV; rw [hc]; rfl
  have HB := fun w h1 h2 => vbox_any ⟨k, n, s⟩ w h1 h2
  rw [hx] at HB
  unfold valV at HB
  have HBX := hid HB
  have HC := hid (r5check_is ⟨k, n, s⟩ false hc)
  unfold valV at HC
  have hs : (s.size : Int) ≤ 5000 := by omega
  have hs' : s.size ≤ 9223372036854775806 := by omega
  clear hT hc hx HB hl
  go_enter Tryd.func3, Tryd.ntmps3
  go_wp2_with fail
  refine (HBX.out _ (HT.out.k (by exact Keeps.K)) hs').mono ?_
  rintro e w1 ⟨rfl, hk⟩
  have c0 : w1.cell? ⟨w.heap.size, 0, none⟩ = some (.int .i64 k) := hk.cellSome (by go_simp) (by simp)
  have c1 : w1.cell? ⟨w.heap.size, 1, none⟩ = some (.int .i64 n) := hk.cellSome (by go_simp) (by simp)
  have c2 : w1.cell? ⟨w.heap.size, 2, none⟩ = some (.string s) := hk.cellSome (by go_simp) (by simp)
  have HK1 : Hid (Keeps [] w w1) := Keeps.trans (by exact Keeps.K) hk (fun _ _ h => h)
  clear hk
  go_wp2_with fail
  refine (HC.out _ (HT.out.k HK1.out) hs').mono ?_
  rintro e w2 ⟨rfl, hk⟩
  have HK2 : Hid (Keeps [] w w2) := Keeps.trans HK1.out hk (fun _ _ h => h)
  clear hk
  go_wp2_with fail
  refine (awake5_any _ (HT.out.k HK2.out)).mono ?_
  rintro e w3 ⟨rfl, hk⟩
  have HK3 : Hid (Keeps [] w w3) := Keeps.trans HK2.out hk (fun _ _ h => h)
  clear hk
  go_wp2_with fail
  go_ret
  exact ⟨rfl, HK3.out⟩
set_option maxRecDepth 100000 in
theorem boxes_long (k n : Int) (s : ByteArray) (w : World) (hT : Tabs w) (hl : ¬ s.size ≤ 5000) :
    Calls Tryd.prog 3 #[.agg #[.int .i64 k, .int .i64 n, .string s]] w fun e w' => e = .returned (.bool true) ∧ Keeps [] w w' := by
  have HT := hid hT
  have hs : (5000 : Int) < (s.size : Int) := by omega
  clear hT hl
  go_enter Tryd.func3, Tryd.ntmps3
  go_wp2_with fail
  refine (awake5_any _ (HT.out.k (by exact Keeps.K))).mono ?_
  rintro e w3 ⟨rfl, hk⟩
  have HK3 : Hid (Keeps [] w w3) := Keeps.trans (by exact Keeps.K) hk (fun _ _ h => h)
  clear hk
  go_wp2_with fail
  go_ret
  exact ⟨rfl, HK3.out⟩

theorem boxV_of {v : ValD} (h : checkD v = true) : boxV v = (if v.kind = 1 then .iface 2 (.int .i64 v.n) else if v.kind = 2 then .iface 4 (.bool (v.n == 1)) else if v.kind = 3 then .iface 9 (.string v.s) else if v.kind = 4 then .iface 23 (valV v) else .nilIface) := by
  unfold boxV; rw [if_pos h]
theorem boxes_any (v : ValD) (w : World) (hT : Tabs w) : Calls Tryd.prog 3 #[valV v] w fun e w' => e = .returned (.bool true) ∧ Keeps [] w w' := by
  obtain ⟨k, n, s⟩ := v
  show Calls Tryd.prog 3 #[.agg #[.int .i64 k, .int .i64 n, .string s]] w _
  by_cases hl : s.size ≤ 5000
  · rcases hc : checkD ⟨k, n, s⟩ with _ | _
    · exact boxes_refused k n s w hT hl hc
    · have hx := boxV_of hc
      by_cases k0 : k = 0
      · subst k0
        have h := hc
        simp [checkD] at h
        obtain ⟨rfl, h2⟩ := h
        obtain rfl := empty_of h2
        exact boxes_blank w hT hc (by rw [hx]; rfl)
      by_cases k1 : k = 1
      · subst k1
        have h := hc
        simp [checkD] at h
        obtain rfl := empty_of h
        exact boxes_int n w hT hc (by rw [hx]; rfl)
      by_cases k2 : k = 2
      · subst k2
        have h := hc
        simp [checkD] at h
        obtain ⟨h1, h2⟩ := h
        obtain rfl := empty_of h2
        rcases h1 with rfl | rfl
        · exact boxes_no w hT hc (by rw [hx]; rfl)
        · exact boxes_yes w hT hc (by rw [hx]; rfl)
      by_cases k3 : k = 3
      · subst k3
        have h := hc
        simp [checkD] at h
        obtain ⟨rfl, h2⟩ := h
        exact boxes_text s w hT h2 hl hc (by rw [hx]; rfl)
      by_cases k4 : k = 4
      · subst k4
        have h := hc
        simp [checkD] at h
        obtain rfl := empty_of h.2
        exact boxes_bad n w hT hc hc (by rw [hx]; rfl)
      exfalso
      simp [checkD, k0, k1, k2, k3, k4] at hc
  · exact boxes_long k n s w hT hl

end Go.Proofs.YtnekkkppjofdlaaDoor
