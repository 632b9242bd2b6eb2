/- Box, Unbox, Kind. -/
import Derived.Test.YtnekkkppjofdlaaDoorVaH
namespace Go.Proofs.YtnekkkppjofdlaaDoor
open Go Go.RowKit

def boxV (v : ValD) : Value :=
  if checkD v = true then (if v.kind = 1 then .iface 2 (.int .i64 v.n) else if v.kind = 2 then .iface 4 (.bool (v.n == 1)) else if v.kind = 3 then .iface 9 (.string v.s) else if v.kind = 4 then .iface 23 (valV v) else .nilIface) else .nilIface

theorem vcheck_is (v : ValD) (b : Bool) (hb : checkD v = b) (w : World) (hT : Tabs w) (hs : v.s.size ≤ 9223372036854775806) :
    Calls Tryd.prog 20 #[valV v] w fun e w' => e = .returned (.bool b) ∧ Keeps [] w w' := by
  rw [← hb]; exact vCheck_any v w hT hs

set_option maxRecDepth 100000 in
theorem vbox_any (v : ValD) (w : World) (hT : Tabs w) (hs : v.s.size ≤ 9223372036854775806) :
    Calls Tryd.prog 13 #[valV v] w fun e w' => e = .returned (boxV v) ∧ Keeps [] w w' := by
  have HT := hid hT
  rcases hc : checkD v with _ | _
  · have HX : Hid (boxV v = .nilIface) := by show _ = _; unfold boxV; rw [hc]; rfl
    have HC := hid (vcheck_is v _ hc)
    obtain ⟨k, n, s⟩ := v
    unfold valV at HC ⊢
    clear hT hc
    go_enter Tryd.func13, Tryd.ntmps13
    go_wp2_with fail
    refine (HC.out _ (HT.out.k (by exact Keeps.K)) hs).mono ?_
    rintro e w1 ⟨rfl, hk⟩
    have HK : Hid (Keeps [] w w1) := Keeps.trans (by exact Keeps.K) hk (fun _ _ h => h)
    clear hk
    go_wp2_with fail
    go_ret
    exact ⟨by rw [HX.out]; rfl, HK.out⟩
  · have HX : Hid (boxV v = (if v.kind = 1 then .iface 2 (.int .i64 v.n) else if v.kind = 2 then .iface 4 (.bool (v.n == 1)) else if v.kind = 3 then .iface 9 (.string v.s) else if v.kind = 4 then .iface 23 (valV v) else .nilIface)) := by show _ = _; unfold boxV; rw [if_pos hc]
    have HC := hid (vcheck_is v _ hc)
    obtain ⟨k, n, s⟩ := v
    unfold valV at HC HX ⊢
    simp only at HX
    clear hT hc
    by_cases k1 : k = 1
    · subst k1
      go_enter Tryd.func13, Tryd.ntmps13
      go_wp2_with fail
      refine (HC.out _ (HT.out.k (by exact Keeps.K)) hs).mono ?_
      rintro e w1 ⟨rfl, hk⟩
      obtain ⟨⟨c0, c1, c2⟩, _⟩ := blk3 ((hk.block w.heap.size (by simp) (by simp)).trans (heap_alloc_new w _))
      have HK : Hid (Keeps [] w w1) := Keeps.trans (by exact Keeps.K) hk (fun _ _ h => h)
      clear hk
      go_wp2_with fail
      go_ret
      exact ⟨by rw [HX.out]; rfl, HK.out⟩
    by_cases k2 : k = 2
    · subst k2
      go_enter Tryd.func13, Tryd.ntmps13
      go_wp2_with fail
      refine (HC.out _ (HT.out.k (by exact Keeps.K)) hs).mono ?_
      rintro e w1 ⟨rfl, hk⟩
      obtain ⟨⟨c0, c1, c2⟩, _⟩ := blk3 ((hk.block w.heap.size (by simp) (by simp)).trans (heap_alloc_new w _))
      have HK : Hid (Keeps [] w w1) := Keeps.trans (by exact Keeps.K) hk (fun _ _ h => h)
      clear hk
      go_wp2_with fail
      go_ret
      exact ⟨by rw [HX.out]; rfl, HK.out⟩
    by_cases k3 : k = 3
    · subst k3
      go_enter Tryd.func13, Tryd.ntmps13
      go_wp2_with fail
      refine (HC.out _ (HT.out.k (by exact Keeps.K)) hs).mono ?_
      rintro e w1 ⟨rfl, hk⟩
      obtain ⟨⟨c0, c1, c2⟩, _⟩ := blk3 ((hk.block w.heap.size (by simp) (by simp)).trans (heap_alloc_new w _))
      have HK : Hid (Keeps [] w w1) := Keeps.trans (by exact Keeps.K) hk (fun _ _ h => h)
      clear hk
      go_wp2_with fail
      go_ret
      exact ⟨by rw [HX.out]; rfl, HK.out⟩
    by_cases k4 : k = 4
    · subst k4
      go_enter Tryd.func13, Tryd.ntmps13
      go_wp2_with fail
      refine (HC.out _ (HT.out.k (by exact Keeps.K)) hs).mono ?_
      rintro e w1 ⟨rfl, hk⟩
      have HBK := hid ((hk.block w.heap.size (by simp) (by simp)).trans (heap_alloc_new w _))
      obtain ⟨⟨c0, c1, c2⟩, _⟩ := blk3 HBK.out
      have HK : Hid (Keeps [] w w1) := Keeps.trans (by exact Keeps.K) hk (fun _ _ h => h)
      clear hk
      go_wp2_with fail
      go_ret
      exact ⟨by rw [HX.out]; rfl, HK.out⟩
    have HY : Hid (boxV ⟨k, n, s⟩ = .nilIface) := by show _ = _; rw [HX.out, if_neg k1, if_neg k2, if_neg k3, if_neg k4]
    have e1 : (k == 1) = false := by simpa using k1
    have e2 : (k == 2) = false := by simpa using k2
    have e3 : (k == 3) = false := by simpa using k3
    have e4 : (k == 4) = false := by simpa using k4
    clear k1 k2 k3 k4
    go_enter Tryd.func13, Tryd.ntmps13
    go_wp2_with fail
    refine (HC.out _ (HT.out.k (by exact Keeps.K)) hs).mono ?_
    rintro e w1 ⟨rfl, hk⟩
    obtain ⟨⟨c0, c1, c2⟩, _⟩ := blk3 ((hk.block w.heap.size (by simp) (by simp)).trans (heap_alloc_new w _))
    have HK : Hid (Keeps [] w w1) := Keeps.trans (by exact Keeps.K) hk (fun _ _ h => h)
    clear hk
    go_wp2_with fail
    go_ret
    exact ⟨by rw [HY.out]; rfl, HK.out⟩

end Go.Proofs.YtnekkkppjofdlaaDoor
