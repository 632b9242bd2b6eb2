/- ValueReads, walked. -/
import Derived.Test.YtnekkkppjofdlaaDoorRfN
import Derived.Test.YtnekkkppjofdlaaDoorVaL
namespace Go.Proofs.YtnekkkppjofdlaaDoor
open Go Go.RowKit

set_option maxRecDepth 100000 in
set_option maxHeartbeats 1600000 in
theorem reads_any (s : ByteArray) (w : World) (hT : Tabs w) (hE : Errs w) : Calls Tryd.prog 10 #[.string s] w fun e w' => e = .returned (.bool true) ∧ Keeps [] w w' := by
  have HT := hid hT
  have HE := hid hE
  clear hT hE
  by_cases hs : s.size ≤ 5000
  · have hsI : (s.size : Int) ≤ 5000 := by omega
    go_enter Tryd.func10, Tryd.ntmps10
    go_wp2_with fail
    refine (vRead_any s _ (HT.out.k (by exact Keeps.K)) (HE.out.k (by exact Keeps.K)) (by omega)).mono ?_
    rintro e w1 ⟨u, ok, rfl, hr, hk⟩
    have HR := hid hr
    have HK : Hid (Keeps [] w w1) := Keeps.trans (by exact Keeps.K) hk (fun _ _ h => h)
    obtain ⟨k, n, t⟩ := u
    unfold valV
    dsimp only
    clear hk hr
    go_wp2_with fail
    have HKA : Hid (Keeps [] w (w1.alloc (.cells #[.int .i64 k, .int .i64 n, .string t] 23))) := HK.out.trans (G := []) (by exact Keeps.K) (fun _ _ h => by cases h)
    refine (r5Read_any s _ (HT.out.k HKA.out) (by omega)).mono ?_
    rintro e w2 ⟨u, ok2, rfl, hr2, hk⟩
    obtain ⟨rfl, rfl⟩ := HR.out.same hr2
    have c0 : w2.cell? ⟨w1.heap.size, 0, none⟩ = some (.int .i64 k) := hk.cellSome (by go_simp) (by simp)
    have c1 : w2.cell? ⟨w1.heap.size, 1, none⟩ = some (.int .i64 n) := hk.cellSome (by go_simp) (by simp)
    have c2 : w2.cell? ⟨w1.heap.size, 2, none⟩ = some (.string t) := hk.cellSome (by go_simp) (by simp)
    have S2 : w1.heap.size < w2.heap.size := World.block_lt_of_cell? _ _ c0
    have HK2 : Hid (Keeps [] w w2) := HKA.out.trans hk (fun _ _ h => h)
    unfold valV
    dsimp only
    clear hk hr2
    rcases ok with _ | _
    · go_wp2_with fail
      refine (awake5_any _ (HT.out.k (by have kk := HK2.out; exact Keeps.K))).mono ?_
      rintro e w5 ⟨rfl, hk⟩
      have HK5 : Hid (Keeps [] w w5) := Keeps.trans (by have kk := HK2.out; exact Keeps.K) hk (fun _ _ h => h)
      clear hk
      go_wp2_with fail
      go_ret
      exact ⟨rfl, HK5.out⟩
    · obtain ⟨hc, hsh, hn⟩ := HR.out.1 rfl
      have hs4 : t.size ≤ 400 := checkD_small hc
      have HSH := hid (fun w1 hT1 => vshow_any ⟨k, n, t⟩ w1 hT1 (by show t.size ≤ _; omega) hn)
      have hz : bytes (showL ⟨k, n, t⟩) = s := by
        rw [hsh]
        exact ByteArray.ext rfl
      rw [hz] at HSH
      unfold valV at HSH
      clear hc hsh hn hz hs4
      go_wp2_with fail
      refine (HSH.out _ (HT.out.k (by have kk := HK2.out; exact Keeps.K))).mono ?_
      rintro e w4 ⟨rfl, hk⟩
      have HK4 : Hid (Keeps [] w w4) := Keeps.trans (by have kk := HK2.out; exact Keeps.K) hk (fun _ _ h => h)
      clear hk
      go_wp2_with fail
      refine (awake5_any _ (HT.out.k HK4.out)).mono ?_
      rintro e w5 ⟨rfl, hk⟩
      have HK5 : Hid (Keeps [] w w5) := HK4.out.trans hk (fun _ _ h => h)
      clear hk
      go_wp2_with fail
      go_ret
      exact ⟨rfl, HK5.out⟩
  · have hsI : (5000 : Int) < (s.size : Int) := by omega
    go_enter Tryd.func10, Tryd.ntmps10
    go_wp2_with fail
    refine (awake5_any _ (HT.out.k (by exact Keeps.K))).mono ?_
    rintro e w1 ⟨rfl, hk⟩
    have HK : Hid (Keeps [] w w1) := Keeps.trans (by exact Keeps.K) hk (fun _ _ h => h)
    clear hk
    go_wp2_with fail
    go_ret
    exact ⟨rfl, HK.out⟩

end Go.Proofs.YtnekkkppjofdlaaDoor
