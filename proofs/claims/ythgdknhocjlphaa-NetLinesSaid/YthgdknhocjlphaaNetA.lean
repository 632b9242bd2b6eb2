/- The small functions of package net: own, none, Len, New; Place and Bytes of the laws. -/
import Derived.Test.YthgdknhocjlphaaRows
import Derived.Test.YthgdknhocjlphaaBase
namespace Go.Proofs.Ythgdknhocjlphaa
open Go Go.RowKit

theorem Try.infoU8 : (Try.prog.info? 5).map (fun i => (i.zero, i.size, i.bytes)) = some (some (.int .u8 0), 1, 1) := by kernel_rfl

set_option maxHeartbeats 400000 in
theorem own_any (v : Value) (bs : List UInt8) (w : World) (hr : Reads w 1 v bs.length (u8s bs)) (hb : bs.length ≤ 140737488355328) :
    Calls Try.prog 22 #[v] w fun e w' => ∃ a c, e = .returned (.slice a bs.length c) ∧ w'.ownsRow w.heap.size 5 1 (.slice a bs.length c) bs.length (u8s bs) ∧ w.grownBy w' none := by
  obtain ⟨i0, hi, hz0, hz1, hz2⟩ := info_parts Try.infoU8
  go_enter Try.func22, Try.ntmps22
  go_wp2_with (at_builtin; refine wpList_append_copy _ rfl (.tmp 3) 26 rfl 5 i0 (.int .u8 0) 1 1 Try.underlying26 hi hz0 hz1 hz2 rfl (by decide) v bs.length (u8s bs) rfl hr (u8s_one bs) (by omega) (le_maxLen (by omega)) ?_)
  intro v' w' h1 h2
  obtain ⟨a, c, hv⟩ := len_form h1
  have H := hid hv
  clear hv
  go_wp2
  go_ret
  exact ⟨a, c, congrArg Ending.returned H.out, by rw [← H.out]; exact h1, h2⟩

set_option maxHeartbeats 400000 in
theorem lawBytes_any (v : Value) (bs : List UInt8) (w : World) (hr : Reads w 1 v bs.length (u8s bs)) (hb : bs.length ≤ 140737488355328) :
    Calls Try.prog 13 #[v] w fun e w' => ∃ a c, e = .returned (.slice a bs.length c) ∧ w'.ownsRow w.heap.size 5 1 (.slice a bs.length c) bs.length (u8s bs) ∧ w.grownBy w' none := by
  obtain ⟨i0, hi, hz0, hz1, hz2⟩ := info_parts Try.infoU8
  go_enter Try.func13, Try.ntmps13
  go_wp2_with (at_builtin; refine wpList_append_copy _ rfl (.tmp 3) 26 rfl 5 i0 (.int .u8 0) 1 1 Try.underlying26 hi hz0 hz1 hz2 rfl (by decide) v bs.length (u8s bs) rfl hr (u8s_one bs) (by omega) (le_maxLen (by omega)) ?_)
  intro v' w' h1 h2
  obtain ⟨a, c, hv⟩ := len_form h1
  have H := hid hv
  clear hv
  go_wp2
  go_ret
  exact ⟨a, c, congrArg Ending.returned H.out, by rw [← H.out]; exact h1, h2⟩

/-- Which place a number is. -/
def placeOf (v n : Int) : Int := if v.tmod n < 0 then v.tmod n + n else v.tmod n

set_option maxHeartbeats 400000 in
theorem place_any (v n : Int) (w : World) (h0 : 0 < n) (h1 : n ≤ 1000000000) (_wv : (Lit.int .i64 v).wf = true) :
    Calls Try.prog 7 #[.int .i64 v, .int .i64 n] w fun e w' => e = .returned (.int .i64 (placeOf v n)) ∧ w' = w := by
  have hn : n ≠ 0 := by omega
  have a1 : v.tmod n < n := Int.tmod_lt_of_pos v h0
  have a2 : -n < v.tmod n := by have := Int.lt_tmod_of_pos v h0; omega
  by_cases hc : v.tmod n < 0
  · go_enter Try.func7, Try.ntmps7
    go_wp2
    go_ret
    exact ⟨by simp [placeOf, hc], rfl⟩
  · go_enter Try.func7, Try.ntmps7
    go_wp2
    go_ret
    have e : placeOf v n = v.tmod n := by rw [placeOf, if_neg (by omega)]
    exact ⟨by rw [e]; rfl, rfl⟩

set_option maxHeartbeats 400000 in
theorem none_any (b : Nat) (i : Int) (a : Option Addr) (n c : Nat) (w : World) (hl : w.cell? ⟨b, 1, none⟩ = some (.slice a n c)) :
    Calls Try.prog 21 #[.pointer (some ⟨b, 0, none⟩), .int .i64 i] w fun e w' => e = .returned (.bool (decide (i < 0 ∨ (n : Int) ≤ i))) ∧ w' = w := by
  go_enter Try.func21, Try.ntmps21
  go_wp2
  · have h : 0 ≤ i := by assumption
    go_ret
    exact ⟨by simp [show ¬ i < 0 by omega], rfl⟩
  · have h : i < 0 := by assumption
    go_ret
    exact ⟨by simp, rfl⟩

set_option maxHeartbeats 400000 in
theorem len_any (b : Nat) (a : Option Addr) (n c : Nat) (w : World) (hl : w.cell? ⟨b, 1, none⟩ = some (.slice a n c)) :
    Calls Try.prog 11 #[.pointer (some ⟨b, 0, none⟩)] w fun e w' => e = .returned (.int .i64 n) ∧ w' = w := by
  go_enter Try.func11, Try.ntmps11
  go_wp2
  go_ret
  exact ⟨rfl, rfl⟩

end Go.Proofs.Ythgdknhocjlphaa
