/- palaverref01's more and one. -/
import Derived.Test.YtdpbjdkkaekebaaDoorVaT
import Derived.Test.YtdpbjdkkaekebaaDoorPlan
import Derived.Outline
namespace Go.Proofs.YtdpbjdkkaekebaaDoor
open Go Go.RowKit

theorem byteAt_get (s : ByteArray) (i : Nat) (h : i < s.size) : (s[i]'h).toNat = byteAt s i := by
  have := get_at s i h
  rw [Nat.add_zero] at this
  unfold byteAt
  rw [this]
theorem byte_idx {P : Program} (s : ByteArray) (i : Nat) (h : i < s.size) : ((s[i]'h).toNat : Int) = (byteAt s i : Int) := by rw [byteAt_get]

set_option maxRecDepth 100000 in
theorem more_yes (s : ByteArray) (i : Nat) (w : World) (h : i < s.size) (h1 : 128 ≤ byteAt s i) (h2 : byteAt s i ≤ 191) :
    Calls Tryd.prog 56 #[.string s, .int .i64 i] w fun e w' => e = .returned (.tuple #[.int .i32 ((byteAt s i : Int) - 128), .bool true]) ∧ w = w' := by
  have e := byteAt_get s i h
  have g1 : 128 ≤ ((s[i]'h).toNat : Int) := by rw [e]; omega
  have g2 : ((s[i]'h).toNat : Int) ≤ 191 := by rw [e]; omega
  have hl : (i : Int) < (s.size : Int) := by omega
  have E := hid e
  clear e h1 h2
  go_enter Tryd.func56, Tryd.ntmps56
  go_wp2_with fail
  go_ret2
  exact ⟨by rw [E.out]; rfl, rfl⟩
set_option maxRecDepth 100000 in
theorem more_no (s : ByteArray) (i : Nat) (w : World) (h : moreB s i = false) (hm : s.size ≤ 9223372036854775807) (hi : i ≤ 9223372036854775807) :
    Calls Tryd.prog 56 #[.string s, .int .i64 i] w fun e w' => e = .returned (.tuple #[.int .i32 0, .bool false]) ∧ w = w' := by
  by_cases hl : i < s.size
  · have e := byteAt_get s i hl
    have hc : byteAt s i < 128 ∨ (128 ≤ byteAt s i ∧ 191 < byteAt s i) := by
      have h' : ¬ (i < s.size ∧ 128 ≤ byteAt s i ∧ byteAt s i ≤ 191) := fun hh => by rw [(moreB_iff s i).2 hh] at h; cases h
      omega
    have hl' : (i : Int) < (s.size : Int) := by omega
    clear h
    rcases hc with h1 | ⟨h1, h2⟩
    · have g1 : ((s[i]'hl).toNat : Int) < 128 := by rw [e]; omega
      clear e h1
      go_enter Tryd.func56, Tryd.ntmps56
      go_wp2_with fail
      go_ret2
      exact ⟨rfl, rfl⟩
    · have g1 : 128 ≤ ((s[i]'hl).toNat : Int) := by rw [e]; omega
      have g2 : 191 < ((s[i]'hl).toNat : Int) := by rw [e]; omega
      clear e h1 h2
      go_enter Tryd.func56, Tryd.ntmps56
      go_wp2_with fail
      go_ret2
      exact ⟨rfl, rfl⟩
  · have hl' : (s.size : Int) ≤ (i : Int) := by omega
    clear h
    go_enter Tryd.func56, Tryd.ntmps56
    go_wp2_with fail
    go_ret2
    exact ⟨rfl, rfl⟩

theorem more_yes' (s : ByteArray) (i : Nat) (z : Int) (hz : Hid (z = (i : Int))) (w : World) (h : moreB s i = true) :
    Calls Tryd.prog 56 #[.string s, .int .i64 z] w fun e w' => e = .returned (.tuple #[.int .i32 ((byteAt s i : Int) - 128), .bool true]) ∧ w = w' := by
  have hz' := hz.out
  subst hz'
  have hm := (moreB_iff s i).1 h
  exact more_yes s i w hm.1 hm.2.1 hm.2.2
theorem more_no' (s : ByteArray) (i : Nat) (z : Int) (hz : Hid (z = (i : Int))) (w : World) (h : moreB s i = false) (hm : s.size ≤ 9223372036854775807) (hi : i ≤ 9223372036854775807) :
    Calls Tryd.prog 56 #[.string s, .int .i64 z] w fun e w' => e = .returned (.tuple #[.int .i32 0, .bool false]) ∧ w = w' := by
  have hz' := hz.out
  subst hz'
  exact more_no s i w h hm hi

end Go.Proofs.YtdpbjdkkaekebaaDoor
