/- Show: a value as a text. -/
import Derived.Test.YtdpbjdkkaekebaaDoorVaG
import Derived.Lib.ItoaLen
namespace Go.Proofs.YtdpbjdkkaekebaaDoor
open Go Go.RowKit

def showL (v : ValD) : List UInt8 :=
  if v.kind = 1 then Lib.itoa v.n else if v.kind = 2 then (if v.n = 1 then [116, 114, 117, 101] else [102, 97, 108, 115, 101]) else if v.kind = 3 then quoteL v.s.data.toList else if v.kind = 4 then 35 :: Lib.itoa v.n else [45]
theorem showL_int (n : Int) (s : ByteArray) : showL ⟨1, n, s⟩ = Lib.itoa n := by simp [showL]
theorem showL_bool (n : Int) (s : ByteArray) : showL ⟨2, n, s⟩ = Lib.formatBool (n == 1) := by
  rcases h : (n == 1) with _ | _
  · have h' : n ≠ 1 := by simpa using h
    simp [showL, h', Lib.formatBool]
    rfl
  · have h' : n = 1 := by simpa using h
    simp [showL, h', Lib.formatBool]
    rfl
theorem showL_text (n : Int) (s : ByteArray) : showL ⟨3, n, s⟩ = quoteL s.data.toList := by simp [showL]
theorem showL_bad (n : Int) (s : ByteArray) : showL ⟨4, n, s⟩ = 35 :: Lib.itoa n := by simp [showL]
def bytes (l : List UInt8) : ByteArray := ⟨l.toArray⟩


set_option maxRecDepth 100000 in
theorem vshow_any (v : ValD) (w : World) (hT : Tabs w) (hs : v.s.size ≤ 1000000) (hn : I64 v.n) :
    Calls Tryd.prog 30 #[valV v] w fun e w' => e = .returned (.string (bytes (showL v))) ∧ Keeps [] w w' := by
  have HT := hid hT
  have HN := hid hn
  have HS : Hid (v.s.size ≤ 1000000) := hs
  obtain ⟨k, n, s⟩ := v
  clear hT hn hs
  unfold valV
  by_cases k1 : k = 1
  · subst k1
    go_enter Tryd.func30, Tryd.ntmps30
    go_wp2_with fail
    refine (cFormat_any n HN.out.1 HN.out.2 _ (HT.out.k (by exact Keeps.K))).mono ?_
    rintro e w1 ⟨rfl, hk⟩
    have HK : Hid (Keeps [] w w1) := Keeps.trans (by exact Keeps.K) hk (fun _ _ h => h)
    clear hk
    go_wp2_with fail
    go_ret
    exact ⟨by rw [showL_int]; rfl, HK.out⟩
  by_cases k2 : k = 2
  · subst k2
    rcases hn1 : (n == 1) with _ | _
    all_goals
      have HB := hid (showL_bool n s)
      rw [hn1] at HB
      go_enter Tryd.func30, Tryd.ntmps30
      go_wp2_with fail
      refine (Tryd.strconv_FormatBool _ _).mono ?_
      rintro e w1 ⟨rfl, hw⟩
      have HK : Hid (Keeps [] w w1) := by rw [hw]; exact Keeps.K
      clear hw
      go_wp2_with fail
      go_ret
      exact ⟨by rw [HB.out]; rfl, HK.out⟩
  by_cases k3 : k = 3
  · subst k3
    go_enter Tryd.func30, Tryd.ntmps30
    go_wp2_with fail
    refine (vquoted_any s _ HS.out).mono ?_
    rintro e w1 ⟨rfl, hk⟩
    have HK : Hid (Keeps [] w w1) := Keeps.trans (by exact Keeps.K) hk (fun _ _ h => h)
    clear hk
    go_wp2_with fail
    go_ret
    exact ⟨by rw [showL_text]; rfl, HK.out⟩
  by_cases k4 : k = 4
  · subst k4
    have hlen : 1 + (Lib.itoa n).length ≤ 9223372036854775807 := by have := Lib.itoa_length_le n HN.out.1 HN.out.2; omega
    have hlen' : ((1 : Int) + ((Lib.itoa n).length : Int)) ≤ 9223372036854775807 := by omega
    go_enter Tryd.func30, Tryd.ntmps30
    go_wp2_with fail
    refine (cFormat_any n HN.out.1 HN.out.2 _ (HT.out.k (by exact Keeps.K))).mono ?_
    rintro e w1 ⟨rfl, hk⟩
    have HK : Hid (Keeps [] w w1) := Keeps.trans (by exact Keeps.K) hk (fun _ _ h => h)
    clear hk
    go_wp2_with fail
    go_ret
    exact ⟨by rw [showL_bad]; exact congrArg (fun l => Ending.returned (.string ⟨l⟩)) (by simp), HK.out⟩
  have HB : Hid (showL ⟨k, n, s⟩ = [45]) := by show (if k = 1 then _ else if k = 2 then _ else if k = 3 then _ else if k = 4 then _ else _) = _; rw [if_neg k1, if_neg k2, if_neg k3, if_neg k4]
  have e1 : (k == 1) = false := by simpa using k1
  have e2 : (k == 2) = false := by simpa using k2
  have e3 : (k == 3) = false := by simpa using k3
  have e4 : (k == 4) = false := by simpa using k4
  clear k1 k2 k3 k4
  go_enter Tryd.func30, Tryd.ntmps30
  go_wp2_with fail
  go_ret
  exact ⟨by rw [HB.out]; rfl, Keeps.K⟩

end Go.Proofs.YtdpbjdkkaekebaaDoor
