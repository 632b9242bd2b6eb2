/- The document's Show. -/
import Derived.Test.YtnekkkppjofdlaaDoorRfC
namespace Go.Proofs.YtnekkkppjofdlaaDoor
open Go Go.RowKit

set_option maxRecDepth 100000 in
set_option maxHeartbeats 800000 in
theorem r5Show_any (v : ValD) (w : World) (hc : checkD v = true) (hn : I64 v.n) :
    Calls Tryd.prog 41 #[valV v] w fun e w' => e = .returned (.string (str (showL v))) ∧ Keeps [] w w' := by
  have HN := hid hn
  have HC := hid hc
  have HS : Hid (v.s.size ≤ 400) := checkD_small hc
  have HE := hid (showL_of v)
  obtain ⟨k, n, s⟩ := v
  have hk : k = 0 ∨ k = 1 ∨ k = 2 ∨ k = 3 ∨ k = 4 := by
    rcases checkD_cases hc with h | h | h | h | h <;> (have h1 := h.1; dsimp only at h1; omega)
  clear hn hc
  unfold valV
  by_cases k1 : k = 1
  · subst k1
    have HL : Hid (showL ⟨1, n, s⟩ = Lib.itoa n) := by rw [showL_int]; rfl
    go_enter Tryd.func41, Tryd.ntmps41
    go_wp2_with fail
    refine (r5Dec_any n HN.out.1 HN.out.2 _).mono ?_
    rintro e w1 ⟨rfl, h⟩
    have K1 : Hid (Keeps [] w w1) := Keeps.trans (by exact Keeps.K) h (fun _ _ h => h)
    clear h
    go_wp2_with fail
    go_ret
    rw [HL.out]
    exact ⟨rfl, K1.out⟩
  by_cases k2 : k = 2
  · subst k2
    rcases hb : (n == 1) with _ | _
    · have HL : Hid (showL ⟨2, n, s⟩ = [102, 97, 108, 115, 101]) := by
        show showL _ = _
        rw [HE.out, if_neg (by simp), if_pos rfl, if_neg (by simpa using hb)]
      go_enter Tryd.func41, Tryd.ntmps41
      go_wp2_with fail
      go_ret
      rw [HL.out]
      exact ⟨rfl, by exact Keeps.K⟩
    · have HL : Hid (showL ⟨2, n, s⟩ = [116, 114, 117, 101]) := by
        show showL _ = _
        rw [HE.out, if_neg (by simp), if_pos rfl, if_pos (by simpa using hb)]
      go_enter Tryd.func41, Tryd.ntmps41
      go_wp2_with fail
      go_ret
      rw [HL.out]
      exact ⟨rfl, by exact Keeps.K⟩
  by_cases k3 : k = 3
  · subst k3
    have HL : Hid (showL ⟨3, n, s⟩ = quoteL s.data.toList) := by rw [showL_text]; rfl
    have HV : Hid (Lib.validD s.data.toList = true) := by
      show Lib.validD s.data.toList = true
      rcases checkD_cases HC.out with h | h | h | h | h
      · have h1 := h.1; dsimp only at h1; omega
      · have h1 := h.1; dsimp only at h1; omega
      · have h1 := h.1; dsimp only at h1; omega
      · exact h.2.2
      · have h1 := h.1; dsimp only at h1; omega
    go_enter Tryd.func41, Tryd.ntmps41
    go_wp2_with fail
    refine (r5Quote_any s _ (by have h : s.size ≤ 400 := HS.out; omega) HV.out).mono ?_
    rintro e w1 ⟨rfl, h⟩
    have K1 : Hid (Keeps [] w w1) := Keeps.trans (by exact Keeps.K) h (fun _ _ h => h)
    clear h
    go_wp2_with fail
    go_ret
    rw [HL.out]
    exact ⟨rfl, K1.out⟩
  by_cases k4 : k = 4
  · subst k4
    have HL : Hid (showL ⟨4, n, s⟩ = 35 :: Lib.itoa n) := by rw [showL_bad]; rfl
    have hz : (str (Lib.itoa n)).size ≤ 21 := Lib.itoa_length_le n HN.out.1 HN.out.2
    go_enter Tryd.func41, Tryd.ntmps41
    go_wp2_with fail
    refine (r5Dec_any n HN.out.1 HN.out.2 _).mono ?_
    rintro e w1 ⟨rfl, h⟩
    have K1 : Hid (Keeps [] w w1) := Keeps.trans (by exact Keeps.K) h (fun _ _ h => h)
    clear h
    go_wp2_with fail
    go_ret
    rw [HL.out]
    refine ⟨?_, K1.out⟩
    rw [show (⟨#[35]⟩ : ByteArray) = str [35] from rfl, str_cat]
    rfl
  · obtain rfl : k = 0 := by omega
    have HL : Hid (showL ⟨0, n, s⟩ = [45]) := by
      show showL _ = _
      rw [HE.out]; simp
    go_enter Tryd.func41, Tryd.ntmps41
    go_wp2_with fail
    go_ret
    rw [HL.out]
    exact ⟨rfl, by exact Keeps.K⟩

end Go.Proofs.YtnekkkppjofdlaaDoor
