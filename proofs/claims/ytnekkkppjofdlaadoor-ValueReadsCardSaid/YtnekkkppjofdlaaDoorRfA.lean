/- The document's numbers, written: digits, Dec. -/
import Derived.Test.YtnekkkppjofdlaaDoorVaT
import Derived.Test.YtnekkkppjofdlaaDoorStrs
import Derived.Lib.ItoaNum
import Derived.Lib.ItoaLen
namespace Go.Proofs.YtnekkkppjofdlaaDoor
open Go Go.RowKit

theorem dec_step (x : Nat) (h : 10 ≤ x) : Lib.decDigits x = Lib.decDigits (x / 10) ++ [UInt8.ofNat (48 + x % 10)] := by
  rw [Lib.decDigits, dif_neg (by omega)]
theorem dec_small (x : Nat) (h : x < 10) : Lib.decDigits x = [UInt8.ofNat (48 + x)] := by rw [Lib.decDigits, dif_pos h]
theorem str_cat (a b : List UInt8) : str a ++ str b = str (a ++ b) := by
  refine ByteArray.ext ?_
  rw [ByteArray.data_append]
  simp [str]
theorem dig_fin : ∀ d : Fin 10, (⟨#[48, 49, 50, 51, 52, 53, 54, 55, 56, 57]⟩ : ByteArray).extract d.val (d.val + 1) = str [UInt8.ofNat (48 + d.val)] := by decide +kernel
theorem dig_slice (d : Nat) (h : d < 10) : (⟨#[48, 49, 50, 51, 52, 53, 54, 55, 56, 57]⟩ : ByteArray).extract d (d + 1) = str [UInt8.ofNat (48 + d)] := dig_fin ⟨d, h⟩

set_option maxRecDepth 100000 in
set_option maxHeartbeats 800000 in
theorem r5digits_any (u : Nat) (hu : u < 18446744073709551616) (w : World) : Calls Tryd.prog 86 #[.int .u64 u] w fun e w' => e = .returned (.string (str (Lib.decDigits u))) ∧ Keeps [] w w' := by
  have HU : Hid ((Lib.decDigits u).length ≤ 20) := (by rw [Lib.decDigits_length]; exact Lib.nDigits_le20 u hu : (Lib.decDigits u).length ≤ 20)
  go_enter Tryd.func86, Tryd.ntmps86
  go_wp2_with fail
  go_loopw [3, 0] (fun s x wr => ∃ (acc : List UInt8) (m : Nat), m ≤ u ∧ acc.length ≤ 20 ∧ s = .string (str acc) ∧ x = .int .u64 m ∧ Hid (Lib.decDigits u = Lib.decDigits m ++ acc ∧ Keeps [] w wr)) (fun _ x _ => (intOf x).toNat)
  case atStart => exact ⟨[], u, Nat.le_refl _, by simp, rfl, rfl, by simp, Keeps.refl [] w⟩
  case round =>
    obtain ⟨acc, m, hm, hl, rfl, rfl, HW⟩ := hrel
    have m0 : (0 : Int) ≤ (m : Int) := Int.natCast_nonneg _
    have hz : (str acc).size = acc.length := rfl
    by_cases h10 : 10 ≤ m
    · have h10' : (10 : Int) ≤ (m : Int) := by omega
      go_wp2_with fail
      have E := HW.out.1
      rw [dec_step m h10, List.append_assoc] at E
      have HL := HU.out
      rw [E] at HL
      simp only [List.length_append, List.length_cons, List.length_nil] at HL
      refine ⟨⟨[UInt8.ofNat (48 + m % 10)] ++ acc, m / 10, by omega, by simp; omega, by rw [dig_slice _ (by omega), str_cat], by simp, E, HW.out.2⟩, by simp [intOf]; omega⟩
    · have h10' : (m : Int) < 10 := by omega
      go_wp2_with fail
      go_ret
      rw [dig_slice m (by omega), str_cat, HW.out.1, dec_small m (by omega)]
      exact ⟨rfl, HW.out.2⟩

set_option maxRecDepth 100000 in
theorem r5Dec_any (v : Int) (h0 : -9223372036854775808 ≤ v) (h1 : v ≤ 9223372036854775807) (w : World) : Calls Tryd.prog 66 #[.int .i64 v] w fun e w' => e = .returned (.string (str (Lib.itoa v))) ∧ Keeps [] w w' := by
  by_cases hv : v < 0
  · obtain ⟨n, hn⟩ : ∃ n : Nat, v = -(n : Int) := ⟨v.natAbs, by omega⟩
    subst hn
    have hn1 : (n : Int) ≤ 9223372036854775808 := by omega
    have hn2 : n < 18446744073709551616 := by omega
    have HI : Hid (Lib.itoa (-(n : Int)) = 45 :: Lib.decDigits n) := by
      show Lib.itoa (-(n : Int)) = _
      unfold Lib.itoa
      rw [if_pos hv, Int.natAbs_neg, Int.natAbs_natCast]
    have hz : (str (Lib.decDigits n)).size ≤ 20 := (by rw [Lib.decDigits_length]; exact Lib.nDigits_le20 n hn2 : (Lib.decDigits n).length ≤ 20)
    go_enter Tryd.func66, Tryd.ntmps66
    go_wp2_with fail
    rw [show -(-(n : Int) + 1) + 1 = (n : Int) by omega]
    refine (r5digits_any n hn2 _).mono ?_
    rintro e w1 ⟨rfl, hk⟩
    have K1 := hid hk
    clear hk
    go_wp2_with fail
    go_ret
    rw [HI.out]
    refine ⟨?_, K1.out⟩
    rw [show (⟨#[45]⟩ : ByteArray) = str [45] from rfl, str_cat]
    rfl
  · obtain ⟨n, rfl⟩ : ∃ n : Nat, v = (n : Int) := ⟨v.toNat, by omega⟩
    have HI : Hid (Lib.itoa (n : Int) = Lib.decDigits n) := by
      show Lib.itoa (n : Int) = _
      unfold Lib.itoa
      rw [if_neg hv, Int.toNat_natCast]
    go_enter Tryd.func66, Tryd.ntmps66
    go_wp2_with fail
    refine (r5digits_any n (by omega) _).mono ?_
    rintro e w1 ⟨rfl, hk⟩
    go_wp2_with fail
    go_ret
    rw [HI.out]
    exact ⟨rfl, hk⟩

end Go.Proofs.YtnekkkppjofdlaaDoor
