/- Bits of a number that is read: plain. -/
import Derived.Test.YtnekkkppjofdlaaDoorVaR
import Derived.Lib.VarintBits
import Derived.Laws.Bits64b
import Derived.Lib.Zigzag
namespace Go.Proofs.YtnekkkppjofdlaaDoor
open Go Go.RowKit

theorem pow128 (k : Nat) : (2 : Nat) ^ (7 * k) = 128 ^ k := by rw [Nat.pow_mul]
theorem step_lt {k x : Nat} (hk : k ≤ 9) (h9 : k = 9 → x ≤ 1) : x % 128 * 128 ^ k < 18446744073709551616 := by
  by_cases h : k = 9
  · have := h9 h
    subst h
    have e : (128 : Nat) ^ 9 = 9223372036854775808 := by decide
    rw [e]
    omega
  · have h1 : (128 : Nat) ^ k ≤ 128 ^ 8 := Nat.pow_le_pow_right (by decide) (by omega)
    have e : (128 : Nat) ^ 8 = 72057594037927936 := by decide
    rw [e] at h1
    have h2 : x % 128 * 128 ^ k ≤ 127 * 72057594037927936 := Nat.mul_le_mul (by omega) h1
    omega
theorem u64_id {n : Nat} (h : n < 18446744073709551616) : IntKind.u64.wrap (n : Int) = (n : Int) := by rw [IntKind.wrap_u64]; omega
theorem or_step (u k x : Nat) (hu : u < 128 ^ k) (hk : k ≤ 9) (hx : x < 256) (h9 : k = 9 → x ≤ 1) :
    bits .or .u64 (u : Int) (IntKind.u64.wrap (IntKind.u64.wrap (bits .and .u8 (x : Int) 127) * 2 ^ (7 * k))) = ((u + x % 128 * 128 ^ k : Nat) : Int) := by
  have hs := step_lt hk h9
  have hu64 : u < 18446744073709551616 := by
    have h1 : (128 : Nat) ^ k ≤ 128 ^ 9 := Nat.pow_le_pow_right (by decide) hk
    have e : (128 : Nat) ^ 9 = 9223372036854775808 := by decide
    omega
  rw [u8_and127 _ (by omega) (by omega), show ((x : Int) % 128) = ((x % 128 : Nat) : Int) by omega, u64_id (by omega)]
  have e : ((x % 128 : Nat) : Int) * 2 ^ (7 * k) = ((x % 128 * 128 ^ k : Nat) : Int) := by
    rw [← pow128]; push_cast; rfl
  rw [e, u64_id hs, bits_or_u64_nat _ _ hu64 hs]
  congr 1
  have hp : u < 2 ^ (7 * k) := by rw [pow128]; exact hu
  have := Nat.two_pow_add_eq_or_of_lt hp (x % 128)
  rw [Nat.or_comm, Nat.mul_comm (x % 128) (128 ^ k), ← pow128, ← this]
  omega
theorem step_bound {u k x : Nat} (hu : u < 128 ^ k) : u + x % 128 * 128 ^ k < 128 ^ (k + 1) := by
  rw [Nat.pow_succ]
  have h : x % 128 * 128 ^ k ≤ 127 * 128 ^ k := Nat.mul_le_mul_right _ (by omega)
  omega

theorem unzig_bits (z : Nat) (hz : z < 18446744073709551616) : bits .xor .i64 (wrap64 ((z : Int) / 2)) (wrap64 (-wrap64 (bits .and .u64 (z : Int) 1))) = unzig z := by
  rw [Lib.u64_and1 _ (by omega) (by omega)]
  have h1 : wrap64 ((z : Int) / 2) = ((z / 2 : Nat) : Int) := by unfold wrap64; omega
  rw [h1]
  unfold unzig
  have hc : ∀ x y : Int, bits .xor .i64 x y = bits .xor .i64 y x := fun x y => by simp [bits, BitVec.xor_comm]
  by_cases h : z % 2 = 1
  · have h2 : wrap64 (-wrap64 ((z : Int) % 2)) = -1 := by unfold wrap64; omega
    rw [h2, if_pos h, hc, Lib.i64_not _ (by omega)]
  · have h2 : wrap64 (-wrap64 ((z : Int) % 2)) = 0 := by unfold wrap64; omega
    rw [h2, if_neg h]
    have h3 : IntKind.i64.wrap ((z / 2 : Nat) : Int) = ((z / 2 : Nat) : Int) := by rw [IntKind.wrap_i64]; omega
    show IntKind.i64.wrap ((BitVec.ofInt 64 ((z / 2 : Nat) : Int) ^^^ BitVec.ofInt 64 0).toNat : Int) = _
    have h4 : (BitVec.ofInt 64 ((z / 2 : Nat) : Int)).toNat = z / 2 := by
      rw [BitVec.ofInt_natCast, BitVec.toNat_ofNat]; exact Nat.mod_eq_of_lt (by omega)
    have h5 : (BitVec.ofInt 64 0).toNat = 0 := by decide
    rw [BitVec.toNat_xor, h4, h5, Nat.xor_zero]
    exact h3

end Go.Proofs.YtnekkkppjofdlaaDoor
