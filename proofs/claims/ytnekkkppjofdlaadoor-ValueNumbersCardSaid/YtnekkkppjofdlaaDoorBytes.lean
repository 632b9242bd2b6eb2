/- Plain facts on bytes and numbers. No program is named here. -/
import Derived.WalkKit
namespace Go.Proofs.YtnekkkppjofdlaaDoor
open Go Go.RowKit

/-- The byte that a number ends with. -/
def byteOf (n : Int) : UInt8 := UInt8.ofNat (n % 256).toNat

theorem byteOf_toNat (n : Int) : ((byteOf n).toNat : Int) = n % 256 := by
  have h0 := Int.emod_nonneg n (show (256 : Int) ≠ 0 by decide)
  have h1 := Int.emod_lt_of_pos n (show (0 : Int) < 256 by decide)
  unfold byteOf
  rw [UInt8.toNat_ofNat']
  omega

theorem wrap_u8_byteOf (n : Int) : IntKind.u8.wrap n = ((byteOf n).toNat : Int) := by rw [IntKind.wrap_u8, byteOf_toNat]

theorem byteOf_zero (n : Int) : byteOf n = 0 ↔ n % 256 = 0 := by
  constructor
  · intro h
    have := byteOf_toNat n
    rw [h] at this
    simpa using this.symm
  · intro h
    apply UInt8.toNat_inj.1
    have := byteOf_toNat n
    rw [h] at this
    simpa using this

theorem and255 (n : Int) : bits .and .i64 n 255 = n % 256 := by
  have h0 := Int.emod_nonneg n (show (256 : Int) ≠ 0 by decide)
  have h1 := Int.emod_lt_of_pos n (show (0 : Int) < 256 by decide)
  have e : (BitVec.ofInt 64 n &&& BitVec.ofInt 64 255).toNat = (n % 256).toNat := by
    rw [BitVec.toNat_and, BitVec.toNat_ofInt, show (BitVec.ofInt 64 255).toNat = 2 ^ 8 - 1 from by decide, Nat.and_two_pow_sub_one_eq_mod]
    have h2 := Int.emod_nonneg n (show (2 ^ 64 : Int) ≠ 0 by decide)
    have h3 : (n % 2 ^ 64) % 256 = n % 256 := Int.emod_emod_of_dvd n (by decide)
    show (n % 2 ^ 64).toNat % 2 ^ 8 = _
    omega
  show IntKind.i64.wrap ((BitVec.ofInt IntKind.i64.bits n &&& BitVec.ofInt IntKind.i64.bits 255).toNat : Int) = _
  rw [show (BitVec.ofInt IntKind.i64.bits n &&& BitVec.ofInt IntKind.i64.bits 255).toNat = (n % 256).toNat from e, IntKind.wrap_i64]
  omega

theorem xor_u8 (a b : UInt8) : bits .xor .u8 (a.toNat : Int) (b.toNat : Int) = ((a ^^^ b).toNat : Int) := by
  have h0 := a.toNat_lt
  have h1 := b.toNat_lt
  rw [u8_xor_nat _ _ (by omega) (by omega)]
  simp

theorem xor_byteOf (a : UInt8) (n : Int) : bits .xor .u8 (a.toNat : Int) (IntKind.u8.wrap n) = ((a ^^^ byteOf n).toNat : Int) := by
  rw [wrap_u8_byteOf, xor_u8]

theorem xor_mod (a : UInt8) (n : Int) : bits .xor .u8 (a.toNat : Int) (n % 256) = ((a ^^^ byteOf n).toNat : Int) := by
  rw [← byteOf_toNat, xor_u8]

theorem and255_byteOf (n : Int) : byteOf (bits .and .i64 n 255) = byteOf n := by
  rw [and255]
  unfold byteOf
  rw [Int.emod_emod_of_dvd n (Int.dvd_refl 256)]

/-- In a flat list without a thing twice, different places have nothing in common. -/
theorem flat_lt {α : Type} (f : α → List Nat) : ∀ (l : List α), (l.flatMap f).Nodup → ∀ (i j : Nat) (u v : α), i < j → l[i]? = some u → l[j]? = some v → ∀ b ∈ f u, b ∉ f v
  | [], _, i, _, _, _, _, h, _, _, _ => by simp at h
  | x :: l, hn, 0, j + 1, u, v, _, hu, hv, b, hb => by
    rw [List.flatMap_cons] at hn
    simp at hu hv
    subst hu
    intro hb'
    exact (List.nodup_append.1 hn).2.2 b hb b (List.mem_flatMap.2 ⟨v, List.mem_of_getElem? hv, hb'⟩) rfl
  | x :: l, hn, i + 1, j + 1, u, v, hlt, hu, hv, b, hb => by
    rw [List.flatMap_cons] at hn
    exact flat_lt f l (List.nodup_append.1 hn).2.1 i j u v (by omega) (by simpa using hu) (by simpa using hv) b hb
theorem flat_apart {α : Type} (f : α → List Nat) {l : List α} (h : (l.flatMap f).Nodup) {i j : Nat} {u v : α} (hi : l[i]? = some u) (hj : l[j]? = some v) (hne : i ≠ j) : ∀ b ∈ f u, b ∉ f v := by
  rcases Nat.lt_or_gt_of_ne hne with hlt | hlt
  · exact flat_lt f l h i j u v hlt hi hj
  · exact fun b hb hb' => flat_lt f l h j i v u hlt hj hi b hb' hb

end Go.Proofs.YtnekkkppjofdlaaDoor
