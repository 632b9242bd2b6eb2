/- Numbers read from bytes: plain. -/
import Derived.Test.YtnekkkppjofdlaaDoorVaY
namespace Go.Proofs.YtnekkkppjofdlaaDoor
open Go

def unzig (u : Nat) : Int := if u % 2 = 1 then -((u / 2 : Nat) : Int) - 1 else ((u / 2 : Nat) : Int)
theorem unzig_zigzag (v : Int) : unzig (Lib.zigzag v) = v := by
  unfold unzig Lib.zigzag
  repeat' split
  all_goals omega
/-- What is read at byte i: the number (none: it is wrong), and the bytes that were taken. -/
def rdGo : Nat → Nat → List UInt8 → Nat → Nat → Option Int × Nat
  | 0, _, _, _, c => (none, c)
  | _ + 1, _, [], _, c => (none, c)
  | f + 1, i, x :: l, u, c =>
    if (i = 9 ∧ 1 < x.toNat) ∨ (0 < i ∧ x.toNat = 0) then (none, c + 1)
    else if x.toNat < 128 then (some (unzig (u + x.toNat % 128 * 128 ^ i)), c + 1) else rdGo f (i + 1) l (u + x.toNat % 128 * 128 ^ i) (c + 1)
def rdInt (l : List UInt8) : Option Int × Nat := rdGo 10 0 l 0 0
theorem rdGo_uvarint : ∀ (f i x u c : Nat) (t : List UInt8), f + i = 10 → x < 128 ^ f → (i = 9 → x ≤ 1) → (0 < i → 0 < x) → 0 < f →
    (∀ k, i + k = 9 → x < 2 * 128 ^ k) → rdGo f i (Lib.uvarint x ++ t) u c = (some (unzig (u + x * 128 ^ i)), c + (Lib.uvarint x).length)
  | 0, _, _, _, _, _, _, _, _, _, h, _ => by omega
  | f + 1, i, x, u, c, t, hf, hx, h9, h0, _, hk => by
    by_cases hlt : x < 128
    · rw [Lib.uvarint_small hlt]
      show rdGo (f + 1) i (x.toUInt8 :: t) u c = _
      unfold rdGo
      rw [byte_nat x (by omega), if_neg (by omega), if_pos hlt, Nat.mod_eq_of_lt hlt]
      rfl
    · rw [Lib.uvarint_big (by omega)]
      show rdGo (f + 1) i ((x % 128 + 128).toUInt8 :: (Lib.uvarint (x / 128) ++ t)) u c = _
      have hi : i ≠ 9 := by intro h; have := h9 h; omega
      have hf0 : 0 < f := by
        rcases f with _ | f
        · omega
        · omega
      unfold rdGo
      rw [byte_nat (x % 128 + 128) (by omega), if_neg (by omega), if_neg (by omega)]
      have hx' : x / 128 < 128 ^ f := by rw [Nat.pow_succ] at hx; omega
      have hk' : ∀ k, i + 1 + k = 9 → x / 128 < 2 * 128 ^ k := fun k hh => by
        have := hk (k + 1) (by omega)
        rw [Nat.pow_succ] at this
        omega
      rw [rdGo_uvarint f (i + 1) (x / 128) _ _ t (by omega) hx' (fun h => by have := hk' 0 (by omega); simp at this; omega) (fun _ => by omega) hf0 hk']
      refine Prod.ext ?_ ?_
      · show some (unzig _) = some (unzig _)
        congr 2
        have e : (x % 128 + 128) % 128 = x % 128 := by omega
        rw [e, Nat.pow_succ, Nat.mul_comm (128 ^ i) 128, ← Nat.mul_assoc, Nat.add_assoc, ← Nat.add_mul]
        congr 2
        omega
      · show c + 1 + _ = c + ((Lib.uvarint (x / 128)).length + 1)
        omega
theorem rdInt_intL (v : Int) (hv : -9223372036854775808 ≤ v ∧ v ≤ 9223372036854775807) (t : List UInt8) : rdInt (intL v ++ t) = (some v, (intL v).length) := by
  have hz := Lib.zigzag_lt hv.1 hv.2
  unfold rdInt intL
  rw [rdGo_uvarint 10 0 (Lib.zigzag v) 0 0 t rfl (by omega) (by omega) (by omega) (by omega) (fun k hk => by
    obtain rfl : k = 9 := by omega
    have e : 2 * 128 ^ 9 = 18446744073709551616 := by decide
    omega)]
  simp [unzig_zigzag]

end Go.Proofs.YtnekkkppjofdlaaDoor
