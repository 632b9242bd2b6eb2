/- The document's reading of a number: plain. -/
import Derived.Test.YtdpbjdkkaekebaaDoorRfA0
namespace Go.Proofs.YtdpbjdkkaekebaaDoor
open Go Go.RowKit

/-- The digits of a text, read; none: it has others, or is too long. -/
def numGo : List UInt8 → Nat → Option Nat
  | [], u => some u
  | c :: r, u => if c.toNat < 48 ∨ 57 < c.toNat ∨ 1152921504606846976 < u then none else numGo r (u * 10 + (c.toNat - 48))
theorem dig_toNat (d : Nat) (h : d < 10) : (UInt8.ofNat (48 + d)).toNat = 48 + d := by
  have : ∀ d : Fin 10, (UInt8.ofNat (48 + d.val)).toNat = 48 + d.val := by decide
  exact this ⟨d, h⟩
theorem numGo_dec (m : Nat) : ∀ (r : List UInt8), m ≤ 9223372036854775808 → numGo (Lib.decDigits m ++ r) 0 = numGo r m := by
  induction m using Nat.strongRecOn with
  | _ m ih =>
    intro r hm
    by_cases h : m < 10
    · rw [dec_small m h]
      show numGo (UInt8.ofNat (48 + m) :: r) 0 = _
      unfold numGo
      rw [dig_toNat m h, if_neg (by omega)]
      rw [show 0 * 10 + (48 + m - 48) = m by omega]
      cases r <;> rfl
    · rw [dec_step m (by omega), List.append_assoc, ih (m / 10) (by omega) _ (by omega)]
      show numGo (UInt8.ofNat (48 + m % 10) :: r) (m / 10) = _
      conv => lhs; unfold numGo
      rw [dig_toNat _ (by omega), if_neg (by omega)]
      rw [show m / 10 * 10 + (48 + m % 10 - 48) = m by omega]
theorem numGo_nil (u : Nat) : numGo [] u = some u := rfl
theorem numGo_bad {c : UInt8} {r : List UInt8} {u : Nat} (h : c.toNat < 48 ∨ 57 < c.toNat ∨ 1152921504606846976 < u) : numGo (c :: r) u = none := by rw [numGo, if_pos h]
theorem numGo_ok {c : UInt8} {r : List UInt8} {u : Nat} (h : ¬ (c.toNat < 48 ∨ 57 < c.toNat ∨ 1152921504606846976 < u)) : numGo (c :: r) u = numGo r (u * 10 + (c.toNat - 48)) := by rw [numGo, if_neg h]
/-- The number that a text is written as; false: it is none. -/
def numD (l : List UInt8) : Int × Bool :=
  if l = [] ∨ l = [45] ∨ 20 < l.length then (0, false)
  else if l.head? = some 45 then match numGo (l.drop 1) 0 with
    | none => (0, false)
    | some u => if 9223372036854775808 < u then (0, false) else (-(u : Int), true)
  else match numGo l 0 with
    | none => (0, false)
    | some u => (wrap64 (u : Int), decide (u < 9223372036854775808))
theorem decDigits_ne (m : Nat) : Lib.decDigits m ≠ [] := by
  intro h
  have := Lib.decDigits_length m
  rw [h] at this
  have := Lib.nDigits_pos m
  simp at *
  omega
theorem decDigits_head (m : Nat) : ∀ c, (Lib.decDigits m).head? = some c → 48 ≤ c.toNat ∧ c.toNat ≤ 57 := by
  induction m using Nat.strongRecOn with
  | _ m ih =>
    intro c hc
    by_cases h : m < 10
    · rw [dec_small m h] at hc
      simp at hc
      rw [← hc]
      have := dig_toNat m h
      simp at this ⊢
      omega
    · rw [dec_step m (by omega)] at hc
      refine ih (m / 10) (by omega) c ?_
      rcases e : Lib.decDigits (m / 10) with _ | ⟨x, t⟩
      · exact absurd e (decDigits_ne _)
      · rw [e] at hc; exact hc
theorem nDigits_pow : ∀ (k u : Nat), u < 10 ^ (k + 1) → Lib.nDigits u ≤ k + 1
  | 0, u, h => by rw [Lib.nDigits_small (by simpa using h)]; exact Nat.le_refl _
  | k + 1, u, h => by
    by_cases hu : u < 10
    · rw [Lib.nDigits_small hu]; omega
    · rw [Lib.nDigits_big hu]
      have := nDigits_pow k (u / 10) (by rw [Nat.pow_succ] at h; omega)
      omega
theorem nDigits_le19 (u : Nat) (h : u ≤ 9223372036854775808) : Lib.nDigits u ≤ 19 := nDigits_pow 18 u (by
  have e : (10 : Nat) ^ (18 + 1) = 10000000000000000000 := by decide
  omega)
theorem numD_itoa (m : Int) (h0 : -9223372036854775808 ≤ m) (h1 : m ≤ 9223372036854775807) : numD (Lib.itoa m) = (m, true) := by
  unfold numD Lib.itoa
  by_cases hm : m < 0
  · obtain ⟨n, rfl⟩ : ∃ n : Nat, m = -(n : Int) := ⟨m.natAbs, by omega⟩
    rw [if_pos hm, Int.natAbs_neg, Int.natAbs_natCast]
    have hl := nDigits_le19 n (by omega)
    rw [← Lib.decDigits_length] at hl
    rw [if_neg (by
      rintro (h | h | h)
      · cases h
      · injection h with _ h; exact decDigits_ne n h
      · simp at h; omega), if_pos (show (45 :: Lib.decDigits n).head? = some 45 from rfl)]
    have e : (45 :: Lib.decDigits n).drop 1 = Lib.decDigits n ++ [] := by simp
    rw [e, numGo_dec n [] (by omega), numGo_nil]
    dsimp only
    rw [if_neg (by omega)]
  · obtain ⟨n, rfl⟩ : ∃ n : Nat, m = (n : Int) := ⟨m.toNat, by omega⟩
    rw [if_neg hm, Int.toNat_natCast]
    have hl := nDigits_le19 n (by omega)
    rw [← Lib.decDigits_length] at hl
    have hd := decDigits_head n
    rw [if_neg (by
      rintro (h | h | h)
      · exact decDigits_ne n h
      · rw [h] at hd; have := hd 45 rfl; revert this; decide
      · omega), if_neg (by intro h; have := hd 45 h; revert this; decide)]
    have e : Lib.decDigits n = Lib.decDigits n ++ [] := by simp
    rw [e, numGo_dec n [] (by omega), numGo_nil]
    dsimp only
    refine Prod.ext ?_ ?_
    · show wrap64 (n : Int) = _
      unfold wrap64
      omega
    · simp; omega
theorem numD_64 (l : List UInt8) : I64 (numD l).1 := by
  unfold numD
  repeat' split
  all_goals first | (constructor <;> (dsimp only; omega)) | (constructor <;> (dsimp only; unfold wrap64; omega)) | (constructor <;> simp)

theorem byte_drop (s : ByteArray) (i : Nat) (h : i < s.size) : s.data.toList.drop i = s[i]'h :: s.data.toList.drop (i + 1) := by
  have hl : i < s.data.toList.length := by rw [Array.length_toList]; exact h
  rw [List.drop_eq_getElem_cons hl]
  rfl
end Go.Proofs.YtdpbjdkkaekebaaDoor
