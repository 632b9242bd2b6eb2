/- The document's reading of a number. -/
import Derived.Test.YtnekkkppjofdlaaDoorRfA
import Derived.Test.YtnekkkppjofdlaaDoorWireA
namespace Go.Proofs.YtnekkkppjofdlaaDoor
open Go Go.RowKit

/-- The digits of a text, read; none: it has others, or is too long. -/
def numGo : List UInt8 → Nat → Option Nat
  | [], u => some u
  | c :: r, u => if c.toNat < 48 ∨ 57 < c.toNat ∨ 1152921504606846976 < u then none else numGo r (u * 10 + (c.toNat - 48))
theorem dig_toNat (d : Nat) (h : d < 10) : (UInt8.ofNat (48 + d)).toNat = 48 + d := by
  have : ∀ d : Fin 10, (UInt8.ofNat (48 + d.val)).toNat = 48 + d.val := by decide
  exact this ⟨d, h⟩
theorem numGo_dec (m : Nat) : ∀ (r : List UInt8), m ≤ 9223372036854775808 → numGo (Lib.decDigits m ++ r) 0 = numGo r m := by
  induction m using Nat.strongRecOn with
  | _ m ih =>
    intro r hm
    by_cases h : m < 10
    · rw [dec_small m h]
      show numGo (UInt8.ofNat (48 + m) :: r) 0 = _
      unfold numGo
      rw [dig_toNat m h, if_neg (by omega)]
      rw [show 0 * 10 + (48 + m - 48) = m by omega]
      cases r <;> rfl
    · rw [dec_step m (by omega), List.append_assoc, ih (m / 10) (by omega) _ (by omega)]
      show numGo (UInt8.ofNat (48 + m % 10) :: r) (m / 10) = _
      conv => lhs; unfold numGo
      rw [dig_toNat _ (by omega), if_neg (by omega)]
      rw [show m / 10 * 10 + (48 + m % 10 - 48) = m by omega]
theorem numGo_nil (u : Nat) : numGo [] u = some u := rfl
theorem numGo_bad {c : UInt8} {r : List UInt8} {u : Nat} (h : c.toNat < 48 ∨ 57 < c.toNat ∨ 1152921504606846976 < u) : numGo (c :: r) u = none := by rw [numGo, if_pos h]
theorem numGo_ok {c : UInt8} {r : List UInt8} {u : Nat} (h : ¬ (c.toNat < 48 ∨ 57 < c.toNat ∨ 1152921504606846976 < u)) : numGo (c :: r) u = numGo r (u * 10 + (c.toNat - 48)) := by rw [numGo, if_neg h]
/-- The number that a text is written as; false: it is none. -/
def numD (l : List UInt8) : Int × Bool :=
  if l = [] ∨ l = [45] ∨ 20 < l.length then (0, false)
  else if l.head? = some 45 then match numGo (l.drop 1) 0 with
    | none => (0, false)
    | some u => if 9223372036854775808 < u then (0, false) else (-(u : Int), true)
  else match numGo l 0 with
    | none => (0, false)
    | some u => (wrap64 (u : Int), decide (u < 9223372036854775808))
theorem decDigits_ne (m : Nat) : Lib.decDigits m ≠ [] := by
  intro h
  have := Lib.decDigits_length m
  rw [h] at this
  have := Lib.nDigits_pos m
  simp at *
  omega
theorem decDigits_head (m : Nat) : ∀ c, (Lib.decDigits m).head? = some c → 48 ≤ c.toNat ∧ c.toNat ≤ 57 := by
  induction m using Nat.strongRecOn with
  | _ m ih =>
    intro c hc
    by_cases h : m < 10
    · rw [dec_small m h] at hc
      simp at hc
      rw [← hc]
      have := dig_toNat m h
      simp at this ⊢
      omega
    · rw [dec_step m (by omega)] at hc
      refine ih (m / 10) (by omega) c ?_
      rcases e : Lib.decDigits (m / 10) with _ | ⟨x, t⟩
      · exact absurd e (decDigits_ne _)
      · rw [e] at hc; exact hc
theorem nDigits_pow : ∀ (k u : Nat), u < 10 ^ (k + 1) → Lib.nDigits u ≤ k + 1
  | 0, u, h => by rw [Lib.nDigits_small (by simpa using h)]; exact Nat.le_refl _
  | k + 1, u, h => by
    by_cases hu : u < 10
    · rw [Lib.nDigits_small hu]; omega
    · rw [Lib.nDigits_big hu]
      have := nDigits_pow k (u / 10) (by rw [Nat.pow_succ] at h; omega)
      omega
theorem nDigits_le19 (u : Nat) (h : u ≤ 9223372036854775808) : Lib.nDigits u ≤ 19 := nDigits_pow 18 u (by
  have e : (10 : Nat) ^ (18 + 1) = 10000000000000000000 := by decide
  omega)
theorem numD_itoa (m : Int) (h0 : -9223372036854775808 ≤ m) (h1 : m ≤ 9223372036854775807) : numD (Lib.itoa m) = (m, true) := by
  unfold numD Lib.itoa
  by_cases hm : m < 0
  · obtain ⟨n, rfl⟩ : ∃ n : Nat, m = -(n : Int) := ⟨m.natAbs, by omega⟩
    rw [if_pos hm, Int.natAbs_neg, Int.natAbs_natCast]
    have hl := nDigits_le19 n (by omega)
    rw [← Lib.decDigits_length] at hl
    rw [if_neg (by
      rintro (h | h | h)
      · cases h
      · injection h with _ h; exact decDigits_ne n h
      · simp at h; omega), if_pos (show (45 :: Lib.decDigits n).head? = some 45 from rfl)]
    have e : (45 :: Lib.decDigits n).drop 1 = Lib.decDigits n ++ [] := by simp
    rw [e, numGo_dec n [] (by omega), numGo_nil]
    dsimp only
    rw [if_neg (by omega)]
  · obtain ⟨n, rfl⟩ : ∃ n : Nat, m = (n : Int) := ⟨m.toNat, by omega⟩
    rw [if_neg hm, Int.toNat_natCast]
    have hl := nDigits_le19 n (by omega)
    rw [← Lib.decDigits_length] at hl
    have hd := decDigits_head n
    rw [if_neg (by
      rintro (h | h | h)
      · exact decDigits_ne n h
      · rw [h] at hd; have := hd 45 rfl; revert this; decide
      · omega), if_neg (by intro h; have := hd 45 h; revert this; decide)]
    have e : Lib.decDigits n = Lib.decDigits n ++ [] := by simp
    rw [e, numGo_dec n [] (by omega), numGo_nil]
    dsimp only
    refine Prod.ext ?_ ?_
    · show wrap64 (n : Int) = _
      unfold wrap64
      omega
    · simp; omega
theorem numD_64 (l : List UInt8) : I64 (numD l).1 := by
  unfold numD
  repeat' split
  all_goals first | (constructor <;> (dsimp only; omega)) | (constructor <;> (dsimp only; unfold wrap64; omega)) | (constructor <;> simp)

theorem byte_drop (s : ByteArray) (i : Nat) (h : i < s.size) : s.data.toList.drop i = s[i]'h :: s.data.toList.drop (i + 1) := by
  have hl : i < s.data.toList.length := by rw [Array.length_toList]; exact h
  rw [List.drop_eq_getElem_cons hl]
  rfl
set_option maxRecDepth 100000 in
set_option maxHeartbeats 1600000 in
theorem r5number_pos (s : ByteArray) (w : World) (h0 : 0 < s.size) (h20 : (s.size : Int) ≤ 20) (c : UInt8) (hc : s[0]'(Nat.lt_of_le_of_lt (Nat.zero_le _) h0) = c) (hd : ((c.toNat : Int) == 45) = false)
    (hE : numD s.data.toList = match numGo (s.data.toList.drop 0) 0 with
      | none => (0, false)
      | some u => (wrap64 (u : Int), decide (u < 9223372036854775808))) :
    Calls Tryd.prog 68 #[.string s] w fun e w' => e = .returned (.tuple #[.int .i64 (numD s.data.toList).1, .bool (numD s.data.toList).2]) ∧ Keeps [] w w' := by
  have HL : Hid (s.data.toList.length = s.size) := Array.length_toList
  have HE := hid hE
  clear hE
  have h1 : (1 : Int) ≤ (s.size : Int) := by omega
  have hz1 : ((0 : Int) == (s.size : Int)) = false := by simp; omega
  have hz2 : (0 : Int) ≠ (s.size : Int) := by omega
  go_enter Tryd.func68, Tryd.ntmps68
  go_wp2_with fail
  go_loopw [5, 6] (fun iv uv wr => ∃ (i u : Nat), i ≤ s.size ∧ u ≤ 11529215046068469769 ∧ iv = .int .i64 i ∧ uv = .int .u64 u ∧ Hid (numGo (s.data.toList.drop 0) 0 = numGo (s.data.toList.drop i) u ∧ Keeps [] w wr)) (fun iv _ _ => s.size - (intOf iv).toNat)
  case atStart => exact ⟨0, 0, by omega, by omega, rfl, rfl, rfl, Keeps.refl [] w⟩
  case round =>
    obtain ⟨i, u, hi, hu, rfl, rfl, HW⟩ := hrel
    have i0 : (0 : Int) ≤ (i : Int) := Int.natCast_nonneg _
    have u0 : (0 : Int) ≤ (u : Int) := Int.natCast_nonneg _
    clear hc hd
    by_cases hlt : i < s.size
    · have hlt' : (i : Int) < (s.size : Int) := by omega
      have HD := hid (byte_drop s i hlt)
      obtain ⟨d, hd⟩ : ∃ d, s[i]'hlt = d := ⟨_, rfl⟩
      rw [hd] at HD
      have d256 : d.toNat < 256 := d.toNat_lt
      by_cases hbad : d.toNat < 48 ∨ 57 < d.toNat ∨ 1152921504606846976 < u
      · have HB : Hid (numD s.data.toList = (0, false)) := by
          show numD _ = _
          rw [HE.out, HW.out.1, HD.out, numGo_bad hbad]
        have hb' : ((d.toNat : Int) < 48) ∨ (48 ≤ (d.toNat : Int) ∧ (57 : Int) < (d.toNat : Int)) ∨ (48 ≤ (d.toNat : Int) ∧ (d.toNat : Int) ≤ 57 ∧ (1152921504606846976 : Int) < (u : Int)) := by omega
        clear hbad
        rcases hb' with b1 | ⟨b1, b2⟩ | ⟨b1, b2, b3⟩
        all_goals
          go_wp2_with fail
          go_ret2
          exact ⟨by rw [HB.out]; rfl, by have kk := HW.out.2; exact Keeps.K⟩
      · have b1 : (48 : Int) ≤ (d.toNat : Int) := by omega
        have b2 : (d.toNat : Int) ≤ 57 := by omega
        have b3 : (u : Int) ≤ 1152921504606846976 := by omega
        have HN : Hid (numGo (s.data.toList.drop 0) 0 = numGo (s.data.toList.drop (i + 1)) (u * 10 + (d.toNat - 48))) := by
          show numGo _ _ = _
          rw [HW.out.1, HD.out, numGo_ok hbad]
        clear hbad
        go_wp2_with fail
        go_roundw
        case rel => exact ⟨i + 1, u * 10 + (d.toNat - 48), by omega, by omega, by go_num, by go_num, HN.out, by have kk := HW.out.2; exact Keeps.K⟩
        case measure => simp [intOf]; omega
    · have hge : (s.size : Int) ≤ (i : Int) := by omega
      have HB : Hid (numD s.data.toList = (wrap64 (u : Int), decide (u < 9223372036854775808))) := by
        show numD _ = _
        rw [HE.out, HW.out.1, List.drop_of_length_le (by rw [HL.out]; omega), numGo_nil]
      by_cases hub : u < 9223372036854775808
      · have hub' : (u : Int) < 9223372036854775808 := by omega
        have HB2 : Hid (numD s.data.toList = ((u : Int), true)) := HB.out.trans (by rw [decide_eq_true hub]; unfold wrap64; exact Prod.ext (by dsimp only; omega) rfl)
        clear hub
        go_wp2_with fail
        go_ret2
        exact ⟨by rw [HB2.out]; rfl, by have kk := HW.out.2; exact Keeps.K⟩
      · have hub' : (9223372036854775808 : Int) ≤ (u : Int) := by omega
        have HB2 : Hid (numD s.data.toList = (wrap64 (u : Int), false)) := HB.out.trans (by rw [decide_eq_false hub])
        have hdd : decide ((u : Int) < 9223372036854775808) = false := by simp; omega
        have HDD := hid hdd
        clear hub hdd
        go_wp2_with fail
        rw [HDD.out]
        go_ret2
        exact ⟨by rw [HB2.out]; rfl, by have kk := HW.out.2; exact Keeps.K⟩

set_option maxRecDepth 100000 in
set_option maxHeartbeats 1600000 in
theorem r5number_neg (s : ByteArray) (w : World) (h0 : 1 < s.size) (h20 : (s.size : Int) ≤ 20) (c : UInt8) (hc : s[0]'(Nat.lt_of_le_of_lt (Nat.zero_le _) h0) = c) (hd : ((c.toNat : Int) == 45) = true)
    (hE : numD s.data.toList = match numGo (s.data.toList.drop 1) 0 with
      | none => (0, false)
      | some u => if 9223372036854775808 < u then (0, false) else (-(u : Int), true)) :
    Calls Tryd.prog 68 #[.string s] w fun e w' => e = .returned (.tuple #[.int .i64 (numD s.data.toList).1, .bool (numD s.data.toList).2]) ∧ Keeps [] w w' := by
  have HL : Hid (s.data.toList.length = s.size) := Array.length_toList
  have HE := hid hE
  clear hE
  have h1 : (2 : Int) ≤ (s.size : Int) := by omega
  have hz1 : ((1 : Int) == (s.size : Int)) = false := by simp; omega
  have hz2 : (1 : Int) ≠ (s.size : Int) := by omega
  go_enter Tryd.func68, Tryd.ntmps68
  go_wp2_with fail
  go_loopw [5, 6] (fun iv uv wr => ∃ (i u : Nat), i ≤ s.size ∧ u ≤ 11529215046068469769 ∧ iv = .int .i64 i ∧ uv = .int .u64 u ∧ Hid (numGo (s.data.toList.drop 1) 0 = numGo (s.data.toList.drop i) u ∧ Keeps [] w wr)) (fun iv _ _ => s.size - (intOf iv).toNat)
  case atStart => exact ⟨1, 0, by omega, by omega, rfl, rfl, rfl, Keeps.refl [] w⟩
  case round =>
    obtain ⟨i, u, hi, hu, rfl, rfl, HW⟩ := hrel
    have i0 : (0 : Int) ≤ (i : Int) := Int.natCast_nonneg _
    have u0 : (0 : Int) ≤ (u : Int) := Int.natCast_nonneg _
    clear hc hd
    by_cases hlt : i < s.size
    · have hlt' : (i : Int) < (s.size : Int) := by omega
      have HD := hid (byte_drop s i hlt)
      obtain ⟨d, hd⟩ : ∃ d, s[i]'hlt = d := ⟨_, rfl⟩
      rw [hd] at HD
      have d256 : d.toNat < 256 := d.toNat_lt
      by_cases hbad : d.toNat < 48 ∨ 57 < d.toNat ∨ 1152921504606846976 < u
      · have HB : Hid (numD s.data.toList = (0, false)) := by
          show numD _ = _
          rw [HE.out, HW.out.1, HD.out, numGo_bad hbad]
        have hb' : ((d.toNat : Int) < 48) ∨ (48 ≤ (d.toNat : Int) ∧ (57 : Int) < (d.toNat : Int)) ∨ (48 ≤ (d.toNat : Int) ∧ (d.toNat : Int) ≤ 57 ∧ (1152921504606846976 : Int) < (u : Int)) := by omega
        clear hbad
        rcases hb' with b1 | ⟨b1, b2⟩ | ⟨b1, b2, b3⟩
        all_goals
          go_wp2_with fail
          go_ret2
          exact ⟨by rw [HB.out]; rfl, by have kk := HW.out.2; exact Keeps.K⟩
      · have b1 : (48 : Int) ≤ (d.toNat : Int) := by omega
        have b2 : (d.toNat : Int) ≤ 57 := by omega
        have b3 : (u : Int) ≤ 1152921504606846976 := by omega
        have HN : Hid (numGo (s.data.toList.drop 1) 0 = numGo (s.data.toList.drop (i + 1)) (u * 10 + (d.toNat - 48))) := by
          show numGo _ _ = _
          rw [HW.out.1, HD.out, numGo_ok hbad]
        clear hbad
        go_wp2_with fail
        go_roundw
        case rel => exact ⟨i + 1, u * 10 + (d.toNat - 48), by omega, by omega, by go_num, by go_num, HN.out, by have kk := HW.out.2; exact Keeps.K⟩
        case measure => simp [intOf]; omega
    · have hge : (s.size : Int) ≤ (i : Int) := by omega
      have HB : Hid (numD s.data.toList = if 9223372036854775808 < u then (0, false) else (-(u : Int), true)) := by
        show numD _ = _
        rw [HE.out, HW.out.1, List.drop_of_length_le (by rw [HL.out]; omega), numGo_nil]
      by_cases hub : 9223372036854775808 < u
      · have hub' : (9223372036854775808 : Int) < (u : Int) := by omega
        have HB2 : Hid (numD s.data.toList = (0, false)) := HB.out.trans (if_pos hub)
        clear hub
        go_wp2_with fail
        go_ret2
        exact ⟨by rw [HB2.out]; rfl, by have kk := HW.out.2; exact Keeps.K⟩
      · have hub' : (u : Int) ≤ 9223372036854775808 := by omega
        have HB2 : Hid (numD s.data.toList = (-(u : Int), true)) := HB.out.trans (if_neg hub)
        have hw : wrap64 (IntKind.u64.wrap (-(u : Int))) = -(u : Int) := by rw [IntKind.wrap_u64]; unfold wrap64; omega
        have HWW := hid hw
        clear hub hw
        go_wp2_with fail
        rw [HWW.out]
        go_ret2
        exact ⟨by rw [HB2.out]; rfl, by have kk := HW.out.2; exact Keeps.K⟩

set_option maxRecDepth 100000 in
theorem r5number_any (s : ByteArray) (w : World) (hs : s.size ≤ 1000000) :
    Calls Tryd.prog 68 #[.string s] w fun e w' => e = .returned (.tuple #[.int .i64 (numD s.data.toList).1, .bool (numD s.data.toList).2]) ∧ Keeps [] w w' := by
  have hl : s.data.toList.length = s.size := Array.length_toList
  by_cases hsz : s.size = 0
  · have HE : Hid (numD s.data.toList = (0, false)) := by
      show numD _ = _
      unfold numD
      rw [if_pos (.inl (List.eq_nil_of_length_eq_zero (by omega)))]
    have hsI : (s.size : Int) = 0 := by omega
    clear hl
    go_enter Tryd.func68, Tryd.ntmps68
    go_wp2_with fail
    go_ret2
    exact ⟨by rw [HE.out]; rfl, by exact Keeps.K⟩
  have h0 : 0 < s.size := by omega
  obtain ⟨c, hc⟩ : ∃ c, s[0]'h0 = c := ⟨_, rfl⟩
  by_cases hbig : 20 < s.size
  · have HE : Hid (numD s.data.toList = (0, false)) := by
      show numD _ = _
      unfold numD
      rw [if_pos (.inr (.inr (by omega)))]
    have hsI : (20 : Int) < (s.size : Int) := by omega
    clear hl
    rcases hd : ((c.toNat : Int) == 45) with _ | _
    all_goals
      go_enter Tryd.func68, Tryd.ntmps68
      go_wp2_with fail
      go_ret2
      exact ⟨by rw [HE.out]; rfl, by exact Keeps.K⟩
  have h20 : (s.size : Int) ≤ 20 := by omega
  have hd0 := byte_drop s 0 h0
  rw [hc] at hd0
  simp only [List.drop_zero] at hd0
  rcases hd : ((c.toNat : Int) == 45) with _ | _
  · have hc45 : c ≠ 45 := by rintro rfl; revert hd; decide
    refine r5number_pos s w h0 h20 c hc hd ?_
    rw [numD, if_neg (by
        rintro (h | h | h)
        · rw [hd0] at h; cases h
        · rw [hd0] at h; injection h with h _; exact hc45 h
        · omega), if_neg (by rw [hd0]; simpa using hc45)]
    rfl
  · have hc45 : c = 45 := by
      have h := beq_iff_eq.1 hd
      exact UInt8.toNat_inj.1 (by have : (45 : UInt8).toNat = 45 := rfl; omega)
    subst hc45
    by_cases h1 : s.size = 1
    · have HE : Hid (numD s.data.toList = (0, false)) := by
        show numD _ = _
        unfold numD
        rw [if_pos (.inr (.inl (by rw [hd0, List.drop_of_length_le (by omega)])))]
      have hsI : (s.size : Int) = 1 := by omega
      clear hl hd0 h1
      go_enter Tryd.func68, Tryd.ntmps68
      go_wp2_with fail
      go_ret2
      exact ⟨by rw [HE.out]; rfl, by exact Keeps.K⟩
    · refine r5number_neg s w (by omega) h20 45 hc hd ?_
      rw [numD, if_neg (by
        rintro (h | h | h)
        · rw [hd0] at h; cases h
        · rw [h] at hl; simp at hl; omega
        · omega), if_pos (by rw [hd0]; rfl)]

end Go.Proofs.YtnekkkppjofdlaaDoor
