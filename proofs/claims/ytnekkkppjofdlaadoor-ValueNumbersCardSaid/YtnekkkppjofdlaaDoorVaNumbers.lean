/- ValueNumbers, walked. (Printed by gen_num.py.) -/
import Derived.Test.YtnekkkppjofdlaaDoorRfN
import Derived.Test.YtnekkkppjofdlaaDoorVaShows
import Derived.Test.YtnekkkppjofdlaaDoorVaL
namespace Go.Proofs.YtnekkkppjofdlaaDoor
open Go Go.RowKit

theorem dec_lead (m : Nat) : 1 ≤ m → (Lib.decDigits m).head? ≠ some 48 := by
  induction m using Nat.strongRecOn with
  | _ m ih =>
    intro hm h
    by_cases h10 : m < 10
    · rw [dec_small m h10] at h
      have h2 := Option.some.inj h
      have h3 := dig_toNat m h10
      rw [h2] at h3
      have : (48 : UInt8).toNat = 48 := rfl
      omega
    · rw [dec_step m (by omega)] at h
      refine ih (m / 10) (by omega) (by omega) ?_
      rcases e : Lib.decDigits (m / 10) with _ | ⟨b, t⟩
      · exact absurd e (decDigits_ne _)
      · rw [e] at h; exact h
theorem no_zero (n : Int) : ∀ u : ValD, checkD u = true → I64 u.n → showL u ≠ 48 :: Lib.itoa n := by
  intro u hc _ h
  rcases shows_cases hc h with A | A | A | A | A
  · cases A
  · have h2 := A.2
    unfold Lib.itoa at h2
    split at h2
    · split at h2
      · cases h2
      · rename_i hu
        by_cases h0 : u.n.toNat = 0
        · rw [h0, dec_small 0 (by decide)] at h2
          injection h2 with _ h2
          cases h2
        · exact dec_lead u.n.toNat (by omega) (by rw [← h2]; rfl)
    · split at h2
      · cases h2
      · by_cases h0 : u.n.toNat = 0
        · rw [h0, dec_small 0 (by decide)] at h2
          injection h2 with _ h2
          exact decDigits_ne _ h2
        · exact dec_lead u.n.toNat (by omega) (by rw [← h2]; rfl)
  · rcases A with A | A <;> cases A
  · have h2 := A.2.1
    unfold quoteL at h2
    cases h2
  · cases A.2
theorem itoa_min : Lib.itoa (-9223372036854775808) = [45, 57, 50, 50, 51, 51, 55, 50, 48, 51, 54, 56, 53, 52, 55, 55, 53, 56, 48, 56] := by
  show (if (-9223372036854775808 : Int) < 0 then 45 :: Lib.decDigits (-9223372036854775808 : Int).natAbs else _) = _
  rw [if_pos (by decide), show (-9223372036854775808 : Int).natAbs = 9223372036854775808 from rfl, dec_step 9223372036854775808 (by decide), show 9223372036854775808 / 10 = 922337203685477580 from rfl, dec_step 922337203685477580 (by decide), show 922337203685477580 / 10 = 92233720368547758 from rfl, dec_step 92233720368547758 (by decide), show 92233720368547758 / 10 = 9223372036854775 from rfl, dec_step 9223372036854775 (by decide), show 9223372036854775 / 10 = 922337203685477 from rfl, dec_step 922337203685477 (by decide), show 922337203685477 / 10 = 92233720368547 from rfl, dec_step 92233720368547 (by decide), show 92233720368547 / 10 = 9223372036854 from rfl, dec_step 9223372036854 (by decide), show 9223372036854 / 10 = 922337203685 from rfl, dec_step 922337203685 (by decide), show 922337203685 / 10 = 92233720368 from rfl, dec_step 92233720368 (by decide), show 92233720368 / 10 = 9223372036 from rfl, dec_step 9223372036 (by decide), show 9223372036 / 10 = 922337203 from rfl, dec_step 922337203 (by decide), show 922337203 / 10 = 92233720 from rfl, dec_step 92233720 (by decide), show 92233720 / 10 = 9223372 from rfl, dec_step 9223372 (by decide), show 9223372 / 10 = 922337 from rfl, dec_step 922337 (by decide), show 922337 / 10 = 92233 from rfl, dec_step 92233 (by decide), show 92233 / 10 = 9223 from rfl, dec_step 9223 (by decide), show 9223 / 10 = 922 from rfl, dec_step 922 (by decide), show 922 / 10 = 92 from rfl, dec_step 92 (by decide), show 92 / 10 = 9 from rfl, dec_small 9 (by decide)]
  rfl
/-- What is still to be looked at, from the last digit on. -/
def NumAt (D : List UInt8) (o : Nat) (i : Int) (M : Nat) : Prop := (∃ r, D = Lib.decDigits M ++ r ∧ i = (o : Int) + ((Lib.decDigits M).length : Int) - 1) ∨ (M = 0 ∧ i = (o : Int) - 1)
theorem NumAt.next {D : List UInt8} {o : Nat} {i : Int} {M : Nat} {r : List UInt8} (h : D = Lib.decDigits M ++ r) (hi : i = (o : Int) + ((Lib.decDigits M).length : Int) - 1) : NumAt D o (i - 1) (M / 10) := by
  by_cases h10 : M < 10
  · refine .inr ⟨by omega, ?_⟩
    rw [dec_small M h10] at hi
    simp at hi
    omega
  · rw [dec_step M (by omega)] at h hi
    refine .inl ⟨[UInt8.ofNat (48 + M % 10)] ++ r, by rw [h, List.append_assoc], ?_⟩
    rw [List.length_append, List.length_singleton] at hi
    push_cast at hi ⊢
    omega
theorem NumAt.digit {D : List UInt8} {M : Nat} {r : List UInt8} (h : D = Lib.decDigits M ++ r) : 1 ≤ (Lib.decDigits M).length ∧ D[(Lib.decDigits M).length - 1]? = some (UInt8.ofNat (48 + M % 10)) := by
  have hne := decDigits_ne M
  have hl : 0 < (Lib.decDigits M).length := List.length_pos_iff.2 hne
  refine ⟨hl, ?_⟩
  rw [h, List.getElem?_append_left (by omega)]
  by_cases h10 : M < 10
  · rw [dec_small M h10, Nat.mod_eq_of_lt h10]; rfl
  · rw [dec_step M (by omega), List.length_append, List.length_singleton, List.getElem?_append_right (by omega)]
    simp

set_option maxRecDepth 100000 in
set_option maxHeartbeats 3200000 in
theorem numbers_pos (N : Nat) (hN : N ≤ 9223372036854775807) (w : World) (hT : Tabs w) (hE : Errs w) : Calls Tryd.prog 11 #[.int .i64 ((N : Int))] w fun e w' => e = .returned (.bool true) ∧ Keeps [] w w' := by
  have HT := hid hT
  have HE := hid hE
  have hI : I64 ((N : Int)) := ⟨by omega, by omega⟩
  obtain ⟨D, hD⟩ : ∃ D, Lib.decDigits N = D := ⟨_, rfl⟩
  have hit : Lib.itoa ((N : Int)) = D := by
    unfold Lib.itoa
    rw [if_neg (by omega), Int.toNat_natCast]
    rw [hD]
  have HSH := hid (fun w1 hT1 => vshow_any ⟨1, (N : Int), ⟨#[]⟩⟩ w1 hT1 (by show (0 : Nat) ≤ _; omega) hI)
  have HMIN := hid (fun w1 hT1 => vshow_any ⟨1, -9223372036854775808, ⟨#[]⟩⟩ w1 hT1 (by show (0 : Nat) ≤ _; omega) ⟨by show (-9223372036854775808 : Int) ≤ -9223372036854775808; omega, by show (-9223372036854775808 : Int) ≤ 9223372036854775807; omega⟩)
  have hmn : bytes (showL ⟨1, -9223372036854775808, ⟨#[]⟩⟩) = ⟨#[45, 57, 50, 50, 51, 51, 55, 50, 48, 51, 54, 56, 53, 52, 55, 55, 53, 56, 48, 56]⟩ := by rw [showL_int, itoa_min]; rfl
  rw [hmn] at HMIN
  clear hmn
  have hzz : bytes (showL ⟨1, (N : Int), ⟨#[]⟩⟩) = str (D) := by rw [showL_int, hit]; rfl
  rw [hzz] at HSH
  obtain ⟨z, hz⟩ : ∃ z, str (D) = z := ⟨_, rfl⟩
  have HZ : Hid (z.data.toList = D) := by
    show _ = _
    rw [← hz]; rfl
  have hDl : D.length ≤ 20 := by rw [← hD, Lib.decDigits_length]; exact Lib.nDigits_le20 N (by omega)
  have hDp : 0 < D.length := by rw [← hD]; exact List.length_pos_iff.2 (decDigits_ne N)
  have hzl : z.size = 0 + D.length := by rw [← hz]; show (D).length = _; simp; try omega
  rw [hz] at HSH
  have HCK : Hid (checkD ⟨1, (N : Int), ⟨#[]⟩⟩ = true) := by show checkD _ = true; simp [checkD, emptyB_nil]
  have HRD : Hid (∀ u ok, ReadsAs z.data.toList u ok → u = ⟨1, (N : Int), ⟨#[]⟩⟩ ∧ ok = true) := fun u ok h => by
    rw [HZ.out, ← hit, ← showL_int ((N : Int)) ⟨#[]⟩] at h
    exact h.shown HCK.out hI
  have HRZ : Hid (∀ u ok, ReadsAs (str [48] ++ z).data.toList u ok → u = ⟨0, 0, ⟨#[]⟩⟩ ∧ ok = false) := fun u ok h => by
    have e : (str [48] ++ z).data.toList = 48 :: Lib.itoa ((N : Int)) := by
      rw [← hz, str_cat, hit]; rfl
    rw [e] at h
    rcases ok with _ | _
    · exact ⟨(h.2 rfl).1, rfl⟩
    · obtain ⟨h1, h2, h3⟩ := h.1 rfl
      exact absurd h2 (no_zero _ u h1 h3)
  have HDG : Hid (∀ j c, D[j]? = some c → ∃ h : 0 + j < z.size, z[0 + j]'h = c) := fun j c h => by
    have hj : j < D.length := (List.getElem?_eq_some_iff.1 h).1
    refine ⟨by omega, ?_⟩
    have e : z.data.toList[0 + j]? = some c := by rw [HZ.out]; rw [Nat.zero_add]; exact h
    have hlt : 0 + j < z.data.toList.length := (List.getElem?_eq_some_iff.1 e).1
    rw [List.getElem?_eq_getElem hlt] at e
    exact Option.some.inj e
  have HD0 : Hid (∃ h : 0 < z.size, (((z[0]'h).toNat : Int) == 45) = false) := by
    refine ⟨by omega, ?_⟩
    have e : z.data.toList.head? = some (z[0]'(by omega)) := head_get (by omega)
    generalize z[0]'(by omega) = c at e ⊢
    have := decDigits_head N c (by rw [hD, ← HZ.out]; exact e)
    rw [beq_eq_false_iff_ne]; omega
  have hDI : (D.length : Int) ≤ 20 := by omega
  have hDI0 : (1 : Int) ≤ (D.length : Int) := by omega
  obtain ⟨hz0, hfirst⟩ := HD0.out
  have hsg : ((N : Int) < 0) = False := by simp
  have hzs : ((z.size : Int) == 0) = false := by rw [beq_eq_false_iff_ne]; omega
  have hzs2 : (z.size : Int) ≠ 0 := by omega
  have hz21 : (z.size : Int) ≤ 21 := by omega
  have hz1 : (1 : Int) ≤ (z.size : Int) := by omega
  have HZL := hid hzl
  unfold valV at HSH HMIN
  clear hT hE hzz hz hit hzl
  have HDN := hid hD
  clear hD
  go_enter Tryd.func11, Tryd.ntmps11
  go_wp2_with fail
  refine (HSH.out _ (HT.out.k (by exact Keeps.K))).mono ?_
  rintro e w1 ⟨rfl, hk⟩
  have c0 : w1.cell? ⟨w.heap.size, 0, none⟩ = some (.int .i64 1) := hk.cellSome (by go_simp) (by simp)
  have c1 : w1.cell? ⟨w.heap.size, 1, none⟩ = some (.int .i64 ((N : Int))) := hk.cellSome (by go_simp) (by simp)
  have c2 : w1.cell? ⟨w.heap.size, 2, none⟩ = some (.string ⟨#[]⟩) := hk.cellSome (by go_simp) (by simp)
  have HK1 : Hid (Keeps [] w w1) := Keeps.trans (by exact Keeps.K) hk (fun _ _ h => h)
  clear hk
  go_wp2_with fail
  refine (vRead_any z _ (HT.out.k HK1.out) (HE.out.k HK1.out) (by omega)).mono ?_
  rintro e w2 ⟨u, ok, rfl, hr, hk⟩
  obtain ⟨rfl, rfl⟩ := HRD.out u ok hr
  have d0 : w2.cell? ⟨w.heap.size, 0, none⟩ = some (.int .i64 1) := hk.cellSome c0 (by simp)
  have d1 : w2.cell? ⟨w.heap.size, 1, none⟩ = some (.int .i64 ((N : Int))) := hk.cellSome c1 (by simp)
  have d2 : w2.cell? ⟨w.heap.size, 2, none⟩ = some (.string ⟨#[]⟩) := hk.cellSome c2 (by simp)
  have S2 : w.heap.size < w2.heap.size := World.block_lt_of_cell? _ _ d0
  have HK2 : Hid (Keeps [] w w2) := HK1.out.trans hk (fun _ _ h => h)
  unfold valV
  dsimp only
  clear hk hr c0 c1 c2
  go_wp2_with fail
  clear hfirst
  obtain ⟨wA, hwA⟩ : ∃ wA, w2.alloc (.cells #[.int .i64 1, .int .i64 ((N : Int)), .string ⟨#[]⟩] 23) = wA := ⟨_, rfl⟩
  have HKA : Hid (Keeps [] w wA) := by rw [← hwA]; exact HK2.out.trans (G := []) (by exact Keeps.K) (fun _ _ h => by cases h)
  rw [hwA]
  clear hwA d0 d1 d2 S2
  clear hsg hzs hzs2
  go_loopw [7, 8] (fun mv iv wr => ∃ (M : Nat) (i : Int), -1 ≤ i ∧ M ≤ N ∧ mv = .int .i64 ((M : Int)) ∧ iv = .int .i64 i ∧ Hid (NumAt D 0 i M ∧ wr = wA)) (fun _ iv _ => (intOf iv + 1).toNat)
  case atStart => exact ⟨N, (z.size : Int) - 1, by omega, Nat.le_refl _, rfl, rfl, .inl ⟨[], by rw [HDN.out, List.append_nil], by rw [HDN.out, HZL.out]; push_cast; omega⟩, rfl⟩
  case round =>
    obtain ⟨M, i, hi, hM, rfl, rfl, HW⟩ := hrel
    obtain rfl := HW.out.2
    rcases HW.out.1 with ⟨r, hDr, hir⟩ | ⟨hM0, hir⟩
    · obtain ⟨hl1, hdg⟩ := NumAt.digit hDr
      have hnx := NumAt.next hDr hir
      obtain ⟨hlt, hcz⟩ := HDG.out _ _ hdg
      obtain ⟨q, hq⟩ : ∃ q, 0 + ((Lib.decDigits M).length - 1) = q := ⟨_, rfl⟩
      have hiq : i = (q : Int) := by omega
      subst hiq
      have hcq : ∃ h : q < z.size, z[q]'h = UInt8.ofNat (48 + M % 10) := by subst hq; exact ⟨hlt, hcz⟩
      obtain ⟨hqz, hcq⟩ := hcq
      obtain ⟨c, hc⟩ : ∃ c, z[q]'hqz = c := ⟨_, rfl⟩
      have hcn : c.toNat = 48 + M % 10 := by rw [← hc, hcq]; exact dig_toNat _ (by omega)
      have hcI : (c.toNat : Int) = 48 + (M : Int) % 10 := by omega
      have hq0 : (0 : Int) ≤ (q : Int) := by omega
      have hqI : (q : Int) < (z.size : Int) := by omega
      have HNX := hid hnx
      have HM := hid hM
      have hM63 : (M : Int) ≤ 9223372036854775807 := by omega
      have hM0 : (0 : Int) ≤ (M : Int) := by omega
      have hr0 : (0 : Int) ≤ (M : Int) % 10 := by omega
      have hr10 : (M : Int) % 10 < 10 := by omega
      have hne : ((48 + (M : Int) % 10) != 45) = true := by simp; omega
      have hne2 : (48 + (M : Int) % 10) ≠ 45 := by omega
      clear hcn hcq hcz hlt hnx hDr hir hdg hl1 hq
      go_wp2_with fail
      exact ⟨⟨M / 10, (q : Int) - 1, by omega, by have := HM.out; omega, congrArg (Value.int .i64) (by omega), rfl, HNX.out, trivial⟩, by first | (simp [intOf]; done) | (simp [intOf]; omega)⟩
    · have hMz : ((M : Int)) = 0 := by omega
      have HMz := hid hMz
      clear HW
      have hin : i < 0 := by omega
      clear hi hir hMz hM0 hM
      go_wp2_with fail
      have hsz : (str [48] ++ z).size ≤ 100000 := by
        have : (str [48] ++ z).size = (str [48]).size + z.size := ByteArray.size_append
        have h1 : (str [48]).size = 1 := rfl
        omega
      refine (vRead_any (str [48] ++ z) _ (HT.out.k HKA.out) (HE.out.k HKA.out) hsz).mono ?_
      rintro e w4 ⟨u, ok, rfl, hr, hk⟩
      obtain ⟨rfl, rfl⟩ := HRZ.out u ok hr
      have HK4 : Hid (Keeps [] w w4) := HKA.out.trans hk (fun _ _ h => h)
      unfold valV
      dsimp only
      clear hk hr
      have hme : (((M : Int)) == 0) = true := by rw [HMz.out]; rfl
      go_wp2_with fail
      refine (HMIN.out _ (HT.out.k (by have kk := HK4.out; exact Keeps.K))).mono ?_
      rintro e w5 ⟨rfl, hk⟩
      have HK5 : Hid (Keeps [] w w5) := Keeps.trans (by have kk := HK4.out; exact Keeps.K) hk (fun _ _ h => h)
      clear hk
      go_wp2_with fail
      refine (awake5_any _ (HT.out.k HK5.out)).mono ?_
      rintro e w6 ⟨rfl, hk⟩
      have HK6 : Hid (Keeps [] w w6) := HK5.out.trans hk (fun _ _ h => h)
      clear hk
      go_wp2_with fail
      go_ret
      exact ⟨rfl, HK6.out⟩

set_option maxRecDepth 100000 in
set_option maxHeartbeats 3200000 in
theorem numbers_neg (N : Nat) (h0 : 1 ≤ N) (hN : N ≤ 9223372036854775808) (w : World) (hT : Tabs w) (hE : Errs w) : Calls Tryd.prog 11 #[.int .i64 (-(N : Int))] w fun e w' => e = .returned (.bool true) ∧ Keeps [] w w' := by
  have HT := hid hT
  have HE := hid hE
  have hI : I64 (-(N : Int)) := ⟨by omega, by omega⟩
  obtain ⟨D, hD⟩ : ∃ D, Lib.decDigits N = D := ⟨_, rfl⟩
  have hit : Lib.itoa (-(N : Int)) = 45 :: D := by
    unfold Lib.itoa
    rw [if_pos (by omega), Int.natAbs_neg, Int.natAbs_natCast]
    rw [hD]
  have HSH := hid (fun w1 hT1 => vshow_any ⟨1, -(N : Int), ⟨#[]⟩⟩ w1 hT1 (by show (0 : Nat) ≤ _; omega) hI)
  have HMIN := hid (fun w1 hT1 => vshow_any ⟨1, -9223372036854775808, ⟨#[]⟩⟩ w1 hT1 (by show (0 : Nat) ≤ _; omega) ⟨by show (-9223372036854775808 : Int) ≤ -9223372036854775808; omega, by show (-9223372036854775808 : Int) ≤ 9223372036854775807; omega⟩)
  have hmn : bytes (showL ⟨1, -9223372036854775808, ⟨#[]⟩⟩) = ⟨#[45, 57, 50, 50, 51, 51, 55, 50, 48, 51, 54, 56, 53, 52, 55, 55, 53, 56, 48, 56]⟩ := by rw [showL_int, itoa_min]; rfl
  rw [hmn] at HMIN
  clear hmn
  have hzz : bytes (showL ⟨1, -(N : Int), ⟨#[]⟩⟩) = str (45 :: D) := by rw [showL_int, hit]; rfl
  rw [hzz] at HSH
  obtain ⟨z, hz⟩ : ∃ z, str (45 :: D) = z := ⟨_, rfl⟩
  have HZ : Hid (z.data.toList = 45 :: D) := by
    show _ = _
    rw [← hz]; rfl
  have hDl : D.length ≤ 20 := by rw [← hD, Lib.decDigits_length]; exact Lib.nDigits_le20 N (by omega)
  have hDp : 0 < D.length := by rw [← hD]; exact List.length_pos_iff.2 (decDigits_ne N)
  have hzl : z.size = 1 + D.length := by rw [← hz]; show (45 :: D).length = _; simp; try omega
  rw [hz] at HSH
  have HCK : Hid (checkD ⟨1, -(N : Int), ⟨#[]⟩⟩ = true) := by show checkD _ = true; simp [checkD, emptyB_nil]
  have HRD : Hid (∀ u ok, ReadsAs z.data.toList u ok → u = ⟨1, -(N : Int), ⟨#[]⟩⟩ ∧ ok = true) := fun u ok h => by
    rw [HZ.out, ← hit, ← showL_int (-(N : Int)) ⟨#[]⟩] at h
    exact h.shown HCK.out hI
  have HRZ : Hid (∀ u ok, ReadsAs (str [48] ++ z).data.toList u ok → u = ⟨0, 0, ⟨#[]⟩⟩ ∧ ok = false) := fun u ok h => by
    have e : (str [48] ++ z).data.toList = 48 :: Lib.itoa (-(N : Int)) := by
      rw [← hz, str_cat, hit]; rfl
    rw [e] at h
    rcases ok with _ | _
    · exact ⟨(h.2 rfl).1, rfl⟩
    · obtain ⟨h1, h2, h3⟩ := h.1 rfl
      exact absurd h2 (no_zero _ u h1 h3)
  have HDG : Hid (∀ j c, D[j]? = some c → ∃ h : 1 + j < z.size, z[1 + j]'h = c) := fun j c h => by
    have hj : j < D.length := (List.getElem?_eq_some_iff.1 h).1
    refine ⟨by omega, ?_⟩
    have e : z.data.toList[1 + j]? = some c := by rw [HZ.out]; rw [Nat.add_comm]; exact h
    have hlt : 1 + j < z.data.toList.length := (List.getElem?_eq_some_iff.1 e).1
    rw [List.getElem?_eq_getElem hlt] at e
    exact Option.some.inj e
  have HD0 : Hid (∃ h : 0 < z.size, (((z[0]'h).toNat : Int) == 45) = true) := by
    refine ⟨by omega, ?_⟩
    have e : z.data.toList[0]? = some 45 := by rw [HZ.out]; rfl
    have hlt : 0 < z.data.toList.length := (List.getElem?_eq_some_iff.1 e).1
    rw [List.getElem?_eq_getElem hlt] at e
    have e2 : z[0]'(by omega) = 45 := Option.some.inj e
    rw [e2]; decide
  have hDI : (D.length : Int) ≤ 20 := by omega
  have hDI0 : (1 : Int) ≤ (D.length : Int) := by omega
  obtain ⟨hz0, hfirst⟩ := HD0.out
  have hsg : (-(N : Int)) < 0 := by omega
  have hzs : ((z.size : Int) == 0) = false := by rw [beq_eq_false_iff_ne]; omega
  have hzs2 : (z.size : Int) ≠ 0 := by omega
  have hz21 : (z.size : Int) ≤ 21 := by omega
  have hz1 : (1 : Int) ≤ (z.size : Int) := by omega
  have hN0 : 0 < N := by omega
  have HZL := hid hzl
  unfold valV at HSH HMIN
  clear hT hE hzz hz hit hzl
  have HDN := hid hD
  clear hD
  go_enter Tryd.func11, Tryd.ntmps11
  go_wp2_with fail
  refine (HSH.out _ (HT.out.k (by exact Keeps.K))).mono ?_
  rintro e w1 ⟨rfl, hk⟩
  have c0 : w1.cell? ⟨w.heap.size, 0, none⟩ = some (.int .i64 1) := hk.cellSome (by go_simp) (by simp)
  have c1 : w1.cell? ⟨w.heap.size, 1, none⟩ = some (.int .i64 (-(N : Int))) := hk.cellSome (by go_simp) (by simp)
  have c2 : w1.cell? ⟨w.heap.size, 2, none⟩ = some (.string ⟨#[]⟩) := hk.cellSome (by go_simp) (by simp)
  have HK1 : Hid (Keeps [] w w1) := Keeps.trans (by exact Keeps.K) hk (fun _ _ h => h)
  clear hk
  go_wp2_with fail
  refine (vRead_any z _ (HT.out.k HK1.out) (HE.out.k HK1.out) (by omega)).mono ?_
  rintro e w2 ⟨u, ok, rfl, hr, hk⟩
  obtain ⟨rfl, rfl⟩ := HRD.out u ok hr
  have d0 : w2.cell? ⟨w.heap.size, 0, none⟩ = some (.int .i64 1) := hk.cellSome c0 (by simp)
  have d1 : w2.cell? ⟨w.heap.size, 1, none⟩ = some (.int .i64 (-(N : Int))) := hk.cellSome c1 (by simp)
  have d2 : w2.cell? ⟨w.heap.size, 2, none⟩ = some (.string ⟨#[]⟩) := hk.cellSome c2 (by simp)
  have S2 : w.heap.size < w2.heap.size := World.block_lt_of_cell? _ _ d0
  have HK2 : Hid (Keeps [] w w2) := HK1.out.trans hk (fun _ _ h => h)
  unfold valV
  dsimp only
  clear hk hr c0 c1 c2
  go_wp2_with fail
  clear hfirst
  obtain ⟨wA, hwA⟩ : ∃ wA, w2.alloc (.cells #[.int .i64 1, .int .i64 (-(N : Int)), .string ⟨#[]⟩] 23) = wA := ⟨_, rfl⟩
  have HKA : Hid (Keeps [] w wA) := by rw [← hwA]; exact HK2.out.trans (G := []) (by exact Keeps.K) (fun _ _ h => by cases h)
  rw [hwA]
  clear hwA d0 d1 d2 S2
  clear hsg hzs hzs2
  go_loopw [7, 8] (fun mv iv wr => ∃ (M : Nat) (i : Int), -1 ≤ i ∧ M ≤ N ∧ mv = .int .i64 (-(M : Int)) ∧ iv = .int .i64 i ∧ Hid (NumAt D 1 i M ∧ wr = wA)) (fun _ iv _ => (intOf iv + 1).toNat)
  case atStart => exact ⟨N, (z.size : Int) - 1, by omega, Nat.le_refl _, rfl, rfl, .inl ⟨[], by rw [HDN.out, List.append_nil], by rw [HDN.out, HZL.out]; push_cast; omega⟩, rfl⟩
  case round =>
    obtain ⟨M, i, hi, hM, rfl, rfl, HW⟩ := hrel
    obtain rfl := HW.out.2
    rcases HW.out.1 with ⟨r, hDr, hir⟩ | ⟨hM0, hir⟩
    · obtain ⟨hl1, hdg⟩ := NumAt.digit hDr
      have hnx := NumAt.next hDr hir
      obtain ⟨hlt, hcz⟩ := HDG.out _ _ hdg
      obtain ⟨q, hq⟩ : ∃ q, 1 + ((Lib.decDigits M).length - 1) = q := ⟨_, rfl⟩
      have hiq : i = (q : Int) := by omega
      subst hiq
      have hcq : ∃ h : q < z.size, z[q]'h = UInt8.ofNat (48 + M % 10) := by subst hq; exact ⟨hlt, hcz⟩
      obtain ⟨hqz, hcq⟩ := hcq
      obtain ⟨c, hc⟩ : ∃ c, z[q]'hqz = c := ⟨_, rfl⟩
      have hcn : c.toNat = 48 + M % 10 := by rw [← hc, hcq]; exact dig_toNat _ (by omega)
      have hcI : (c.toNat : Int) = 48 + (M : Int) % 10 := by omega
      have hq0 : (0 : Int) ≤ (q : Int) := by omega
      have hqI : (q : Int) < (z.size : Int) := by omega
      have HNX := hid hnx
      have HM := hid hM
      have hM63 : (M : Int) ≤ 9223372036854775808 := by omega
      have hM0 : (0 : Int) ≤ (M : Int) := by omega
      have hr0 : (0 : Int) ≤ (M : Int) % 10 := by omega
      have hr10 : (M : Int) % 10 < 10 := by omega
      have hne : ((48 + (M : Int) % 10) != 45) = true := by simp; omega
      have hne2 : (48 + (M : Int) % 10) ≠ 45 := by omega
      have hrem : (-(M : Int)).tmod 10 = -((M : Int) % 10) := by
        rw [Int.neg_tmod, Int.tmod_eq_emod_of_nonneg hM0]
      have hquo : (-(M : Int)).tdiv 10 = -((M : Int) / 10) := by
        rw [Int.neg_tdiv, Int.tdiv_eq_ediv_of_nonneg hM0]
      clear hcn hcq hcz hlt hnx hDr hir hdg hl1 hq
      by_cases hz0 : (M : Int) % 10 = 0
      · go_wp2_with fail
        exact ⟨⟨M / 10, (q : Int) - 1, by omega, by have := HM.out; omega, congrArg (Value.int .i64) (by omega), rfl, HNX.out, trivial⟩, by first | (simp [intOf]; done) | (simp [intOf]; omega)⟩
      · have hdn : -((M : Int) % 10) < 0 := by omega
        go_wp2_with fail
        exact ⟨⟨M / 10, (q : Int) - 1, by omega, by have := HM.out; omega, congrArg (Value.int .i64) (by omega), rfl, HNX.out, trivial⟩, by first | (simp [intOf]; done) | (simp [intOf]; omega)⟩
    · have hMz : (-(M : Int)) = 0 := by omega
      have HMz := hid hMz
      clear HW
      have hi1 : i = 0 := by omega
      subst hi1
      clear hi hir hMz hM0 hM
      obtain ⟨hz0, hf0⟩ := HD0.out
      have hf1 : ((z[0]'hz0).toNat : Int) = 45 := beq_iff_eq.1 hf0
      have hf2 : (((z[0]'hz0).toNat : Int) != 45) = false := by rw [bne, hf0]; rfl
      have hz0I : (0 : Int) < (z.size : Int) := by omega
      go_wp2_with fail
      have hsz : (str [48] ++ z).size ≤ 100000 := by
        have : (str [48] ++ z).size = (str [48]).size + z.size := ByteArray.size_append
        have h1 : (str [48]).size = 1 := rfl
        omega
      refine (vRead_any (str [48] ++ z) _ (HT.out.k HKA.out) (HE.out.k HKA.out) hsz).mono ?_
      rintro e w4 ⟨u, ok, rfl, hr, hk⟩
      obtain ⟨rfl, rfl⟩ := HRZ.out u ok hr
      have HK4 : Hid (Keeps [] w w4) := HKA.out.trans hk (fun _ _ h => h)
      unfold valV
      dsimp only
      clear hk hr
      have hme : ((-(M : Int)) == 0) = true := by rw [HMz.out]; rfl
      go_wp2_with fail
      refine (HMIN.out _ (HT.out.k (by have kk := HK4.out; exact Keeps.K))).mono ?_
      rintro e w5 ⟨rfl, hk⟩
      have HK5 : Hid (Keeps [] w w5) := Keeps.trans (by have kk := HK4.out; exact Keeps.K) hk (fun _ _ h => h)
      clear hk
      go_wp2_with fail
      refine (awake5_any _ (HT.out.k HK5.out)).mono ?_
      rintro e w6 ⟨rfl, hk⟩
      have HK6 : Hid (Keeps [] w w6) := HK5.out.trans hk (fun _ _ h => h)
      clear hk
      go_wp2_with fail
      go_ret
      exact ⟨rfl, HK6.out⟩

theorem numbers_any (n : Int) (w : World) (hT : Tabs w) (hE : Errs w) (hn : I64 n) : Calls Tryd.prog 11 #[.int .i64 n] w fun e w' => e = .returned (.bool true) ∧ Keeps [] w w' := by
  obtain ⟨h0, h1⟩ := hn
  by_cases h : n < 0
  · obtain ⟨N, rfl⟩ : ∃ N : Nat, n = -(N : Int) := ⟨n.natAbs, by omega⟩
    exact numbers_neg N (by omega) (by omega) w hT hE
  · obtain ⟨N, rfl⟩ : ∃ N : Nat, n = (N : Int) := ⟨n.toNat, by omega⟩
    exact numbers_pos N (by omega) w hT hE

end Go.Proofs.YtnekkkppjofdlaaDoor
