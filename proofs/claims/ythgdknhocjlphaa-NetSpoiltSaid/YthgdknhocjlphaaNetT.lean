/- NetSpoilt, walked. -/
import Derived.Test.YthgdknhocjlphaaNetR
namespace Go.Proofs.Ythgdknhocjlphaa
open Go Go.RowKit

set_option maxRecDepth 100000 in
set_option maxHeartbeats 1600000 in
theorem spoilt_walk (s : Bool) (x p : Int) (m : List UInt8 × Bool) (bs : List UInt8) (at_ by_ again : Int) (a : Option Addr) (c : Nat) (w : World) (hr : Reads w 1 (.slice a bs.length c) bs.length (u8s bs)) (hb : ∀ k ∈ ownB (.slice a bs.length c), bs.length ≠ 0 → k < w.heap.size)
    (wa : (Lit.int .i64 at_).wf = true) (wb : (Lit.int .i64 by_).wf = true) (h1 : 1 ≤ bs.length) (h500 : bs.length ≤ 500) (hx : placeOf by_ 256 = x) (hwx : IntKind.u8.wrap x = x) (hp : placeOf at_ bs.length = p) (hxs : if s = true then x ≠ 0 else x = 0)
    (hsp : SpoilS [(bs, false)] 0 at_ by_ = (s, [m])) (hag : (SpoilS [m] 0 again 7).1 = !s) (hml : m.1.length = bs.length) (hne : ∀ (i : Nat) (u : UInt8), (i : Int) ≠ p → bs[i]? = some u → m.1[i]? = some u)
    (hat : ∀ (i : Nat) (u : UInt8), (i : Int) = p → bs[i]? = some u → ∃ u', m.1[i]? = some u' ∧ bits .xor .u8 (u.toNat : Int) x = u'.toNat) :
    Calls Try.prog 4 #[.slice a bs.length c, .int .i64 at_, .int .i64 by_, .int .i64 again] w fun e w' => e = .returned (.bool true) ∧ Below w.heap.size w w' := by
  obtain ⟨ab, off, rfl⟩ : ∃ b off, a = some ⟨b, off, none⟩ := by
    rcases hr.2 with ⟨h0, _⟩ | ⟨_, b, off, c', e, _⟩
    · omega
    · exact ⟨b, off, by simp at e; exact e.1⟩
  have hab : ab < w.heap.size := hb ab (by simp [mem_ownB, Value.ownBlock]) (by omega)
  have HR := hid hr
  have HX := hid hx
  have HP := hid hp
  have HSP := hid hsp
  have HAG := hid hag
  have HNE := hid hne
  have HAT := hid hat
  have HS := hid hxs
  have r4 : Hid (roomOf 4 = 4) := by show _ = _; decide
  have s1 : Hid (SendS 4 [] bs = (0, [(bs, false)])) := by show _ = _; unfold SendS; rw [if_neg (by omega), sendS_room _ _ _ (by simp)]; rfl
  have s2 : Hid (SpoilS [(bs, false)] 1 at_ by_ = (false, [(bs, false)])) := by show _ = _; simp [SpoilS]
  have s3 : Hid (SpoilS [(bs, false)] (-1) at_ by_ = (false, [(bs, false)])) := by show _ = _; simp [SpoilS]
  have sm : Hid (Small [(bs, false)]) := ⟨by simp, fun m hm => by simp at hm; subst hm; show bs.length ≤ _; omega⟩
  have sn : Hid (∀ m ∈ [(bs, false)], m.1 ≠ []) := fun m hm h => by simp at hm; subst hm; simp at h; subst h; simp at h1
  have sm' : Hid (Small [m]) := ⟨by simp, fun m' hm => by simp at hm; subst hm; omega⟩
  have sn' : Hid (∀ m' ∈ [m], m'.1 ≠ []) := fun m' hm h => by simp at hm; subst hm; rw [h] at hml; simp at hml; omega
  clear hb hr hx hp hsp hag hne hat hxs
  go_enter Try.func4, Try.ntmps4
  go_wp2_with fail
  refine (netNew_any 4 _).mono ?_
  rintro e w1 ⟨rfl, n1, k1⟩
  rw [r4.out] at n1
  have N1 := hid n1
  have K1 := hid k1
  clear n1 k1
  go_wp2_with fail
  refine (lawBytes_any (.slice (some ⟨ab, off, none⟩) bs.length c) bs _ (HR.out.keeps K1.out (fun _ _ h => by cases h)) (by omega)).mono ?_
  rintro e w2 ⟨a2, c2, rfl, o2, g2⟩
  have O2 := hid o2
  have K2 : Hid (Keeps [] w1 w2) := Keeps.ofGrown g2 (fun _ h => by cases h)
  clear o2 g2
  go_wp2_with fail
  refine (Send_any w.heap.size 4 [] [w.heap.size] (.slice a2 bs.length c2) bs _ (N1.out.k K2.out) (Reads.ofOwn O2.out) (by omega) (fun b hb => (ownB_ge O2.out b hb).2) (by simp)).mono ?_
  rintro e w3 ⟨rfl, F, n3, t3⟩
  rw [s1.out] at n3 ⊢
  have N3 := hid n3
  have K3 : Hid (Keeps [] w w3 ∧ ∀ b ∈ F, w.heap.size ≤ b) := by
    have hk := K1.out.nil_trans K2.out (fun _ h => by cases h)
    refine ⟨hk.nil_trans t3.1 (by simp), fun b hb => ?_⟩
    rcases t3.2 b hb with h | h
    · simp at h; omega
    · exact Nat.le_trans hk.size h
  clear n3 t3
  go_wp2_with fail
  refine (Spoil_any w.heap.size 4 [(bs, false)] F 1 at_ by_ _ N3.out sm.out sn.out).mono ?_
  rintro e w4 ⟨rfl, n4, k4⟩
  rw [s2.out] at n4 ⊢
  have N4 := hid n4
  have K4 : Hid (Keeps [] w w4) := K3.out.1.nil_trans k4 K3.out.2
  clear n4 k4
  go_wp2_with fail
  refine (Spoil_any w.heap.size 4 [(bs, false)] F (-1) at_ by_ _ N4.out sm.out sn.out).mono ?_
  rintro e w5 ⟨rfl, n5, k5⟩
  rw [s3.out] at n5 ⊢
  have N5 := hid n5
  have K5 : Hid (Keeps [] w w5) := K4.out.nil_trans k5 K3.out.2
  clear n5 k5
  go_wp2_with fail
  refine (place_is p at_ bs.length _ (by omega) (by omega) wa HP.out).mono ?_
  rintro e w' ⟨rfl, hw'⟩
  subst hw'
  go_wp2_with fail
  refine (place_is x by_ 256 _ (by omega) (by omega) wb HX.out).mono ?_
  rintro e w' ⟨rfl, hw'⟩
  subst hw'
  go_wp2_with fail
  refine (Spoil_any w.heap.size 4 [(bs, false)] F 0 at_ by_ _ N5.out sm.out sn.out).mono ?_
  rintro e w6 ⟨rfl, n6, k6⟩
  rw [HSP.out] at n6 ⊢
  have N6 := hid n6
  have K6 : Hid (Keeps [] w w6) := K5.out.nil_trans k6 K3.out.2
  clear n6 k6
  go_wp2_with fail
  refine (look_at w.heap.size 4 [m] F 0 m _ N6.out sm'.out rfl).mono ?_
  rintro e w7 ⟨a7, c7, rfl, o7, k7⟩
  have O7 := hid o7
  have N7 := hid (N6.out.k k7)
  have K7 : Hid (Keeps [] w w7) := K6.out.nil_trans k7 (fun _ h => by cases h)
  clear o7 k7
  obtain ⟨vb, ha⟩ := own_addr O7.out (by omega)
  subst ha
  cases s
  all_goals
    have hx0 := HS.out
    simp at hx0
    try subst hx0
    try (have hx1 : (x != 0) = true := by simpa using hx0)
    try (have hx2 : (x == 0) = false := by simpa using hx0)
    go_wp2_with fail
    go_loopw [15] (fun i wr => ∃ k : Nat, k ≤ bs.length ∧ i = .int .i64 k ∧ Hid (Keeps [] w7 wr)) (fun i _ => bs.length - (intOf i).toNat)
    case atStart => exact ⟨0, Nat.zero_le _, rfl, Keeps.refl _ _⟩
    case round =>
      obtain ⟨k, hk, rfl, HW⟩ := hrel
      have i0 : (0 : Int) ≤ (k : Int) := Int.natCast_nonneg _
      by_cases hlt : k < bs.length
      · have i1 : (k : Int) < (bs.length : Int) := by omega
        have i2 : (k : Int) < (m.1.length : Int) := by omega
        obtain ⟨u, hu⟩ : ∃ u, bs[k]? = some u := ⟨bs[k], List.getElem?_eq_getElem hlt⟩
        have HU := hid hu
        clear hu
        have cb : wr.cell? ⟨ab, off + k, none⟩ = some (.int .u8 u.toNat) := (K7.out.nil_trans HW.out (fun _ h => by cases h)).cellSome (by
          rcases HR.out.2 with ⟨h0, _⟩ | ⟨_, b', off', c', e, _, _, _, hh⟩
          · omega
          · simp at e
            obtain ⟨⟨rfl, rfl⟩, rfl⟩ := e
            exact hh k _ (by simp [u8s, HU.out])) (by simp)
        by_cases hkp : (k : Int) = p
        · obtain ⟨u', hu', hxor⟩ := HAT.out k u hkp HU.out
          subst hkp
          have cc : wr.cell? ⟨vb, k, none⟩ = some (.int .u8 u'.toNat) := HW.out.cellSome ((O7.out.cellAt k (by omega)).trans (by simp [u8s, hu'])) (by simp)
          clear hu'
          go_wp2_with fail
          go_roundw
          case rel => exact ⟨k + 1, by omega, by go_num, HW.out⟩
          case measure => simp [intOf]; omega
        · have hu' := HNE.out k u hkp HU.out
          have cc : wr.cell? ⟨vb, k, none⟩ = some (.int .u8 u.toNat) := HW.out.cellSome ((O7.out.cellAt k (by omega)).trans (by simp [u8s, hu'])) (by simp)
          clear hu'
          go_wp2_with fail
          go_roundw
          case rel => exact ⟨k + 1, by omega, by go_num, HW.out⟩
          case measure => simp [intOf]; omega
      · obtain rfl : k = bs.length := by omega
        go_wp2_with fail
        refine (Spoil_any w.heap.size 4 [m] F 0 again 7 _ (N7.out.k HW.out) sm'.out sn'.out).mono ?_
        rintro e w8 ⟨rfl, n8, k8⟩
        rw [HAG.out]
        have K8 : Hid (Keeps [] w w8) := (K7.out.nil_trans HW.out (fun _ h => by cases h)).nil_trans k8 K3.out.2
        clear n8 k8
        go_wp2_with fail
        refine (awake_any _).mono ?_
        rintro e w9 ⟨rfl, k9⟩
        have K9 : Hid (Keeps [] w w9) := K8.out.nil_trans k9 (fun _ h => by cases h)
        clear k9
        go_wp2_with fail
        go_ret
        exact ⟨rfl, K9.out.below (Nat.le_refl _) (fun _ h => by cases h)⟩

end Go.Proofs.Ythgdknhocjlphaa
