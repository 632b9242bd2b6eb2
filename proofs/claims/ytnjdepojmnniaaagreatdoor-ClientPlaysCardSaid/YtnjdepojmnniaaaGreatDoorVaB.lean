/- palaverref01's one: a piece. (Printed by gen_one.py.) -/
import Derived.Test.YtnjdepojmnniaaaGreatDoorQ02

set_option linter.unusedSimpArgs false
set_option linter.unusedVariables false
namespace Go.Proofs.YtnjdepojmnniaaaGreatDoor
open Go Go.RowKit

def pcV (p : Pc) : Value := .agg #[.int .i64 p.at_, .int .i64 p.n, .int .i32 p.r, .bool p.bad]
def pcAt (s : ByteArray) (i : Nat) : Pc := ⟨i, (Lib.decodeL (s.data.toList.drop i)).2, (Lib.decodeL (s.data.toList.drop i)).1, badL (s.data.toList.drop i)⟩
theorem pcAt_bad (s : ByteArray) (i : Nat) (h : i < s.size) (h0 : ¬ byteAt s i < 128) (hb : ¬ (leadN (byteAt s i) ≠ 0 ∧ goesOn s i (leadN (byteAt s i) - 1) = true ∧ okSeq (leadN (byteAt s i)) (accR s i (leadN (byteAt s i) - 1)) = true)) : pcAt s i = ⟨i, 1, 65533, true⟩ := by
  unfold pcAt badL
  rw [Lib.decodeL_drop, decode_lead s i h h0, if_neg hb]
  rfl
theorem pcAt_good (s : ByteArray) (i : Nat) (h : i < s.size) (h0 : ¬ byteAt s i < 128) (n : Nat) (hn : leadN (byteAt s i) = n) (h2 : 2 ≤ n) (hg : goesOn s i (n - 1) = true) (hk : okSeq n (accR s i (n - 1)) = true) : pcAt s i = ⟨i, n, accR s i (n - 1), false⟩ := by
  subst hn
  unfold pcAt badL
  rw [Lib.decodeL_drop, decode_lead s i h h0, if_pos ⟨by omega, hg, hk⟩]
  have hw : leadN (byteAt s i) ≠ 1 := by omega
  simp [hw]
theorem goesOn_not {s : ByteArray} {i n k : Nat} (hk : k < n) (h : moreB s (i + (k + 1)) = false) : goesOn s i n = false := by
  rw [Bool.eq_false_iff]
  intro hh
  have := List.all_eq_true.1 hh k (List.mem_range.2 hk)
  rw [h] at this
  cases this
theorem goesOn_all {s : ByteArray} {i n : Nat} (h : ∀ k, k < n → moreB s (i + (k + 1)) = true) : goesOn s i n = true :=
  List.all_eq_true.2 fun k hk => h k (List.mem_range.1 hk)
set_option maxRecDepth 100000 in
theorem accR_le (s : ByteArray) (i : Nat) : ∀ k, (∀ j, j < k → moreB s (i + (j + 1)) = true) → accR s i k + 1 ≤ (leadR (byteAt s i) + 1) * 64 ^ k
  | 0, _ => by rw [Nat.pow_zero, Nat.mul_one]; exact Nat.le_refl _
  | k + 1, h => by
    have ih := accR_le s i k (fun j hj => h j (by omega))
    have hm := (moreB_iff s (i + (k + 1))).1 (h k (by omega))
    show accR s i k * 64 + (byteAt s (i + (k + 1)) - 128) + 1 ≤ _
    rw [Nat.pow_succ, ← Nat.mul_assoc]
    omega

set_option maxRecDepth 100000 in
theorem one_low (s : ByteArray) (i : Nat) (w : World) (h : i < s.size) (h0 : byteAt s i < 128) :
    Calls Tryz.prog 80 #[.string s, .int .i64 i] w fun e w' => e = .returned (pcV (pcAt s i)) ∧ Keeps [] w w' := by
  have e := byteAt_get s i h
  have g1 : ((s[i]'h).toNat : Int) < 128 := by rw [e]; omega
  have hl : (i : Int) < (s.size : Int) := by omega
  have E : Hid (pcAt s i = ⟨i, 1, (s[i]'h).toNat, false⟩) := by
    show _ = _
    unfold pcAt
    rw [Lib.decodeL_drop, decode_low s i h0, badL_low s i h0, e]
  clear e h0
  go_enter Tryz.func80, Tryz.ntmps80
  go_wp2_with fail
  refine bodyPost_ret (v := .agg #[.int .i64 i, .int .i64 1, .int .i32 (s[i]'h).toNat, .bool false]) (results_cell_row rfl _ _ w.heap.size 105 _ (0, 0) _ rfl (heap_alloc_new _ _) Tryz.underlying105 rfl (by kernel_rfl)) rfl ⟨by rw [E.out]; rfl, Keeps.K⟩

set_option maxRecDepth 100000 in
theorem one_none (s : ByteArray) (i : Nat) (w : World) (h : i < s.size) (h0 : ¬ byteAt s i < 128) (hn : leadN (byteAt s i) = 0) :
    Calls Tryz.prog 80 #[.string s, .int .i64 i] w fun e w' => e = .returned (pcV (pcAt s i)) ∧ Keeps [] w w' := by
  have e := byteAt_get s i h
  have hl : (i : Int) < (s.size : Int) := by omega
  have E : Hid (pcAt s i = ⟨i, 1, 65533, true⟩) := pcAt_bad s i h h0 (fun hh => hh.1 hn)
  have hc : byteAt s i < 194 ∨ 244 < byteAt s i := by
    unfold leadN at hn
    repeat' split at hn
    all_goals omega
  have g0 : 128 ≤ ((s[i]'h).toNat : Int) := by rw [e]; omega
  have hc' : ((s[i]'h).toNat : Int) < 194 ∨ 244 < ((s[i]'h).toNat : Int) := by rw [e]; omega
  clear e h0 hn hc
  have g9 : (((s[i]'h).toNat : Int) < 194 ∧ ((s[i]'h).toNat : Int) < 224 ∧ ((s[i]'h).toNat : Int) < 240) ∨ (194 ≤ ((s[i]'h).toNat : Int) ∧ 223 < ((s[i]'h).toNat : Int) ∧ 224 ≤ ((s[i]'h).toNat : Int) ∧ 239 < ((s[i]'h).toNat : Int) ∧ 240 ≤ ((s[i]'h).toNat : Int) ∧ 244 < ((s[i]'h).toNat : Int)) := by omega
  clear hc'
  rcases g9 with ⟨g1, g2, g3⟩ | ⟨g1, g2, g3, g4, g5, g6⟩
  all_goals
    go_enter Tryz.func80, Tryz.ntmps80
    go_wp2_with fail
    go_loop [6, 7, 8] (fun a b c => a = .int .i64 0 ∧ b = .int .i32 0 ∧ c = .int .i64 1) (fun _ _ _ => 0)
    case atStart => exact ⟨rfl, rfl, rfl⟩
    case round =>
      obtain ⟨rfl, rfl, rfl⟩ := hrel
      go_wp2_with fail
      refine bodyPost_ret (v := .agg #[.int .i64 i, .int .i64 1, .int .i32 65533, .bool true]) (results_cell_row rfl _ _ w.heap.size 105 _ (0, 0) _ rfl (heap_alloc_new _ _) Tryz.underlying105 rfl (by kernel_rfl)) rfl ⟨by rw [E.out]; rfl, Keeps.K⟩

set_option maxRecDepth 100000 in
set_option maxHeartbeats 1600000 in
theorem one_seq2 (s : ByteArray) (i : Nat) (w : World) (h : i < s.size) (hm : s.size ≤ 4611686018427387904) (hb1 : 194 ≤ byteAt s i) (hb2 : byteAt s i ≤ 223) :
    Calls Tryz.prog 80 #[.string s, .int .i64 i] w fun e w' => e = .returned (pcV (pcAt s i)) ∧ Keeps [] w w' := by
  have e := byteAt_get s i h
  have hl : (i : Int) < (s.size : Int) := by omega
  have hn : leadN (byteAt s i) = 2 := by unfold leadN; (repeat' split) <;> omega
  have hr : leadR (byteAt s i) = byteAt s i - 192 := by unfold leadR; (repeat' split) <;> omega
  have HBAD : Hid (¬ (goesOn s i 1 = true ∧ okSeq 2 (accR s i 1) = true) → pcAt s i = ⟨i, 1, 65533, true⟩) := fun hh => pcAt_bad s i h (by omega) (fun h3 => hh (by rw [hn] at h3; exact h3.2))
  have HGOOD : Hid (goesOn s i 1 = true → okSeq 2 (accR s i 1) = true → pcAt s i = ⟨i, 2, accR s i 1, false⟩) := fun h1 h2 => pcAt_good s i h (by omega) 2 hn (by omega) h1 h2
  have HLE : Hid (∀ k, (∀ j, j < k → moreB s (i + (j + 1)) = true) → accR s i k + 1 ≤ (leadR (byteAt s i) + 1) * 64 ^ k) := accR_le s i
  have HR := hid hr
  have HB := hid hb2
  have HS : Hid (((s[i]'h).toNat : Int) - 192 = (accR s i 0 : Nat)) := by show _ = ((leadR (byteAt s i) : Nat) : Int); rw [hr, e]; omega
  have g0 : 128 ≤ ((s[i]'h).toNat : Int) := by rw [e]; omega
  have f0 : 194 ≤ ((s[i]'h).toNat : Int) := by rw [e]; omega
  have f1 : ((s[i]'h).toNat : Int) ≤ 223 := by rw [e]; omega
  have f2 : ((s[i]'h).toNat : Int) < 224 := by rw [e]; omega
  have f3 : ((s[i]'h).toNat : Int) ≤ 239 := by rw [e]; omega
  have f4 : ((s[i]'h).toNat : Int) < 240 := by rw [e]; omega
  have f5 : ((s[i]'h).toNat : Int) ≤ 244 := by rw [e]; omega
  clear e hb1 hb2 hn hr
  go_enter Tryz.func80, Tryz.ntmps80
  go_wp2_with fail
  go_loop [6, 7, 8] (fun a b c => ∃ (k : Nat) (r : Int), k + 1 ≤ 2 ∧ a = .int .i64 2 ∧ b = .int .i32 r ∧ c = .int .i64 ((k : Int) + 1) ∧ 0 ≤ r ∧ r ≤ 100000000 ∧ Hid (r = (accR s i k : Nat) ∧ ∀ j, j < k → moreB s (i + (j + 1)) = true)) (fun _ _ c => (5 - intOf c).toNat)
  case atStart => exact ⟨0, _, by omega, rfl, rfl, rfl, by omega, by omega, HS.out, fun j hj => by omega⟩
  case round =>
    obtain ⟨k, r, hk, rfl, rfl, rfl, r0, r1, HA⟩ := hrel
    have k0 : (0 : Int) ≤ (k : Int) := Int.natCast_nonneg _
    have HZ : Hid ((i : Int) + ((k : Int) + 1) = ((i + (k + 1) : Nat) : Int)) := by show _ = _; omega
    by_cases hlt : k + 1 < 2
    · have hlt' : (k : Int) + 1 < 2 := by omega
      cases hmb : moreB s (i + (k + 1)) with
      | true =>
        have HM := hid hmb
        have HN : Hid (((accR s i (k + 1) : Nat) : Int) = r * 64 + ((byteAt s (i + (k + 1)) : Int) - 128) ∧ accR s i (k + 1) ≤ 100000000) := by
          have h1 := HA.out.1
          have h2 := (moreB_iff s (i + (k + 1))).1 hmb
          refine ⟨by show ((accR s i k * 64 + (byteAt s (i + (k + 1)) - 128) : Nat) : Int) = _; rw [h1]; omega, ?_⟩
          have h3 := HLE.out (k + 1) (fun j hj => by rcases Nat.lt_or_ge j k with h | h; exact HA.out.2 j h; obtain rfl : j = k := (by omega); exact hmb)
          have h4 := HR.out
          have h5 := HB.out
          have h6 : k + 1 ≤ 3 := by omega
          have h7 : 64 ^ (k + 1) ≤ 262144 := by
            rcases (show k = 0 ∨ k = 1 ∨ k = 2 by omega) with rfl | rfl | rfl <;> decide
          have h8 := Nat.mul_le_mul (show leadR (byteAt s i) + 1 ≤ 32 by omega) h7
          omega
        have hlo : 128 ≤ byteAt s (i + (k + 1)) := ((moreB_iff s (i + (k + 1))).1 hmb).2.1
        have hhi : byteAt s (i + (k + 1)) ≤ 191 := ((moreB_iff s (i + (k + 1))).1 hmb).2.2
        have r2 : r ≤ 1600000 := by have h1 := HN.out.1; have h2 := HN.out.2; omega
        clear hmb
        obtain ⟨x, hx⟩ : ∃ x : Int, (byteAt s (i + (k + 1)) : Int) - 128 = x := ⟨_, rfl⟩
        have hx0 : 0 ≤ x := by omega
        have hx1 : x ≤ 63 := by omega
        have HX := hid hx
        clear hlo hhi hx
        go_wp2_with fail
        refine (more_yes' s (i + (k + 1)) _ HZ _ HM.out).mono ?_
        rintro e w' ⟨rfl, rfl⟩
        rw [HX.out]
        go_wp2_with fail
        go_round
        case rel => exact ⟨k + 1, r * 64 + x, by omega, rfl, rfl, by go_num, by omega, by have h1 := HN.out; have h2 := HX.out; omega, by show _ = _; rw [HN.out.1, HX.out], fun j hj => by rcases Nat.lt_or_ge j k with h | h; exact HA.out.2 j h; obtain rfl : j = k := (by omega); exact HM.out⟩
        case measure => simp [intOf]; omega
      | false =>
        have HM := hid hmb
        have HBB : Hid (pcAt s i = ⟨i, 1, 65533, true⟩) := HBAD.out (fun hh => by rw [goesOn_not (show k < 1 by omega) hmb] at hh; cases hh.1)
        clear hmb
        go_wp2_with fail
        refine (more_no' s (i + (k + 1)) _ HZ _ HM.out (by omega) (by omega)).mono ?_
        rintro e w' ⟨rfl, rfl⟩
        go_wp2_with fail
        refine bodyPost_ret (v := .agg #[.int .i64 i, .int .i64 1, .int .i32 65533, .bool true]) (results_cell_row rfl _ _ w.heap.size 105 _ (0, 0) _ rfl (heap_alloc_new _ _) Tryz.underlying105 rfl (by kernel_rfl)) rfl ⟨by rw [HBB.out]; rfl, Keeps.K⟩
    · obtain rfl : k = 1 := by omega
      clear hk hlt
      have HBB : Hid (pcAt s i = ⟨i, 2, accR s i 1, false⟩) := HGOOD.out (goesOn_all HA.out.2) (okSeq2 _)
      go_wp2_with fail
      have HRR := hid HA.out.1
      refine bodyPost_ret (v := .agg #[.int .i64 i, .int .i64 2, .int .i32 r, .bool false]) (results_cell_row rfl _ _ w.heap.size 105 _ (0, 0) _ rfl (heap_alloc_new _ _) Tryz.underlying105 rfl (by kernel_rfl)) rfl ⟨by rw [HBB.out, HRR.out]; rfl, Keeps.K⟩

set_option maxRecDepth 100000 in
set_option maxHeartbeats 1600000 in
theorem one_seq3 (s : ByteArray) (i : Nat) (w : World) (h : i < s.size) (hm : s.size ≤ 4611686018427387904) (hb1 : 224 ≤ byteAt s i) (hb2 : byteAt s i ≤ 239) :
    Calls Tryz.prog 80 #[.string s, .int .i64 i] w fun e w' => e = .returned (pcV (pcAt s i)) ∧ Keeps [] w w' := by
  have e := byteAt_get s i h
  have hl : (i : Int) < (s.size : Int) := by omega
  have hn : leadN (byteAt s i) = 3 := by unfold leadN; (repeat' split) <;> omega
  have hr : leadR (byteAt s i) = byteAt s i - 224 := by unfold leadR; (repeat' split) <;> omega
  have HBAD : Hid (¬ (goesOn s i 2 = true ∧ okSeq 3 (accR s i 2) = true) → pcAt s i = ⟨i, 1, 65533, true⟩) := fun hh => pcAt_bad s i h (by omega) (fun h3 => hh (by rw [hn] at h3; exact h3.2))
  have HGOOD : Hid (goesOn s i 2 = true → okSeq 3 (accR s i 2) = true → pcAt s i = ⟨i, 3, accR s i 2, false⟩) := fun h1 h2 => pcAt_good s i h (by omega) 3 hn (by omega) h1 h2
  have HLE : Hid (∀ k, (∀ j, j < k → moreB s (i + (j + 1)) = true) → accR s i k + 1 ≤ (leadR (byteAt s i) + 1) * 64 ^ k) := accR_le s i
  have HR := hid hr
  have HB := hid hb2
  have HS : Hid (((s[i]'h).toNat : Int) - 224 = (accR s i 0 : Nat)) := by show _ = ((leadR (byteAt s i) : Nat) : Int); rw [hr, e]; omega
  have g0 : 128 ≤ ((s[i]'h).toNat : Int) := by rw [e]; omega
  have f0 : 194 ≤ ((s[i]'h).toNat : Int) := by rw [e]; omega
  have f1 : 223 < ((s[i]'h).toNat : Int) := by rw [e]; omega
  have f2 : 224 ≤ ((s[i]'h).toNat : Int) := by rw [e]; omega
  have f3 : ((s[i]'h).toNat : Int) ≤ 239 := by rw [e]; omega
  have f4 : ((s[i]'h).toNat : Int) < 240 := by rw [e]; omega
  have f5 : ((s[i]'h).toNat : Int) ≤ 244 := by rw [e]; omega
  clear e hb1 hb2 hn hr
  go_enter Tryz.func80, Tryz.ntmps80
  go_wp2_with fail
  go_loop [6, 7, 8] (fun a b c => ∃ (k : Nat) (r : Int), k + 1 ≤ 3 ∧ a = .int .i64 3 ∧ b = .int .i32 r ∧ c = .int .i64 ((k : Int) + 1) ∧ 0 ≤ r ∧ r ≤ 100000000 ∧ Hid (r = (accR s i k : Nat) ∧ ∀ j, j < k → moreB s (i + (j + 1)) = true)) (fun _ _ c => (5 - intOf c).toNat)
  case atStart => exact ⟨0, _, by omega, rfl, rfl, rfl, by omega, by omega, HS.out, fun j hj => by omega⟩
  case round =>
    obtain ⟨k, r, hk, rfl, rfl, rfl, r0, r1, HA⟩ := hrel
    have k0 : (0 : Int) ≤ (k : Int) := Int.natCast_nonneg _
    have HZ : Hid ((i : Int) + ((k : Int) + 1) = ((i + (k + 1) : Nat) : Int)) := by show _ = _; omega
    by_cases hlt : k + 1 < 3
    · have hlt' : (k : Int) + 1 < 3 := by omega
      cases hmb : moreB s (i + (k + 1)) with
      | true =>
        have HM := hid hmb
        have HN : Hid (((accR s i (k + 1) : Nat) : Int) = r * 64 + ((byteAt s (i + (k + 1)) : Int) - 128) ∧ accR s i (k + 1) ≤ 100000000) := by
          have h1 := HA.out.1
          have h2 := (moreB_iff s (i + (k + 1))).1 hmb
          refine ⟨by show ((accR s i k * 64 + (byteAt s (i + (k + 1)) - 128) : Nat) : Int) = _; rw [h1]; omega, ?_⟩
          have h3 := HLE.out (k + 1) (fun j hj => by rcases Nat.lt_or_ge j k with h | h; exact HA.out.2 j h; obtain rfl : j = k := (by omega); exact hmb)
          have h4 := HR.out
          have h5 := HB.out
          have h6 : k + 1 ≤ 3 := by omega
          have h7 : 64 ^ (k + 1) ≤ 262144 := by
            rcases (show k = 0 ∨ k = 1 ∨ k = 2 by omega) with rfl | rfl | rfl <;> decide
          have h8 := Nat.mul_le_mul (show leadR (byteAt s i) + 1 ≤ 32 by omega) h7
          omega
        have hlo : 128 ≤ byteAt s (i + (k + 1)) := ((moreB_iff s (i + (k + 1))).1 hmb).2.1
        have hhi : byteAt s (i + (k + 1)) ≤ 191 := ((moreB_iff s (i + (k + 1))).1 hmb).2.2
        have r2 : r ≤ 1600000 := by have h1 := HN.out.1; have h2 := HN.out.2; omega
        clear hmb
        obtain ⟨x, hx⟩ : ∃ x : Int, (byteAt s (i + (k + 1)) : Int) - 128 = x := ⟨_, rfl⟩
        have hx0 : 0 ≤ x := by omega
        have hx1 : x ≤ 63 := by omega
        have HX := hid hx
        clear hlo hhi hx
        go_wp2_with fail
        refine (more_yes' s (i + (k + 1)) _ HZ _ HM.out).mono ?_
        rintro e w' ⟨rfl, rfl⟩
        rw [HX.out]
        go_wp2_with fail
        go_round
        case rel => exact ⟨k + 1, r * 64 + x, by omega, rfl, rfl, by go_num, by omega, by have h1 := HN.out; have h2 := HX.out; omega, by show _ = _; rw [HN.out.1, HX.out], fun j hj => by rcases Nat.lt_or_ge j k with h | h; exact HA.out.2 j h; obtain rfl : j = k := (by omega); exact HM.out⟩
        case measure => simp [intOf]; omega
      | false =>
        have HM := hid hmb
        have HBB : Hid (pcAt s i = ⟨i, 1, 65533, true⟩) := HBAD.out (fun hh => by rw [goesOn_not (show k < 2 by omega) hmb] at hh; cases hh.1)
        clear hmb
        go_wp2_with fail
        refine (more_no' s (i + (k + 1)) _ HZ _ HM.out (by omega) (by omega)).mono ?_
        rintro e w' ⟨rfl, rfl⟩
        go_wp2_with fail
        refine bodyPost_ret (v := .agg #[.int .i64 i, .int .i64 1, .int .i32 65533, .bool true]) (results_cell_row rfl _ _ w.heap.size 105 _ (0, 0) _ rfl (heap_alloc_new _ _) Tryz.underlying105 rfl (by kernel_rfl)) rfl ⟨by rw [HBB.out]; rfl, Keeps.K⟩
    · obtain rfl : k = 2 := by omega
      clear hk hlt
      have hc : (2048 ≤ r ∧ r < 55296) ∨ (2048 ≤ r ∧ 55296 ≤ r ∧ 57343 < r) ∨ (r < 2048) ∨ (2048 ≤ r ∧ 55296 ≤ r ∧ r ≤ 57343) := by omega
      rcases hc with ⟨c0, c1⟩ | ⟨c0, c1, c2⟩ | c0 | ⟨c0, c1, c2⟩
      · have HBB : Hid (pcAt s i = ⟨i, 3, accR s i 2, false⟩) := HGOOD.out (goesOn_all HA.out.2) (by have h1 := HA.out.1; rw [← ok3_iff]; unfold ok3; omega)
        have HRR := hid HA.out.1
        go_wp2_with fail
        refine bodyPost_ret (v := .agg #[.int .i64 i, .int .i64 3, .int .i32 r, .bool false]) (results_cell_row rfl _ _ w.heap.size 105 _ (0, 0) _ rfl (heap_alloc_new _ _) Tryz.underlying105 rfl (by kernel_rfl)) rfl ⟨by rw [HBB.out, HRR.out]; rfl, Keeps.K⟩
      · have HBB : Hid (pcAt s i = ⟨i, 3, accR s i 2, false⟩) := HGOOD.out (goesOn_all HA.out.2) (by have h1 := HA.out.1; rw [← ok3_iff]; unfold ok3; omega)
        have HRR := hid HA.out.1
        go_wp2_with fail
        refine bodyPost_ret (v := .agg #[.int .i64 i, .int .i64 3, .int .i32 r, .bool false]) (results_cell_row rfl _ _ w.heap.size 105 _ (0, 0) _ rfl (heap_alloc_new _ _) Tryz.underlying105 rfl (by kernel_rfl)) rfl ⟨by rw [HBB.out, HRR.out]; rfl, Keeps.K⟩
      · have HBB : Hid (pcAt s i = ⟨i, 1, 65533, true⟩) := HBAD.out (fun hh => by have h1 := HA.out.1; have h2 := (ok3_iff _).2 hh.2; unfold ok3 at h2; omega)
        have HRR := hid HA.out.1
        go_wp2_with fail
        refine bodyPost_ret (v := .agg #[.int .i64 i, .int .i64 1, .int .i32 65533, .bool true]) (results_cell_row rfl _ _ w.heap.size 105 _ (0, 0) _ rfl (heap_alloc_new _ _) Tryz.underlying105 rfl (by kernel_rfl)) rfl ⟨by rw [HBB.out]; rfl, Keeps.K⟩
      · have HBB : Hid (pcAt s i = ⟨i, 1, 65533, true⟩) := HBAD.out (fun hh => by have h1 := HA.out.1; have h2 := (ok3_iff _).2 hh.2; unfold ok3 at h2; omega)
        have HRR := hid HA.out.1
        go_wp2_with fail
        refine bodyPost_ret (v := .agg #[.int .i64 i, .int .i64 1, .int .i32 65533, .bool true]) (results_cell_row rfl _ _ w.heap.size 105 _ (0, 0) _ rfl (heap_alloc_new _ _) Tryz.underlying105 rfl (by kernel_rfl)) rfl ⟨by rw [HBB.out]; rfl, Keeps.K⟩

set_option maxRecDepth 100000 in
set_option maxHeartbeats 1600000 in
theorem one_seq4 (s : ByteArray) (i : Nat) (w : World) (h : i < s.size) (hm : s.size ≤ 4611686018427387904) (hb1 : 240 ≤ byteAt s i) (hb2 : byteAt s i ≤ 244) :
    Calls Tryz.prog 80 #[.string s, .int .i64 i] w fun e w' => e = .returned (pcV (pcAt s i)) ∧ Keeps [] w w' := by
  have e := byteAt_get s i h
  have hl : (i : Int) < (s.size : Int) := by omega
  have hn : leadN (byteAt s i) = 4 := by unfold leadN; (repeat' split) <;> omega
  have hr : leadR (byteAt s i) = byteAt s i - 240 := by unfold leadR; (repeat' split) <;> omega
  have HBAD : Hid (¬ (goesOn s i 3 = true ∧ okSeq 4 (accR s i 3) = true) → pcAt s i = ⟨i, 1, 65533, true⟩) := fun hh => pcAt_bad s i h (by omega) (fun h3 => hh (by rw [hn] at h3; exact h3.2))
  have HGOOD : Hid (goesOn s i 3 = true → okSeq 4 (accR s i 3) = true → pcAt s i = ⟨i, 4, accR s i 3, false⟩) := fun h1 h2 => pcAt_good s i h (by omega) 4 hn (by omega) h1 h2
  have HLE : Hid (∀ k, (∀ j, j < k → moreB s (i + (j + 1)) = true) → accR s i k + 1 ≤ (leadR (byteAt s i) + 1) * 64 ^ k) := accR_le s i
  have HR := hid hr
  have HB := hid hb2
  have HS : Hid (((s[i]'h).toNat : Int) - 240 = (accR s i 0 : Nat)) := by show _ = ((leadR (byteAt s i) : Nat) : Int); rw [hr, e]; omega
  have g0 : 128 ≤ ((s[i]'h).toNat : Int) := by rw [e]; omega
  have f0 : 194 ≤ ((s[i]'h).toNat : Int) := by rw [e]; omega
  have f1 : 223 < ((s[i]'h).toNat : Int) := by rw [e]; omega
  have f2 : 224 ≤ ((s[i]'h).toNat : Int) := by rw [e]; omega
  have f3 : 239 < ((s[i]'h).toNat : Int) := by rw [e]; omega
  have f4 : 240 ≤ ((s[i]'h).toNat : Int) := by rw [e]; omega
  have f5 : ((s[i]'h).toNat : Int) ≤ 244 := by rw [e]; omega
  clear e hb1 hb2 hn hr
  go_enter Tryz.func80, Tryz.ntmps80
  go_wp2_with fail
  go_loop [6, 7, 8] (fun a b c => ∃ (k : Nat) (r : Int), k + 1 ≤ 4 ∧ a = .int .i64 4 ∧ b = .int .i32 r ∧ c = .int .i64 ((k : Int) + 1) ∧ 0 ≤ r ∧ r ≤ 100000000 ∧ Hid (r = (accR s i k : Nat) ∧ ∀ j, j < k → moreB s (i + (j + 1)) = true)) (fun _ _ c => (5 - intOf c).toNat)
  case atStart => exact ⟨0, _, by omega, rfl, rfl, rfl, by omega, by omega, HS.out, fun j hj => by omega⟩
  case round =>
    obtain ⟨k, r, hk, rfl, rfl, rfl, r0, r1, HA⟩ := hrel
    have k0 : (0 : Int) ≤ (k : Int) := Int.natCast_nonneg _
    have HZ : Hid ((i : Int) + ((k : Int) + 1) = ((i + (k + 1) : Nat) : Int)) := by show _ = _; omega
    by_cases hlt : k + 1 < 4
    · have hlt' : (k : Int) + 1 < 4 := by omega
      cases hmb : moreB s (i + (k + 1)) with
      | true =>
        have HM := hid hmb
        have HN : Hid (((accR s i (k + 1) : Nat) : Int) = r * 64 + ((byteAt s (i + (k + 1)) : Int) - 128) ∧ accR s i (k + 1) ≤ 100000000) := by
          have h1 := HA.out.1
          have h2 := (moreB_iff s (i + (k + 1))).1 hmb
          refine ⟨by show ((accR s i k * 64 + (byteAt s (i + (k + 1)) - 128) : Nat) : Int) = _; rw [h1]; omega, ?_⟩
          have h3 := HLE.out (k + 1) (fun j hj => by rcases Nat.lt_or_ge j k with h | h; exact HA.out.2 j h; obtain rfl : j = k := (by omega); exact hmb)
          have h4 := HR.out
          have h5 := HB.out
          have h6 : k + 1 ≤ 3 := by omega
          have h7 : 64 ^ (k + 1) ≤ 262144 := by
            rcases (show k = 0 ∨ k = 1 ∨ k = 2 by omega) with rfl | rfl | rfl <;> decide
          have h8 := Nat.mul_le_mul (show leadR (byteAt s i) + 1 ≤ 32 by omega) h7
          omega
        have hlo : 128 ≤ byteAt s (i + (k + 1)) := ((moreB_iff s (i + (k + 1))).1 hmb).2.1
        have hhi : byteAt s (i + (k + 1)) ≤ 191 := ((moreB_iff s (i + (k + 1))).1 hmb).2.2
        have r2 : r ≤ 1600000 := by have h1 := HN.out.1; have h2 := HN.out.2; omega
        clear hmb
        obtain ⟨x, hx⟩ : ∃ x : Int, (byteAt s (i + (k + 1)) : Int) - 128 = x := ⟨_, rfl⟩
        have hx0 : 0 ≤ x := by omega
        have hx1 : x ≤ 63 := by omega
        have HX := hid hx
        clear hlo hhi hx
        go_wp2_with fail
        refine (more_yes' s (i + (k + 1)) _ HZ _ HM.out).mono ?_
        rintro e w' ⟨rfl, rfl⟩
        rw [HX.out]
        go_wp2_with fail
        go_round
        case rel => exact ⟨k + 1, r * 64 + x, by omega, rfl, rfl, by go_num, by omega, by have h1 := HN.out; have h2 := HX.out; omega, by show _ = _; rw [HN.out.1, HX.out], fun j hj => by rcases Nat.lt_or_ge j k with h | h; exact HA.out.2 j h; obtain rfl : j = k := (by omega); exact HM.out⟩
        case measure => simp [intOf]; omega
      | false =>
        have HM := hid hmb
        have HBB : Hid (pcAt s i = ⟨i, 1, 65533, true⟩) := HBAD.out (fun hh => by rw [goesOn_not (show k < 3 by omega) hmb] at hh; cases hh.1)
        clear hmb
        go_wp2_with fail
        refine (more_no' s (i + (k + 1)) _ HZ _ HM.out (by omega) (by omega)).mono ?_
        rintro e w' ⟨rfl, rfl⟩
        go_wp2_with fail
        refine bodyPost_ret (v := .agg #[.int .i64 i, .int .i64 1, .int .i32 65533, .bool true]) (results_cell_row rfl _ _ w.heap.size 105 _ (0, 0) _ rfl (heap_alloc_new _ _) Tryz.underlying105 rfl (by kernel_rfl)) rfl ⟨by rw [HBB.out]; rfl, Keeps.K⟩
    · obtain rfl : k = 3 := by omega
      clear hk hlt
      have hc : (65536 ≤ r ∧ r ≤ 1114111) ∨ (r < 65536) ∨ (65536 ≤ r ∧ 1114111 < r) := by omega
      rcases hc with ⟨c0, c1⟩ | c0 | ⟨c0, c1⟩
      · have HBB : Hid (pcAt s i = ⟨i, 4, accR s i 3, false⟩) := HGOOD.out (goesOn_all HA.out.2) (by have h1 := HA.out.1; rw [← ok4_iff]; unfold ok4; omega)
        have HRR := hid HA.out.1
        go_wp2_with fail
        refine bodyPost_ret (v := .agg #[.int .i64 i, .int .i64 4, .int .i32 r, .bool false]) (results_cell_row rfl _ _ w.heap.size 105 _ (0, 0) _ rfl (heap_alloc_new _ _) Tryz.underlying105 rfl (by kernel_rfl)) rfl ⟨by rw [HBB.out, HRR.out]; rfl, Keeps.K⟩
      · have HBB : Hid (pcAt s i = ⟨i, 1, 65533, true⟩) := HBAD.out (fun hh => by have h1 := HA.out.1; have h2 := (ok4_iff _).2 hh.2; unfold ok4 at h2; omega)
        have HRR := hid HA.out.1
        go_wp2_with fail
        refine bodyPost_ret (v := .agg #[.int .i64 i, .int .i64 1, .int .i32 65533, .bool true]) (results_cell_row rfl _ _ w.heap.size 105 _ (0, 0) _ rfl (heap_alloc_new _ _) Tryz.underlying105 rfl (by kernel_rfl)) rfl ⟨by rw [HBB.out]; rfl, Keeps.K⟩
      · have HBB : Hid (pcAt s i = ⟨i, 1, 65533, true⟩) := HBAD.out (fun hh => by have h1 := HA.out.1; have h2 := (ok4_iff _).2 hh.2; unfold ok4 at h2; omega)
        have HRR := hid HA.out.1
        go_wp2_with fail
        refine bodyPost_ret (v := .agg #[.int .i64 i, .int .i64 1, .int .i32 65533, .bool true]) (results_cell_row rfl _ _ w.heap.size 105 _ (0, 0) _ rfl (heap_alloc_new _ _) Tryz.underlying105 rfl (by kernel_rfl)) rfl ⟨by rw [HBB.out]; rfl, Keeps.K⟩

theorem one_any (s : ByteArray) (i : Nat) (w : World) (h : i < s.size) (hm : s.size ≤ 4611686018427387904) :
    Calls Tryz.prog 80 #[.string s, .int .i64 i] w fun e w' => e = .returned (pcV (pcAt s i)) ∧ Keeps [] w w' := by
  by_cases h0 : byteAt s i < 128
  · exact one_low s i w h h0
  by_cases h1 : 194 ≤ byteAt s i ∧ byteAt s i ≤ 223
  · exact one_seq2 s i w h hm h1.1 h1.2
  by_cases h2 : 224 ≤ byteAt s i ∧ byteAt s i ≤ 239
  · exact one_seq3 s i w h hm h2.1 h2.2
  by_cases h3 : 240 ≤ byteAt s i ∧ byteAt s i ≤ 244
  · exact one_seq4 s i w h hm h3.1 h3.2
  exact one_none s i w h h0 (by unfold leadN; rw [if_neg h1, if_neg h2, if_neg h3])

end Go.Proofs.YtnjdepojmnniaaaGreatDoor
