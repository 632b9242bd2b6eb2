/- NetOnce, walked. -/
import Derived.Test.YthgdknhocjlphaaNetU
import Derived.Test.YthgdknhocjlphaaNetS
namespace Go.Proofs.Ythgdknhocjlphaa
open Go Go.RowKit

set_option maxRecDepth 100000 in
set_option maxHeartbeats 3200000 in
theorem once_walk (bs : List UInt8) (c : Nat) (a : Option Addr) (w : World) (hr : Reads w 1 (.slice a bs.length c) bs.length (u8s bs)) (hb : ∀ k ∈ ownB (.slice a bs.length c), bs.length ≠ 0 → k < w.heap.size) (h1 : 1 ≤ bs.length) (h300 : bs.length ≤ 300)
    (b off len cap : Nat) (a0 : Option Addr) (ha : 0 < len → a0 = some ⟨b, off, none⟩) (hbb : 0 < len → b < w.heap.size) (hop : ∀ j, j < len → OpAt w w.heap.size b (off + j * 5)) :
    Calls Try.prog 6 #[.slice a bs.length c, .slice a0 len cap] w fun e w' => e = .returned (.bool true) ∧ Below w.heap.size w w' := by
  obtain ⟨ab, aoff, rfl⟩ : ∃ b off, a = some ⟨b, off, none⟩ := by
    rcases hr.2 with ⟨h0, _⟩ | ⟨_, b, off, c', e, _⟩
    · omega
    · exact ⟨b, off, by simp at e; exact e.1⟩
  have HR := hid hr
  have HA := hid ha
  have HBB := hid hbb
  have HOP := hid hop
  have r4 : Hid (roomOf 40 = 40) := by show _ = _; decide
  have s1 : Hid (SendS 40 [] bs = (0, [(bs, false)])) := by show _ = _; unfold SendS; rw [if_neg (by omega), sendS_room _ _ _ (by simp)]; rfl
  clear hb hr ha hbb hop
  go_enter Try.func6, Try.ntmps6
  go_wp2_with fail
  refine (netNew_any 40 _).mono ?_
  rintro e w1 ⟨rfl, n1, k1⟩
  rw [r4.out] at n1
  have N1 := hid n1
  have K1 := hid k1
  clear n1 k1
  go_wp2_with fail
  refine (lawBytes_any (.slice (some ⟨ab, aoff, none⟩) bs.length c) bs _ (HR.out.keeps K1.out (fun _ _ h => by cases h)) (by omega)).mono ?_
  rintro e w2 ⟨a2, c2, rfl, o2, g2⟩
  have O2 := hid o2
  have K2 : Hid (Keeps [] w1 w2) := Keeps.ofGrown g2 (fun _ h => by cases h)
  clear o2 g2
  go_wp2_with fail
  refine (Send_any w.heap.size 40 [] [w.heap.size] (.slice a2 bs.length c2) bs _ (N1.out.k K2.out) (Reads.ofOwn O2.out) (by omega) (fun b hb => (ownB_ge O2.out b hb).2) (by simp)).mono ?_
  rintro e w3 ⟨rfl, F0, n3, t3⟩
  rw [s1.out] at n3 ⊢
  have N3 := hid n3
  have K3 : Hid (Keeps [] w w3 ∧ ∀ b ∈ F0, w.heap.size ≤ b) := by
    have hk := K1.out.nil_trans K2.out (fun _ h => by cases h)
    refine ⟨hk.nil_trans t3.1 (by simp), fun b hb => ?_⟩
    rcases t3.2 b hb with h | h
    · simp at h; omega
    · exact Nat.le_trans hk.size h
  clear n3 t3
  go_wp2_with fail
  go_loopw [6] (fun i wr => ∃ k : Nat, k ≤ len ∧ k ≤ 60 ∧ i = .int .i64 k ∧ Hid (∃ ms F, NetRep wr w.heap.size 40 ms F ∧ (∀ b ∈ F, w.heap.size ≤ b) ∧ Keeps [] w wr ∧ OnceInv bs ms ∧ 1 ≤ ms.length ∧ ms.length ≤ 40)) (fun i _ => len - (intOf i).toNat)
  case atStart =>
    refine ⟨0, Nat.zero_le _, Nat.zero_le _, rfl, [(bs, false)], F0, N3.out, K3.out.2, K3.out.1, fun m hm => ?_, by simp, by simp⟩
    simp at hm
    subst hm
    exact ⟨⟨rfl, 0, fun _ _ => rfl⟩, fun _ => rfl⟩
  case round =>
    obtain ⟨k, hk, hk8, rfl, HW⟩ := hrel
    obtain ⟨ms, F, n4, f4, k4, o4, l1, l40⟩ := HW.out
    have N4 := hid n4
    have F4 := hid f4
    have K4 := hid k4
    have O4 := hid o4
    clear n4 f4 k4 o4
    have i0 : (0 : Int) ≤ (k : Int) := Int.natCast_nonneg _
    have m1 : (1 : Int) ≤ (ms.length : Int) := by omega
    have m40 : (ms.length : Int) ≤ 40 := by omega
    by_cases hlt : k < len ∧ k < 60
    · obtain ⟨hlt, hlt8⟩ := hlt
      have ha := HA.out (by omega)
      subst ha
      have i1 : (k : Int) < (len : Int) := by omega
      have i2 : (k : Int) < 60 := by omega
      obtain ⟨kind, i, at_, by_, a', c', bs', c0, c1, c2', c3, _, wk, wi, _, _⟩ := HOP.out k hlt
      have d0 := K4.out.cellSome c0 (by simp)
      have d1 := K4.out.cellSome c1 (by simp)
      have d2 := K4.out.cellSome c2' (by simp)
      have d3 := K4.out.cellSome c3 (by simp)
      clear c0 c1 c2' c3
      obtain ⟨p0, p1⟩ := placeOf_bd kind 2 (by omega)
      go_wp2_with fail
      refine Plan.wp_region_plan (fun w' => w'.cell? ⟨b, off + k * 5, none⟩ = some (.int .i64 kind) ∧ w'.cell? ⟨b, off + k * 5 + 1, none⟩ = some (.int .i64 i) ∧ w'.cell? ⟨b, off + k * 5 + 2, none⟩ = some (.int .i64 at_) ∧ w'.cell? ⟨b, off + k * 5 + 3, none⟩ = some (.int .i64 by_)) 8 [(true, 0), (true, 1), (true, 2), (true, 3), (true, 4), (true, 5), (false, 6), (true, 7)] (by kernel_rfl) (by kernel_rfl) (by kernel_rfl) (fun _ _ _ _ _ h => h) ?_ (fun hS => ?_)
      · exact ⟨d0, d1, d2, d3⟩
      simp only [Plan.pick, List.getElem?_cons_zero, List.getElem?_cons_succ, Option.getD_some, List.drop_succ_cons, List.drop_zero]
      repeat (first | (refine Plan.take (v := ?_) (a' := ?_) (by rfl) ?_ ?_ ?_; rotate_left 2; (· (intro w' hS'; (try dsimp only at hS'); go_simp; try with_reducible rfl)); (· (simp only [Act.put, List.setIfInBounds_toArray, List.set_cons_zero, List.set_cons_succ]; try with_reducible rfl))) | (refine Plan.pass (a' := ?_) (by rfl) ?_ ?_; rotate_left 1; (· (simp only [Act.put, List.setIfInBounds_toArray, List.set_cons_zero, List.set_cons_succ]; try with_reducible rfl))))
      refine Plan.step ?_
      go_wp2_with (go_at_call 11; go_must (refine (Len_any w.heap.size 40 ms F _ (by exact N4.out.k (Keeps.refl [] wr).drew)).mono ?_; rintro e w' ⟨rfl, hw'⟩; subst hw'))
      refine ⟨⟨d0, d1, d2, d3⟩, ?_⟩
      repeat (first | (refine Plan.take (v := ?_) (a' := ?_) (by rfl) ?_ ?_ ?_; rotate_left 2; (· (intro w' hS'; (try dsimp only at hS'); go_simp; try with_reducible rfl)); (· (simp only [Act.put, List.setIfInBounds_toArray, List.set_cons_zero, List.set_cons_succ]; try with_reducible rfl))) | (refine Plan.pass (a' := ?_) (by rfl) ?_ ?_; rotate_left 1; (· (simp only [Act.put, List.setIfInBounds_toArray, List.set_cons_zero, List.set_cons_succ]; try with_reducible rfl))))
      refine Plan.fin ?_
      go_wp2_with fail
      all_goals
        refine (place_any i _ _ (by omega) (by omega) wi).mono ?_
        rintro e w' ⟨rfl, hw'⟩
        subst hw'
        by_cases hk0 : placeOf kind 2 = 0
        · go_wp2_with (go_at_call 7; go_must (refine (place_is 0 kind 2 _ (by omega) (by omega) wk hk0).mono ?_; rintro e w' ⟨rfl, hw'⟩; subst hw'))
          refine (Twice_any w.heap.size 40 ms F _ _ (N4.out.k (Keeps.refl [] wr).drew) (O4.out.small (by omega) (by omega))).mono ?_
          rintro e w5 ⟨rfl, F5, n5, t5⟩
          have N5 := hid n5
          have T5 := hid t5
          clear n5 t5
          have K5 : Hid (Keeps [] w wr.drew) := K4.out.nil_trans (Keeps.refl [] wr).drew (fun _ h => by cases h)
          have L5 := hid (O4.out.twice 40 (placeOf i 1))
          have L6 := hid (O4.out.twice 40 (placeOf i ms.length))
          go_wp2_with fail
          go_roundw
          case rel =>
            refine ⟨k + 1, by omega, by omega, by go_num, _, F5, N5.out, fun b hb => ?_, K5.out.nil_trans T5.out.1 F4.out, ?_⟩
            · rcases T5.out.2 b hb with h | h
              · exact F4.out b h
              · exact Nat.le_trans K5.out.size h
            · first
                | exact ⟨L5.out.1, by have := L5.out.2.1; omega, by have := L5.out.2.2; omega⟩
                | exact ⟨L6.out.1, by have := L6.out.2.1; omega, by have := L6.out.2.2; omega⟩
          case measure => simp [intOf]; omega
        · go_wp2_with (go_at_call 7; go_must (refine (place_any kind 2 _ (by omega) (by omega) wk).mono ?_; rintro e w' ⟨rfl, hw'⟩; subst hw'))
          refine Plan.wp_region_plan (fun w' => w'.cell? ⟨b, off + k * 5, none⟩ = some (.int .i64 kind) ∧ w'.cell? ⟨b, off + k * 5 + 1, none⟩ = some (.int .i64 i) ∧ w'.cell? ⟨b, off + k * 5 + 2, none⟩ = some (.int .i64 at_) ∧ w'.cell? ⟨b, off + k * 5 + 3, none⟩ = some (.int .i64 by_)) 12 [(true, 0), (true, 1), (true, 2), (true, 3), (true, 4), (true, 5), (true, 6), (true, 7), (true, 8), (true, 9), (true, 10), (true, 11)] (by kernel_rfl) (by kernel_rfl) (by kernel_rfl) (fun _ _ _ _ _ h => h) ?_ (fun hS => ?_)
          (· exact ⟨d0, d1, d2, d3⟩)
          simp only [Plan.pick, List.getElem?_cons_zero, List.getElem?_cons_succ, Option.getD_some, List.drop_succ_cons, List.drop_zero]
          repeat (first | (refine Plan.take (v := ?_) (a' := ?_) (by rfl) ?_ ?_ ?_; rotate_left 2; (· (intro w' hS'; (try dsimp only at hS'); go_simp; try with_reducible rfl)); (· (simp only [Act.put, List.setIfInBounds_toArray, List.set_cons_zero, List.set_cons_succ]; try with_reducible rfl))) | (refine Plan.pass (a' := ?_) (by rfl) ?_ ?_; rotate_left 1; (· (simp only [Act.put, List.setIfInBounds_toArray, List.set_cons_zero, List.set_cons_succ]; try with_reducible rfl))))
          refine Plan.fin ?_
          go_wp2_with fail
          refine (Spoil_any w.heap.size 40 ms F _ at_ by_ _ (N4.out.k ((Keeps.refl [] wr).drewN 2)) (O4.out.small (by omega) (by omega)) (O4.out.full (by omega))).mono ?_
          rintro e w5 ⟨rfl, n5, t5⟩
          have N5 := hid n5
          have K5 : Hid (Keeps [] w w5) := (K4.out.nil_trans ((Keeps.refl [] wr).drewN 2) (fun _ h => by cases h)).nil_trans t5 F4.out
          clear n5 t5
          have L5 := hid (O4.out.spoil (placeOf i 1) at_ by_)
          have L6 := hid (O4.out.spoil (placeOf i ms.length) at_ by_)
          go_wp2_with fail
          go_roundw
          case rel =>
            refine ⟨k + 1, by omega, by omega, by go_num, _, F, N5.out, F4.out, K5.out, ?_⟩
            first
              | exact ⟨L5.out.1, by have := L5.out.2; omega, by have := L5.out.2; omega⟩
              | exact ⟨L6.out.1, by have := L6.out.2; omega, by have := L6.out.2; omega⟩
          case measure => simp [intOf]; omega
    · have hx : ¬ k < len ∨ (k < len ∧ k = 60) := by omega
      rcases hx with hx | ⟨hx, rfl⟩
      all_goals
        go_wp2_with (go_at_call 11; go_must (refine (Len_any w.heap.size 40 ms F _ N4.out).mono ?_; rintro e w' ⟨rfl, hw'⟩; subst hw'))
        go_loopw [] (fun w2 => Hid (∃ ms F, NetRep w2 w.heap.size 40 ms F ∧ (∀ b ∈ F, w.heap.size ≤ b) ∧ Keeps [] w w2 ∧ OnceInv bs ms ∧ ms.length ≤ 40)) (fun w2 => mailLen w.heap.size w2)
        case atStart => exact ⟨ms, F, N4.out, F4.out, K4.out, O4.out, by omega⟩
        case round =>
          obtain ⟨ms2, F2, n6, f6, k6, o6, l6⟩ := hrel.out
          clear hrel
          have N6 := hid n6
          have F6 := hid f6
          have K6 := hid k6
          have O6 := hid o6
          clear n6 f6 k6 o6
          match ms2, N6, O6, l6 with
          | [], N6, O6, l6 =>
            go_wp2_with (go_at_call 11; go_must (refine (Len_any w.heap.size 40 [] F2 _ N6.out).mono ?_; rintro e w' ⟨rfl, hw'⟩; subst hw'))
            refine (awake_any _).mono ?_
            rintro e w9 ⟨rfl, k9⟩
            have K9 : Hid (Keeps [] w w9) := K6.out.nil_trans k9 (fun _ h => by cases h)
            clear k9
            go_wp2_with fail
            go_ret
            exact ⟨rfl, K9.out.below (Nat.le_refl _) (fun _ h => by cases h)⟩
          | m :: ms3, N6, O6, l6 =>
            have q0 : (0 : Int) ≤ (ms3.length : Int) := Int.natCast_nonneg _
            have q1 : (ms3.length : Int) ≤ 39 := by simp at l6; omega
            have hm := (O6.out m (by simp)).1
            obtain ⟨hml, p, hp⟩ := hm
            have HPp := hid hp
            have hz : Hid (placeOf ((ms3.length : Int) + 1) ((ms3.length : Int) + 1) = 0) := by show _ = _; unfold placeOf; simp
            have HSm := hid (O6.out.small (by omega) (by omega))
            have HI3 : Hid (OnceInv bs ms3) := fun m' hm' => O6.out m' (by simp [hm'])
            clear hp
            go_wp2_with (go_at_call 11; go_must (refine (once_len w.heap.size m ms3 F2 _ N6.out).mono ?_; rintro e w' ⟨rfl, hw'⟩; subst hw'))
            refine (place_is 0 _ _ _ (by omega) (by omega) (by have e1 : IntKind.i64.min = -9223372036854775808 := rfl; have e2 : IntKind.i64.max = 9223372036854775807 := rfl; simp [Lit.wf, e1, e2]; omega) hz.out).mono ?_
            rintro e w' ⟨rfl, hw'⟩
            subst hw'
            go_wp2_with fail
            refine (once_take w.heap.size bs m ms3 F2 _ N6.out HSm.out hml).mono ?_
            rintro e w5 ⟨a5, c5, F5, rfl, o5, n5, t5⟩
            have O5 := hid o5
            have N5 := hid n5
            have K5 : Hid (Keeps [] w w5) := K6.out.nil_trans t5.1 F6.out
            have F5' : Hid (∀ b ∈ F5, w.heap.size ≤ b) := fun b hb => by
              rcases t5.2 b hb with h | h
              · exact F6.out b h
              · exact Nat.le_trans K6.out.size h
            clear o5 n5 t5
            obtain ⟨vb, ha5⟩ := own_addr O5.out (by omega)
            subst ha5
            go_wp2_with fail
            refine (Len_any w.heap.size 40 ms3 F5 _ N5.out).mono ?_
            rintro e w' ⟨rfl, hw'⟩
            subst hw'
            go_wp2_with fail
            go_loopw [11, 12] (fun t i w3 => ∃ k tn : Nat, k ≤ bs.length ∧ tn ≤ 1 ∧ (tn = 1 → p < k) ∧ t = .int .i64 tn ∧ i = .int .i64 k ∧ Hid (Keeps [] w' w3)) (fun _ i _ => bs.length - (intOf i).toNat)
            case atStart => exact ⟨0, 0, Nat.zero_le _, Nat.zero_le _, fun h => by omega, rfl, rfl, Keeps.refl _ _⟩
            case round =>
              obtain ⟨k, tn, hk, htn, hpk, rfl, rfl, HW3⟩ := hrel
              have j0 : (0 : Int) ≤ (k : Int) := Int.natCast_nonneg _
              have j1 : (tn : Int) ≤ 1 := by omega
              by_cases hlt : k < bs.length
              · have j2 : (k : Int) < (bs.length : Int) := by omega
                obtain ⟨u, hu⟩ : ∃ u, bs[k]? = some u := ⟨bs[k], List.getElem?_eq_getElem hlt⟩
                obtain ⟨u', hu'⟩ : ∃ u', m.1[k]? = some u' := ⟨m.1[k], List.getElem?_eq_getElem (by omega)⟩
                have cb := (K5.out.nil_trans HW3.out (fun _ h => by cases h)).cellSome (a := ⟨ab, aoff + k, none⟩) (v := .int .u8 u.toNat) (by
                  rcases HR.out.2 with ⟨h0, _⟩ | ⟨_, b', off', c', e, _, _, _, hh⟩
                  · omega
                  · simp at e
                    obtain ⟨⟨rfl, rfl⟩, rfl⟩ := e
                    exact hh k _ (by simp [u8s, hu])) (by simp)
                have cc := HW3.out.cellSome (a := ⟨vb, k, none⟩) (v := .int .u8 u'.toNat) ((O5.out.cellAt k (by omega)).trans (by simp [u8s, hu'])) (by simp)
                by_cases hq : u' = u
                · subst hq
                  clear hu hu'
                  go_wp2_with fail
                  refine Plan.wp_region_plan (fun w' => w'.cell? ⟨vb, k, none⟩ = some (.int .u8 u'.toNat) ∧ w'.cell? ⟨ab, aoff + k, none⟩ = some (.int .u8 u'.toNat)) 8 [(true, 0), (true, 1), (true, 2), (true, 3), (true, 4), (true, 5), (true, 6), (true, 7)] (by kernel_rfl) (by kernel_rfl) (by kernel_rfl) (fun _ _ _ _ _ h => h) ?_ (fun hS => ?_)
                  (· exact ⟨cc, cb⟩)
                  simp only [Plan.pick, List.getElem?_cons_zero, List.getElem?_cons_succ, Option.getD_some, List.drop_succ_cons, List.drop_zero]
                  repeat (first | (refine Plan.take (v := ?_) (a' := ?_) (by rfl) ?_ ?_ ?_; rotate_left 2; (· (intro w' hS'; (try dsimp only at hS'); go_simp; try with_reducible rfl)); (· (simp only [Act.put, List.setIfInBounds_toArray, List.set_cons_zero, List.set_cons_succ]; try with_reducible rfl))) | (refine Plan.pass (a' := ?_) (by rfl) ?_ ?_; rotate_left 1; (· (simp only [Act.put, List.setIfInBounds_toArray, List.set_cons_zero, List.set_cons_succ]; try with_reducible rfl))))
                  refine Plan.fin ?_
                  go_wp2_with fail
                  go_roundw
                  case rel => exact ⟨k + 1, tn, by omega, htn, fun h => by have := hpk h; omega, rfl, by go_num, HW3.out.drew⟩
                  case measure => simp [intOf]; omega
                · have hkp : k = p := Classical.byContradiction fun hne => hq (by have := HPp.out k hne; rw [hu', hu] at this; simpa using this)
                  have ht0 : tn = 0 := by rcases Nat.eq_zero_or_pos tn with h | h; exact h; have := hpk (by omega); omega
                  clear hpk
                  subst ht0
                  have hq1 : (u'.toNat : Int) ≠ (u.toNat : Int) := fun h => hq (UInt8.toNat_inj.1 (by omega))
                  have HQ := hid hq1
                  have HKP := hid hkp
                  clear hq1 hq hkp
                  clear hu hu'
                  go_wp2_with fail
                  refine Plan.wp_region_plan (fun w' => w'.cell? ⟨vb, k, none⟩ = some (.int .u8 u'.toNat) ∧ w'.cell? ⟨ab, aoff + k, none⟩ = some (.int .u8 u.toNat)) 8 [(true, 0), (true, 1), (true, 2), (true, 3), (true, 4), (true, 5), (true, 6), (true, 7)] (by kernel_rfl) (by kernel_rfl) (by kernel_rfl) (fun _ _ _ _ _ h => h) ?_ (fun hS => ?_)
                  (· exact ⟨cc, cb⟩)
                  simp only [Plan.pick, List.getElem?_cons_zero, List.getElem?_cons_succ, Option.getD_some, List.drop_succ_cons, List.drop_zero]
                  repeat (first | (refine Plan.take (v := ?_) (a' := ?_) (by rfl) ?_ ?_ ?_; rotate_left 2; (· (intro w' hS'; (try dsimp only at hS'); go_simp; try with_reducible rfl)); (· (simp only [Act.put, List.setIfInBounds_toArray, List.set_cons_zero, List.set_cons_succ]; try with_reducible rfl))) | (refine Plan.pass (a' := ?_) (by rfl) ?_ ?_; rotate_left 1; (· (simp only [Act.put, List.setIfInBounds_toArray, List.set_cons_zero, List.set_cons_succ]; try with_reducible rfl))))
                  refine Plan.fin ?_
                  have hq1 := HQ.out
                  have hq2 : ((u'.toNat : Int) == (u.toNat : Int)) = false := by simpa using hq1
                  have hq3 : ((u'.toNat : Int) != (u.toNat : Int)) = true := by simpa using hq1
                  go_wp2_with fail
                  go_roundw
                  case rel => exact ⟨k + 1, 1, by omega, Nat.le_refl _, fun _ => by have := HKP.out; omega, by rfl, by go_num, HW3.out.drew⟩
                  case measure => simp [intOf]; omega
              · have hge : (bs.length : Int) ≤ (k : Int) := by omega
                go_wp2_with fail
                go_roundw
                case rel => exact ⟨ms3, F5, N5.out.k HW3.out, F5'.out, K5.out.nil_trans HW3.out (fun _ h => by cases h), HI3.out, by simp at l6; omega⟩
                case measure => rw [mailLen_rep (N5.out.k HW3.out), mailLen_rep N6.out]; simp

end Go.Proofs.Ythgdknhocjlphaa
