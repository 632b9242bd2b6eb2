/- NetPlays, walked. -/
import Derived.Test.YthgdknhocjlphaaNetR
namespace Go.Proofs.Ythgdknhocjlphaa
open Go Go.RowKit

/-- An operation of a script, as it lies in memory. -/
def OpAt (w : World) (B b o : Nat) : Prop :=
  ∃ (kind i at_ by_ : Int) (a : Option Addr) (c : Nat) (bs : List UInt8), w.cell? ⟨b, o, none⟩ = some (.int .i64 kind) ∧ w.cell? ⟨b, o + 1, none⟩ = some (.int .i64 i) ∧ w.cell? ⟨b, o + 2, none⟩ = some (.int .i64 at_) ∧ w.cell? ⟨b, o + 3, none⟩ = some (.int .i64 by_) ∧
    w.cell? ⟨b, o + 4, none⟩ = some (.slice a bs.length c) ∧ (Lit.int .i64 kind).wf = true ∧ (Lit.int .i64 i).wf = true ∧ Reads w 1 (.slice a bs.length c) bs.length (u8s bs) ∧ (∀ k ∈ ownB (.slice a bs.length c), bs.length ≠ 0 → k < B)

set_option maxRecDepth 100000 in
set_option maxHeartbeats 1600000 in
theorem NetPlays_any (room : Int) (b off len cap : Nat) (w : World) (hb : 0 < len → b < w.heap.size) (hop : ∀ j, j < len → OpAt w w.heap.size b (off + j * 5)) (a0 : Option Addr) (ha : 0 < len → a0 = some ⟨b, off, none⟩) :
    Calls Try.prog 5 #[.int .i64 room, .slice a0 len cap] w fun e w' => e = .returned (.bool true) ∧ Below w.heap.size w w' := by
  have HOP := hid hop
  have HA := hid ha
  clear hop ha
  go_enter Try.func5, Try.ntmps5
  go_wp2_with fail
  refine (netNew_any room _).mono ?_
  rintro e w1 ⟨rfl, n1, k1⟩
  have N1 := hid n1
  have K1 := hid k1
  clear n1 k1
  go_wp2_with fail
  refine (rnetNew_any room _).mono ?_
  rintro e w2 ⟨rfl, n2, k2⟩
  have N2 := hid n2
  have K2 := hid k2
  clear n2 k2
  have hl1 : w.heap.size < w1.heap.size := N1.out.lt _ (by simp)
  have hl2 : w1.heap.size < w2.heap.size := N2.out.lt _ (by simp)
  have D : Hid (Duo w.heap.size w2 w.heap.size w1.heap.size (roomOf room) []) :=
    ⟨_, _, N1.out.k K2.out, N2.out, by simp; omega, by simp, by simp; omega, by omega, Nat.zero_le _, by unfold roomOf; omega, by simp⟩
  have BL : Hid (Below w.heap.size w w2) := (K1.out.below (Nat.le_refl _) (fun _ h => by cases h)).trans (K2.out.below (by omega) (fun _ h => by cases h))
  go_wp2_with fail
  go_loopw [7] (fun i wr => ∃ k : Nat, k ≤ len ∧ k ≤ 80 ∧ i = .int .i64 k ∧ Hid (∃ ms, Duo w.heap.size wr w.heap.size w1.heap.size (roomOf room) ms ∧ Below w.heap.size w wr)) (fun i _ => len - (intOf i).toNat)
  case atStart => exact ⟨0, Nat.zero_le _, Nat.zero_le _, rfl, _, D.out, BL.out⟩
  case round =>
    obtain ⟨k, hk, hk8, rfl, HW⟩ := hrel
    obtain ⟨ms, DU, BE⟩ := HW.out
    have HD := hid DU
    have HB := hid BE
    clear DU BE
    have i0 : (0 : Int) ≤ (k : Int) := Int.natCast_nonneg _
    by_cases hlt : k < len ∧ k < 80
    · obtain ⟨hlt, hlt8⟩ := hlt
      have ha := HA.out (by omega)
      subst ha
      have i1 : (k : Int) < (len : Int) := by omega
      have i2 : (k : Int) < 80 := by omega
      obtain ⟨kind, i, at_, by_, a, c, bs, c0, c1, c2, c3, c4, wk, _, hr, hbB⟩ := HOP.out k hlt
      have hb := hb (by omega)
      have d0 := (HB.out.cell (p := ⟨b, off + k * 5, none⟩) hb).trans c0
      have d1 := (HB.out.cell (p := ⟨b, off + k * 5 + 1, none⟩) hb).trans c1
      have d2 := (HB.out.cell (p := ⟨b, off + k * 5 + 2, none⟩) hb).trans c2
      have d3 := (HB.out.cell (p := ⟨b, off + k * 5 + 3, none⟩) hb).trans c3
      have d4 := (HB.out.cell (p := ⟨b, off + k * 5 + 4, none⟩) hb).trans c4
      have HR : Hid (Reads wr 1 (.slice a bs.length c) bs.length (u8s bs)) := hr.belowN HB.out hbB
      have HBB := hid hbB
      clear c0 c1 c2 c3 c4 hr hbB
      by_cases h5 : 500 < bs.length
      · go_wp2_with fail
        refine (awake_any _).mono ?_
        rintro e w3 ⟨rfl, k3⟩
        go_wp2_with fail
        go_ret
        exact ⟨rfl, HB.out.trans (k3.below HB.out.size (fun _ h => by cases h))⟩
      · go_wp2_with fail
        refine (do_any w.heap.size w.heap.size w1.heap.size (roomOf room) ms kind i at_ by_ (.slice a bs.length c) bs _ HD.out wk HR.out (by omega) HBB.out).mono ?_
        rintro e w3 ⟨rfl, ms', D3, B3⟩
        have HD3 := hid D3
        have HB3 := hid (HB.out.trans B3)
        clear D3 B3
        go_wp2_with fail
        obtain ⟨F, F2, r1, r2, _, _, _, hs3, hg3⟩ := HD3.out
        have R1 := hid r1
        have R2 := hid r2
        have HG := hid hg3
        clear r1 r2 hg3
        refine (same_any w.heap.size w1.heap.size (roomOf room) (roomOf room) ms' F F2 _ R1.out R2.out HG.out.small).mono ?_
        rintro e w4 ⟨rfl, k4⟩
        have K4 := hid k4
        clear k4
        go_wp2_with fail
        go_roundw
        case rel => exact ⟨k + 1, by omega, by omega, by go_num, ms', (HD3.out.below K4.out).1, HB3.out.trans (K4.out.below hs3 (fun _ h => by cases h))⟩
        case measure => simp [intOf]; omega
    · have hx : ¬ k < len ∨ (k < len ∧ k = 80) := by omega
      rcases hx with hx | ⟨hx, rfl⟩
      all_goals
        obtain ⟨F, F2, r1, r2, _, _, _, hs3, hg3⟩ := HD.out
        have R1 := hid r1
        have R2 := hid r2
        have HG := hid hg3
        clear r1 r2 hg3
        go_wp2_with fail
        refine (same_any w.heap.size w1.heap.size (roomOf room) (roomOf room) ms F F2 _ R1.out R2.out HG.out.small).mono ?_
        rintro e w4 ⟨rfl, k4⟩
        have K4 := hid k4
        clear k4
        go_wp2_with fail
        refine (awake_any _).mono ?_
        rintro e w5 ⟨rfl, k5⟩
        go_wp2_with fail
        go_ret
        exact ⟨rfl, HB.out.trans ((K4.out.below hs3 (fun _ h => by cases h)).trans (k5.below (Nat.le_trans hs3 K4.out.size) (fun _ h => by cases h)))⟩

end Go.Proofs.Ythgdknhocjlphaa
