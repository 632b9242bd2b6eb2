/- conf, awake. -/
import Derived.Test.YtpppoajnbhipeaaCoreZ
import Derived.Test.YtpppoajnbhipeaaCoreT
namespace Go.Proofs.Ytpppoajnbhipeaa
open Go Go.RowKit

def confOf (n : Int) : ConfD := { nodes := 3 + placeOf n 3, clients := 2, heart := 2, lo := 8, range := 40, sessions := 3, snap := 9, room := 200, retry := 9 }

set_option maxHeartbeats 800000 in
theorem lConf_any (n : Int) (w : World) (wn : (Lit.int .i64 n).wf = true) : Calls Try.prog 51 #[.int .i64 n, .int .i64 2, .int .i64 20, .int .i64 2] w fun e w' => e = .returned (confV (confOf n)) ∧ Keeps [] w w' := by
  obtain ⟨p, hp⟩ : ∃ p, placeOf n 3 = p := ⟨_, rfl⟩
  have hb := placeOf_bd n 3 (by omega)
  rw [hp] at hb
  obtain ⟨b1, b2⟩ := hb
  have HP := hid hp
  clear hp
  go_enter Try.func51, Try.ntmps51
  go_wp2_with fail
  refine (place_is p n 3 _ (by omega) (by omega) wn HP.out).mono ?_
  rintro e w' ⟨rfl, hw'⟩
  subst hw'
  go_wp2_with fail
  refine (place_is 2 2 4 _ (by omega) (by omega) (by decide) (by decide)).mono ?_
  rintro e w' ⟨rfl, hw'⟩
  subst hw'
  go_wp2_with fail
  refine (place_is 2 2 4 _ (by omega) (by omega) (by decide) (by decide)).mono ?_
  rintro e w' ⟨rfl, hw'⟩
  subst hw'
  go_wp2_with fail
  refine (place_is 8 20 12 _ (by omega) (by omega) (by decide) (by decide)).mono ?_
  rintro e w' ⟨rfl, hw'⟩
  subst hw'
  go_wp2_with fail
  refine bodyPost_ret (v := .agg #[.int .i64 (3 + p), .int .i64 2, .int .i64 2, .int .i64 8, .int .i64 40, .int .i64 3, .int .i64 9, .int .i64 200, .int .i64 9]) (by simp [results, Try.results51, go_sem]) rfl ⟨?_, (Keeps.refl [] w).alloc _⟩
  simp only [confV, confOf, HP.out]

set_option maxHeartbeats 800000 in
theorem cConf_any (n : Int) (w : World) (wn : (Lit.int .i64 n).wf = true) : Calls Try.prog 19 #[.int .i64 n] w fun e w' => e = .returned (confV (confOf n)) ∧ Keeps [] w w' := by
  obtain ⟨p, hp⟩ : ∃ p, 3 + placeOf n 3 = p := ⟨_, rfl⟩
  have HP := hid hp
  clear hp
  go_enter Try.func19, Try.ntmps19
  go_wp2_with fail
  refine (lConf_any n _ wn).mono ?_
  rintro e w1 ⟨rfl, k1⟩
  unfold confV confOf
  simp only [HP.out]
  obtain ⟨⟨c0, c1, c2, c3, c4, c5, c6, c7, c8⟩, f1⟩ := blk9 ((k1.block w.heap.size (by simp) (by simp)).trans (heap_alloc_new w _))
  have K1 := hid (((Keeps.refl [] w).alloc _).trans k1 (fun _ _ h => h))
  have HZ : Hid (w.heap.size < w1.heap.size) := World.block_lt_of_cell? _ _ c0
  have B0 : w1.heap[w.heap.size]? = some (.cells #[.int .i64 0, .int .i64 0, .int .i64 0, .int .i64 0, .int .i64 0, .int .i64 0, .int .i64 0, .int .i64 0, .int .i64 0] 23 (0, 0)) := (k1.block w.heap.size (by simp) (by simp)).trans (heap_alloc_new w _)
  have h9 := (heap_setCell_same _ _ 8 _ _ (.int .i64 9) (heap_setCell_same _ _ 7 _ _ (.int .i64 200) (heap_setCell_same _ _ 6 _ _ (.int .i64 9) (heap_setCell_same _ _ 5 _ _ (.int .i64 3) (heap_setCell_same _ _ 4 _ _ (.int .i64 40) (heap_setCell_same _ _ 3 _ _ (.int .i64 8) (heap_setCell_same _ _ 2 _ _ (.int .i64 2) (heap_setCell_same _ _ 1 _ _ (.int .i64 2) (heap_setCell_same _ _ 0 _ _ (.int .i64 p) B0)))))))))
  simp only [List.setIfInBounds_toArray, List.set_cons_zero, List.set_cons_succ] at h9
  have HB9 := hid h9
  clear B0 h9
  have hz := HZ.out
  have hne : ¬ w.heap.size = w1.heap.size := by omega
  have hne2 : ¬ w1.heap.size = w.heap.size := by omega
  clear k1
  go_wp2_with fail
  refine bodyPost_ret (v := .agg #[.int .i64 p, .int .i64 2, .int .i64 2, .int .i64 8, .int .i64 40, .int .i64 3, .int .i64 9, .int .i64 200, .int .i64 9]) (results_cell_row rfl _ _ w.heap.size 23 _ (0, 0) _ rfl ((Below.heap_alloc _ _ _ (by simp; omega)).trans HB9.out) Try.underlying23 rfl (by kernel_rfl)) rfl ⟨by simp only [confV, confOf, HP.out], ?_⟩
  have K2 := K1.out
  (repeat (first | (with_reducible exact Keeps.refl _ _) | (with_reducible assumption) | ((with_reducible refine Keeps.setCell ?_ ?_ _); rotate_left 1; (· first | (refine .inl ?_; simp; done) | (refine .inr ?_; first | exact Nat.le_refl _ | (simp; done) | (simp; omega) | omega))) | (with_reducible refine Keeps.alloc ?_ _) | (with_reducible refine Keeps.drewN ?_ _) | (with_reducible refine Keeps.drew ?_)))

def cf0 : ConfD := { nodes := 3, clients := 2, heart := 2, lo := 5, range := 40, sessions := 3, snap := 9, room := 200, retry := 9 }

def core0 : CoreD := newD cf0 1 0 0 0 0 []
/-- The core of the example behind k ticks. -/
def coreK (k : Nat) : CoreD := { drawD core0 2 with patience := k }
theorem coreK_succ (k : Nat) : ({ coreK k with patience := (coreK k).patience + 1 } : CoreD) = coreK (k + 1) := by
  unfold coreK
  simp

set_option maxRecDepth 100000 in
set_option maxHeartbeats 1600000 in
theorem cAwake_any (w : World) : Calls Try.prog 17 #[] w fun e w' => e = .returned (.bool true) ∧ Keeps [] w w' := by
  have hm : mayNewD cf0 1 0 0 0 0 [] = true := by decide
  have HM := hid hm
  have HP0 : Hid (placeOf 0 3 = 0) := by show _ = _; decide
  clear hm
  go_enter Try.func17, Try.ntmps17
  go_wp2_with fail
  refine (cConf_any 0 _ (by decide)).mono ?_
  rintro e w1 ⟨rfl, k1⟩
  unfold confV confOf
  simp only [HP0.out]
  have K1 := k1
  clear k1
  go_wp2_with fail
  refine (cNew_any cf0 1 0 0 0 0 [] none 0 (fun _ => True) _ (ListAt.nil _ _ _ _) (by simp)).mono ?_
  rintro e w2 h2
  obtain ⟨n, lv, sv, rfl, hc, hk⟩ : NewYes cf0 1 0 0 0 0 [] _ e w2 := by
    rcases h2 with ⟨_, h⟩ | ⟨h, _⟩
    · exact h
    · rw [HM.out] at h; cases h
  clear h2
  have K2 : Hid (Keeps [] w w2) := Keeps.trans (by (repeat (first | (with_reducible exact Keeps.refl _ _) | (with_reducible assumption) | ((with_reducible refine Keeps.setCell ?_ ?_ _); rotate_left 1; (· first | (refine .inl ?_; simp; done) | (refine .inr ?_; first | exact Nat.le_refl _ | (simp; done) | (simp; omega) | omega))) | (with_reducible refine Keeps.alloc ?_ _) | (with_reducible refine Keeps.drewN ?_ _) | (with_reducible refine Keeps.drew ?_)))) hk (fun _ _ h => h)
  have C2 := hid (hc.lower (B' := w.heap.size) (Keeps.size (F := []) (by (repeat (first | (with_reducible exact Keeps.refl _ _) | (with_reducible assumption) | ((with_reducible refine Keeps.setCell ?_ ?_ _); rotate_left 1; (· first | (refine .inl ?_; simp; done) | (refine .inr ?_; first | exact Nat.le_refl _ | (simp; done) | (simp; omega) | omega))) | (with_reducible refine Keeps.alloc ?_ _) | (with_reducible refine Keeps.drewN ?_ _) | (with_reducible refine Keeps.drew ?_))))))
  clear hc hk
  go_wp2_with fail
  refine (cDraw_any w2 w.heap.size n core0 lv sv 2 C2.out).mono ?_
  rintro e w3 ⟨rfl, hc, hk⟩
  have C3 : Hid (CoreAt w3 w.heap.size n (coreK 0) lv sv) := hc
  have HB : Hid (w.heap.size ≤ n) := C2.out.base
  have K3 : Hid (Keeps [] w w3) := K2.out.trans hk (fun b hb hb' => by simp at hb'; subst hb'; have := HB.out; omega)
  clear hc hk K2 C2
  go_wp2_with fail
  go_loopw [4] (fun i wr => ∃ k : Nat, k ≤ 6 ∧ i = .int .i64 k ∧ Hid (CoreAt wr w.heap.size n (coreK k) lv sv ∧ Keeps [] w wr)) (fun i _ => 6 - (intOf i).toNat)
  case atStart => exact ⟨0, by omega, rfl, C3.out, K3.out⟩
  case round =>
    obtain ⟨k, hk, rfl, HW⟩ := hrel
    by_cases hlt : k < 6
    · have i1 : (k : Int) < 6 := by omega
      go_wp2_with fail
      refine (tick_wait _ w.heap.size n (coreK k) lv sv HW.out.1 (by show (0 : Int) ≠ 2; decide) ⟨by show (0 : Int) ≤ (k : Int); omega, by show (k : Int) ≤ 1000000000; omega⟩ (by show (k : Int) + 1 < 5 + max 0 (min 2 40); omega)).mono ?_
      rintro e w4 ⟨rfl, hc, hk4⟩
      rw [coreK_succ] at hc
      have W4 : Hid (CoreAt w4 w.heap.size n (coreK (k + 1)) lv sv ∧ Keeps [] w w4) := ⟨hc, HW.out.2.trans hk4 (fun b hb hb' => by simp at hb'; subst hb'; have := HB.out; omega)⟩
      clear hc hk4
      go_wp2_with fail
      go_roundw
      case rel => exact ⟨k + 1, by omega, by go_num, W4.out⟩
      case measure => simp [intOf]; omega
    · have hk6 : k = 6 := by omega
      subst hk6
      have HO : Hid (othersD (runD (coreK 6)) (voteMsg (runD (coreK 6))) = [voteMsg (runD (coreK 6)) 2, voteMsg (runD (coreK 6)) 3]) := by show _ = _; rfl
      go_wp2_with fail
      refine (tick_run _ w.heap.size n (coreK 6) lv sv HW.out.1 (by show (0 : Int) ≠ 2; decide) ⟨by decide, by decide⟩ (by decide) (by decide)).mono ?_
      rintro e w4 ⟨a, q, rfl, hc, hl, hk4⟩
      rw [HO.out] at hl ⊢
      obtain ⟨g, off, q', ha, _, _, _, _⟩ := hl.addr (by simp)
      simp at ha
      obtain ⟨ha, hq⟩ := ha
      subst ha
      subst hq
      obtain ⟨cs1, ⟨ev1, dv1, rfl, _⟩, hc1⟩ := hl.get (i := 0) rfl
      obtain ⟨cs2, ⟨ev2, dv2, rfl, _⟩, hc2⟩ := hl.get (i := 1) rfl
      have m0 : w4.cell? ⟨g, off, none⟩ = some (.int .i64 1) := hc1 0 _ rfl
      have m2 : w4.cell? ⟨g, off + 2, none⟩ = some (.int .i64 2) := hc1 2 _ rfl
      have m3 : w4.cell? ⟨g, off + 10 + 2, none⟩ = some (.int .i64 3) := hc2 2 _ rfl
      have KF : Hid (Keeps [] w w4) := HW.out.2.trans hk4 (fun b hb hb' => by simp at hb'; subst hb'; have := HB.out; omega)
      have HC := hid hc
      clear hc hl hc1 hc2 hk4
      go_wp2_with fail
      refine (cTerm_any _ w.heap.size n (runD (coreK 6)) lv sv HC.out).mono ?_
      rintro e w' ⟨rfl, hw'⟩
      subst hw'
      have t1 : (runD (coreK 6)).term = 1 := rfl
      have t2 : (runD (coreK 6)).role = 1 := rfl
      rw [t1]
      go_wp2_with fail
      refine (cRole_any _ w.heap.size n (runD (coreK 6)) lv sv HC.out).mono ?_
      rintro e w' ⟨rfl, hw'⟩
      subst hw'
      rw [t2]
      go_wp2_with fail
      go_ret
      exact ⟨rfl, KF.out⟩

end Go.Proofs.Ytpppoajnbhipeaa
