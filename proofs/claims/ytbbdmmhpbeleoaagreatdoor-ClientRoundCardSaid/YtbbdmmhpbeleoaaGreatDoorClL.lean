/- ClientRound, walked. -/
import Derived.Test.YtbbdmmhpbeleoaaGreatDoorQ39

set_option linter.unusedSimpArgs false
set_option linter.unusedVariables false
namespace Go.Proofs.YtbbdmmhpbeleoaaGreatDoor
open Go Go.RowKit

/-- The client behind k ticks without an answer. -/
def roundC (cf : ConfD) (R N : Nat) (k : Nat) : CliD :=
  ⟨cf, 102, (((k / R) % N : Nat) : Int) + 1, 0, 0, 1, ((k % R : Nat) : Int), readC1 ⟨#[97]⟩, ⟨6, 102, 0, 0, 0, 0, 1, false, [], [2]⟩, 1, zeroR⟩
def roundM (k : Int) : MsgD := ⟨6, 102, k, 0, 0, 0, 1, false, [], [2]⟩
theorem round_call (cf : ConfD) (R N : Nat) (hN : 1 ≤ N) : callD (cliNew cf 102) (readC ⟨#[97]⟩) = (roundC cf R N 0, [roundM 1], 0) := by
  rw [call_read _ name_a rfl (by show (0 : Int) < _; decide) (by show (0 : Int) < _; decide), ask_none _ (by show ¬ (0 : Int) < 0; decide)]
  simp [roundC, roundM, cliNew]
theorem round_busy (cf : ConfD) (R N k : Nat) (x : CmdD) : callD (roundC cf R N k) x = (roundC cf R N k, [], 20) := if_pos (by show (1 : Nat) ≠ 0; decide)
theorem div_step {R k : Nat} (hR : 1 ≤ R) (h : k % R + 1 < R) : (k + 1) / R = k / R ∧ (k + 1) % R = k % R + 1 := by
  have h1 := Nat.div_add_mod k R
  have h2 : k + 1 = R * (k / R) + (k % R + 1) := by omega
  rw [h2, Nat.mul_add_div (by omega), Nat.mul_add_mod, Nat.div_eq_of_lt h, Nat.mod_eq_of_lt h]
  exact ⟨by rw [Nat.add_zero], rfl⟩
theorem div_turn {R k : Nat} (hR : 1 ≤ R) (h : ¬ k % R + 1 < R) : (k + 1) / R = k / R + 1 ∧ (k + 1) % R = 0 := by
  have h0 := Nat.mod_lt k (show 0 < R by omega)
  have h1 := Nat.div_add_mod k R
  have h3 : k + 1 = R * (k / R + 1) := by rw [Nat.mul_add, Nat.mul_one]; omega
  rw [h3, Nat.mul_div_cancel_left _ (by omega), Nat.mul_mod_right]
  exact ⟨rfl, rfl⟩
theorem round_still (cf : ConfD) (R N k : Nat) (hR : 1 ≤ R) (hr : cf.retry = R) (h : k % R + 1 < R) : ctickD (roundC cf R N k) = (roundC cf R N (k + 1), []) := by
  obtain ⟨h1, h2⟩ := div_step hR h
  unfold ctickD
  rw [if_neg (by show ¬ (1 : Nat) = 0; decide), if_pos (by show ((k % R : Nat) : Int) + 1 < cf.retry; omega)]
  unfold roundC
  rw [h1, h2]
  simp
theorem round_turn (cf : ConfD) (R N k : Nat) (hR : 1 ≤ R) (hN : 1 ≤ N) (hr : cf.retry = R) (hn : cf.nodes = N) (h : ¬ k % R + 1 < R) : ctickD (roundC cf R N k) = (roundC cf R N (k + 1), [roundM ((((k + 1) / R) % N : Nat) + 1)]) := by
  obtain ⟨h1, h2⟩ := div_turn hR h
  have h0 := Nat.mod_lt k (show 0 < R by omega)
  have e : ((((k / R) % N : Nat) : Int) + 1).tmod cf.nodes = ((((k + 1) / R) % N : Nat) : Int) := by
    rw [hn, h1, Int.tmod_eq_emod_of_nonneg (by omega), show (((k / R) % N : Nat) : Int) + 1 = ((((k / R) % N + 1 : Nat)) : Int) by omega, ← Int.natCast_emod, Nat.mod_add_mod]
  unfold ctickD
  rw [if_neg (by show ¬ (1 : Nat) = 0; decide), if_neg (by show ¬ ((k % R : Nat) : Int) + 1 < cf.retry; omega)]
  unfold againD
  have e' : (roundC cf R N k).node.tmod (roundC cf R N k).conf.nodes = ((((k + 1) / R) % N : Nat) : Int) := e
  rw [e']
  unfold roundC roundM
  rw [h2]
  simp

set_option maxRecDepth 100000 in
set_option maxHeartbeats 16000000 in
theorem round_any (nodes retry nn : Int) (w : World) (hT : Tabs w) (hE : Errs w) (wn : (Lit.int .i64 nodes).wf = true) (wr : (Lit.int .i64 retry).wf = true) (wk : (Lit.int .i64 nn).wf = true) :
    Calls Tryz.prog 11 #[.int .i64 nodes, .int .i64 retry, .int .i64 nn] w fun e w' => e = .returned (.bool true) ∧ Keeps [] w w' := by
  have HT := hid hT
  have HE := hid hE
  have HAW := hid (fun wx (k : Keeps [] w wx) => awake24_any wx (hT.k k) (hE.k k))
  have HCF := hid (fun w1 => conf24_any nodes retry w1 wn wr)
  have hp := placeOf_bd retry 6 (by decide)
  have hq := placeOf_bd nodes 3 (by decide)
  have hz := placeOf_bd nn 80 (by decide)
  obtain ⟨R, hR⟩ : ∃ R : Nat, (R : Int) = 1 + placeOf retry 6 := ⟨(1 + placeOf retry 6).toNat, by omega⟩
  obtain ⟨N, hN⟩ : ∃ N : Nat, (N : Int) = 3 + placeOf nodes 3 := ⟨(3 + placeOf nodes 3).toNat, by omega⟩
  obtain ⟨Z, hZ⟩ : ∃ Z : Nat, placeOf nn 80 = (Z : Int) := ⟨(placeOf nn 80).toNat, by omega⟩
  have hR1 : 1 ≤ R ∧ R ≤ 6 := by omega
  have hN1 : 3 ≤ N ∧ N ≤ 5 := by omega
  have hZ1 : Z < 80 := by omega
  have HP := hid (fun w1 => place_is (Z : Int) nn 80 w1 (by decide) (by decide) wk hZ)
  have hcf : conf24D nodes retry = ⟨(N : Int), 3, 2, 8, 40, 3, 6, 200, (R : Int)⟩ := by unfold conf24D; rw [hR, hN]
  obtain ⟨cf, hcf2⟩ : ∃ cf : ConfD, cf = ⟨(N : Int), 3, 2, 8, 40, 3, 6, 200, (R : Int)⟩ := ⟨_, rfl⟩
  have hcr : cf.retry = (R : Int) := by rw [hcf2]
  have hcn : cf.nodes = (N : Int) := by rw [hcf2]
  have hcc : cf.clients = 3 := by rw [hcf2]
  rw [hcf] at HCF
  have HNEW : Hid (∀ (Q : Nat → Prop) (w1 : World), ¬ Q (w1.heap.size + 1) → Calls Tryz.prog 29 #[confVal ⟨(N : Int), 3, 2, 8, 40, 3, 6, 200, (R : Int)⟩, .int .i64 102] w1 fun e w' => e = .returned (.tuple #[.pointer (some ⟨w1.heap.size + 1, 0, none⟩), .int .i64 0]) ∧ CliAt w' (w1.heap.size + 1) Q (cliNew cf 102) (.slice none 0 0) .nilFunc ∧ Keeps [] w1 w') := fun Q w1 hQ => by
    have := clNew_yes cf 102 Q w1 ⟨by decide, by rw [hcc]; decide, by rw [hcn]; omega, by rw [hcn]; omega, by rw [hcr]; omega⟩ (by decide) hQ
    rw [hcf2] at this ⊢
    exact this
  have HCALL := hid (round_call cf R N (by omega))
  have HBUSY := hid (fun k x => round_busy cf R N k x)
  have HSTILL := hid (fun k h => round_still cf R N k (by omega) hcr h)
  have HTURN := hid (fun k h => round_turn cf R N k (by omega) (by omega) hcr hcn h)
  have HCR := hid hcr
  have HCN := hid hcn
  clear hT hE wn wr wk hp hq hz hR hN hZ hcf hcf2 hcr hcn hcc
  unfold confVal at HCF
  dsimp only at HCF
  go_enter Tryz.func11, Tryz.ntmps11
  go_wp2_with fail
  refine (HCF.out _).mono ?_
  rintro e w1 ⟨rfl, hk⟩
  have K1 := hid hk
  clear hk
  go_wp2_with fail
  obtain ⟨wA, hwA⟩ : ∃ wA, w1.alloc (.cells #[.int .i64 N, .int .i64 3, .int .i64 2, .int .i64 8, .int .i64 40, .int .i64 3, .int .i64 6, .int .i64 200, .int .i64 R] 47) = wA := ⟨_, rfl⟩
  have KA : Hid (Keeps [] w wA) := by rw [← hwA]; exact K1.out.trans (G := []) (by exact Keeps.K) (fun _ _ h => h)
  have HF : Hid (wA.heap[w1.heap.size]? = some (.cells #[.int .i64 N, .int .i64 3, .int .i64 2, .int .i64 8, .int .i64 40, .int .i64 3, .int .i64 6, .int .i64 200, .int .i64 R] 47 (0, 0))) := by rw [← hwA]; exact heap_alloc_new _ _
  rw [hwA]
  clear hwA
  refine (HNEW.out (fun b => wA.heap.size + 2 ≤ b) wA (by omega)).mono ?_
  rintro e w2 ⟨rfl, h2, hk⟩
  have K2 : Hid (Keeps [] w w2) := KA.out.trans hk (fun _ _ h => h)
  have KA2 := hid hk
  have hn := h2.lt
  have H2 := hid h2
  clear hk h2
  go_wp2_with fail
  refine (read24_any ⟨#[97]⟩ _).mono ?_
  rintro e w3 ⟨rfl, hk⟩
  have K3 : Hid (Keeps [] w w3) := K2.out.trans hk (fun _ _ h => h)
  have KA3 : Hid (Keeps [] wA w3) := KA2.out.trans hk (fun _ _ h => h)
  have H3 := hid (H2.out.k hk)
  have hz3 := hk.size
  clear hk
  go_wp2_with fail
  refine (clCall_any w3 (wA.heap.size + 1) _ (cliNew cf 102) _ _ (readC ⟨#[97]⟩) (HT.out.k K3.out) (HE.out.k K3.out) H3.out (by show (0 : Int) ≤ 0; decide) (by show (0 : Int) ≤ _; decide) (by show (0 : Int) ≤ 0; decide) (readI _) (by show (0 : Nat) ≤ _; decide) (fun b hb => by show wA.heap.size + 2 ≤ b; omega)).mono ?_
  rw [HCALL.out]
  rintro e w4 ⟨v, rfl, a4, q4, dv4, fv4, rfl, h4, l4, hk⟩
  dsimp only at h4 l4 hk ⊢
  have H4 := hid h4
  have hwA := KA.out.size
  have K4 : Hid (Keeps [] w w4) := K3.out.trans hk (fun x hx hx' => by simp at hx'; omega)
  have KA4 : Hid (Keeps [] wA w4) := KA3.out.trans hk (fun x hx hx' => by simp at hx'; omega)
  obtain ⟨g4, o4, k4, e4, c4, d4, f4, ha4, y0, y1, y2, y3, y4, y5, y6, y7, y8, y9, ye, yb⟩ := l4.msg (j := 0) rfl
  simp only [Value.slice.injEq] at ha4
  obtain ⟨rfl, -, rfl⟩ := ha4
  have cv : (convert 28 9 (.slice d4 (roundM 1).data.length f4)).run Tryz.prog w4 = .ok (.string (str (roundM 1).data)) w4 := cv_str yb.1 rfl
  simp only [roundM, List.length_cons, List.length_nil, Nat.zero_add, Nat.zero_mul, Nat.add_zero] at y2 y9 cv ⊢
  clear hk h4 l4 y0 y1 y3 y4 y5 y6 y7 y8 ye yb
  go_wp2_with fail
  clear cv y2 y9
  go_loopw [13] (fun i wr => ∃ (k : Nat), i = .int .i64 (k + 1 : Nat) ∧ k ≤ Z ∧ Hid (Keeps [] wA wr ∧ ∃ dv fv, CliAt wr (wA.heap.size + 1) (fun b => wA.heap.size + 2 ≤ b) (roundC cf R N k) dv fv)) (fun i _ => 100 - (intOf i).toNat)
  case atStart => exact ⟨0, rfl, by omega, KA4.out, dv4, fv4, H4.out⟩
  case round =>
    obtain ⟨k, rfl, hk, HW⟩ := hrel
    have HKZ := hid hk
    by_cases hlt : k < Z
    · obtain ⟨iz, hiz⟩ : ∃ iz : Int, ((k + 1 : Nat) : Int) = iz := ⟨_, rfl⟩
      have HI := hid hiz
      have i0 : 1 ≤ iz := by omega
      have i1 : iz ≤ (Z : Int) := by omega
      have i2 : iz ≤ 80 := by omega
      have hw : IntKind.i64.wrap (iz + 1) = iz + 1 := by rw [IntKind.wrap_i64]; omega
      rw [hiz]
      clear hiz hk
      obtain ⟨hka, dvk, fvk, hck⟩ := HW.out
      have HK := hid hka
      have HC := hid hck
      have hRI : 1 ≤ (R : Int) ∧ (R : Int) ≤ 6 := by omega
      have hNI : 3 ≤ (N : Int) ∧ (N : Int) ≤ 5 := by omega
      have HRI := hid hRI
      have HNI := hid hNI
      have hRz : (R : Int) ≠ 0 := by omega
      have hNz : (N : Int) ≠ 0 := by omega
      have hTD : (roundC cf R N k).node = ((k / R % N : Nat) : Int) + 1 := rfl
      have hTW : (roundC cf R N k).waited = ((k % R : Nat) : Int) := rfl
      have hTC : (roundC cf R N k).conf.nodes = (N : Int) := HCN.out
      have hNm := Nat.mod_lt (k / R) (show 0 < N by omega)
      have hRm := Nat.mod_lt k (show 0 < R by omega)
      have HTK := hid (clTick_any wr (wA.heap.size + 1) _ (roundC cf R N k) dvk fvk hck (by rw [hTC]; omega) (by rw [hTD]; omega) (by rw [hTW]; omega) (by show (1 : Nat) ≤ _; decide))
      have hlt1 : w1.heap.size < wA.heap.size := (Array.getElem?_eq_some_iff.1 HF.out).1
      have HCLK := hid hlt1
      clear hka hck hRI hNI hTD hTW hTC hNm hRm HW hR1 hN1
      go_wp2_with fail
      refine (HP.out _).mono ?_
      rintro e wx ⟨rfl, hwx⟩
      rw [hwx]
      clear hwx
      go_wp2_with fail
      refine HTK.out.mono ?_
      by_cases hst : k % R + 1 < R
      · rw [HSTILL.out k hst]
        rintro e w5 ⟨v, rfl, a5, q5, dv5, fv5, rfl, h5, l5, hk5⟩
        have H5 := hid h5
        have KA5 : Hid (Keeps [] wA w5) := HK.out.trans hk5 (fun x hx hx' => by simp at hx'; omega)
        have hf5 := (KA5.out.block _ HCLK.out (by simp)).trans HF.out
        have c8 : w5.cell? ⟨w1.heap.size, 8, none⟩ = some (.int .i64 R) := cell_of_block hf5 8
        have hmod : ¬ iz.tmod (R : Int) = 0 := by
          have hR0 := HRI.out
          have := (div_step (R := R) (k := k) (by omega) hst).2
          rw [← HI.out, Int.tmod_eq_emod_of_nonneg (by omega), ← Int.natCast_emod, this]
          omega
        have hmod2 : (iz % (R : Int) != 0) = true := by rw [Int.tmod_eq_emod_of_nonneg (by omega)] at hmod; simpa using hmod
        clear h5 l5 hk5 hf5 hst hmod
        dsimp only [List.length_nil]
        go_wp2_with fail
        go_roundw
        case rel => exact ⟨k + 1, by have := HI.out; congr 1; omega, by omega, KA5.out, dv5, fv5, H5.out⟩
        case measure => simp [intOf]; omega
      · rw [HTURN.out k hst]
        obtain ⟨tz, htz⟩ : ∃ tz : Int, ((((k + 1) / R) % N : Nat) : Int) + 1 = tz := ⟨_, rfl⟩
        rw [htz]
        have HTZ := hid htz
        rintro e w5 ⟨v, rfl, a5, q5, dv5, fv5, rfl, h5, l5, hk5⟩
        have H5 := hid h5
        have KA5 : Hid (Keeps [] wA w5) := HK.out.trans hk5 (fun x hx hx' => by simp at hx'; omega)
        have hf5 := (KA5.out.block _ HCLK.out (by simp)).trans HF.out
        have c0 : w5.cell? ⟨w1.heap.size, 0, none⟩ = some (.int .i64 N) := cell_of_block hf5 0
        have c8 : w5.cell? ⟨w1.heap.size, 8, none⟩ = some (.int .i64 R) := cell_of_block hf5 8
        have hmod : iz % (R : Int) = 0 := by
          have hR0 := HRI.out
          have := (div_turn (R := R) (k := k) (by omega) hst).2
          rw [← HI.out, ← Int.natCast_emod, this]
          rfl
        have hmod2 : (iz % (R : Int) != 0) = false := by rw [hmod]; rfl
        have hdiv : iz / (R : Int) % (N : Int) + 1 = tz := by rw [← HTZ.out, ← HI.out]; simp
        have hcmp : (tz != iz / (R : Int) % (N : Int) + 1) = false := by rw [hdiv]; simp
        have hNI := HNI.out
        have hwr : IntKind.i64.wrap (iz / (R : Int) % (N : Int) + 1) = iz / (R : Int) % (N : Int) + 1 := by
          have h1 := Int.emod_nonneg (iz / (R : Int)) hNz
          have h2 := Int.emod_lt_of_pos (iz / (R : Int)) (show 0 < (N : Int) by omega)
          rw [IntKind.wrap_i64]
          omega
        have hq0 : 0 ≤ iz / (R : Int) := Int.ediv_nonneg (by omega) (by omega)
        have hq1 : iz / (R : Int) ≤ iz := Int.ediv_le_self _ (by omega)
        have hwq : IntKind.i64.wrap (iz / (R : Int)) = iz / (R : Int) := by rw [IntKind.wrap_i64]; omega
        have hwt : IntKind.i64.wrap (iz.tdiv (R : Int)) = iz / (R : Int) := by rw [Int.tdiv_eq_ediv_of_nonneg (by omega)]; exact hwq
        have hmt : (iz / (R : Int)).tmod (N : Int) = iz / (R : Int) % (N : Int) := Int.tmod_eq_emod_of_nonneg hq0
        obtain ⟨g5, o5, k5, e5, c5, d5, f5, ha5, y0, y1, y2, y3, y4, y5, y6, y7, y8, y9, ye, yb⟩ := l5.msg (j := 0) rfl
        simp only [Value.slice.injEq] at ha5
        obtain ⟨rfl, -, rfl⟩ := ha5
        have YB := hid yb
        simp only [roundM, List.length_cons, List.length_nil, Nat.zero_add, Nat.zero_mul, Nat.add_zero] at y2 y6 y9 YB ⊢
        clear h5 l5 hk5 hf5 hst hmod htz hdiv y0 y1 y3 y4 y5 y7 y8 ye yb hNI
        go_wp2_with fail
        have hR0 : ¬ R = 0 := by have := HRI.out; omega
        have hN0 : ¬ N = 0 := by have := HNI.out; omega
        refine Plan.wp_region_plan (fun wx => (wx.cell? ⟨w1.heap.size, 0, none⟩ = some (.int .i64 N) ∧ wx.cell? ⟨w1.heap.size, 8, none⟩ = some (.int .i64 R) ∧ wx.cell? ⟨g5, o5 + 2, none⟩ = some (.int .i64 tz) ∧ wx.cell? ⟨g5, o5 + 6, none⟩ = some (.int .i64 1) ∧ wx.cell? ⟨g5, o5 + 9, none⟩ = some (.slice d5 1 f5)) ∧ (convert 28 9 (.slice d5 1 f5)).run Tryz.prog wx = .ok (.string (str [2])) wx) 34 [(true, 0), (true, 1), (true, 2), (true, 3), (true, 4), (true, 5), (true, 6), (true, 7), (true, 8), (true, 9), (true, 10), (true, 11), (true, 12), (true, 13), (true, 14), (true, 15), (true, 16), (true, 17), (true, 18), (true, 19), (true, 20), (true, 21), (true, 22), (true, 23), (true, 24), (true, 25), (true, 26), (true, 27), (true, 28), (true, 29), (true, 30), (true, 31), (true, 32), (true, 33)] (by kernel_rfl) (by as_aux_lemma => kernel_rfl) (by kernel_rfl) (fun _ _ _ _ _ h => h) ?_ (fun hS => ?_)
        (· go_simp; exact cv_str (YB.out.1.k0 (by exact Keeps.K)) rfl)
        simp only [Plan.pick, List.append_eq, List.cons_append, List.nil_append, Plan.g1, Plan.g2, Option.getD_some, List.drop_succ_cons, List.drop_zero]
        iterate 34 (first | refine Plan.tA ?_ | refine Plan.tY ?_ | refine Plan.pN ?_ | refine Plan.pU ?_ | fail)
        refine Plan.fin ?_
        go_wp2_with fail
        go_roundw
        case rel => exact ⟨k + 1, by have := HI.out; congr 1; omega, by omega, KA5.out.trans (G := []) (by exact Keeps.K) (fun _ _ h => h), dv5, fv5, H5.out.k (by exact Keeps.K)⟩
        case measure => simp [intOf]; omega
    · have hgt : ¬ (((k + 1 : Nat) : Int) ≤ (Z : Int)) := by omega
      obtain ⟨iz, hiz⟩ : ∃ iz : Int, ((k + 1 : Nat) : Int) = iz := ⟨_, rfl⟩
      rw [hiz] at hgt ⊢
      clear hiz hlt hk
      obtain ⟨hka, dvk, fvk, hck⟩ := HW.out
      have HK := hid hka
      have HC := hid hck
      clear hka hck HW
      go_wp2_with fail
      refine (HP.out _).mono ?_
      rintro e wx ⟨rfl, hwx⟩
      rw [hwx]
      clear hwx
      go_wp2_with fail
      refine (read24_any ⟨#[98]⟩ _).mono ?_
      rintro e w5 ⟨rfl, hk⟩
      have K5 : Hid (Keeps [] wA w5) := HK.out.trans hk (fun _ _ h => h)
      have KW5 : Hid (Keeps [] w w5) := KA.out.trans K5.out (fun _ _ h => h)
      have H5 := hid (HC.out.k hk)
      clear hk
      go_wp2_with fail
      refine (clCall_any w5 (wA.heap.size + 1) _ (roundC cf R N k) _ _ (readC ⟨#[98]⟩) (HT.out.k KW5.out) (HE.out.k KW5.out) H5.out (by show (0 : Int) ≤ 1; decide) (by show (0 : Int) ≤ _; decide) (by show (0 : Int) ≤ 0; decide) (readI _) (by show (0 : Nat) ≤ _; decide) (fun b hb => by have := K5.out.size; have := hn; show wA.heap.size + 2 ≤ b; have := H5.out.lt; omega)).mono ?_
      rw [HBUSY.out]
      rintro e w6 ⟨v, rfl, a6, q6, dv6, fv6, rfl, h6, l6, hk⟩
      have K6 : Hid (Keeps [] w w6) := KW5.out.trans hk (fun x hx hx' => by have := KA.out.size; simp at hx'; omega)
      clear hk h6 l6
      dsimp only [List.length_nil]
      go_wp2_with fail
      refine (HAW.out _ K6.out).mono ?_
      rintro e w7 ⟨rfl, hk⟩
      have K7 : Hid (Keeps [] w w7) := K6.out.trans hk (fun _ _ h => h)
      clear hk
      go_wp2_with fail
      go_ret
      exact ⟨rfl, K7.out⟩

end Go.Proofs.YtbbdmmhpbeleoaaGreatDoor
