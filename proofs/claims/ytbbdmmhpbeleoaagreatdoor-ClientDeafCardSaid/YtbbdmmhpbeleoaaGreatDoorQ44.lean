/- Joined of ClN, LawW. -/
import Derived.Test.YtbbdmmhpbeleoaaGreatDoorQ39
import Derived.Test.YtbbdmmhpbeleoaaGreatDoorQ43
import Derived.Test.YtbbdmmhpbeleoaaGreatDoorQ32
import Derived.SizedLaws

set_option linter.unusedSimpArgs false
set_option linter.unusedVariables false

/- ClientDeaf, walked. (Printed by gen_cln.py.) -/
namespace Go.Proofs.YtbbdmmhpbeleoaaGreatDoor
open Go Go.RowKit

def cA (b : Bool) : CliD := if b then c1A else cliNew confA 101
def HeardA (m : MsgD) : Prop := m.kind = 7 ∧ m.«to» = 101 ∧ m.c = 1 ∧ 1 ≤ m.frm ∧ m.frm ≤ 3
theorem cA_deaf (b : Bool) (m : MsgD) (h : ¬ (b = true ∧ HeardA m)) : deafD (cA b) m = true := by
  cases b
  · simp [deafD, cA, cliNew]
  · by_cases h0 : deafD (cA true) m = true
    · exact h0
    · obtain ⟨-, h1, h2, h3, h4, h5⟩ := hears_all (by simpa using h0)
      refine absurd ⟨rfl, ?_⟩ h
      have h3' : ¬ m.frm < 1 := fun hh => by rw [h3] at hh; exact hh
      have h4' : ¬ (3 : Int) < m.frm := fun hh => by
        have e : ((cA true).conf.nodes < m.frm) = ((3 : Int) < m.frm) := rfl
        rw [← e, h4] at hh; exact hh
      refine ⟨by simpa using h1, ?_, ?_, by omega, by omega⟩
      · have : m.«to» = (cA true).id := by simpa using h2
        exact this
      · have : m.c = (cA true).request := by simpa using h5
        exact this

set_option maxRecDepth 100000 in
set_option maxHeartbeats 32000000 in
theorem deaf_any (a : Option Addr) (ac : Nat) (l : List MsgD) (b : Bool) (w : World) (hT : Tabs w) (hE : Errs w) (hl : ListAt msgL w (fun b => b < w.heap.size) (.slice a l.length ac) l) (hz : ∀ m ∈ l, MsgZ m) :
    Calls Tryz.prog 8 #[.slice a l.length ac, .bool b] w fun e w' => e = .returned (.bool true) ∧ Keeps [] w w' := by
  have HT := hid hT
  have HE := hid hE
  have HL := hid hl
  have HZ := hid hz
  have HAW := hid (fun wx (k : Keeps [] w wx) => awake24_any wx (hT.k k) (hE.k k))
  clear hT hE hl hz
  go_enter Tryz.func8, Tryz.ntmps8
  go_wp2_with fail
  refine (conf24_any 0 5 w (by decide) (by decide)).mono ?_
  rintro e w1 ⟨rfl, hk⟩
  have K1 := hid hk
  clear hk
  rw [confA_is]
  simp only [confVal, confA]
  go_wp2_with fail
  obtain ⟨wA, hwA⟩ : ∃ wA, w1.alloc (.cells #[.int .i64 3, .int .i64 3, .int .i64 2, .int .i64 8, .int .i64 40, .int .i64 3, .int .i64 6, .int .i64 200, .int .i64 6] 47) = wA := ⟨_, rfl⟩
  have KA : Hid (Keeps [] w wA) := K1.out.trans (by rw [← hwA]; exact Keeps.K) (fun _ _ h => h)
  rw [hwA]
  obtain ⟨n, hnn⟩ : ∃ n, wA.heap.size + 1 = n := ⟨_, rfl⟩
  refine (clNew_yes confA 101 (fun b => wA.heap.size + 1 + 1 ≤ b) wA ⟨by decide, by decide, by decide, by decide, by decide⟩ (by decide) (by omega)).mono ?_
  rw [hnn]
  rintro e w2 ⟨rfl, h2, hk⟩
  have K2 : Hid (Keeps [] w w2) := KA.out.trans hk (fun _ _ h => h)
  have hn := h2.lt
  have H2 := hid h2
  have hwn : Hid (w.heap.size ≤ n) := by have := KA.out.size; show _ ≤ _; omega
  clear hk h2 hnn hwA K1 KA
  cases b
  · have HC : Hid (∃ dv fv, CliAt w2 n (fun b => n + 1 ≤ b) (cA false) dv fv) := ⟨_, _, H2.out⟩
    clear H2
    go_wp2_with fail
    go_loopw [10] (fun i wr => ∃ k : Nat, i = .int .i64 (k : Int) ∧ (k : Int) ≤ 40 ∧ Hid (k ≤ l.length ∧ Keeps [] w wr ∧ ∃ dv fv, CliAt wr n (fun b => n + 1 ≤ b) (cA false) dv fv)) (fun i _ => 100 - (intOf i).toNat)
    case atStart => exact ⟨0, rfl, by decide, Nat.zero_le _, K2.out, HC.out⟩
    case round =>
      obtain ⟨k, rfl, hk40, HW⟩ := hrel
      obtain ⟨hkl, hK, dv, fv, hC⟩ := HW.out
      have HK := hid hK
      have HCC := hid hC
      have HKL := hid hkl
      have hwr : wr.heap.size > n := hC.lt
      clear HW hK hC HC
      have hk0 : (0 : Int) ≤ (k : Int) := Int.natCast_nonneg _
      by_cases hgo : k < l.length ∧ k < 40
      · obtain ⟨g1, g2⟩ := hgo
        have i1 : (k : Int) < (l.length : Int) := by omega
        have i2 : (k : Int) < 40 := by omega
        have hw1 : IntKind.i64.wrap ((k : Int) + 1) = (k : Int) + 1 := by rw [IntKind.wrap_i64]; omega
        obtain ⟨m, hm⟩ : ∃ m, l[k]? = some m := ⟨l[k], List.getElem?_eq_getElem g1⟩
        obtain ⟨g, off, kk, a1, c1, d1, e1, ha, y0, y1, y2, y3, y4, y5, y6, y7, y8, y9, ye, yb⟩ := (HL.out.k HK.out).msg hm
        simp only [Value.slice.injEq] at ha
        obtain ⟨rfl, -, rfl⟩ := ha
        have HMZ := hid (HZ.out m (List.mem_of_getElem? hm))
        have YE := hid ye
        have YB := hid yb
        clear ye yb g1 g2 hkl hm
        by_cases hd : m.data.length ≤ 500
        · by_cases he : m.entries.length ≤ 8
          · have j1 : (m.data.length : Int) ≤ 500 := by omega
            have j2 : (m.entries.length : Int) ≤ 8 := by omega
            have HDF := hid (cA_deaf false m (fun h => by cases h.1))
            clear hd he
            go_wp2_with fail
            clear y0 y1 y2 y3 y4 y5 y6 y7 y8 y9
            refine (lMsgW_any _ m a1 d1 c1 e1 (fun b => b < w.heap.size) (YE.out.k (by exact Keeps.K)) (YB.out.k (by exact Keeps.K)) (by omega) (fun e he => HMZ.out.2 e he) (by omega)).mono ?_
            rintro e w3 ⟨ea, ec, da, dc, rfl, le3, bd3, hk⟩
            have K3 : Hid (Keeps [] wr w3) := Keeps.trans (G := []) (by exact Keeps.K) hk (fun _ _ h => h)
            have H3 := hid (HCC.out.k K3.out)
            clear hk le3 bd3
            go_wp2_with fail
            have hh := clHear_deaf w3 n _ (cA false) dv fv m ea da m.entries.length ec dc H3.out HDF.out
            rw [show chearD (cA false) m = (cA false, [], false) from if_pos HDF.out] at hh
            refine hh.mono ?_
            clear hh
            rintro e w4 ⟨v, rfl, a4, q4, dv4, fv4, rfl, h4, l4, hk⟩
            dsimp only at h4 l4 hk ⊢
            have H4 := hid h4
            have K4 : Hid (Keeps [] w w4) := (HK.out.trans K3.out (fun _ _ h => h)).trans hk (fun x hx hx' => by simp at hx'; have := hwn.out; omega)
            have Z4 := hid hk.size
            have Z3 := hid K3.out.size
            clear hk h4 l4
            simp only [List.length_nil]
            go_wp2_with fail
            refine (clBusy_any H4.out).mono ?_
            rintro e w5 ⟨rfl, hk⟩
            have K5 : Hid (Keeps [] w w5) := K4.out.trans hk (fun _ _ h => h)
            have H5 := hid (H4.out.k hk)
            clear hk
            rw [show ((cA false).does != 0) = false from rfl]
            go_wp2_with fail
            refine (clSession_any H5.out).mono ?_
            rintro e w6 ⟨rfl, hk⟩
            have K6 : Hid (Keeps [] w w6) := K5.out.trans hk (fun _ _ h => h)
            have H6 := hid (H5.out.k hk)
            clear hk
            rw [show (cA false).session = 0 from rfl]
            go_wp2_with fail
            refine (clSeq_any H6.out).mono ?_
            rintro e w7 ⟨rfl, hk⟩
            have K7 : Hid (Keeps [] w w7) := K6.out.trans hk (fun _ _ h => h)
            have H7 := hid (H6.out.k hk)
            clear hk
            rw [show (cA false).seq = 0 from rfl]
            go_wp2_with fail
            exact ⟨⟨k + 1, by simp, by omega, by have := HKL.out; omega, K7.out, _, _, H7.out⟩, by simp [intOf]; omega⟩
          · have j1 : (m.data.length : Int) ≤ 500 := by omega
            have j2 : 8 < (m.entries.length : Int) := by omega
            clear hd he
            go_wp2_with fail
            clear y0 y1 y2 y3 y4 y5 y6 y7 y8 y9
            refine (HAW.out _ (HK.out.trans (G := []) (by exact Keeps.K) (fun _ _ h => h))).mono ?_
            rintro e w6 ⟨rfl, hk⟩
            have K6 : Hid (Keeps [] w w6) := HK.out.trans (Keeps.trans (G := []) (by exact Keeps.K) hk (fun _ _ h => h)) (fun _ _ h => h)
            clear hk
            go_wp2_with fail
            go_ret
            exact ⟨rfl, K6.out⟩
        · have j1 : 500 < (m.data.length : Int) := by omega
          clear hd
          go_wp2_with fail
          refine (HAW.out _ (HK.out.trans (G := []) (by exact Keeps.K) (fun _ _ h => h))).mono ?_
          rintro e w6 ⟨rfl, hk⟩
          have K6 : Hid (Keeps [] w w6) := HK.out.trans (Keeps.trans (G := []) (by exact Keeps.K) hk (fun _ _ h => h)) (fun _ _ h => h)
          clear hk
          go_wp2_with fail
          go_ret
          exact ⟨rfl, K6.out⟩
      · have HGO : Hid ((k : Int) < (l.length : Int) → (40 : Int) ≤ (k : Int)) := fun h => by omega
        by_cases h1 : (k : Int) < (l.length : Int)
        · have h2 : (40 : Int) ≤ (k : Int) := HGO.out h1
          go_wp2_with fail
          refine (HAW.out _ HK.out).mono ?_
          rintro e w6 ⟨rfl, hk⟩
          have K6 : Hid (Keeps [] w w6) := HK.out.trans hk (fun _ _ h => h)
          clear hk
          go_wp2_with fail
          go_ret
          exact ⟨rfl, K6.out⟩
        · have h2 : (l.length : Int) ≤ (k : Int) := by omega
          go_wp2_with fail
          refine (HAW.out _ HK.out).mono ?_
          rintro e w6 ⟨rfl, hk⟩
          have K6 : Hid (Keeps [] w w6) := HK.out.trans hk (fun _ _ h => h)
          clear hk
          go_wp2_with fail
          go_ret
          exact ⟨rfl, K6.out⟩
  · go_wp2_with fail
    refine (read24_any ⟨#[97]⟩ _).mono ?_
    rintro e w3 ⟨rfl, hk⟩
    have K3 : Hid (Keeps [] w w3) := K2.out.trans hk (fun _ _ h => h)
    have H3 := hid (H2.out.k hk)
    have hz3 := hk.size
    clear hk
    go_wp2_with fail
    refine (clCall_any w3 n _ (cliNew confA 101) _ _ (readC ⟨#[97]⟩) (HT.out.k K3.out) (HE.out.k K3.out) H3.out (by decide) (by decide) (by decide) (readI _) (by show (0 : Nat) ≤ _; decide) (fun b hb => by show n + 1 ≤ b; omega)).mono ?_
    rw [call_A]
    rintro e w4 ⟨v, rfl, a4, q4, dv4, fv4, rfl, h4, l4, hk⟩
    dsimp only at h4 l4 hk ⊢
    have HC : Hid (∃ dv fv, CliAt w4 n (fun b => n + 1 ≤ b) (cA true) dv fv) := ⟨_, _, h4⟩
    have K4 : Hid (Keeps [] w w4) := K3.out.trans hk (fun x hx hx' => by simp at hx'; have := hwn.out; omega)
    simp only [List.length_cons, List.length_nil, Nat.zero_add]
    clear hk h4 l4 K2 K3 H2 H3 hn hz3
    go_wp2_with fail
    go_loopw [10] (fun i wr => ∃ k : Nat, i = .int .i64 (k : Int) ∧ (k : Int) ≤ 40 ∧ Hid (k ≤ l.length ∧ Keeps [] w wr ∧ ∃ dv fv, CliAt wr n (fun b => n + 1 ≤ b) (cA true) dv fv)) (fun i _ => 100 - (intOf i).toNat)
    case atStart => exact ⟨0, rfl, by decide, Nat.zero_le _, K4.out, HC.out⟩
    case round =>
      obtain ⟨k, rfl, hk40, HW⟩ := hrel
      obtain ⟨hkl, hK, dv, fv, hC⟩ := HW.out
      have HK := hid hK
      have HCC := hid hC
      have HKL := hid hkl
      have hwr : wr.heap.size > n := hC.lt
      clear HW hK hC HC
      have hk0 : (0 : Int) ≤ (k : Int) := Int.natCast_nonneg _
      by_cases hgo : k < l.length ∧ k < 40
      · obtain ⟨g1, g2⟩ := hgo
        have i1 : (k : Int) < (l.length : Int) := by omega
        have i2 : (k : Int) < 40 := by omega
        have hw1 : IntKind.i64.wrap ((k : Int) + 1) = (k : Int) + 1 := by rw [IntKind.wrap_i64]; omega
        obtain ⟨m, hm⟩ : ∃ m, l[k]? = some m := ⟨l[k], List.getElem?_eq_getElem g1⟩
        obtain ⟨g, off, kk, a1, c1, d1, e1, ha, y0, y1, y2, y3, y4, y5, y6, y7, y8, y9, ye, yb⟩ := (HL.out.k HK.out).msg hm
        simp only [Value.slice.injEq] at ha
        obtain ⟨rfl, -, rfl⟩ := ha
        have HMZ := hid (HZ.out m (List.mem_of_getElem? hm))
        have YE := hid ye
        have YB := hid yb
        clear ye yb g1 g2 hkl hm
        by_cases hd : m.data.length ≤ 500
        · by_cases he : m.entries.length ≤ 8
          · have j1 : (m.data.length : Int) ≤ 500 := by omega
            have j2 : (m.entries.length : Int) ≤ 8 := by omega
            by_cases h1 : m.kind = 7
            · have qq1 : (m.kind == 7) = true := by simp [h1]
              by_cases h2 : m.«to» = 101
              · have qq2 : (m.«to» == 101) = true := by simp [h2]
                by_cases h3 : m.c = 1
                · have qq3 : (m.c == 1) = true := by simp [h3]
                  by_cases h4 : 1 ≤ m.frm
                  · by_cases h5 : m.frm ≤ 3
                    · clear hd he h1 h2 h3
                      go_wp2_with fail
                      exact ⟨⟨k + 1, by simp, by omega, by have := HKL.out; omega, HK.out.trans (G := []) (by exact Keeps.K) (fun _ _ h => h), _, _, HCC.out.k (by exact Keeps.K)⟩, by simp [intOf]; omega⟩
                    · have HDF := hid (cA_deaf true m (fun h => h5 h.2.2.2.2.2))
                      have h6 : 3 < m.frm := by omega
                      clear hd he h1 h2 h3
                      go_wp2_with fail
                      clear y0 y1 y2 y3 y4 y5 y6 y7 y8 y9
                      refine (lMsgW_any _ m a1 d1 c1 e1 (fun b => b < w.heap.size) (YE.out.k (by exact Keeps.K)) (YB.out.k (by exact Keeps.K)) (by omega) (fun e he => HMZ.out.2 e he) (by omega)).mono ?_
                      rintro e w3 ⟨ea, ec, da, dc, rfl, le3, bd3, hk⟩
                      have K3 : Hid (Keeps [] wr w3) := Keeps.trans (G := []) (by exact Keeps.K) hk (fun _ _ h => h)
                      have H3 := hid (HCC.out.k K3.out)
                      clear hk le3 bd3
                      go_wp2_with fail
                      have hh := clHear_deaf w3 n _ (cA true) dv fv m ea da m.entries.length ec dc H3.out HDF.out
                      rw [show chearD (cA true) m = (cA true, [], false) from if_pos HDF.out] at hh
                      refine hh.mono ?_
                      clear hh
                      rintro e w4 ⟨v, rfl, a4, q4, dv4, fv4, rfl, h4, l4, hk⟩
                      dsimp only at h4 l4 hk ⊢
                      have H4 := hid h4
                      have K4 : Hid (Keeps [] w w4) := (HK.out.trans K3.out (fun _ _ h => h)).trans hk (fun x hx hx' => by simp at hx'; have := hwn.out; omega)
                      have Z4 := hid hk.size
                      have Z3 := hid K3.out.size
                      clear hk h4 l4
                      simp only [List.length_nil]
                      go_wp2_with fail
                      refine (clBusy_any H4.out).mono ?_
                      rintro e w5 ⟨rfl, hk⟩
                      have K5 : Hid (Keeps [] w w5) := K4.out.trans hk (fun _ _ h => h)
                      have H5 := hid (H4.out.k hk)
                      clear hk
                      rw [show ((cA true).does != 0) = true from rfl]
                      go_wp2_with fail
                      refine (clSession_any H5.out).mono ?_
                      rintro e w6 ⟨rfl, hk⟩
                      have K6 : Hid (Keeps [] w w6) := K5.out.trans hk (fun _ _ h => h)
                      have H6 := hid (H5.out.k hk)
                      clear hk
                      rw [show (cA true).session = 0 from rfl]
                      go_wp2_with fail
                      refine (clSeq_any H6.out).mono ?_
                      rintro e w7 ⟨rfl, hk⟩
                      have K7 : Hid (Keeps [] w w7) := K6.out.trans hk (fun _ _ h => h)
                      have H7 := hid (H6.out.k hk)
                      clear hk
                      rw [show (cA true).seq = 0 from rfl]
                      go_wp2_with fail
                      exact ⟨⟨k + 1, by simp, by omega, by have := HKL.out; omega, K7.out, _, _, H7.out⟩, by simp [intOf]; omega⟩
                  · have HDF := hid (cA_deaf true m (fun h => h4 h.2.2.2.2.1))
                    have h6 : m.frm < 1 := by omega
                    clear hd he h1 h2 h3
                    go_wp2_with fail
                    clear y0 y1 y2 y3 y4 y5 y6 y7 y8 y9
                    refine (lMsgW_any _ m a1 d1 c1 e1 (fun b => b < w.heap.size) (YE.out.k (by exact Keeps.K)) (YB.out.k (by exact Keeps.K)) (by omega) (fun e he => HMZ.out.2 e he) (by omega)).mono ?_
                    rintro e w3 ⟨ea, ec, da, dc, rfl, le3, bd3, hk⟩
                    have K3 : Hid (Keeps [] wr w3) := Keeps.trans (G := []) (by exact Keeps.K) hk (fun _ _ h => h)
                    have H3 := hid (HCC.out.k K3.out)
                    clear hk le3 bd3
                    go_wp2_with fail
                    have hh := clHear_deaf w3 n _ (cA true) dv fv m ea da m.entries.length ec dc H3.out HDF.out
                    rw [show chearD (cA true) m = (cA true, [], false) from if_pos HDF.out] at hh
                    refine hh.mono ?_
                    clear hh
                    rintro e w4 ⟨v, rfl, a4, q4, dv4, fv4, rfl, h4, l4, hk⟩
                    dsimp only at h4 l4 hk ⊢
                    have H4 := hid h4
                    have K4 : Hid (Keeps [] w w4) := (HK.out.trans K3.out (fun _ _ h => h)).trans hk (fun x hx hx' => by simp at hx'; have := hwn.out; omega)
                    have Z4 := hid hk.size
                    have Z3 := hid K3.out.size
                    clear hk h4 l4
                    simp only [List.length_nil]
                    go_wp2_with fail
                    refine (clBusy_any H4.out).mono ?_
                    rintro e w5 ⟨rfl, hk⟩
                    have K5 : Hid (Keeps [] w w5) := K4.out.trans hk (fun _ _ h => h)
                    have H5 := hid (H4.out.k hk)
                    clear hk
                    rw [show ((cA true).does != 0) = true from rfl]
                    go_wp2_with fail
                    refine (clSession_any H5.out).mono ?_
                    rintro e w6 ⟨rfl, hk⟩
                    have K6 : Hid (Keeps [] w w6) := K5.out.trans hk (fun _ _ h => h)
                    have H6 := hid (H5.out.k hk)
                    clear hk
                    rw [show (cA true).session = 0 from rfl]
                    go_wp2_with fail
                    refine (clSeq_any H6.out).mono ?_
                    rintro e w7 ⟨rfl, hk⟩
                    have K7 : Hid (Keeps [] w w7) := K6.out.trans hk (fun _ _ h => h)
                    have H7 := hid (H6.out.k hk)
                    clear hk
                    rw [show (cA true).seq = 0 from rfl]
                    go_wp2_with fail
                    exact ⟨⟨k + 1, by simp, by omega, by have := HKL.out; omega, K7.out, _, _, H7.out⟩, by simp [intOf]; omega⟩
                · have HDF := hid (cA_deaf true m (fun h => h3 h.2.2.2.1))
                  have qq3 : (m.c == 1) = false := by simp [h3]
                  clear hd he h1 h2 h3
                  go_wp2_with fail
                  clear y0 y1 y2 y3 y4 y5 y6 y7 y8 y9
                  refine (lMsgW_any _ m a1 d1 c1 e1 (fun b => b < w.heap.size) (YE.out.k (by exact Keeps.K)) (YB.out.k (by exact Keeps.K)) (by omega) (fun e he => HMZ.out.2 e he) (by omega)).mono ?_
                  rintro e w3 ⟨ea, ec, da, dc, rfl, le3, bd3, hk⟩
                  have K3 : Hid (Keeps [] wr w3) := Keeps.trans (G := []) (by exact Keeps.K) hk (fun _ _ h => h)
                  have H3 := hid (HCC.out.k K3.out)
                  clear hk le3 bd3
                  go_wp2_with fail
                  have hh := clHear_deaf w3 n _ (cA true) dv fv m ea da m.entries.length ec dc H3.out HDF.out
                  rw [show chearD (cA true) m = (cA true, [], false) from if_pos HDF.out] at hh
                  refine hh.mono ?_
                  clear hh
                  rintro e w4 ⟨v, rfl, a4, q4, dv4, fv4, rfl, h4, l4, hk⟩
                  dsimp only at h4 l4 hk ⊢
                  have H4 := hid h4
                  have K4 : Hid (Keeps [] w w4) := (HK.out.trans K3.out (fun _ _ h => h)).trans hk (fun x hx hx' => by simp at hx'; have := hwn.out; omega)
                  have Z4 := hid hk.size
                  have Z3 := hid K3.out.size
                  clear hk h4 l4
                  simp only [List.length_nil]
                  go_wp2_with fail
                  refine (clBusy_any H4.out).mono ?_
                  rintro e w5 ⟨rfl, hk⟩
                  have K5 : Hid (Keeps [] w w5) := K4.out.trans hk (fun _ _ h => h)
                  have H5 := hid (H4.out.k hk)
                  clear hk
                  rw [show ((cA true).does != 0) = true from rfl]
                  go_wp2_with fail
                  refine (clSession_any H5.out).mono ?_
                  rintro e w6 ⟨rfl, hk⟩
                  have K6 : Hid (Keeps [] w w6) := K5.out.trans hk (fun _ _ h => h)
                  have H6 := hid (H5.out.k hk)
                  clear hk
                  rw [show (cA true).session = 0 from rfl]
                  go_wp2_with fail
                  refine (clSeq_any H6.out).mono ?_
                  rintro e w7 ⟨rfl, hk⟩
                  have K7 : Hid (Keeps [] w w7) := K6.out.trans hk (fun _ _ h => h)
                  have H7 := hid (H6.out.k hk)
                  clear hk
                  rw [show (cA true).seq = 0 from rfl]
                  go_wp2_with fail
                  exact ⟨⟨k + 1, by simp, by omega, by have := HKL.out; omega, K7.out, _, _, H7.out⟩, by simp [intOf]; omega⟩
              · have HDF := hid (cA_deaf true m (fun h => h2 h.2.2.1))
                have qq2 : (m.«to» == 101) = false := by simp [h2]
                clear hd he h1 h2
                go_wp2_with fail
                clear y0 y1 y2 y3 y4 y5 y6 y7 y8 y9
                refine (lMsgW_any _ m a1 d1 c1 e1 (fun b => b < w.heap.size) (YE.out.k (by exact Keeps.K)) (YB.out.k (by exact Keeps.K)) (by omega) (fun e he => HMZ.out.2 e he) (by omega)).mono ?_
                rintro e w3 ⟨ea, ec, da, dc, rfl, le3, bd3, hk⟩
                have K3 : Hid (Keeps [] wr w3) := Keeps.trans (G := []) (by exact Keeps.K) hk (fun _ _ h => h)
                have H3 := hid (HCC.out.k K3.out)
                clear hk le3 bd3
                go_wp2_with fail
                have hh := clHear_deaf w3 n _ (cA true) dv fv m ea da m.entries.length ec dc H3.out HDF.out
                rw [show chearD (cA true) m = (cA true, [], false) from if_pos HDF.out] at hh
                refine hh.mono ?_
                clear hh
                rintro e w4 ⟨v, rfl, a4, q4, dv4, fv4, rfl, h4, l4, hk⟩
                dsimp only at h4 l4 hk ⊢
                have H4 := hid h4
                have K4 : Hid (Keeps [] w w4) := (HK.out.trans K3.out (fun _ _ h => h)).trans hk (fun x hx hx' => by simp at hx'; have := hwn.out; omega)
                have Z4 := hid hk.size
                have Z3 := hid K3.out.size
                clear hk h4 l4
                simp only [List.length_nil]
                go_wp2_with fail
                refine (clBusy_any H4.out).mono ?_
                rintro e w5 ⟨rfl, hk⟩
                have K5 : Hid (Keeps [] w w5) := K4.out.trans hk (fun _ _ h => h)
                have H5 := hid (H4.out.k hk)
                clear hk
                rw [show ((cA true).does != 0) = true from rfl]
                go_wp2_with fail
                refine (clSession_any H5.out).mono ?_
                rintro e w6 ⟨rfl, hk⟩
                have K6 : Hid (Keeps [] w w6) := K5.out.trans hk (fun _ _ h => h)
                have H6 := hid (H5.out.k hk)
                clear hk
                rw [show (cA true).session = 0 from rfl]
                go_wp2_with fail
                refine (clSeq_any H6.out).mono ?_
                rintro e w7 ⟨rfl, hk⟩
                have K7 : Hid (Keeps [] w w7) := K6.out.trans hk (fun _ _ h => h)
                have H7 := hid (H6.out.k hk)
                clear hk
                rw [show (cA true).seq = 0 from rfl]
                go_wp2_with fail
                exact ⟨⟨k + 1, by simp, by omega, by have := HKL.out; omega, K7.out, _, _, H7.out⟩, by simp [intOf]; omega⟩
            · have HDF := hid (cA_deaf true m (fun h => h1 h.2.1))
              have qq1 : (m.kind == 7) = false := by simp [h1]
              clear hd he h1
              go_wp2_with fail
              clear y0 y1 y2 y3 y4 y5 y6 y7 y8 y9
              refine (lMsgW_any _ m a1 d1 c1 e1 (fun b => b < w.heap.size) (YE.out.k (by exact Keeps.K)) (YB.out.k (by exact Keeps.K)) (by omega) (fun e he => HMZ.out.2 e he) (by omega)).mono ?_
              rintro e w3 ⟨ea, ec, da, dc, rfl, le3, bd3, hk⟩
              have K3 : Hid (Keeps [] wr w3) := Keeps.trans (G := []) (by exact Keeps.K) hk (fun _ _ h => h)
              have H3 := hid (HCC.out.k K3.out)
              clear hk le3 bd3
              go_wp2_with fail
              have hh := clHear_deaf w3 n _ (cA true) dv fv m ea da m.entries.length ec dc H3.out HDF.out
              rw [show chearD (cA true) m = (cA true, [], false) from if_pos HDF.out] at hh
              refine hh.mono ?_
              clear hh
              rintro e w4 ⟨v, rfl, a4, q4, dv4, fv4, rfl, h4, l4, hk⟩
              dsimp only at h4 l4 hk ⊢
              have H4 := hid h4
              have K4 : Hid (Keeps [] w w4) := (HK.out.trans K3.out (fun _ _ h => h)).trans hk (fun x hx hx' => by simp at hx'; have := hwn.out; omega)
              have Z4 := hid hk.size
              have Z3 := hid K3.out.size
              clear hk h4 l4
              simp only [List.length_nil]
              go_wp2_with fail
              refine (clBusy_any H4.out).mono ?_
              rintro e w5 ⟨rfl, hk⟩
              have K5 : Hid (Keeps [] w w5) := K4.out.trans hk (fun _ _ h => h)
              have H5 := hid (H4.out.k hk)
              clear hk
              rw [show ((cA true).does != 0) = true from rfl]
              go_wp2_with fail
              refine (clSession_any H5.out).mono ?_
              rintro e w6 ⟨rfl, hk⟩
              have K6 : Hid (Keeps [] w w6) := K5.out.trans hk (fun _ _ h => h)
              have H6 := hid (H5.out.k hk)
              clear hk
              rw [show (cA true).session = 0 from rfl]
              go_wp2_with fail
              refine (clSeq_any H6.out).mono ?_
              rintro e w7 ⟨rfl, hk⟩
              have K7 : Hid (Keeps [] w w7) := K6.out.trans hk (fun _ _ h => h)
              have H7 := hid (H6.out.k hk)
              clear hk
              rw [show (cA true).seq = 0 from rfl]
              go_wp2_with fail
              exact ⟨⟨k + 1, by simp, by omega, by have := HKL.out; omega, K7.out, _, _, H7.out⟩, by simp [intOf]; omega⟩
          · have j1 : (m.data.length : Int) ≤ 500 := by omega
            have j2 : 8 < (m.entries.length : Int) := by omega
            clear hd he
            go_wp2_with fail
            clear y0 y1 y2 y3 y4 y5 y6 y7 y8 y9
            refine (HAW.out _ (HK.out.trans (G := []) (by exact Keeps.K) (fun _ _ h => h))).mono ?_
            rintro e w6 ⟨rfl, hk⟩
            have K6 : Hid (Keeps [] w w6) := HK.out.trans (Keeps.trans (G := []) (by exact Keeps.K) hk (fun _ _ h => h)) (fun _ _ h => h)
            clear hk
            go_wp2_with fail
            go_ret
            exact ⟨rfl, K6.out⟩
        · have j1 : 500 < (m.data.length : Int) := by omega
          clear hd
          go_wp2_with fail
          refine (HAW.out _ (HK.out.trans (G := []) (by exact Keeps.K) (fun _ _ h => h))).mono ?_
          rintro e w6 ⟨rfl, hk⟩
          have K6 : Hid (Keeps [] w w6) := HK.out.trans (Keeps.trans (G := []) (by exact Keeps.K) hk (fun _ _ h => h)) (fun _ _ h => h)
          clear hk
          go_wp2_with fail
          go_ret
          exact ⟨rfl, K6.out⟩
      · have HGO : Hid ((k : Int) < (l.length : Int) → (40 : Int) ≤ (k : Int)) := fun h => by omega
        by_cases h1 : (k : Int) < (l.length : Int)
        · have h2 : (40 : Int) ≤ (k : Int) := HGO.out h1
          go_wp2_with fail
          refine (HAW.out _ HK.out).mono ?_
          rintro e w6 ⟨rfl, hk⟩
          have K6 : Hid (Keeps [] w w6) := HK.out.trans hk (fun _ _ h => h)
          clear hk
          go_wp2_with fail
          go_ret
          exact ⟨rfl, K6.out⟩
        · have h2 : (l.length : Int) ≤ (k : Int) := by omega
          go_wp2_with fail
          refine (HAW.out _ HK.out).mono ?_
          rintro e w6 ⟨rfl, hk⟩
          have K6 : Hid (Keeps [] w w6) := HK.out.trans hk (fun _ _ h => h)
          clear hk
          go_wp2_with fail
          go_ret
          exact ⟨rfl, K6.out⟩

end Go.Proofs.YtbbdmmhpbeleoaaGreatDoor

/- The frame of a law (LawZ), with all the arguments' weights handed on. Printed by gen_wide.py. -/
namespace Go.Proofs.YtbbdmmhpbeleoaaGreatDoor
open Go Go.RowKit Go.WideShapes Go.ChangeShapes Go.ChangeAt

set_option maxRecDepth 100000 in
/-- From the contract «to» the row's premise, where variables are listed; the arguments' sizes are handed on. -/
theorem laid_lifted_weights {k : FuncId} {fn : Func} {s : ChangeSpec} {fresh handsOn : Bool} {l : List (String × DataW Unit)} (os : Os) (started : os.Started) (H : Type) (enc : TypeId × Value → H)
    (noInit : Tryz.checked.prog.inits.idxOf? k = none) (hfn : Tryz.checked.prog.funcs[k]? = some fn) (hres : fn.resultTypes = #[4]) (hvars : s.vars = []) (hall : (fn.params.toList.all fun t => Tryz.prog.readableRec t && decide (t < Tryz.prog.types.size)) = true)
    (hspec : ∀ ds : List (DataW H), ds.length = fn.params.size → s.fn H ds = { results := [.lit (.bool true)], args := ds })
    (witness : ∃ (w : World) (tape : Tape) (i : Input), w.os = os ∧ (w.forCall tape i).Shaped Tryz.checked.prog ∧ i.vars = [] ∧ Input.okWide Tryz.checked.prog (w.forCall tape i) .any w.heap.size k i ∧
      ((s.pre enc Tryz.checked.prog fn [] false (w.forCall tape i).memory i.args ∧ laidMetH Tryz.prog l (w.forCall tape i).memory) ∧ sizedMet enc Tryz.checked.prog fn (OpenSpec.ofChange s) false (w.forCall tape i).memory i.args) ∧ ({} : Assume).holds Tryz.checked.prog (lone (Frame.enter Tryz.checked.prog k i.args .normal) [] (w.forCall tape i)))
    (contract : ∀ (W : World) (base : Nat) (args : Array Value) (ds : List (DataW H)) (p : List MemPlace), (∀ (j : Nat) t v, fn.params[j]? = some t → args[j]? = some v → Value.okWide Tryz.prog W .any base t v) →
      DataW.TrodAll enc Tryz.prog W 0 (fun _ => true) true fn.params.toList args.toList ds p → (∀ x ∈ p, x.block < W.heap.size) → laidMetH Tryz.prog l W → (∀ (j : Nat) (t : TypeId) (d : DataW H), fn.params[j]? = some t → ds[j]? = some d → ∀ q ∈ d.weights Tryz.prog t, q ≤ reachBytes) → Calls Tryz.prog k args W fun e W' => e = .returned (.bool true) ∧ Below W.heap.size W W') :
    ReturnsInHanded {} Tryz.checked os k .any (fun w args => (s.pre enc Tryz.prog fn [] false w args ∧ laidMetH Tryz.prog l w) ∧ sizedMet enc Tryz.prog fn (OpenSpec.ofChange s) false w args) (s.post enc Tryz.prog fn false fresh handsOn false) := by
  refine returnsInHanded_of_change_and (C := Tryz.checked) (X := fun w _ => laidMetH Tryz.prog l w) (fun _ _ _ hh h => h.of_heap hh) Tryz.own started noInit hfn witness ?_
  intro W base args ds gs before hval0 hW hc hZ hL _
  have hlt : ∀ x ∈ before, x.block < W.heap.size := fun x hx => hW.lt x hx
  have hW' := hW
  obtain ⟨p, q, hA, hV, rfl, hz, hn⟩ := hW
  refine (contract W base args ds p hval0 hA (fun x hx => hlt x (List.mem_append_left _ hx)) hL (fun j t d ht hd q hq => by simpa using List.all_eq_true.1 hZ q (DataW.weights_mem_each (j := j) (t := t) (by rw [List.getElem?_append_left (by have := (Array.getElem?_eq_some_iff.1 ht).1; simpa using this)]; simpa using ht) (by rw [List.getElem?_append_left (List.getElem?_eq_some_iff.1 hd).1]; exact hd) q hq))).mono fun e W' ⟨he, hb⟩ => ?_
  subst he
  exact ⟨_, rfl, law_post Tryz.laidOut Tryz.underlying4 hres hvars hall hspec hW' hb⟩

end Go.Proofs.YtbbdmmhpbeleoaaGreatDoor
