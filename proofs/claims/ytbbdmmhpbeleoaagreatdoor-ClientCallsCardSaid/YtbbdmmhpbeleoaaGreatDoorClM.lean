/- ClientCalls, walked. (Printed by gen_clm.py.) -/
import Derived.Test.YtbbdmmhpbeleoaaGreatDoorQ39

set_option linter.unusedSimpArgs false
set_option linter.unusedVariables false
namespace Go.Proofs.YtbbdmmhpbeleoaaGreatDoor
open Go Go.RowKit

def ccA (s q r : Int) (cl : CmdD) (last : MsgD) (does : Nat) (rep : ReplyD) : CliD := ⟨confA, 103, 1, s, q, r, 0, cl, last, does, rep⟩
def lastN (c : Int) (d : List UInt8) : MsgD := ⟨6, 103, 0, 0, 0, 0, c, false, [], d⟩
def msgN (c : Int) (d : List UInt8) : MsgD := ⟨6, 103, 1, 0, 0, 0, c, false, [], d⟩
def xC (s q : Int) : CmdD := ⟨4, s, q, ⟨#[97]⟩, 0, ⟨0, 0, ⟨#[]⟩⟩⟩
def tellN (frm c : Int) (r : ReplyD) : MsgD := ⟨7, frm, 103, 0, 0, 0, c, true, [], putR r⟩
theorem xC_check {s q : Int} (h : 1 ≤ s ∧ s ≤ 1000) (h2 : 1 ≤ q ∧ q ≤ 1000) : checkC (xC s q) = true := by
  have e1 : countsD s 1 = true := by unfold countsD; simp; omega
  have e2 : countsD q 1 = true := by unfold countsD; simp; omega
  simp [checkC, xC, name_a, e1, e2, noneV, emptyB]
theorem xC_get {s q : Int} (h : 1 ≤ s ∧ s ≤ 1000) (h2 : 1 ≤ q ∧ q ≤ 1000) : getC (putC (xC s q)) = (xC s q, true) := getC_put _ (xC_check h h2) I64_0 I64_0
theorem xC_w {s q : Int} (h : 1 ≤ s ∧ s ≤ 1000) (h2 : 1 ≤ q ∧ q ≤ 1000) : CmdW (xC s q) := checkC_w (xC_check h h2) ⟨I64_4, (show I64 s from ⟨by omega, by omega⟩), (show I64 q from ⟨by omega, by omega⟩), I64_0, I64_0, I64_0⟩
theorem calls_none (q r : Int) (cl : CmdD) (last : MsgD) (rep : ReplyD) (hq : q ≤ 1000) (hr : r ≤ 1000) : callD (ccA 0 q r cl last 0 rep) (readC ⟨#[97]⟩) = (ccA 0 q (r + 1) (readC1 ⟨#[97]⟩) (lastN (r + 1) [2]) 1 rep, [msgN (r + 1) [2]], 0) := by
  rw [call_read _ name_a rfl (by show q < _; omega) (by show r < _; omega), ask_none _ (by show ¬ (0 : Int) < 0; decide)]
  rfl
theorem calls_some (s q r : Int) (cl : CmdD) (last : MsgD) (rep : ReplyD) (hs : 0 < s) (hq : q ≤ 1000) (hr : r ≤ 1000) : callD (ccA s q r cl last 0 rep) (readC ⟨#[97]⟩) = (ccA s (q + 1) (r + 1) (readC1 ⟨#[97]⟩) (lastN (r + 1) (putC (xC s (q + 1)))) 2 rep, [msgN (r + 1) (putC (xC s (q + 1)))], 0) := by
  rw [call_read _ name_a rfl (by show q < _; omega) (by show r < _; omega), ask_some _ (by show 0 < s; exact hs)]
  rfl
theorem tell_ears (s q r : Int) (cl : CmdD) (last : MsgD) (does : Nat) (rep x : ReplyD) (frm : Int) (hf : 1 ≤ frm ∧ frm ≤ 3) (hd : does ≠ 0) : deafD (ccA s q r cl last does rep) (tellN frm r x) = false := by
  have h0 : (does == 0) = false := by rw [beq_eq_false_iff_ne]; exact hd
  have h1 : ¬ frm < 1 := by omega
  have h2 : ¬ 3 < frm := by omega
  simp [deafD, ccA, tellN, confA, h0, h1, h2]
theorem calls_open (q r N : Int) (last : MsgD) (rep : ReplyD) (hN : 1 ≤ N ∧ N ≤ 1000) : chearD (ccA 0 q r (readC1 ⟨#[97]⟩) last 1 rep) (tellN 2 r ⟨0, N, ⟨0, 0, ⟨#[]⟩⟩⟩) = (ccA N 1 (r + 1) (readC1 ⟨#[97]⟩) (lastN (r + 1) (putC (xC N 1))) 2 rep, [msgN (r + 1) (putC (xC N 1))], false) := by
  have hc : checkR ⟨0, N, ⟨0, 0, ⟨#[]⟩⟩⟩ = true := by
    have e1 : countsD N 0 = true := by unfold countsD; simp; omega
    have e2 : checkD ⟨0, 0, ⟨#[]⟩⟩ = true := by decide +kernel
    simp [checkR, e1, e2]
  rw [hear_open _ _ ⟨0, N, ⟨0, 0, ⟨#[]⟩⟩⟩ (tell_ears _ _ _ _ _ _ _ _ _ (by decide) (by decide)) rfl rfl hc I64_0 I64_0 rfl rfl hN.1, ask_some _ (by show 0 < N; omega)]
  rfl
theorem calls_over (s q r : Int) (cl : CmdD) (last : MsgD) (rep x : ReplyD) (hx : checkR x = true) (hk : I64 x.value.kind) (hn : I64 x.value.n) : chearD (ccA s q r cl last 2 rep) (tellN 1 r x) = (ccA (if x.err = 16 then 0 else s) q r cl last 0 x, [], true) := by
  rw [hear_over _ _ x (tell_ears _ _ _ _ _ _ _ _ _ (by decide) (by decide)) rfl rfl hx hk hn rfl]
  rfl
theorem plainR_check {k : Int} (h : 0 ≤ k ∧ k ≤ 1000) : checkR ⟨0, k, ⟨0, 0, ⟨#[]⟩⟩⟩ = true := by
  have e1 : countsD k 0 = true := by unfold countsD; simp; omega
  have e2 : checkD ⟨0, 0, ⟨#[]⟩⟩ = true := by decide +kernel
  simp [checkR, e1, e2]
theorem plainR_w {k : Int} (h : 0 ≤ k ∧ k ≤ 1000) : ReplyW ⟨0, k, ⟨0, 0, ⟨#[]⟩⟩⟩ := ⟨I64_0, (show I64 k from ⟨by omega, by omega⟩), I64_0, I64_0, by show (0 : Nat) ≤ _; decide⟩
theorem expR_check : checkR ⟨16, 0, ⟨0, 0, ⟨#[]⟩⟩⟩ = true := by decide +kernel
theorem expR_w : ReplyW ⟨16, 0, ⟨0, 0, ⟨#[]⟩⟩⟩ := ⟨(show I64 16 by constructor <;> decide), I64_0, I64_0, I64_0, by show (0 : Nat) ≤ _; decide⟩

/-- Between two calls. -/
def CallsAt (w wr : World) (n B : Nat) (k : Nat) (s q r : Int) : Prop :=
  (Keeps [] w wr ∧ w.heap.size ≤ n ∧ n < wr.heap.size ∧ n < B ∧ B ≤ wr.heap.size) ∧ (0 ≤ s ∧ s ≤ 30) ∧ (0 ≤ q ∧ q ≤ k) ∧ (0 ≤ r ∧ r ≤ 2 * k) ∧ ∃ cl last rep dv fv, CliAt wr n (fun b => B ≤ b) (ccA s q r cl last 0 rep) dv fv

set_option maxRecDepth 100000 in
set_option maxHeartbeats 32000000 in
theorem calls_any (a : Option Addr) (ac : Nat) (l : List Bool) (w : World) (hT : Tabs w) (hE : Errs w) (hr : Reads w 1 (.slice a l.length ac) l.length (l.map Value.bool)) :
    Calls Tryz.prog 9 #[.slice a l.length ac] w fun e w' => e = .returned (.bool true) ∧ Keeps [] w w' := by
  have HT := hid hT
  have HE := hid hE
  have HR := hid hr
  have HAW := hid (fun wx (k : Keeps [] w wx) => awake24_any wx (hT.k k) (hE.k k))
  have hll : (l.length : Int) ≤ 9223372036854775807 := by
    rcases hr.2 with ⟨h0, _⟩ | ⟨_, _, _, c, e, h1, h2, _⟩
    · omega
    · unfold maxLen at h2; omega
  clear hT hE hr
  go_enter Tryz.func9, Tryz.ntmps9
  go_wp2_with fail
  refine (conf24_any 0 5 w (by decide) (by decide)).mono ?_
  rintro e w1 ⟨rfl, hk⟩
  have K1 := hid hk
  clear hk
  rw [confA_is]
  go_wp2_with fail
  refine (clNew_yes confA 103 (fun b => w1.heap.size + 2 ≤ b) w1 ⟨by decide, by decide, by decide, by decide, by decide⟩ (by decide) (by omega)).mono ?_
  rintro e w2 ⟨rfl, h2, hk⟩
  have HI2 : Hid (CallsAt w w2 (w1.heap.size + 1) (w1.heap.size + 2) 0 0 0 0) := ⟨⟨K1.out.trans hk (fun _ _ h => h), by have := K1.out.size; omega, h2.lt, by omega, h2.lt⟩, by decide, by decide, by decide, _, _, _, _, _, h2⟩
  obtain ⟨n, hnn⟩ : ∃ n, w1.heap.size + 1 = n := ⟨_, rfl⟩
  obtain ⟨B, hBB⟩ : ∃ B, w1.heap.size + 2 = B := ⟨_, rfl⟩
  rw [hnn, hBB] at HI2
  rw [hnn]
  clear hk h2 hnn hBB
  go_wp2_with fail
  go_loopw [5, 6, 7, 8] (fun number session seq i wr => ∃ (k : Nat) (s q r : Int), number = .int .i64 r ∧ session = .int .i64 s ∧ seq = .int .i64 q ∧ i = .int .i64 (k : Int) ∧ (k : Int) ≤ 20 ∧ Hid (k ≤ l.length ∧ CallsAt w wr n B k s q r)) (fun _ _ _ i _ => 100 - (intOf i).toNat)
  case atStart => exact ⟨0, 0, 0, 0, rfl, rfl, rfl, rfl, by decide, Nat.zero_le _, HI2.out⟩
  case round =>
    obtain ⟨k, s, q, r, rfl, rfl, rfl, rfl, hk20, HW⟩ := hrel
    obtain ⟨hkl, ⟨hK, hwn, hnw, hnB, hBw⟩, ⟨s0, s1⟩, ⟨q0, q1⟩, ⟨r0, r1⟩, cl, last, rep, dv, fv, hC⟩ := HW.out
    have HK := hid hK
    have HC := hid hC
    have HKL := hid hkl
    have HNB := hid hnB
    have HBW := hid hBw
    clear HW hK hC hBw
    have hk0 : (0 : Int) ≤ (k : Int) := Int.natCast_nonneg _
    by_cases hgo : k < l.length ∧ k < 20
    · obtain ⟨g1, g2⟩ := hgo
      have i1 : (k : Int) < (l.length : Int) := by omega
      have i2 : (k : Int) < 20 := by omega
      have hw1 : IntKind.i64.wrap ((k : Int) + 1) = (k : Int) + 1 := by rw [IntKind.wrap_i64]; omega
      have hw2 : IntKind.i64.wrap (r + 1) = r + 1 := by rw [IntKind.wrap_i64]; omega
      have hw3 : IntKind.i64.wrap (r + 1 + 1) = r + 1 + 1 := by rw [IntKind.wrap_i64]; omega
      have hw4 : IntKind.i64.wrap (q + 1) = q + 1 := by rw [IntKind.wrap_i64]; omega
      have hw5 : IntKind.i64.wrap (10 + (k : Int)) = 10 + (k : Int) := by rw [IntKind.wrap_i64]; omega
      obtain ⟨eb, heb⟩ : ∃ eb, l[k]? = some eb := ⟨l[k], List.getElem?_eq_getElem g1⟩
      have HEB : Hid (∃ b off, a = some ⟨b, off, none⟩ ∧ ∀ wx, Keeps [] w wx → wx.cell? ⟨b, off + k, none⟩ = some (.bool eb)) := by
        rcases HR.out.2 with ⟨h0, _⟩ | ⟨_, b, off, c, e, h1, h2, h3, h4⟩
        · omega
        · simp only [Value.slice.injEq] at e
          exact ⟨b, off, e.1, fun wx kx => kx.cellSome (h4 k (.bool eb) (by simp [heb])) (by simp)⟩
      obtain ⟨bb, boff, rfl, hbc⟩ := HEB.out
      have HBC := hid hbc
      clear hbc HEB heb g1 g2 hkl
      go_wp2_with fail
      refine (read24_any ⟨#[97]⟩ _).mono ?_
      rintro e w3 ⟨rfl, hk⟩
      have K3 : Hid (Keeps [] w w3) := HK.out.trans hk (fun _ _ h => h)
      have H3 := hid (HC.out.k hk)
      have HZ3 := hid (Nat.le_trans HBW.out hk.size)
      clear hk
      go_wp2_with fail
      refine (clCall_any w3 n _ (ccA s q r cl last 0 rep) _ _ (readC ⟨#[97]⟩) (HT.out.k K3.out) (HE.out.k K3.out) H3.out r0 (by show s ≤ _; omega) q0 (readI _) (by show (0 : Nat) ≤ _; decide) (fun b hb => Nat.le_trans HZ3.out hb)).mono ?_
      by_cases hs0 : s = 0
      · subst hs0
        rw [calls_none q r cl last rep (by omega) (by omega)]
        rintro e w4 ⟨v, rfl, a4, q4, dv4, fv4, rfl, h4, l4, hk⟩
        dsimp only at h4 l4 hk ⊢
        have H4 := hid h4
        have K4 : Hid (Keeps [] w w4) := K3.out.trans hk (fun x hx hx' => by simp at hx'; omega)
        have HZ4 := hid (Nat.le_trans HZ3.out hk.size)
        obtain ⟨g4, o4, k4, e4, c4, d4, f4, ha, y0, y1, y2, y3, y4, y5, y6, y7, y8, y9, ye, yb⟩ := l4.msg (j := 0) rfl
        simp only [Value.slice.injEq] at ha
        obtain ⟨rfl, -, rfl⟩ := ha
        have YB4 := hid yb
        simp only [msgN, List.length_cons, List.length_nil, Nat.zero_add, Nat.zero_mul, Nat.add_zero] at y6 y9 YB4 ⊢
        clear y0 y1 y2 y3 y4 y5 y7 y8 ye yb
        have cv : (convert 28 9 (.slice d4 1 f4)).run Tryz.prog w4 = .ok (.string (str [2])) w4 := cv_str YB4.out.1 rfl
        clear hk h4 l4
        go_wp2_with fail
        clear cv y6 y9
        refine (told24_any 2 103 (r + 1) ⟨0, 10 + (k : Int), ⟨0, 0, ⟨#[]⟩⟩⟩ (plainR_w ⟨by omega, by omega⟩) _).mono ?_
        rintro e w5 ⟨a5, q5, rfl, d5, hk⟩
        have K5 : Hid (Keeps [] w w5) := K4.out.trans hk (fun _ _ h => h)
        have H5 := hid (H4.out.k hk)
        have D5 := hid d5.1
        have HZ5 := hid (Nat.le_trans HZ4.out hk.size)
        clear hk d5
        go_wp2_with fail
        have hh := clHear_any w5 n _ (ccA 0 q (r + 1) (readC1 ⟨#[97]⟩) (lastN (r + 1) [2]) 1 rep) dv4 fv4 (tellN 2 (r + 1) ⟨0, 10 + (k : Int), ⟨0, 0, ⟨#[]⟩⟩⟩) none a5 0 0 q5 (HT.out.k K5.out) H5.out ⟨⟨by show 0 ≤ r + 1; omega, fun _ => by show r + 1 ≤ _; omega⟩, read_w name_a, by show (1 : Nat) ≤ _; decide⟩ D5.out (Nat.le_trans (putR_most _ (plainR_w ⟨by omega, by omega⟩)) (by decide)) (fun b hb => Nat.le_trans HZ5.out hb)
        rw [calls_open q (r + 1) (10 + (k : Int)) (lastN (r + 1) [2]) rep ⟨by omega, by omega⟩] at hh
        refine hh.mono ?_
        clear hh
        rintro e w6 ⟨v, rfl, a6, q6, dv6, fv6, rfl, h6, l6, hk⟩
        dsimp only at h6 l6 hk ⊢
        have K6 : Hid (Keeps [] w w6) := K5.out.trans hk (fun x hx hx' => by simp at hx'; omega)
        have HZ6 := hid (Nat.le_trans HZ5.out hk.size)
        have H6 := hid h6
        obtain ⟨g6, o6, k6, e6, c6, d6, f6, ha, y0, y1, y2, y3, y4, y5, y6, y7, y8, y9, ye, yb⟩ := l6.msg (j := 0) rfl
        simp only [Value.slice.injEq] at ha
        obtain ⟨rfl, -, rfl⟩ := ha
        have YB6 := hid yb
        simp only [msgN, List.length_cons, List.length_nil, Nat.zero_add, Nat.zero_mul, Nat.add_zero] at y6 y9 YB6 ⊢
        clear y0 y1 y2 y3 y4 y5 y7 y8 ye yb
        clear hk h6 l6
        have HSQ := hid (show (1 ≤ 10 + (k : Int) ∧ 10 + (k : Int) ≤ 30) ∧ ((1 : Int) ≤ 1 ∧ (1 : Int) ≤ (k : Int) + 1) ∧ (0 ≤ r + 1 + 1 ∧ r + 1 + 1 ≤ 2 * ((k : Int) + 1)) from ⟨⟨by omega, by omega⟩, ⟨by decide, by omega⟩, ⟨by omega, by omega⟩⟩)
        go_wp2_with fail
        refine (r14Get_any d6 f6 (putC (xC (10 + (k : Int)) 1)) _ (HT.out.k K6.out) YB6.out.1 (Nat.le_trans (putC_len _ (xC_w ⟨by have := HSQ.out; omega, by have := HSQ.out; omega⟩ ⟨by have := HSQ.out; omega, by have := HSQ.out; omega⟩)) (by decide))).mono ?_
        rw [xC_get ⟨by have := HSQ.out; omega, by have := HSQ.out; omega⟩ ⟨by have := HSQ.out; omega, by have := HSQ.out; omega⟩]
        rintro e w7 ⟨rfl, hk⟩
        have K7 : Hid (Keeps [] w w7) := K6.out.trans hk (fun _ _ h => h)
        have HZ7 := hid (Nat.le_trans HZ6.out hk.size)
        have H7 := hid (H6.out.k hk)
        clear hk y6 y9
        unfold cmdV xC
        dsimp only
        go_wp2_with fail
        refine (clSession_any (H7.out.k (by exact Keeps.K))).mono ?_
        rintro e w8 ⟨rfl, hk⟩
        have K8 : Hid (Keeps [] w w8) := K7.out.trans (Keeps.trans (G := []) (by exact Keeps.K) hk (fun _ _ h => h)) (fun _ _ h => h)
        have kk8 : Keeps [] w7 w8 := Keeps.trans (G := []) (by exact Keeps.K) hk (fun _ _ h => h)
        have HZ8 := hid (Nat.le_trans HZ7.out kk8.size)
        have H8 := hid (H7.out.k kk8)
        clear hk kk8
        dsimp only [ccA]
        go_wp2_with fail
        refine (clSeq_any H8.out).mono ?_
        rintro e w9 ⟨rfl, hk⟩
        have K9 : Hid (Keeps [] w w9) := K8.out.trans hk (fun _ _ h => h)
        have HZ9 := hid (Nat.le_trans HZ8.out hk.size)
        have H9 := hid (H8.out.k hk)
        clear hk
        have xb := HBC.out _ K9.out
        have hbl : bb < w9.heap.size := World.block_lt_of_cell? _ _ xb
        dsimp only [ccA]
        rcases eb with _ | _
        · go_wp2_with fail
          refine (told24_any 1 103 ((r + 1 + 1)) ⟨0, (k : Int), ⟨0, 0, ⟨#[]⟩⟩⟩ (plainR_w ⟨by omega, by omega⟩) _).mono ?_
          rintro e wA ⟨a10, q10, rfl, d10, hk⟩
          have kkA : Keeps [] w9 wA := Keeps.trans (G := []) (by exact Keeps.K) hk (fun _ _ h => h)
          have hrA : wA.heap[w9.heap.size]? = some (.cells #[.int .i64 0, .int .i64 (k : Int), .int .i64 0, .int .i64 0, .string ⟨#[]⟩] 37 (0, 0)) := (hk.block _ (by simp) (by simp)).trans (heap_alloc_new w9 _)
          have HRA := hid hrA
          have KA : Hid (Keeps [] w wA) := K9.out.trans kkA (fun _ _ h => h)
          have HZA := hid (Nat.le_trans HZ9.out kkA.size)
          have HA := hid (H9.out.k kkA)
          have DA := hid d10.1
          have hn9 : n < w9.heap.size := H9.out.lt
          clear hk kkA d10 hrA xb hbl
          go_wp2_with fail
          have hh := clHear_any wA n _ (ccA (10 + (k : Int)) 1 ((r + 1 + 1)) (readC1 ⟨#[97]⟩) (lastN ((r + 1 + 1)) (putC (xC (10 + (k : Int)) 1))) 2 rep) dv6 fv6 (tellN 1 ((r + 1 + 1)) ⟨0, (k : Int), ⟨0, 0, ⟨#[]⟩⟩⟩) none a10 0 0 q10 (HT.out.k KA.out) HA.out ⟨⟨by have := HSQ.out; show 0 ≤ (r + 1 + 1); omega, fun h => absurd (show (2 : Nat) = 1 from h) (by decide)⟩, read_w name_a, by
            have := putC_len (xC (10 + (k : Int)) 1) (xC_w ⟨by have := HSQ.out; omega, by have := HSQ.out; omega⟩ ⟨by have := HSQ.out; omega, by have := HSQ.out; omega⟩)
            show (putC (xC (10 + (k : Int)) 1)).length ≤ _
            omega⟩ DA.out (Nat.le_trans (putR_most _ (plainR_w ⟨by omega, by omega⟩)) (by decide)) (fun b hb => Nat.le_trans HZA.out hb)
          rw [calls_over (10 + (k : Int)) 1 ((r + 1 + 1)) (readC1 ⟨#[97]⟩) (lastN ((r + 1 + 1)) (putC (xC (10 + (k : Int)) 1))) rep ⟨0, (k : Int), ⟨0, 0, ⟨#[]⟩⟩⟩ (plainR_check ⟨by omega, by omega⟩) I64_0 I64_0] at hh
          refine hh.mono ?_
          clear hh
          rintro e wB ⟨v, rfl, aB, qB, dvB, fvB, rfl, hB, lB, hk⟩
          dsimp only at hB lB hk ⊢
          rw [if_neg (by decide)] at hB
          have KB : Hid (Keeps [] w wB) := KA.out.trans hk (fun x hx hx' => by simp at hx'; omega)
          have HZB := hid (Nat.le_trans HZA.out hk.size)
          have HB := hid hB
          have hrB := (hk.block _ (Array.getElem?_eq_some_iff.1 HRA.out).1 (by simp; omega)).trans HRA.out
          have HRB := hid hrB
          obtain ⟨⟨x0, x1, x2, x3, x4⟩, -⟩ := blk5 hrB
          clear hk hB lB hrB
          go_wp2_with fail
          refine Plan.wp_region_plan (fun wx => wx.cell? ⟨w9.heap.size, 0, none⟩ = some (.int .i64 0) ∧ wx.cell? ⟨w9.heap.size, 1, none⟩ = some (.int .i64 (k : Int)) ∧ wx.cell? ⟨w9.heap.size, 2, none⟩ = some (.int .i64 0) ∧ wx.cell? ⟨w9.heap.size, 3, none⟩ = some (.int .i64 0) ∧ wx.cell? ⟨w9.heap.size, 4, none⟩ = some (.string ⟨#[]⟩)) 16 [(true, 0), (true, 1), (true, 2), (true, 3), (false, 4), (true, 5), (true, 6), (true, 7), (true, 9), (false, 8), (true, 10), (true, 11), (true, 12), (true, 13), (true, 15), (false, 14)] (by kernel_rfl) (by as_aux_lemma => kernel_rfl) (by kernel_rfl) (fun _ _ _ _ _ h => h) ?_ (fun hS => ?_)
          (· go_simp)
          simp only [Plan.pick, List.append_eq, List.cons_append, List.nil_append, Plan.g1, Plan.g2, Option.getD_some, List.drop_succ_cons, List.drop_zero]
          iterate 4 (first | refine Plan.tA ?_ | refine Plan.tY ?_ | refine Plan.pN ?_ | refine Plan.pU ?_ | fail)
          refine Plan.step ?_
          go_wp2_with fail
          refine (clBusy_any (HB.out.k (by exact Keeps.K))).mono ?_
          rintro e wC ⟨rfl, hk⟩
          have kC : Keeps [] wB wC := Keeps.trans (G := []) (by exact Keeps.K) hk (fun _ _ h => h)
          have KC := hid kC
          clear hk x0 x1 x2 x3 x4 hS
          obtain ⟨⟨x0, x1, x2, x3, x4⟩, -⟩ := blk5 ((kC.block _ (Array.getElem?_eq_some_iff.1 HRB.out).1 (by simp)).trans HRB.out)
          clear kC
          dsimp only [ccA]
          go_wp2_with fail
          refine ⟨?_, ?_⟩
          (· go_simp)
          iterate 4 (first | refine Plan.tA ?_ | refine Plan.tY ?_ | refine Plan.pN ?_ | refine Plan.pU ?_ | fail)
          refine Plan.step ?_
          go_wp2_with fail
          refine (clReply_any (HB.out.k (by have kk := KC.out; exact Keeps.K))).mono ?_
          rintro e wD ⟨rfl, hk⟩
          have kD : Keeps [] wB wD := Keeps.trans (G := []) (by have kk := KC.out; exact Keeps.K) hk (fun _ _ h => h)
          have KD := hid kD
          clear hk x0 x1 x2 x3 x4
          obtain ⟨⟨x0, x1, x2, x3, x4⟩, -⟩ := blk5 ((kD.block _ (Array.getElem?_eq_some_iff.1 HRB.out).1 (by simp)).trans HRB.out)
          clear kD
          dsimp only [ccA, replyV]
          go_wp2_with fail
          refine ⟨?_, ?_⟩
          (· go_simp)
          iterate 5 (first | refine Plan.tA ?_ | refine Plan.tY ?_ | refine Plan.pN ?_ | refine Plan.pU ?_ | fail)
          refine Plan.step ?_
          go_wp2_with fail
          refine (clSession_any (HB.out.k (by have kk := KD.out; exact Keeps.K))).mono ?_
          rintro e wE ⟨rfl, hk⟩
          have kE : Keeps [] wB wE := Keeps.trans (G := []) (by have kk := KD.out; exact Keeps.K) hk (fun _ _ h => h)
          have KE := hid kE
          clear hk x0 x1 x2 x3 x4
          obtain ⟨⟨x0, x1, x2, x3, x4⟩, -⟩ := blk5 ((kE.block _ (Array.getElem?_eq_some_iff.1 HRB.out).1 (by simp)).trans HRB.out)
          clear kE
          dsimp only [ccA]
          go_wp2_with fail
          refine ⟨?_, ?_⟩
          (· go_simp)
          refine Plan.fin ?_
          go_wp2_with fail
          go_roundw
          case rel => exact ⟨k + 1, (10 + (k : Int)), 1, (r + 1 + 1), rfl, rfl, rfl, by go_num, by omega, by have := HKL.out; omega, ⟨KB.out.trans KE.out (fun _ _ h => h), hwn, Nat.lt_of_lt_of_le (HB.out.lt) KE.out.size, HNB.out, Nat.le_trans HZB.out KE.out.size⟩, by have := HSQ.out; omega, by have := HSQ.out; omega, by have := HSQ.out; omega, _, _, _, _, _, HB.out.k KE.out⟩
          case measure => simp [intOf]; omega
        · go_wp2_with fail
          refine (told24_any 1 103 ((r + 1 + 1)) ⟨16, 0, ⟨0, 0, ⟨#[]⟩⟩⟩ expR_w _).mono ?_
          rintro e wA ⟨a10, q10, rfl, d10, hk⟩
          have kkA : Keeps [] w9 wA := Keeps.trans (G := []) (by exact Keeps.K) hk (fun _ _ h => h)
          have hrA : wA.heap[w9.heap.size]? = some (.cells #[.int .i64 16, .int .i64 0, .int .i64 0, .int .i64 0, .string ⟨#[]⟩] 37 (0, 0)) := (hk.block _ (by simp) (by simp)).trans (heap_alloc_new w9 _)
          have HRA := hid hrA
          have KA : Hid (Keeps [] w wA) := K9.out.trans kkA (fun _ _ h => h)
          have HZA := hid (Nat.le_trans HZ9.out kkA.size)
          have HA := hid (H9.out.k kkA)
          have DA := hid d10.1
          have hn9 : n < w9.heap.size := H9.out.lt
          clear hk kkA d10 hrA xb hbl
          go_wp2_with fail
          have hh := clHear_any wA n _ (ccA (10 + (k : Int)) 1 ((r + 1 + 1)) (readC1 ⟨#[97]⟩) (lastN ((r + 1 + 1)) (putC (xC (10 + (k : Int)) 1))) 2 rep) dv6 fv6 (tellN 1 ((r + 1 + 1)) ⟨16, 0, ⟨0, 0, ⟨#[]⟩⟩⟩) none a10 0 0 q10 (HT.out.k KA.out) HA.out ⟨⟨by have := HSQ.out; show 0 ≤ (r + 1 + 1); omega, fun h => absurd (show (2 : Nat) = 1 from h) (by decide)⟩, read_w name_a, by
            have := putC_len (xC (10 + (k : Int)) 1) (xC_w ⟨by have := HSQ.out; omega, by have := HSQ.out; omega⟩ ⟨by have := HSQ.out; omega, by have := HSQ.out; omega⟩)
            show (putC (xC (10 + (k : Int)) 1)).length ≤ _
            omega⟩ DA.out (Nat.le_trans (putR_most _ expR_w) (by decide)) (fun b hb => Nat.le_trans HZA.out hb)
          rw [calls_over (10 + (k : Int)) 1 ((r + 1 + 1)) (readC1 ⟨#[97]⟩) (lastN ((r + 1 + 1)) (putC (xC (10 + (k : Int)) 1))) rep ⟨16, 0, ⟨0, 0, ⟨#[]⟩⟩⟩ expR_check I64_0 I64_0] at hh
          refine hh.mono ?_
          clear hh
          rintro e wB ⟨v, rfl, aB, qB, dvB, fvB, rfl, hB, lB, hk⟩
          dsimp only at hB lB hk ⊢
          rw [if_pos rfl] at hB
          have KB : Hid (Keeps [] w wB) := KA.out.trans hk (fun x hx hx' => by simp at hx'; omega)
          have HZB := hid (Nat.le_trans HZA.out hk.size)
          have HB := hid hB
          have hrB := (hk.block _ (Array.getElem?_eq_some_iff.1 HRA.out).1 (by simp; omega)).trans HRA.out
          have HRB := hid hrB
          obtain ⟨⟨x0, x1, x2, x3, x4⟩, -⟩ := blk5 hrB
          clear hk hB lB hrB
          go_wp2_with fail
          refine Plan.wp_region_plan (fun wx => wx.cell? ⟨w9.heap.size, 0, none⟩ = some (.int .i64 16) ∧ wx.cell? ⟨w9.heap.size, 1, none⟩ = some (.int .i64 0) ∧ wx.cell? ⟨w9.heap.size, 2, none⟩ = some (.int .i64 0) ∧ wx.cell? ⟨w9.heap.size, 3, none⟩ = some (.int .i64 0) ∧ wx.cell? ⟨w9.heap.size, 4, none⟩ = some (.string ⟨#[]⟩)) 16 [(true, 0), (true, 1), (true, 2), (true, 3), (false, 4), (true, 5), (true, 6), (true, 7), (true, 9), (false, 8), (true, 10), (true, 11), (true, 12), (true, 13), (true, 15), (false, 14)] (by kernel_rfl) (by as_aux_lemma => kernel_rfl) (by kernel_rfl) (fun _ _ _ _ _ h => h) ?_ (fun hS => ?_)
          (· go_simp)
          simp only [Plan.pick, List.append_eq, List.cons_append, List.nil_append, Plan.g1, Plan.g2, Option.getD_some, List.drop_succ_cons, List.drop_zero]
          iterate 4 (first | refine Plan.tA ?_ | refine Plan.tY ?_ | refine Plan.pN ?_ | refine Plan.pU ?_ | fail)
          refine Plan.step ?_
          go_wp2_with fail
          refine (clBusy_any (HB.out.k (by exact Keeps.K))).mono ?_
          rintro e wC ⟨rfl, hk⟩
          have kC : Keeps [] wB wC := Keeps.trans (G := []) (by exact Keeps.K) hk (fun _ _ h => h)
          have KC := hid kC
          clear hk x0 x1 x2 x3 x4 hS
          obtain ⟨⟨x0, x1, x2, x3, x4⟩, -⟩ := blk5 ((kC.block _ (Array.getElem?_eq_some_iff.1 HRB.out).1 (by simp)).trans HRB.out)
          clear kC
          dsimp only [ccA]
          go_wp2_with fail
          refine ⟨?_, ?_⟩
          (· go_simp)
          iterate 4 (first | refine Plan.tA ?_ | refine Plan.tY ?_ | refine Plan.pN ?_ | refine Plan.pU ?_ | fail)
          refine Plan.step ?_
          go_wp2_with fail
          refine (clReply_any (HB.out.k (by have kk := KC.out; exact Keeps.K))).mono ?_
          rintro e wD ⟨rfl, hk⟩
          have kD : Keeps [] wB wD := Keeps.trans (G := []) (by have kk := KC.out; exact Keeps.K) hk (fun _ _ h => h)
          have KD := hid kD
          clear hk x0 x1 x2 x3 x4
          obtain ⟨⟨x0, x1, x2, x3, x4⟩, -⟩ := blk5 ((kD.block _ (Array.getElem?_eq_some_iff.1 HRB.out).1 (by simp)).trans HRB.out)
          clear kD
          dsimp only [ccA, replyV]
          go_wp2_with fail
          refine ⟨?_, ?_⟩
          (· go_simp)
          iterate 5 (first | refine Plan.tA ?_ | refine Plan.tY ?_ | refine Plan.pN ?_ | refine Plan.pU ?_ | fail)
          refine Plan.step ?_
          go_wp2_with fail
          refine (clSession_any (HB.out.k (by have kk := KD.out; exact Keeps.K))).mono ?_
          rintro e wE ⟨rfl, hk⟩
          have kE : Keeps [] wB wE := Keeps.trans (G := []) (by have kk := KD.out; exact Keeps.K) hk (fun _ _ h => h)
          have KE := hid kE
          clear hk x0 x1 x2 x3 x4
          obtain ⟨⟨x0, x1, x2, x3, x4⟩, -⟩ := blk5 ((kE.block _ (Array.getElem?_eq_some_iff.1 HRB.out).1 (by simp)).trans HRB.out)
          clear kE
          dsimp only [ccA]
          go_wp2_with fail
          refine ⟨?_, ?_⟩
          (· go_simp)
          refine Plan.fin ?_
          go_wp2_with fail
          go_roundw
          case rel => exact ⟨k + 1, 0, 1, (r + 1 + 1), rfl, rfl, rfl, by go_num, by omega, by have := HKL.out; omega, ⟨KB.out.trans KE.out (fun _ _ h => h), hwn, Nat.lt_of_lt_of_le (HB.out.lt) KE.out.size, HNB.out, Nat.le_trans HZB.out KE.out.size⟩, by have := HSQ.out; omega, by have := HSQ.out; omega, by have := HSQ.out; omega, _, _, _, _, _, HB.out.k KE.out⟩
          case measure => simp [intOf]; omega
      · rw [calls_some s q r cl last rep (by omega) (by omega) (by omega)]
        have hs0' : (s == 0) = false := by simpa using hs0
        have hs1 : 1 ≤ s := by omega
        rintro e w6 ⟨v, rfl, a6, q6, dv6, fv6, rfl, h6, l6, hk⟩
        dsimp only at h6 l6 hk ⊢
        have K6 : Hid (Keeps [] w w6) := K3.out.trans hk (fun x hx hx' => by simp at hx'; omega)
        have HZ6 := hid (Nat.le_trans HZ3.out hk.size)
        have H6 := hid h6
        obtain ⟨g6, o6, k6, e6, c6, d6, f6, ha, y0, y1, y2, y3, y4, y5, y6, y7, y8, y9, ye, yb⟩ := l6.msg (j := 0) rfl
        simp only [Value.slice.injEq] at ha
        obtain ⟨rfl, -, rfl⟩ := ha
        have YB6 := hid yb
        simp only [msgN, List.length_cons, List.length_nil, Nat.zero_add, Nat.zero_mul, Nat.add_zero] at y6 y9 YB6 ⊢
        clear y0 y1 y2 y3 y4 y5 y7 y8 ye yb
        clear hk h6 l6
        have HSQ := hid (show (1 ≤ s ∧ s ≤ 30) ∧ (1 ≤ q + 1 ∧ q + 1 ≤ (k : Int) + 1) ∧ (0 ≤ r + 1 ∧ r + 1 ≤ 2 * ((k : Int) + 1)) from ⟨⟨by omega, by omega⟩, ⟨by omega, by omega⟩, ⟨by omega, by omega⟩⟩)
        go_wp2_with fail
        refine (r14Get_any d6 f6 (putC (xC s (q + 1))) _ (HT.out.k K6.out) YB6.out.1 (Nat.le_trans (putC_len _ (xC_w ⟨by have := HSQ.out; omega, by have := HSQ.out; omega⟩ ⟨by have := HSQ.out; omega, by have := HSQ.out; omega⟩)) (by decide))).mono ?_
        rw [xC_get ⟨by have := HSQ.out; omega, by have := HSQ.out; omega⟩ ⟨by have := HSQ.out; omega, by have := HSQ.out; omega⟩]
        rintro e w7 ⟨rfl, hk⟩
        have K7 : Hid (Keeps [] w w7) := K6.out.trans hk (fun _ _ h => h)
        have HZ7 := hid (Nat.le_trans HZ6.out hk.size)
        have H7 := hid (H6.out.k hk)
        clear hk y6 y9
        unfold cmdV xC
        dsimp only
        go_wp2_with fail
        refine (clSession_any (H7.out.k (by exact Keeps.K))).mono ?_
        rintro e w8 ⟨rfl, hk⟩
        have K8 : Hid (Keeps [] w w8) := K7.out.trans (Keeps.trans (G := []) (by exact Keeps.K) hk (fun _ _ h => h)) (fun _ _ h => h)
        have kk8 : Keeps [] w7 w8 := Keeps.trans (G := []) (by exact Keeps.K) hk (fun _ _ h => h)
        have HZ8 := hid (Nat.le_trans HZ7.out kk8.size)
        have H8 := hid (H7.out.k kk8)
        clear hk kk8
        dsimp only [ccA]
        go_wp2_with fail
        refine (clSeq_any H8.out).mono ?_
        rintro e w9 ⟨rfl, hk⟩
        have K9 : Hid (Keeps [] w w9) := K8.out.trans hk (fun _ _ h => h)
        have HZ9 := hid (Nat.le_trans HZ8.out hk.size)
        have H9 := hid (H8.out.k hk)
        clear hk
        have xb := HBC.out _ K9.out
        have hbl : bb < w9.heap.size := World.block_lt_of_cell? _ _ xb
        dsimp only [ccA]
        rcases eb with _ | _
        · go_wp2_with fail
          refine (told24_any 1 103 ((r + 1)) ⟨0, (k : Int), ⟨0, 0, ⟨#[]⟩⟩⟩ (plainR_w ⟨by omega, by omega⟩) _).mono ?_
          rintro e wA ⟨a10, q10, rfl, d10, hk⟩
          have kkA : Keeps [] w9 wA := Keeps.trans (G := []) (by exact Keeps.K) hk (fun _ _ h => h)
          have hrA : wA.heap[w9.heap.size]? = some (.cells #[.int .i64 0, .int .i64 (k : Int), .int .i64 0, .int .i64 0, .string ⟨#[]⟩] 37 (0, 0)) := (hk.block _ (by simp) (by simp)).trans (heap_alloc_new w9 _)
          have HRA := hid hrA
          have KA : Hid (Keeps [] w wA) := K9.out.trans kkA (fun _ _ h => h)
          have HZA := hid (Nat.le_trans HZ9.out kkA.size)
          have HA := hid (H9.out.k kkA)
          have DA := hid d10.1
          have hn9 : n < w9.heap.size := H9.out.lt
          clear hk kkA d10 hrA xb hbl
          go_wp2_with fail
          have hh := clHear_any wA n _ (ccA s (q + 1) ((r + 1)) (readC1 ⟨#[97]⟩) (lastN ((r + 1)) (putC (xC s (q + 1)))) 2 rep) dv6 fv6 (tellN 1 ((r + 1)) ⟨0, (k : Int), ⟨0, 0, ⟨#[]⟩⟩⟩) none a10 0 0 q10 (HT.out.k KA.out) HA.out ⟨⟨by have := HSQ.out; show 0 ≤ (r + 1); omega, fun h => absurd (show (2 : Nat) = 1 from h) (by decide)⟩, read_w name_a, by
            have := putC_len (xC s (q + 1)) (xC_w ⟨by have := HSQ.out; omega, by have := HSQ.out; omega⟩ ⟨by have := HSQ.out; omega, by have := HSQ.out; omega⟩)
            show (putC (xC s (q + 1))).length ≤ _
            omega⟩ DA.out (Nat.le_trans (putR_most _ (plainR_w ⟨by omega, by omega⟩)) (by decide)) (fun b hb => Nat.le_trans HZA.out hb)
          rw [calls_over s (q + 1) ((r + 1)) (readC1 ⟨#[97]⟩) (lastN ((r + 1)) (putC (xC s (q + 1)))) rep ⟨0, (k : Int), ⟨0, 0, ⟨#[]⟩⟩⟩ (plainR_check ⟨by omega, by omega⟩) I64_0 I64_0] at hh
          refine hh.mono ?_
          clear hh
          rintro e wB ⟨v, rfl, aB, qB, dvB, fvB, rfl, hB, lB, hk⟩
          dsimp only at hB lB hk ⊢
          rw [if_neg (by decide)] at hB
          have KB : Hid (Keeps [] w wB) := KA.out.trans hk (fun x hx hx' => by simp at hx'; omega)
          have HZB := hid (Nat.le_trans HZA.out hk.size)
          have HB := hid hB
          have hrB := (hk.block _ (Array.getElem?_eq_some_iff.1 HRA.out).1 (by simp; omega)).trans HRA.out
          have HRB := hid hrB
          obtain ⟨⟨x0, x1, x2, x3, x4⟩, -⟩ := blk5 hrB
          clear hk hB lB hrB
          go_wp2_with fail
          refine Plan.wp_region_plan (fun wx => wx.cell? ⟨w9.heap.size, 0, none⟩ = some (.int .i64 0) ∧ wx.cell? ⟨w9.heap.size, 1, none⟩ = some (.int .i64 (k : Int)) ∧ wx.cell? ⟨w9.heap.size, 2, none⟩ = some (.int .i64 0) ∧ wx.cell? ⟨w9.heap.size, 3, none⟩ = some (.int .i64 0) ∧ wx.cell? ⟨w9.heap.size, 4, none⟩ = some (.string ⟨#[]⟩)) 16 [(true, 0), (true, 1), (true, 2), (true, 3), (false, 4), (true, 5), (true, 6), (true, 7), (true, 9), (false, 8), (true, 10), (true, 11), (true, 12), (true, 13), (true, 15), (false, 14)] (by kernel_rfl) (by as_aux_lemma => kernel_rfl) (by kernel_rfl) (fun _ _ _ _ _ h => h) ?_ (fun hS => ?_)
          (· go_simp)
          simp only [Plan.pick, List.append_eq, List.cons_append, List.nil_append, Plan.g1, Plan.g2, Option.getD_some, List.drop_succ_cons, List.drop_zero]
          iterate 4 (first | refine Plan.tA ?_ | refine Plan.tY ?_ | refine Plan.pN ?_ | refine Plan.pU ?_ | fail)
          refine Plan.step ?_
          go_wp2_with fail
          refine (clBusy_any (HB.out.k (by exact Keeps.K))).mono ?_
          rintro e wC ⟨rfl, hk⟩
          have kC : Keeps [] wB wC := Keeps.trans (G := []) (by exact Keeps.K) hk (fun _ _ h => h)
          have KC := hid kC
          clear hk x0 x1 x2 x3 x4 hS
          obtain ⟨⟨x0, x1, x2, x3, x4⟩, -⟩ := blk5 ((kC.block _ (Array.getElem?_eq_some_iff.1 HRB.out).1 (by simp)).trans HRB.out)
          clear kC
          dsimp only [ccA]
          go_wp2_with fail
          refine ⟨?_, ?_⟩
          (· go_simp)
          iterate 4 (first | refine Plan.tA ?_ | refine Plan.tY ?_ | refine Plan.pN ?_ | refine Plan.pU ?_ | fail)
          refine Plan.step ?_
          go_wp2_with fail
          refine (clReply_any (HB.out.k (by have kk := KC.out; exact Keeps.K))).mono ?_
          rintro e wD ⟨rfl, hk⟩
          have kD : Keeps [] wB wD := Keeps.trans (G := []) (by have kk := KC.out; exact Keeps.K) hk (fun _ _ h => h)
          have KD := hid kD
          clear hk x0 x1 x2 x3 x4
          obtain ⟨⟨x0, x1, x2, x3, x4⟩, -⟩ := blk5 ((kD.block _ (Array.getElem?_eq_some_iff.1 HRB.out).1 (by simp)).trans HRB.out)
          clear kD
          dsimp only [ccA, replyV]
          go_wp2_with fail
          refine ⟨?_, ?_⟩
          (· go_simp)
          iterate 5 (first | refine Plan.tA ?_ | refine Plan.tY ?_ | refine Plan.pN ?_ | refine Plan.pU ?_ | fail)
          refine Plan.step ?_
          go_wp2_with fail
          refine (clSession_any (HB.out.k (by have kk := KD.out; exact Keeps.K))).mono ?_
          rintro e wE ⟨rfl, hk⟩
          have kE : Keeps [] wB wE := Keeps.trans (G := []) (by have kk := KD.out; exact Keeps.K) hk (fun _ _ h => h)
          have KE := hid kE
          clear hk x0 x1 x2 x3 x4
          obtain ⟨⟨x0, x1, x2, x3, x4⟩, -⟩ := blk5 ((kE.block _ (Array.getElem?_eq_some_iff.1 HRB.out).1 (by simp)).trans HRB.out)
          clear kE
          dsimp only [ccA]
          go_wp2_with fail
          refine ⟨?_, ?_⟩
          (· go_simp)
          refine Plan.fin ?_
          go_wp2_with fail
          go_roundw
          case rel => exact ⟨k + 1, s, (q + 1), (r + 1), rfl, rfl, rfl, by go_num, by omega, by have := HKL.out; omega, ⟨KB.out.trans KE.out (fun _ _ h => h), hwn, Nat.lt_of_lt_of_le (HB.out.lt) KE.out.size, HNB.out, Nat.le_trans HZB.out KE.out.size⟩, by have := HSQ.out; omega, by have := HSQ.out; omega, by have := HSQ.out; omega, _, _, _, _, _, HB.out.k KE.out⟩
          case measure => simp [intOf]; omega
        · go_wp2_with fail
          refine (told24_any 1 103 ((r + 1)) ⟨16, 0, ⟨0, 0, ⟨#[]⟩⟩⟩ expR_w _).mono ?_
          rintro e wA ⟨a10, q10, rfl, d10, hk⟩
          have kkA : Keeps [] w9 wA := Keeps.trans (G := []) (by exact Keeps.K) hk (fun _ _ h => h)
          have hrA : wA.heap[w9.heap.size]? = some (.cells #[.int .i64 16, .int .i64 0, .int .i64 0, .int .i64 0, .string ⟨#[]⟩] 37 (0, 0)) := (hk.block _ (by simp) (by simp)).trans (heap_alloc_new w9 _)
          have HRA := hid hrA
          have KA : Hid (Keeps [] w wA) := K9.out.trans kkA (fun _ _ h => h)
          have HZA := hid (Nat.le_trans HZ9.out kkA.size)
          have HA := hid (H9.out.k kkA)
          have DA := hid d10.1
          have hn9 : n < w9.heap.size := H9.out.lt
          clear hk kkA d10 hrA xb hbl
          go_wp2_with fail
          have hh := clHear_any wA n _ (ccA s (q + 1) ((r + 1)) (readC1 ⟨#[97]⟩) (lastN ((r + 1)) (putC (xC s (q + 1)))) 2 rep) dv6 fv6 (tellN 1 ((r + 1)) ⟨16, 0, ⟨0, 0, ⟨#[]⟩⟩⟩) none a10 0 0 q10 (HT.out.k KA.out) HA.out ⟨⟨by have := HSQ.out; show 0 ≤ (r + 1); omega, fun h => absurd (show (2 : Nat) = 1 from h) (by decide)⟩, read_w name_a, by
            have := putC_len (xC s (q + 1)) (xC_w ⟨by have := HSQ.out; omega, by have := HSQ.out; omega⟩ ⟨by have := HSQ.out; omega, by have := HSQ.out; omega⟩)
            show (putC (xC s (q + 1))).length ≤ _
            omega⟩ DA.out (Nat.le_trans (putR_most _ expR_w) (by decide)) (fun b hb => Nat.le_trans HZA.out hb)
          rw [calls_over s (q + 1) ((r + 1)) (readC1 ⟨#[97]⟩) (lastN ((r + 1)) (putC (xC s (q + 1)))) rep ⟨16, 0, ⟨0, 0, ⟨#[]⟩⟩⟩ expR_check I64_0 I64_0] at hh
          refine hh.mono ?_
          clear hh
          rintro e wB ⟨v, rfl, aB, qB, dvB, fvB, rfl, hB, lB, hk⟩
          dsimp only at hB lB hk ⊢
          rw [if_pos rfl] at hB
          have KB : Hid (Keeps [] w wB) := KA.out.trans hk (fun x hx hx' => by simp at hx'; omega)
          have HZB := hid (Nat.le_trans HZA.out hk.size)
          have HB := hid hB
          have hrB := (hk.block _ (Array.getElem?_eq_some_iff.1 HRA.out).1 (by simp; omega)).trans HRA.out
          have HRB := hid hrB
          obtain ⟨⟨x0, x1, x2, x3, x4⟩, -⟩ := blk5 hrB
          clear hk hB lB hrB
          go_wp2_with fail
          refine Plan.wp_region_plan (fun wx => wx.cell? ⟨w9.heap.size, 0, none⟩ = some (.int .i64 16) ∧ wx.cell? ⟨w9.heap.size, 1, none⟩ = some (.int .i64 0) ∧ wx.cell? ⟨w9.heap.size, 2, none⟩ = some (.int .i64 0) ∧ wx.cell? ⟨w9.heap.size, 3, none⟩ = some (.int .i64 0) ∧ wx.cell? ⟨w9.heap.size, 4, none⟩ = some (.string ⟨#[]⟩)) 16 [(true, 0), (true, 1), (true, 2), (true, 3), (false, 4), (true, 5), (true, 6), (true, 7), (true, 9), (false, 8), (true, 10), (true, 11), (true, 12), (true, 13), (true, 15), (false, 14)] (by kernel_rfl) (by as_aux_lemma => kernel_rfl) (by kernel_rfl) (fun _ _ _ _ _ h => h) ?_ (fun hS => ?_)
          (· go_simp)
          simp only [Plan.pick, List.append_eq, List.cons_append, List.nil_append, Plan.g1, Plan.g2, Option.getD_some, List.drop_succ_cons, List.drop_zero]
          iterate 4 (first | refine Plan.tA ?_ | refine Plan.tY ?_ | refine Plan.pN ?_ | refine Plan.pU ?_ | fail)
          refine Plan.step ?_
          go_wp2_with fail
          refine (clBusy_any (HB.out.k (by exact Keeps.K))).mono ?_
          rintro e wC ⟨rfl, hk⟩
          have kC : Keeps [] wB wC := Keeps.trans (G := []) (by exact Keeps.K) hk (fun _ _ h => h)
          have KC := hid kC
          clear hk x0 x1 x2 x3 x4 hS
          obtain ⟨⟨x0, x1, x2, x3, x4⟩, -⟩ := blk5 ((kC.block _ (Array.getElem?_eq_some_iff.1 HRB.out).1 (by simp)).trans HRB.out)
          clear kC
          dsimp only [ccA]
          go_wp2_with fail
          refine ⟨?_, ?_⟩
          (· go_simp)
          iterate 4 (first | refine Plan.tA ?_ | refine Plan.tY ?_ | refine Plan.pN ?_ | refine Plan.pU ?_ | fail)
          refine Plan.step ?_
          go_wp2_with fail
          refine (clReply_any (HB.out.k (by have kk := KC.out; exact Keeps.K))).mono ?_
          rintro e wD ⟨rfl, hk⟩
          have kD : Keeps [] wB wD := Keeps.trans (G := []) (by have kk := KC.out; exact Keeps.K) hk (fun _ _ h => h)
          have KD := hid kD
          clear hk x0 x1 x2 x3 x4
          obtain ⟨⟨x0, x1, x2, x3, x4⟩, -⟩ := blk5 ((kD.block _ (Array.getElem?_eq_some_iff.1 HRB.out).1 (by simp)).trans HRB.out)
          clear kD
          dsimp only [ccA, replyV]
          go_wp2_with fail
          refine ⟨?_, ?_⟩
          (· go_simp)
          iterate 5 (first | refine Plan.tA ?_ | refine Plan.tY ?_ | refine Plan.pN ?_ | refine Plan.pU ?_ | fail)
          refine Plan.step ?_
          go_wp2_with fail
          refine (clSession_any (HB.out.k (by have kk := KD.out; exact Keeps.K))).mono ?_
          rintro e wE ⟨rfl, hk⟩
          have kE : Keeps [] wB wE := Keeps.trans (G := []) (by have kk := KD.out; exact Keeps.K) hk (fun _ _ h => h)
          have KE := hid kE
          clear hk x0 x1 x2 x3 x4
          obtain ⟨⟨x0, x1, x2, x3, x4⟩, -⟩ := blk5 ((kE.block _ (Array.getElem?_eq_some_iff.1 HRB.out).1 (by simp)).trans HRB.out)
          clear kE
          dsimp only [ccA]
          go_wp2_with fail
          refine ⟨?_, ?_⟩
          (· go_simp)
          refine Plan.fin ?_
          go_wp2_with fail
          go_roundw
          case rel => exact ⟨k + 1, 0, (q + 1), (r + 1), rfl, rfl, rfl, by go_num, by omega, by have := HKL.out; omega, ⟨KB.out.trans KE.out (fun _ _ h => h), hwn, Nat.lt_of_lt_of_le (HB.out.lt) KE.out.size, HNB.out, Nat.le_trans HZB.out KE.out.size⟩, by have := HSQ.out; omega, by have := HSQ.out; omega, by have := HSQ.out; omega, _, _, _, _, _, HB.out.k KE.out⟩
          case measure => simp [intOf]; omega
    · have hex : (¬ (k : Int) < (l.length : Int)) ∨ ((k : Int) < (l.length : Int) ∧ ¬ (k : Int) < 20) := by omega
      clear hgo hkl
      rcases hex with h1 | ⟨h1, h2⟩
      all_goals
        go_wp2_with fail
        refine (HAW.out _ HK.out).mono ?_
        rintro e w7 ⟨rfl, hk⟩
        have K7 : Hid (Keeps [] w w7) := HK.out.trans hk (fun _ _ h => h)
        clear hk
        go_wp2_with fail
        go_ret
        exact ⟨rfl, K7.out⟩

end Go.Proofs.YtbbdmmhpbeleoaaGreatDoor
