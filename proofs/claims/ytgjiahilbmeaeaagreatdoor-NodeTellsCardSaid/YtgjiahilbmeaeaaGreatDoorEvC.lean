/- What expressions of several parts come «to», where inputs are blank. -/
import Derived.Test.YtgjiahilbmeaeaaGreatDoorR19
set_option maxRecDepth 100000
set_option maxHeartbeats 4000000
set_option linter.unusedSimpArgs false
set_option linter.unusedVariables false
namespace Go.Proofs.YtgjiahilbmeaeaaGreatDoor
open Go Go.RowKit
def KidAt (w : World) (g off : Nat) (o n : Int) (s : ByteArray) (a : Option Addr) (m c : Nat) : Prop :=
 w.cell? ⟨g, off, none⟩ = some (.int .i64 o) ∧ w.cell? ⟨g, off + 1, none⟩ = some (.int .i64 n) ∧ w.cell? ⟨g, off + 2, none⟩ = some (.string s) ∧ w.cell? ⟨g, off + 3, none⟩ = some (.slice a m c)
theorem KidAt.k {w w' : World} {g off : Nat} {o n : Int} {s : ByteArray} {a : Option Addr} {m c : Nat} (h : KidAt w g off o n s a m c) (k : Keeps [] w w') : KidAt w' g off o n s a m c :=
 ⟨k.cellSome h.1 (by simp), k.cellSome h.2.1 (by simp), k.cellSome h.2.2.1 (by simp), k.cellSome h.2.2.2 (by simp)⟩
def KidC (w : World) (wb : Nat) (o n : Int) (s : ByteArray) (a : Option Addr) (m c : Nat) (v : ValD) : Prop :=
 (checkD v = true ∧ v.s.size ≤ 1000000) ∧ ∀ wx, Keeps [] w wx → Calls Tryz.prog 256 #[.pointer (some ⟨wb, 0, none⟩), .agg #[.int .i64 o, .int .i64 n, .string s, .slice a m c]] wx fun e w' => e = .returned (boxV v) ∧ Keeps [] wx w'
theorem KidC.k {w w' : World} {wb : Nat} {o n : Int} {s : ByteArray} {a : Option Addr} {m c : Nat} {v : ValD} (h : KidC w wb o n s a m c v) (k : Keeps [] w w') : KidC w' wb o n s a m c v := ⟨h.1, fun wx k' => h.2 wx (k.trans k' (fun _ _ h => h))⟩
theorem KidC.need {w : World} {wb : Nat} {o n : Int} {s : ByteArray} {a : Option Addr} {m c : Nat} {v : ValD} (h : KidC w wb o n s a m c v) (hT : Tabs w) (kinds : List Int) (n3 : Nat) (a3 : Option Addr) (c3 : Nat) (hn : kinds.length = n3) (hk : Reads w 1 (.slice a3 n3 c3) n3 (i64s kinds)) (h3 : n3 ≤ 3) :
 Calls Tryz.prog 301 #[.pointer (some ⟨wb, 0, none⟩), .agg #[.int .i64 o, .int .i64 n, .string s, .slice a m c], .slice a3 n3 c3] w fun e w' => e = .returned (.tuple #[boxV (needD v kinds).1, .bool (needD v kinds).2]) ∧ Keeps [] w w' :=
 evNeed_ok v kinds n3 a3 c3 wb o n s a m c w hT h.1.1 h.1.2 h.2 hn hk h3
theorem evText_fail (w : World) (wb g off : Nat) (m c : Nat) (o n : Int) (s : ByteArray) (o0 n0 : Int) (s0 : ByteArray) (a0 : Option Addr) (m0 c0 : Nat) (v : ValD) (hT : Tabs w) (hm : 1 ≤ m) (hk : KidAt w g off o0 n0 s0 a0 m0 c0) (hc : KidC w wb o0 n0 s0 a0 m0 c0 v) (hf : (needD v [3]).2 = false) :
 Calls Tryz.prog 281 #[.pointer (some ⟨wb, 0, none⟩), .agg #[.int .i64 o, .int .i64 n, .string s, .slice (some ⟨g, off, none⟩) m c]] w fun e w' => e = .returned (boxV (needD v [3]).1) ∧ Keeps [] w w' := by
 have HC := hid hc
 have HT := hid hT
 have HF := hid hf
 have kA : Keeps [] w (w.alloc (.cells #[.int .i64 o, .int .i64 n, .string s, .slice (some ⟨g, off, none⟩) m c] 76)) := by exact Keeps.K
 obtain ⟨x0, x1, x2, x3⟩ := hk.k kA
 have m0 : (0 : Int) < (m : Int) := by omega
 have KB : Hid (Keeps [] w ((w.alloc (.cells #[.int .i64 o, .int .i64 n, .string s, .slice (some ⟨g, off, none⟩) m c] 76)).alloc (.cells #[.int .i64 3] 3))) := by show Keeps _ _ _; exact Keeps.K
 have HR : Hid (((w.alloc (.cells #[.int .i64 o, .int .i64 n, .string s, .slice (some ⟨g, off, none⟩) m c] 76)).alloc (.cells #[.int .i64 3] 3)).heap[w.heap.size + 1]? = some (.cells #[.int .i64 3] 3 (0, 0))) := new2K w _ _
 clear hc hT hk kA hf
 go_enter Tryz.func281, Tryz.ntmps281
 go_wp2_with fail
 refine ((HC.out.k KB.out).need (HT.out.k KB.out) [3] 1 _ 1 rfl (Reads.ofBlock (n := 1) HR.out rfl (by decide)) (by decide)).mono ?_
 rintro _ w2 ⟨rfl, hk2⟩
 have K2 := hid (KB.out.trans hk2 (fun _ _ h => h))
 rw [HF.out]
 clear hk2
 go_wp2_with fail
 go_ret
 exact ⟨rfl, K2.out⟩
theorem evDecided_fail (w : World) (wb g off : Nat) (m c : Nat) (o n : Int) (s : ByteArray) (o0 n0 : Int) (s0 : ByteArray) (a0 : Option Addr) (m0 c0 : Nat) (v : ValD) (hT : Tabs w) (hm : 1 ≤ m) (hk : KidAt w g off o0 n0 s0 a0 m0 c0) (hc : KidC w wb o0 n0 s0 a0 m0 c0 v) (hf : (needD v [2]).2 = false) :
 Calls Tryz.prog 310 #[.pointer (some ⟨wb, 0, none⟩), .agg #[.int .i64 o, .int .i64 n, .string s, .slice (some ⟨g, off, none⟩) m c]] w fun e w' => e = .returned (boxV (needD v [2]).1) ∧ Keeps [] w w' := by
 have HC := hid hc
 have HT := hid hT
 have HF := hid hf
 have kA : Keeps [] w (w.alloc (.cells #[.int .i64 o, .int .i64 n, .string s, .slice (some ⟨g, off, none⟩) m c] 76)) := by exact Keeps.K
 obtain ⟨x0, x1, x2, x3⟩ := hk.k kA
 have m0 : (0 : Int) < (m : Int) := by omega
 have KB : Hid (Keeps [] w ((w.alloc (.cells #[.int .i64 o, .int .i64 n, .string s, .slice (some ⟨g, off, none⟩) m c] 76)).alloc (.cells #[.int .i64 2] 3))) := by show Keeps _ _ _; exact Keeps.K
 have HR : Hid (((w.alloc (.cells #[.int .i64 o, .int .i64 n, .string s, .slice (some ⟨g, off, none⟩) m c] 76)).alloc (.cells #[.int .i64 2] 3)).heap[w.heap.size + 1]? = some (.cells #[.int .i64 2] 3 (0, 0))) := new2K w _ _
 clear hc hT hk kA hf
 go_enter Tryz.func310, Tryz.ntmps310
 go_wp2_with fail
 refine ((HC.out.k KB.out).need (HT.out.k KB.out) [2] 1 _ 1 rfl (Reads.ofBlock (n := 1) HR.out rfl (by decide)) (by decide)).mono ?_
 rintro _ w2 ⟨rfl, hk2⟩
 have K2 := hid (KB.out.trans hk2 (fun _ _ h => h))
 rw [HF.out]
 clear hk2
 go_wp2_with fail
 go_ret
 exact ⟨rfl, K2.out⟩
theorem evDecided_else (w : World) (wb g off : Nat) (m c : Nat) (o n : Int) (s : ByteArray) (o0 n0 : Int) (s0 : ByteArray) (a0 : Option Addr) (m0 c0 : Nat) (v : ValD) (hT : Tabs w) (hm : 1 ≤ m) (hk : KidAt w g off o0 n0 s0 a0 m0 c0) (hc : KidC w wb o0 n0 s0 a0 m0 c0 v) (hv : v = ⟨2, 0, ⟨#[]⟩⟩) (ho : o = 18) (o2 n2 : Int) (s2 : ByteArray) (a2 : Option Addr) (m2 c2 : Nat) (u : ValD) (hm3 : 3 ≤ m) (hk2 : KidAt w g (off + 8) o2 n2 s2 a2 m2 c2) (hc2 : KidC w wb o2 n2 s2 a2 m2 c2 u) :
 Calls Tryz.prog 310 #[.pointer (some ⟨wb, 0, none⟩), .agg #[.int .i64 o, .int .i64 n, .string s, .slice (some ⟨g, off, none⟩) m c]] w fun e w' => e = .returned (boxV u) ∧ Keeps [] w w' := by
 have HC := hid hc
 have HT := hid hT
 have HC2 := hid hc2
 have HK2 := hid hk2
 subst ho
 have hm2 : (2 : Int) < (m : Int) := by omega
 have kA : Keeps [] w (w.alloc (.cells #[.int .i64 18, .int .i64 n, .string s, .slice (some ⟨g, off, none⟩) m c] 76)) := by exact Keeps.K
 obtain ⟨x0, x1, x2, x3⟩ := hk.k kA
 have m0 : (0 : Int) < (m : Int) := by omega
 have KB : Hid (Keeps [] w ((w.alloc (.cells #[.int .i64 18, .int .i64 n, .string s, .slice (some ⟨g, off, none⟩) m c] 76)).alloc (.cells #[.int .i64 2] 3))) := by show Keeps _ _ _; exact Keeps.K
 have HBB : Hid (((w.alloc (.cells #[.int .i64 18, .int .i64 n, .string s, .slice (some ⟨g, off, none⟩) m c] 76)).alloc (.cells #[.int .i64 2] 3)).heap[w.heap.size]? = some (.cells #[.int .i64 18, .int .i64 n, .string s, .slice (some ⟨g, off, none⟩) m c] 76 (0, 0))) := new2 w _ _ 0 rfl
 have HR : Hid (((w.alloc (.cells #[.int .i64 18, .int .i64 n, .string s, .slice (some ⟨g, off, none⟩) m c] 76)).alloc (.cells #[.int .i64 2] 3)).heap[w.heap.size + 1]? = some (.cells #[.int .i64 2] 3 (0, 0))) := new2K w _ _
 clear hc hT hk kA hk2 hc2
 go_enter Tryz.func310, Tryz.ntmps310
 go_wp2_with fail
 refine ((HC.out.k KB.out).need (HT.out.k KB.out) [2] 1 _ 1 rfl (Reads.ofBlock (n := 1) HR.out rfl (by decide)) (by decide)).mono ?_
 rintro _ w2 ⟨rfl, hk2⟩
 have K2 := hid (KB.out.trans hk2 (fun _ _ h => h))
 have hnd : needD v [2] = (v, true) := by rw [hv]; rfl
 have hbx : boxV v = .iface 4 (.bool false) := by rw [hv]; unfold boxV; rw [if_pos (by kernel_rfl)]; rfl
 rw [hnd, hbx]
 have hb2 := (hk2.block w.heap.size (by simp; omega) (by simp)).trans HBB.out
 obtain ⟨_, z0, z1, z2, z3, _⟩ := zexpr hb2
 obtain ⟨y0, y1, y2, y3⟩ := HK2.out.k K2.out
 have HBG := hid (bool_good false w2)
 have HB2 := hid hb2
 clear hk2 hnd hbx hb2 x0 x1 x2 x3
 go_wp2_with fail
 refine HBG.out.mono ?_
 rintro _ w3 ⟨rfl, hk3⟩
 have K3 := hid (K2.out.trans hk3 (fun _ _ h => h))
 obtain ⟨_, z0', z1', z2', z3', _⟩ := zexpr ((hk3.block w.heap.size (Array.getElem?_eq_some_iff.1 HB2.out).1 (by simp)).trans HB2.out)
 obtain ⟨y0', y1', y2', y3'⟩ := HK2.out.k K3.out
 clear hk3 z0 z1 z2 z3 y0 y1 y2 y3
 go_wp2_with fail
 refine ((HC2.out).2 _ K3.out).mono ?_
 rintro _ w4 ⟨rfl, hk4⟩
 have K4 := hid (K3.out.trans hk4 (fun _ _ h => h))
 clear hk4
 go_wp2_with fail
 go_ret
 exact ⟨rfl, K4.out⟩
theorem evTruth_decided (w : World) (wb g off : Nat) (m c : Nat) (o n : Int) (s : ByteArray) (r : Value) (ho : o = 16 ∨ o = 17 ∨ o = 18)
 (hD : ∀ wx, Keeps [] w wx → Calls Tryz.prog 310 #[.pointer (some ⟨wb, 0, none⟩), .agg #[.int .i64 o, .int .i64 n, .string s, .slice (some ⟨g, off, none⟩) m c]] wx fun e w' => e = .returned r ∧ Keeps [] wx w') :
 Calls Tryz.prog 282 #[.pointer (some ⟨wb, 0, none⟩), .agg #[.int .i64 o, .int .i64 n, .string s, .slice (some ⟨g, off, none⟩) m c]] w fun e w' => e = .returned r ∧ Keeps [] w w' := by
 have HD := hid hD
 clear hD
 rcases ho with rfl | rfl | rfl
 all_goals
  go_enter Tryz.func282, Tryz.ntmps282
  go_wp2_with fail
  refine (HD.out _ (by exact Keeps.K)).mono ?_
  rintro _ w2 ⟨rfl, hk2⟩
  have K2 : Hid (Keeps [] w w2) := Keeps.trans (F := []) (G := []) (by exact Keeps.K) hk2 (fun _ _ h => h)
  clear hk2
  go_wp2_with fail
  go_ret
  exact ⟨rfl, K2.out⟩
theorem evTruth_fail12 (w : World) (wb g off : Nat) (m c : Nat) (n : Int) (s : ByteArray) (o0 n0 : Int) (s0 : ByteArray) (a0 : Option Addr) (m0 c0 : Nat) (v : ValD) (hT : Tabs w) (hm : 1 ≤ m) (hk : KidAt w g off o0 n0 s0 a0 m0 c0) (hc : KidC w wb o0 n0 s0 a0 m0 c0 v) (hf : (needD v [1, 3, 2]).2 = false) :
 Calls Tryz.prog 282 #[.pointer (some ⟨wb, 0, none⟩), .agg #[.int .i64 12, .int .i64 n, .string s, .slice (some ⟨g, off, none⟩) m c]] w fun e w' => e = .returned (boxV (needD v [1, 3, 2]).1) ∧ Keeps [] w w' := by
 have HC := hid hc
 have HT := hid hT
 have HF := hid hf
 have KB : Hid (Keeps [] w ((w.alloc (.cells #[.int .i64 12, .int .i64 n, .string s, .slice (some ⟨g, off, none⟩) m c] 76)).alloc (.cells #[.int .i64 1, .int .i64 3, .int .i64 2] 3))) := by show Keeps _ _ _; exact Keeps.K
 obtain ⟨x0, x1, x2, x3⟩ := hk.k KB.out
 have m0 : (0 : Int) < (m : Int) := by omega
 have HR : Hid (((w.alloc (.cells #[.int .i64 12, .int .i64 n, .string s, .slice (some ⟨g, off, none⟩) m c] 76)).alloc (.cells #[.int .i64 1, .int .i64 3, .int .i64 2] 3)).heap[w.heap.size + 1]? = some (.cells #[.int .i64 1, .int .i64 3, .int .i64 2] 3 (0, 0))) := new2K w _ _
 clear hc hT hk hf
 go_enter Tryz.func282, Tryz.ntmps282
 go_wp2_with fail
 refine ((HC.out.k KB.out).need (HT.out.k KB.out) [1, 3, 2] 3 _ 3 rfl (Reads.ofBlock (n := 3) HR.out rfl (by decide)) (by decide)).mono ?_
 rintro _ w2 ⟨rfl, hk2⟩
 have K2 := hid (KB.out.trans hk2 (fun _ _ h => h))
 rw [HF.out]
 clear hk2
 go_wp2_with fail
 go_ret
 exact ⟨rfl, K2.out⟩
theorem evTruth_fail14 (w : World) (wb g off : Nat) (m c : Nat) (n : Int) (s : ByteArray) (o0 n0 : Int) (s0 : ByteArray) (a0 : Option Addr) (m0 c0 : Nat) (v : ValD) (hT : Tabs w) (hm : 1 ≤ m) (hk : KidAt w g off o0 n0 s0 a0 m0 c0) (hc : KidC w wb o0 n0 s0 a0 m0 c0 v) (hf : (needD v [1, 3]).2 = false) :
 Calls Tryz.prog 282 #[.pointer (some ⟨wb, 0, none⟩), .agg #[.int .i64 14, .int .i64 n, .string s, .slice (some ⟨g, off, none⟩) m c]] w fun e w' => e = .returned (boxV (needD v [1, 3]).1) ∧ Keeps [] w w' := by
 have HC := hid hc
 have HT := hid hT
 have HF := hid hf
 have KB : Hid (Keeps [] w ((w.alloc (.cells #[.int .i64 14, .int .i64 n, .string s, .slice (some ⟨g, off, none⟩) m c] 76)).alloc (.cells #[.int .i64 1, .int .i64 3, .int .i64 2] 3))) := by show Keeps _ _ _; exact Keeps.K
 obtain ⟨x0, x1, x2, x3⟩ := hk.k KB.out
 have m0 : (0 : Int) < (m : Int) := by omega
 have HR : Hid (((w.alloc (.cells #[.int .i64 14, .int .i64 n, .string s, .slice (some ⟨g, off, none⟩) m c] 76)).alloc (.cells #[.int .i64 1, .int .i64 3, .int .i64 2] 3)).heap[w.heap.size + 1]? = some (.cells #[.int .i64 1, .int .i64 3, .int .i64 2] 3 (0, 0))) := new2K w _ _
 have HR2 : Hid (Reads ((w.alloc (.cells #[.int .i64 14, .int .i64 n, .string s, .slice (some ⟨g, off, none⟩) m c] 76)).alloc (.cells #[.int .i64 1, .int .i64 3, .int .i64 2] 3)) 1 (.slice (some ⟨w.heap.size + 1, 0, none⟩) 2 3) 2 (i64s [1, 3])) := by
  refine ⟨rfl, .inr ⟨by decide, _, _, 3, rfl, by decide, by decide, by simp, fun j u hu => ?_⟩⟩
  rw [Nat.zero_add]
  match j, hu with
  | 0, hu => simp [i64s] at hu; subst hu; exact cell_of_block HR.out 0
  | 1, hu => simp [i64s] at hu; subst hu; exact cell_of_block HR.out 1
  | j + 2, hu => simp [i64s] at hu
 clear hc hT hk hf
 go_enter Tryz.func282, Tryz.ntmps282
 go_wp2_with fail
 refine ((HC.out.k KB.out).need (HT.out.k KB.out) [1, 3] 2 _ 3 rfl HR2.out (by decide)).mono ?_
 rintro _ w2 ⟨rfl, hk2⟩
 have K2 := hid (KB.out.trans hk2 (fun _ _ h => h))
 rw [HF.out]
 clear hk2
 go_wp2_with fail
 go_ret
 exact ⟨rfl, K2.out⟩
theorem int_box {v : ValD} (hc : checkD v = true) (h : (needD v [1]).2 = true) : boxV v = .iface 2 (.int .i64 v.n) ∧ needD v [1] = (v, true) ∧ v.kind = 1 := by
 have hk : v.kind = 1 := by
  unfold needD at h
  split at h
  ·cases h
  ·split at h
   ·rename_i h2
    simpa using h2
   ·cases h
 refine ⟨?_, ?_, hk⟩
 ·unfold boxV
  rw [if_pos hc, if_pos hk]
 ·unfold needD
  rw [if_neg (by rw [hk]; decide), if_pos (by rw [hk]; rfl)]
def twoV (v u : ValD) : ValD := if (needD v [1]).2 = false then (needD v [1]).1 else if (needD u [1]).2 = false then (needD u [1]).1 else badD 2
theorem evNumber_fail (w : World) (wb g off : Nat) (c : Nat) (o n : Int) (s : ByteArray) (o0 n0 : Int) (s0 : ByteArray) (a0 : Option Addr) (m0 c0 : Nat) (o1 n1 : Int) (s1 : ByteArray) (a1 : Option Addr) (m1 c1 : Nat) (v u : ValD) (hT : Tabs w) (hk : KidAt w g off o0 n0 s0 a0 m0 c0) (hc : KidC w wb o0 n0 s0 a0 m0 c0 v)
 (hk1 : (needD v [1]).2 = true → KidAt w g (off + 4) o1 n1 s1 a1 m1 c1 ∧ KidC w wb o1 n1 s1 a1 m1 c1 u) (ho : 7 ≤ o ∧ o ≤ 11) (hz : (needD v [1]).2 = true → (needD u [1]).2 = true → o = 10 ∧ u.n = 0) :
 Calls Tryz.prog 280 #[.pointer (some ⟨wb, 0, none⟩), .agg #[.int .i64 o, .int .i64 n, .string s, .slice (some ⟨g, off, none⟩) 2 c]] w fun e w' => e = .returned (boxV (twoV v u)) ∧ Keeps [] w w' := by
 have HC := hid hc
 have HT := hid hT
 have HK := hid hk
 have HK1 := hid hk1
 have HZ := hid hz
 have HO := hid ho
 clear hc hT hk hk1 hz ho
 go_enter Tryz.func280, Tryz.ntmps280
 go_wp2_with fail
 go_loopw [17] (fun iv wr => ∃ (i : Nat) (l0 l1 : Int), iv = .int .i64 (i : Int) ∧ i ≤ 2 ∧ Hid (wr.heap[w.heap.size]? = some (.cells #[.int .i64 o, .int .i64 n, .string s, .slice (some ⟨g, off, none⟩) 2 c] 76 (0, 0)) ∧ wr.heap[w.heap.size + 1]? = some (.cells #[.int .i64 l0, .int .i64 l1] 390 (0, 0)) ∧ (1 ≤ i → (needD v [1]).2 = true) ∧ (1 ≤ i → l0 = v.n) ∧ (2 ≤ i → (needD u [1]).2 = true ∧ l1 = u.n) ∧ Keeps [] w wr)) (fun iv _ => 2 - (intOf iv).toNat)
 case atStart => exact ⟨0, 0, 0, rfl, by decide, new2 w _ _ 0 rfl, new2K w _ _, fun h => absurd h (by decide), fun h => absurd h (by decide), fun h => absurd h (by decide), by exact Keeps.K⟩
 case round =>
  obtain ⟨i, l0, l1, rfl, hi, hW⟩ := hrel
  have HW := hid hW.out
  clear hW
  have h3 : i = 0 ∨ i = 1 ∨ i = 2 := by omega
  rcases h3 with rfl | rfl | rfl
  ·-- part 0
   rw [show ((0 : Nat) : Int) = 0 from rfl]
   obtain ⟨x0, x1, x2, x3⟩ := (HK.out).k HW.out.2.2.2.2.2
   have HCK := hid ((HC.out).k HW.out.2.2.2.2.2)
   have KB : Hid (Keeps [] wr ((wr.alloc (.cells #[.int .i64 o0, .int .i64 n0, .string s0, .slice a0 m0 c0] 76)).alloc (.cells #[.int .i64 1] 3))) := by show Keeps _ _ _; exact Keeps.K
   have HR : Hid (((wr.alloc (.cells #[.int .i64 o0, .int .i64 n0, .string s0, .slice a0 m0 c0] 76)).alloc (.cells #[.int .i64 1] 3)).heap[wr.heap.size + 1]? = some (.cells #[.int .i64 1] 3 (0, 0))) := new2K wr _ _
   have HTW := hid (HT.out.k (HW.out.2.2.2.2.2.trans KB.out (fun _ _ h => h)))
   go_wp2_with fail
   refine ((HCK.out.k KB.out).need HTW.out [1] 1 _ 1 rfl (Reads.ofBlock (n := 1) HR.out rfl (by decide)) (by decide)).mono ?_
   rintro _ w2 ⟨rfl, hk2⟩
   have K2 := hid (HW.out.2.2.2.2.2.trans (KB.out.trans hk2 (fun _ _ h => h)) (fun _ _ h => h))
   have hb2 := (hk2.block (w.heap.size + 1) (by have := (Array.getElem?_eq_some_iff.1 HW.out.2.1).1; simp; omega) (by simp)).trans ((KB.out.block (w.heap.size + 1) (Array.getElem?_eq_some_iff.1 HW.out.2.1).1 (by simp)).trans HW.out.2.1)
   have he2 := (hk2.block w.heap.size (by have := (Array.getElem?_eq_some_iff.1 HW.out.1).1; simp; omega) (by simp)).trans ((KB.out.block w.heap.size (Array.getElem?_eq_some_iff.1 HW.out.1).1 (by simp)).trans HW.out.1)
   have HB2 := hid hb2
   have HE2 := hid he2
   clear hk2 hb2 he2 x0 x1 x2 x3
   rcases hf : (needD v [1]).2 with _ | _
   ·have HF := hid hf
    clear hf
    go_wp2_with fail
    go_ret
    exact ⟨by rw [show twoV v u = (needD v [1]).1 from if_pos HF.out]; rfl, K2.out⟩
   ·obtain ⟨hbx, hnd, hkd⟩ := int_box HCK.out.1.1 hf
    have HF := hid hf
    rw [hnd, hbx]
    have HIG := hid (int_good v.n w2)
    clear hf hbx hnd hkd
    go_wp2_with fail
    refine HIG.out.mono ?_
    rintro _ w3 ⟨rfl, hk3⟩
    have K3 := hid (K2.out.trans hk3 (fun _ _ h => h))
    have hb3 := (hk3.block (w.heap.size + 1) (Array.getElem?_eq_some_iff.1 HB2.out).1 (by simp)).trans HB2.out
    have he3 := (hk3.block w.heap.size (Array.getElem?_eq_some_iff.1 HE2.out).1 (by simp)).trans HE2.out
    have y0 : w3.cell? ⟨w.heap.size + 1, 0, none⟩ = some (.int .i64 l0) := cell_of_block hb3 0
    have y1 : w3.cell? ⟨w.heap.size + 1, 1, none⟩ = some (.int .i64 l1) := cell_of_block hb3 1
    have y2 : w3.frozen? ⟨w.heap.size + 1, 0, none⟩ = false := frozen_of_row w3 _ 0 _ _ hb3
    have y3 : w3.frozen? ⟨w.heap.size + 1, 1, none⟩ = false := frozen_of_row w3 _ 1 _ _ hb3
    have hs := heap_setCell_same w3 (w.heap.size + 1) 0 _ _ (.int .i64 v.n) hb3
    simp only [List.setIfInBounds_toArray, List.set_cons_zero, List.set_cons_succ] at hs
    have kS : Keeps [w.heap.size + 1] w3 (w3.setCell ⟨w.heap.size + 1, 0, none⟩ (.int .i64 v.n)) := (Keeps.refl _ _).setCell (.inl (by simp)) _
    have HN : Hid ((w3.setCell ⟨w.heap.size + 1, 0, none⟩ (.int .i64 v.n)).heap[w.heap.size + 1]? = some (.cells #[.int .i64 v.n, .int .i64 l1] 390 (0, 0)) ∧ (w3.setCell ⟨w.heap.size + 1, 0, none⟩ (.int .i64 v.n)).heap[w.heap.size]? = some (.cells #[.int .i64 o, .int .i64 n, .string s, .slice (some ⟨g, off, none⟩) 2 c] 76 (0, 0)) ∧ Keeps [] w (w3.setCell ⟨w.heap.size + 1, 0, none⟩ (.int .i64 v.n))) := ⟨hs, (kS.block w.heap.size (Array.getElem?_eq_some_iff.1 he3).1 (by simp)).trans he3, K3.out.trans kS (fun b hb hm => by simp at hm; omega)⟩
    clear hk3 hb3 he3 hs kS
    go_wp2_with fail
    exact ⟨⟨1, _, _, rfl, by decide, HN.out.2.1, HN.out.1, fun _ => HF.out, fun _ => rfl, fun h => absurd h (by decide), HN.out.2.2⟩, by simp [intOf]⟩
  ·-- part 1
   rw [show ((1 : Nat) : Int) = 1 from rfl]
   have hv1 := HW.out.2.2.1 (by decide)
   have hl0 := HW.out.2.2.2.1 (by decide)
   subst hl0
   have HV1 := hid hv1
   clear hv1
   obtain ⟨x0, x1, x2, x3⟩ := ((HK1.out HV1.out).1).k HW.out.2.2.2.2.2
   have HCK := hid (((HK1.out HV1.out).2).k HW.out.2.2.2.2.2)
   have KB : Hid (Keeps [] wr ((wr.alloc (.cells #[.int .i64 o1, .int .i64 n1, .string s1, .slice a1 m1 c1] 76)).alloc (.cells #[.int .i64 1] 3))) := by show Keeps _ _ _; exact Keeps.K
   have HR : Hid (((wr.alloc (.cells #[.int .i64 o1, .int .i64 n1, .string s1, .slice a1 m1 c1] 76)).alloc (.cells #[.int .i64 1] 3)).heap[wr.heap.size + 1]? = some (.cells #[.int .i64 1] 3 (0, 0))) := new2K wr _ _
   have HTW := hid (HT.out.k (HW.out.2.2.2.2.2.trans KB.out (fun _ _ h => h)))
   go_wp2_with fail
   refine ((HCK.out.k KB.out).need HTW.out [1] 1 _ 1 rfl (Reads.ofBlock (n := 1) HR.out rfl (by decide)) (by decide)).mono ?_
   rintro _ w2 ⟨rfl, hk2⟩
   have K2 := hid (HW.out.2.2.2.2.2.trans (KB.out.trans hk2 (fun _ _ h => h)) (fun _ _ h => h))
   have hb2 := (hk2.block (w.heap.size + 1) (by have := (Array.getElem?_eq_some_iff.1 HW.out.2.1).1; simp; omega) (by simp)).trans ((KB.out.block (w.heap.size + 1) (Array.getElem?_eq_some_iff.1 HW.out.2.1).1 (by simp)).trans HW.out.2.1)
   have he2 := (hk2.block w.heap.size (by have := (Array.getElem?_eq_some_iff.1 HW.out.1).1; simp; omega) (by simp)).trans ((KB.out.block w.heap.size (Array.getElem?_eq_some_iff.1 HW.out.1).1 (by simp)).trans HW.out.1)
   have HB2 := hid hb2
   have HE2 := hid he2
   clear hk2 hb2 he2 x0 x1 x2 x3
   rcases hf : (needD u [1]).2 with _ | _
   ·have HF := hid hf
    clear hf
    go_wp2_with fail
    go_ret
    exact ⟨by rw [show twoV v u = (needD u [1]).1 from (if_neg (by rw [HV1.out]; decide)).trans (if_pos HF.out)]; rfl, K2.out⟩
   ·obtain ⟨hbx, hnd, hkd⟩ := int_box HCK.out.1.1 hf
    have HF := hid hf
    rw [hnd, hbx]
    have HIG := hid (int_good u.n w2)
    clear hf hbx hnd hkd
    go_wp2_with fail
    refine HIG.out.mono ?_
    rintro _ w3 ⟨rfl, hk3⟩
    have K3 := hid (K2.out.trans hk3 (fun _ _ h => h))
    have hb3 := (hk3.block (w.heap.size + 1) (Array.getElem?_eq_some_iff.1 HB2.out).1 (by simp)).trans HB2.out
    have he3 := (hk3.block w.heap.size (Array.getElem?_eq_some_iff.1 HE2.out).1 (by simp)).trans HE2.out
    have y0 : w3.cell? ⟨w.heap.size + 1, 0, none⟩ = some (.int .i64 v.n) := cell_of_block hb3 0
    have y1 : w3.cell? ⟨w.heap.size + 1, 1, none⟩ = some (.int .i64 l1) := cell_of_block hb3 1
    have y2 : w3.frozen? ⟨w.heap.size + 1, 0, none⟩ = false := frozen_of_row w3 _ 0 _ _ hb3
    have y3 : w3.frozen? ⟨w.heap.size + 1, 1, none⟩ = false := frozen_of_row w3 _ 1 _ _ hb3
    have hs := heap_setCell_same w3 (w.heap.size + 1) 1 _ _ (.int .i64 u.n) hb3
    simp only [List.setIfInBounds_toArray, List.set_cons_zero, List.set_cons_succ] at hs
    have kS : Keeps [w.heap.size + 1] w3 (w3.setCell ⟨w.heap.size + 1, 1, none⟩ (.int .i64 u.n)) := (Keeps.refl _ _).setCell (.inl (by simp)) _
    have HN : Hid ((w3.setCell ⟨w.heap.size + 1, 1, none⟩ (.int .i64 u.n)).heap[w.heap.size + 1]? = some (.cells #[.int .i64 v.n, .int .i64 u.n] 390 (0, 0)) ∧ (w3.setCell ⟨w.heap.size + 1, 1, none⟩ (.int .i64 u.n)).heap[w.heap.size]? = some (.cells #[.int .i64 o, .int .i64 n, .string s, .slice (some ⟨g, off, none⟩) 2 c] 76 (0, 0)) ∧ Keeps [] w (w3.setCell ⟨w.heap.size + 1, 1, none⟩ (.int .i64 u.n))) := ⟨hs, (kS.block w.heap.size (Array.getElem?_eq_some_iff.1 he3).1 (by simp)).trans he3, K3.out.trans kS (fun b hb hm => by simp at hm; omega)⟩
    clear hk3 hb3 he3 hs kS
    go_wp2_with fail
    exact ⟨⟨2, _, _, rfl, by decide, HN.out.2.1, HN.out.1, fun _ => HV1.out, fun _ => rfl, fun _ => ⟨HF.out, rfl⟩, HN.out.2.2⟩, by simp [intOf]⟩
  ·rw [show ((2 : Nat) : Int) = 2 from rfl]
   have hv1 := HW.out.2.2.1 (by decide)
   have hl0 := HW.out.2.2.2.1 (by decide)
   obtain ⟨hu1, hl1⟩ := HW.out.2.2.2.2.1 (by decide)
   obtain ⟨ho, hz⟩ := HZ.out hv1 hu1
   subst hl0 hl1 ho
   have HE : Hid (boxV (twoV v u) = .iface 61 (.agg #[.int .i64 4, .int .i64 2, .string ⟨#[]⟩])) := by
    have h : twoV v u = badD 2 := (if_neg (by rw [hv1]; decide)).trans (if_neg (by rw [hu1]; decide))
    show _ = _
    rw [h]
    unfold boxV
    rw [if_pos (by kernel_rfl)]
    rfl
   have y0 : wr.cell? ⟨w.heap.size + 1, 0, none⟩ = some (.int .i64 v.n) := cell_of_block HW.out.2.1 0
   have y1 : wr.cell? ⟨w.heap.size + 1, 1, none⟩ = some (.int .i64 u.n) := cell_of_block HW.out.2.1 1
   rw [hz] at y1
   have e0 : wr.cell? ⟨w.heap.size, 0, none⟩ = some (.int .i64 10) := cell_of_block HW.out.1 0
   clear hv1 hu1 hz
   go_wp2_with fail
   refine Plan.wp_region_plan (fun wx => wx.cell? ⟨w.heap.size + 1, 0, none⟩ = some (.int .i64 v.n) ∧ wx.cell? ⟨w.heap.size + 1, 1, none⟩ = some (.int .i64 0)) 6 [(true, 0), (true, 1), (true, 2), (true, 3), (true, 4), (true, 5)] (by kernel_rfl) (by as_aux_lemma => kernel_rfl) (by kernel_rfl) (fun _ _ _ _ _ h => h) ?_ (fun hS => ?_)
   (·go_simp)
   simp only [Plan.pick, List.append_eq, List.cons_append, List.nil_append, Plan.g1, Plan.g2, Option.getD_some, List.drop_succ_cons, List.drop_zero]
   iterate 6 (first | refine Plan.tA ?_ | refine Plan.tY ?_ | refine Plan.pN ?_ | refine Plan.pU ?_ | fail)
   refine Plan.fin ?_
   clear hS
   have HBD := hid (fun wx => evBad_ok 2 wx)
   go_wp2_with fail
   refine (HBD.out _).mono ?_
   rintro _ w4 ⟨rfl, hk4⟩
   have K4 : Hid (Keeps [] w w4) := (HW.out.2.2.2.2.2.trans (G := []) (by exact Keeps.K) (fun _ _ h => h)).trans hk4 (fun _ _ h => h)
   clear hk4
   go_wp2_with fail
   go_ret
   exact ⟨by rw [HE.out]; rfl, K4.out⟩
end Go.Proofs.YtgjiahilbmeaeaaGreatDoor