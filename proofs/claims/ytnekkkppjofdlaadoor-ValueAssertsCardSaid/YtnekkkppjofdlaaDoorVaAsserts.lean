/- ValueAsserts, walked. (Printed by gen_asserts.py.) -/
import Derived.Test.YtnekkkppjofdlaaDoorVaO
import Derived.Test.YtnekkkppjofdlaaDoorVaP
namespace Go.Proofs.YtnekkkppjofdlaaDoor
open Go Go.RowKit

/-- What the loop finds: the box, the value. -/
structure TwoMem (px pw : Nat) (x : Value) (v : ValD) (w : World) : Prop where
  x : w.heap[px]? = some (.cells #[x] 20 (0, 0))
  v : w.heap[pw]? = some (.cells #[.int .i64 v.kind, .int .i64 v.n, .string v.s] 23 (0, 0))
theorem TwoMem.k {px pw : Nat} {x : Value} {v : ValD} {w w' : World} (h : TwoMem px pw x v w) (k : Keeps [] w w') : TwoMem px pw x v w' :=
  ⟨(k.block px (Array.getElem?_eq_some_iff.1 h.x).1 (by simp)).trans h.x, (k.block pw (Array.getElem?_eq_some_iff.1 h.v).1 (by simp)).trans h.v⟩
theorem TwoMem.clo {px pw : Nat} {x : Value} {v : ValD} {w : World} (h : TwoMem px pw x v w) : CloMem px pw w.heap.size x v (w.alloc (.cells #[.bool false] 4)) :=
  have h' := h.k (w' := w.alloc (.cells #[.bool false] 4)) ((Keeps.refl [] w).alloc _)
  ⟨h'.x, h'.v, heap_alloc_new w _⟩

/-- How many rounds are left. -/
def leftOf (p : Value) (w : World) : Nat := match p with
  | .pointer (some a) => match w.cell? a with
    | some (.int _ t) => (4 - t).toNat
    | _ => 0
  | _ => 0
theorem leftOf_is {pt : Nat} {t : Int} {w : World} (h : w.cell? ⟨pt, 0, none⟩ = some (.int .i64 t)) : leftOf (.pointer (some ⟨pt, 0, none⟩)) w = (4 - t).toNat := by
  simp only [leftOf, h]

theorem kindOf_true (v : ValD) : kindOf v true = v.kind := rfl
theorem kindOf_false (v : ValD) : kindOf v false = -1 := rfl
theorem heap_alloc_old {w : World} {b : Nat} {o : Obj} (h : w.heap[b]? = some o) (o2 : Obj) : (w.alloc o2).heap[b]? = some o :=
  (((Keeps.refl [] w).alloc o2).block b (Array.getElem?_eq_some_iff.1 h).1 (by simp)).trans h
theorem clo_fell (t : Int) (h0 : 1 ≤ t) (h1 : t ≤ 3) (pt px pw pg : Nat) (x : Value) (v : ValD) (is : Bool) (w : World) (hM : CloMem px pw pg x v w) (ht : w.cell? ⟨pt, 0, none⟩ = some (.int .i64 t)) (hX : BoxOk x v is) (hn : (is && v.kind == t) = false) (hT : Tabs w) :
    Calls Tryd.prog 25 #[.func (.func 26) #[] #[.pointer (some ⟨pt, 0, none⟩), .pointer (some ⟨px, 0, none⟩), .pointer (some ⟨pw, 0, none⟩), .pointer (some ⟨pg, 0, none⟩)]] w fun e w' => e = .returned (.tuple #[.agg #[.int .i64 t, .int .i64 (kindOf v is)], .bool true]) ∧ Keeps [] w w' := by
  refine caught_fell pt px pw pg t (kindOf v is) w fun wx kx => ?_
  have ht' : wx.cell? ⟨pt, 0, none⟩ = some (.int .i64 t) := kx.cellSome ht (by simp)
  have : t = 1 ∨ t = 2 ∨ t = 3 := by omega
  rcases this with rfl | rfl | rfl
  · exact clo_fell1 pt px pw pg x v is wx (hM.k kx) ht' hX hn (hT.k kx)
  · exact clo_fell2 pt px pw pg x v is wx (hM.k kx) ht' hX hn (hT.k kx)
  · exact clo_fell3 pt px pw pg x v is wx (hM.k kx) ht' hX hn (hT.k kx)
theorem clo_good (t : Int) (h0 : 1 ≤ t) (h1 : t ≤ 3) (pt px pw pg : Nat) (x : Value) (v : ValD) (w : World) (hM : CloMem px pw pg x v w) (ht : w.cell? ⟨pt, 0, none⟩ = some (.int .i64 t)) (hX : BoxOk x v true) (hn : v.kind = t) (hT : Tabs w) :
    Calls Tryd.prog 25 #[.func (.func 26) #[] #[.pointer (some ⟨pt, 0, none⟩), .pointer (some ⟨px, 0, none⟩), .pointer (some ⟨pw, 0, none⟩), .pointer (some ⟨pg, 0, none⟩)]] w fun e w' => e = .returned (.tuple #[.agg #[.int .i64 0, .int .i64 0], .bool false]) ∧ w'.heap[pg]? = some (.cells #[.bool true] 4 (0, 0)) ∧ Keeps [pg] w w' := by
  refine caught_good pt px pw pg w (Array.getElem?_eq_some_iff.1 hM.g).1 fun wx kx => ?_
  have ht' : wx.cell? ⟨pt, 0, none⟩ = some (.int .i64 t) := kx.cellSome ht (by simp)
  have : t = 1 ∨ t = 2 ∨ t = 3 := by omega
  rcases this with rfl | rfl | rfl
  · exact clo_good1 pt px pw pg x v wx (hM.k kx) ht' hX hn (hT.k kx)
  · exact clo_good2 pt px pw pg x v wx (hM.k kx) ht' hX hn (hT.k kx)
  · exact clo_good3 pt px pw pg x v wx (hM.k kx) ht' hX hn (hT.k kx)


set_option maxRecDepth 100000 in
set_option maxHeartbeats 3200000 in
theorem asserts_nil (k n : Int) (s : ByteArray) (v : ValD) (w : World) (hT : Tabs w) (hs : (s.size : Int) ≤ 5000)
    (hO : ∀ wx, Calls Tryd.prog 23 #[.int .i64 k, .int .i64 n, .string s] wx fun e w' => e = .returned .nilIface ∧ BoxOk .nilIface v true ∧ Keeps [] wx w')
    (hP : ∀ wx, Tabs wx → Calls Tryd.prog 24 #[.int .i64 k, .int .i64 n, .string s] wx (UnboxPost v true wx)) :
    Calls Tryd.prog 6 #[.int .i64 k, .int .i64 n, .string s] w fun e w' => e = .returned (.bool true) ∧ Keeps [] w w' := by
  have HT := hid hT
  have HO := hid hO
  have HP := hid hP
  clear hT hO hP
  go_enter Tryd.func6, Tryd.ntmps6
  go_wp2_with fail
  refine (HO.out _).mono ?_
  rintro e w1 ⟨rfl, hx, hk⟩
  have HX := hid hx
  have HK1 := hid hk
  clear hx hk
  go_wp2_with fail
  refine (HP.out _ (HT.out.k (by have kk := HK1.out; exact Keeps.K))).mono ?_
  rintro e w2 ⟨rfl, hk⟩
  have HX2 : Hid (w2.heap[w1.heap.size]? = some (.cells #[.nilIface] 20 (0, 0))) := (hk.block w1.heap.size (by simp) (by simp)).trans (heap_alloc_new w1 _)
  have HK2 : Hid (Keeps [] w w2) := Keeps.trans (by have kk := HK1.out; exact Keeps.K) hk (fun _ _ h => h)
  have x0 : w2.cell? ⟨w1.heap.size, 0, none⟩ = some (.nilIface) := cell_of_block HX2.out 0
  have HZ2 : Hid (w1.heap.size < w2.heap.size) := (Array.getElem?_eq_some_iff.1 HX2.out).1
  have hz2 := HZ2.out
  clear hk
  unfold valV
  go_wp2_with fail
  refine (HX.out.unbox _ (HT.out.k (by have kk := HK2.out; exact Keeps.K))).mono ?_
  rintro e w3 ⟨rfl, hk⟩
  have HM3 : Hid (TwoMem w1.heap.size w2.heap.size (.nilIface) v w3) := TwoMem.k ⟨(heap_alloc_old HX2.out _), heap_alloc_new w2 _⟩ hk
  have HK3 : Hid (Keeps [] w w3) := Keeps.trans (by have kk := HK2.out; exact Keeps.K) hk (fun _ _ h => h)
  clear hk x0
  have x0 : w3.cell? ⟨w1.heap.size, 0, none⟩ = some (.nilIface) := cell_of_block HM3.out.x 0
  have v0 : w3.cell? ⟨w2.heap.size, 0, none⟩ = some (.int .i64 v.kind) := cell_of_block HM3.out.v 0
  have v1 : w3.cell? ⟨w2.heap.size, 1, none⟩ = some (.int .i64 v.n) := cell_of_block HM3.out.v 1
  have v2 : w3.cell? ⟨w2.heap.size, 2, none⟩ = some (.string v.s) := cell_of_block HM3.out.v 2
  have hz3 : w2.heap.size < w3.heap.size := (Array.getElem?_eq_some_iff.1 HM3.out.v).1
  have hz13 : w1.heap.size < w3.heap.size := Nat.lt_trans hz2 hz3
  have hss : (v.s.toList == v.s.toList) = true := by simp
  unfold valV
  go_wp2_with fail
  refine (HX.out.kind _ (HT.out.k (by have kk := HK3.out; exact Keeps.K))).mono ?_
  rintro e w4 ⟨rfl, hk⟩
  have HK4 : Hid (Keeps [] w w4) := Keeps.trans (by have kk := HK3.out; exact Keeps.K) hk (fun _ _ h => h)
  have HM4 : Hid (TwoMem w1.heap.size w2.heap.size (.nilIface) v w4) := HM3.out.k (Keeps.trans (by exact Keeps.K) hk (fun _ _ h => h))
  clear hk x0 v0 v1 v2 hz3 hz13
  rw [kindOf_true]
  go_wp2_with fail
  go_loopw [13] (fun p wr => ∃ (pt : Nat) (t : Int), p = .pointer (some ⟨pt, 0, none⟩) ∧ 1 ≤ t ∧ t ≤ 4 ∧ Hid (wr.heap[pt]? = some (.cells #[.int .i64 t] 3 (0, 0)) ∧ TwoMem w1.heap.size w2.heap.size (.nilIface) v wr ∧ Keeps [] w wr)) (fun p wr => leftOf p wr)
  case atStart => exact ⟨w4.heap.size, 1, rfl, by omega, by omega, heap_alloc_new _ _, HM4.out.k ((Keeps.refl [] _).alloc _), by have kk := HK4.out; exact Keeps.K⟩
  case round =>
    obtain ⟨pt, t, rfl, t0, t1, HW⟩ := hrel
    have c0 : wr.cell? ⟨pt, 0, none⟩ = some (.int .i64 t) := cell_of_block HW.out.1 0
    have HPT : Hid (pt < wr.heap.size) := (Array.getElem?_eq_some_iff.1 HW.out.1).1
    by_cases hlt : t ≤ 3
    · have hne : pt < wr.heap.size := HPT.out
      by_cases hkt : v.kind = t
      · have hkt' : (v.kind == t) = true := by simpa using hkt
        clear hkt
        go_wp2_with fail
        refine (clo_good t t0 hlt pt w1.heap.size w2.heap.size wr.heap.size _ v _ HW.out.2.1.clo (by go_simp) HX.out (by simpa using hkt') (HT.out.k (by have kk := HW.out.2.2; exact Keeps.K))).mono ?_
        rintro e w5 ⟨rfl, hg, hk⟩
        have g0 : w5.cell? ⟨wr.heap.size, 0, none⟩ = some (.bool true) := cell_of_block hg 0
        have kk5 : Keeps [] wr w5 := Keeps.trans (G := [wr.heap.size]) (by exact Keeps.K) hk (fun k hk hm => by simp at hm; omega)
        have d0 : w5.cell? ⟨pt, 0, none⟩ = some (.int .i64 t) := kk5.cellSome (by go_simp) (by simp)
        have HM5 : Hid (TwoMem w1.heap.size w2.heap.size (.nilIface) v w5) := HW.out.2.1.k kk5
        have HK5 : Hid (Keeps [] w w5) := Keeps.trans HW.out.2.2 kk5 (fun _ _ h => h)
        have hne5 : pt < w5.heap.size := World.block_lt_of_cell? _ _ d0
        have hng5 : wr.heap.size < w5.heap.size := World.block_lt_of_cell? _ _ g0
        clear hk c0 hg kk5
        go_wp2_with fail
        exact ⟨⟨w5.heap.size + 1, t + 1, rfl, by omega, by omega, new_2 w5 _ _, HM5.out.k (by exact Keeps.K), by have kk := HK5.out; exact Keeps.K⟩, by rw [leftOf_is (cell_of_block (new_2 w5 _ _) 0), leftOf_is (cell_of_block HW.out.1 0)]; omega⟩
      · have hkt' : (v.kind == t) = false := by simpa using hkt
        go_wp2_with fail
        refine (clo_fell t t0 hlt pt w1.heap.size w2.heap.size wr.heap.size _ v true _ HW.out.2.1.clo (by go_simp) HX.out (by simp; try assumption) (HT.out.k (by have kk := HW.out.2.2; exact Keeps.K))).mono ?_
        rintro e w5 ⟨rfl, hk⟩
        rw [kindOf_true]
        have d0 : w5.cell? ⟨pt, 0, none⟩ = some (.int .i64 t) := hk.cellSome (by go_simp) (by simp)
        have HM5 : Hid (TwoMem w1.heap.size w2.heap.size (.nilIface) v w5) := HW.out.2.1.k (Keeps.trans (by exact Keeps.K) hk (fun _ _ h => h))
        have HK5 : Hid (Keeps [] w w5) := Keeps.trans (by have kk := HW.out.2.2; exact Keeps.K) hk (fun _ _ h => h)
        have hne5 : pt < w5.heap.size := World.block_lt_of_cell? _ _ d0
        clear hk c0
        go_wp2_with fail
        exact ⟨⟨w5.heap.size + 1, t + 1, rfl, by omega, by omega, new_2 w5 _ _, HM5.out.k (by exact Keeps.K), by have kk := HK5.out; exact Keeps.K⟩, by rw [leftOf_is (cell_of_block (new_2 w5 _ _) 0), leftOf_is (cell_of_block HW.out.1 0)]; omega⟩
    · have t4 : t = 4 := by omega
      subst t4
      go_wp2_with fail
      refine (awake5_any _ (HT.out.k HW.out.2.2)).mono ?_
      rintro e w5 ⟨rfl, hk⟩
      have HK5 : Hid (Keeps [] w w5) := Keeps.trans HW.out.2.2 hk (fun _ _ h => h)
      clear hk
      go_wp2_with fail
      go_ret
      exact ⟨rfl, HK5.out⟩


set_option maxRecDepth 100000 in
set_option maxHeartbeats 3200000 in
theorem asserts_true (k n : Int) (s : ByteArray) (v : ValD) (w : World) (hT : Tabs w) (hs : (s.size : Int) ≤ 5000)
    (hO : ∀ wx, Calls Tryd.prog 23 #[.int .i64 k, .int .i64 n, .string s] wx fun e w' => ∃ bt bv, e = .returned (.iface bt bv) ∧ BoxOk (.iface bt bv) v true ∧ Keeps [] wx w')
    (hP : ∀ wx, Tabs wx → Calls Tryd.prog 24 #[.int .i64 k, .int .i64 n, .string s] wx (UnboxPost v true wx)) :
    Calls Tryd.prog 6 #[.int .i64 k, .int .i64 n, .string s] w fun e w' => e = .returned (.bool true) ∧ Keeps [] w w' := by
  have HT := hid hT
  have HO := hid hO
  have HP := hid hP
  clear hT hO hP
  go_enter Tryd.func6, Tryd.ntmps6
  go_wp2_with fail
  refine (HO.out _).mono ?_
  rintro e w1 ⟨bt, bv, rfl, hx, hk⟩
  have HX := hid hx
  have HK1 := hid hk
  clear hx hk
  go_wp2_with fail
  refine (HP.out _ (HT.out.k (by have kk := HK1.out; exact Keeps.K))).mono ?_
  rintro e w2 ⟨rfl, hk⟩
  have HX2 : Hid (w2.heap[w1.heap.size]? = some (.cells #[.iface bt bv] 20 (0, 0))) := (hk.block w1.heap.size (by simp) (by simp)).trans (heap_alloc_new w1 _)
  have HK2 : Hid (Keeps [] w w2) := Keeps.trans (by have kk := HK1.out; exact Keeps.K) hk (fun _ _ h => h)
  have x0 : w2.cell? ⟨w1.heap.size, 0, none⟩ = some (.iface bt bv) := cell_of_block HX2.out 0
  have HZ2 : Hid (w1.heap.size < w2.heap.size) := (Array.getElem?_eq_some_iff.1 HX2.out).1
  have hz2 := HZ2.out
  clear hk
  unfold valV
  go_wp2_with fail
  refine (HX.out.unbox _ (HT.out.k (by have kk := HK2.out; exact Keeps.K))).mono ?_
  rintro e w3 ⟨rfl, hk⟩
  have HM3 : Hid (TwoMem w1.heap.size w2.heap.size (.iface bt bv) v w3) := TwoMem.k ⟨(heap_alloc_old HX2.out _), heap_alloc_new w2 _⟩ hk
  have HK3 : Hid (Keeps [] w w3) := Keeps.trans (by have kk := HK2.out; exact Keeps.K) hk (fun _ _ h => h)
  clear hk x0
  have x0 : w3.cell? ⟨w1.heap.size, 0, none⟩ = some (.iface bt bv) := cell_of_block HM3.out.x 0
  have v0 : w3.cell? ⟨w2.heap.size, 0, none⟩ = some (.int .i64 v.kind) := cell_of_block HM3.out.v 0
  have v1 : w3.cell? ⟨w2.heap.size, 1, none⟩ = some (.int .i64 v.n) := cell_of_block HM3.out.v 1
  have v2 : w3.cell? ⟨w2.heap.size, 2, none⟩ = some (.string v.s) := cell_of_block HM3.out.v 2
  have hz3 : w2.heap.size < w3.heap.size := (Array.getElem?_eq_some_iff.1 HM3.out.v).1
  have hz13 : w1.heap.size < w3.heap.size := Nat.lt_trans hz2 hz3
  have hss : (v.s.toList == v.s.toList) = true := by simp
  unfold valV
  go_wp2_with fail
  refine (HX.out.kind _ (HT.out.k (by have kk := HK3.out; exact Keeps.K))).mono ?_
  rintro e w4 ⟨rfl, hk⟩
  have HK4 : Hid (Keeps [] w w4) := Keeps.trans (by have kk := HK3.out; exact Keeps.K) hk (fun _ _ h => h)
  have HM4 : Hid (TwoMem w1.heap.size w2.heap.size (.iface bt bv) v w4) := HM3.out.k (Keeps.trans (by exact Keeps.K) hk (fun _ _ h => h))
  clear hk x0 v0 v1 v2 hz3 hz13
  rw [kindOf_true]
  go_wp2_with fail
  go_loopw [13] (fun p wr => ∃ (pt : Nat) (t : Int), p = .pointer (some ⟨pt, 0, none⟩) ∧ 1 ≤ t ∧ t ≤ 4 ∧ Hid (wr.heap[pt]? = some (.cells #[.int .i64 t] 3 (0, 0)) ∧ TwoMem w1.heap.size w2.heap.size (.iface bt bv) v wr ∧ Keeps [] w wr)) (fun p wr => leftOf p wr)
  case atStart => exact ⟨w4.heap.size, 1, rfl, by omega, by omega, heap_alloc_new _ _, HM4.out.k ((Keeps.refl [] _).alloc _), by have kk := HK4.out; exact Keeps.K⟩
  case round =>
    obtain ⟨pt, t, rfl, t0, t1, HW⟩ := hrel
    have c0 : wr.cell? ⟨pt, 0, none⟩ = some (.int .i64 t) := cell_of_block HW.out.1 0
    have HPT : Hid (pt < wr.heap.size) := (Array.getElem?_eq_some_iff.1 HW.out.1).1
    by_cases hlt : t ≤ 3
    · have hne : pt < wr.heap.size := HPT.out
      by_cases hkt : v.kind = t
      · have hkt' : (v.kind == t) = true := by simpa using hkt
        clear hkt
        go_wp2_with fail
        refine (clo_good t t0 hlt pt w1.heap.size w2.heap.size wr.heap.size _ v _ HW.out.2.1.clo (by go_simp) HX.out (by simpa using hkt') (HT.out.k (by have kk := HW.out.2.2; exact Keeps.K))).mono ?_
        rintro e w5 ⟨rfl, hg, hk⟩
        have g0 : w5.cell? ⟨wr.heap.size, 0, none⟩ = some (.bool true) := cell_of_block hg 0
        have kk5 : Keeps [] wr w5 := Keeps.trans (G := [wr.heap.size]) (by exact Keeps.K) hk (fun k hk hm => by simp at hm; omega)
        have d0 : w5.cell? ⟨pt, 0, none⟩ = some (.int .i64 t) := kk5.cellSome (by go_simp) (by simp)
        have HM5 : Hid (TwoMem w1.heap.size w2.heap.size (.iface bt bv) v w5) := HW.out.2.1.k kk5
        have HK5 : Hid (Keeps [] w w5) := Keeps.trans HW.out.2.2 kk5 (fun _ _ h => h)
        have hne5 : pt < w5.heap.size := World.block_lt_of_cell? _ _ d0
        have hng5 : wr.heap.size < w5.heap.size := World.block_lt_of_cell? _ _ g0
        clear hk c0 hg kk5
        go_wp2_with fail
        exact ⟨⟨w5.heap.size + 1, t + 1, rfl, by omega, by omega, new_2 w5 _ _, HM5.out.k (by exact Keeps.K), by have kk := HK5.out; exact Keeps.K⟩, by rw [leftOf_is (cell_of_block (new_2 w5 _ _) 0), leftOf_is (cell_of_block HW.out.1 0)]; omega⟩
      · have hkt' : (v.kind == t) = false := by simpa using hkt
        go_wp2_with fail
        refine (clo_fell t t0 hlt pt w1.heap.size w2.heap.size wr.heap.size _ v true _ HW.out.2.1.clo (by go_simp) HX.out (by simp; try assumption) (HT.out.k (by have kk := HW.out.2.2; exact Keeps.K))).mono ?_
        rintro e w5 ⟨rfl, hk⟩
        rw [kindOf_true]
        have d0 : w5.cell? ⟨pt, 0, none⟩ = some (.int .i64 t) := hk.cellSome (by go_simp) (by simp)
        have HM5 : Hid (TwoMem w1.heap.size w2.heap.size (.iface bt bv) v w5) := HW.out.2.1.k (Keeps.trans (by exact Keeps.K) hk (fun _ _ h => h))
        have HK5 : Hid (Keeps [] w w5) := Keeps.trans (by have kk := HW.out.2.2; exact Keeps.K) hk (fun _ _ h => h)
        have hne5 : pt < w5.heap.size := World.block_lt_of_cell? _ _ d0
        clear hk c0
        go_wp2_with fail
        exact ⟨⟨w5.heap.size + 1, t + 1, rfl, by omega, by omega, new_2 w5 _ _, HM5.out.k (by exact Keeps.K), by have kk := HK5.out; exact Keeps.K⟩, by rw [leftOf_is (cell_of_block (new_2 w5 _ _) 0), leftOf_is (cell_of_block HW.out.1 0)]; omega⟩
    · have t4 : t = 4 := by omega
      subst t4
      go_wp2_with fail
      refine (awake5_any _ (HT.out.k HW.out.2.2)).mono ?_
      rintro e w5 ⟨rfl, hk⟩
      have HK5 : Hid (Keeps [] w w5) := Keeps.trans HW.out.2.2 hk (fun _ _ h => h)
      clear hk
      go_wp2_with fail
      go_ret
      exact ⟨rfl, HK5.out⟩


set_option maxRecDepth 100000 in
set_option maxHeartbeats 3200000 in
theorem asserts_false (k n : Int) (s : ByteArray) (v : ValD) (w : World) (hT : Tabs w) (hs : (s.size : Int) ≤ 5000)
    (hO : ∀ wx, Calls Tryd.prog 23 #[.int .i64 k, .int .i64 n, .string s] wx fun e w' => ∃ bt bv, e = .returned (.iface bt bv) ∧ BoxOk (.iface bt bv) v false ∧ Keeps [] wx w')
    (hP : ∀ wx, Tabs wx → Calls Tryd.prog 24 #[.int .i64 k, .int .i64 n, .string s] wx (UnboxPost v false wx)) :
    Calls Tryd.prog 6 #[.int .i64 k, .int .i64 n, .string s] w fun e w' => e = .returned (.bool true) ∧ Keeps [] w w' := by
  have HT := hid hT
  have HO := hid hO
  have HP := hid hP
  clear hT hO hP
  go_enter Tryd.func6, Tryd.ntmps6
  go_wp2_with fail
  refine (HO.out _).mono ?_
  rintro e w1 ⟨bt, bv, rfl, hx, hk⟩
  have HX := hid hx
  have HK1 := hid hk
  clear hx hk
  go_wp2_with fail
  refine (HP.out _ (HT.out.k (by have kk := HK1.out; exact Keeps.K))).mono ?_
  rintro e w2 ⟨rfl, hk⟩
  have HX2 : Hid (w2.heap[w1.heap.size]? = some (.cells #[.iface bt bv] 20 (0, 0))) := (hk.block w1.heap.size (by simp) (by simp)).trans (heap_alloc_new w1 _)
  have HK2 : Hid (Keeps [] w w2) := Keeps.trans (by have kk := HK1.out; exact Keeps.K) hk (fun _ _ h => h)
  have x0 : w2.cell? ⟨w1.heap.size, 0, none⟩ = some (.iface bt bv) := cell_of_block HX2.out 0
  have HZ2 : Hid (w1.heap.size < w2.heap.size) := (Array.getElem?_eq_some_iff.1 HX2.out).1
  have hz2 := HZ2.out
  clear hk
  unfold valV
  go_wp2_with fail
  refine (HX.out.unbox _ (HT.out.k (by have kk := HK2.out; exact Keeps.K))).mono ?_
  rintro e w3 ⟨rfl, hk⟩
  have HM3 : Hid (TwoMem w1.heap.size w2.heap.size (.iface bt bv) v w3) := TwoMem.k ⟨(heap_alloc_old HX2.out _), heap_alloc_new w2 _⟩ hk
  have HK3 : Hid (Keeps [] w w3) := Keeps.trans (by have kk := HK2.out; exact Keeps.K) hk (fun _ _ h => h)
  clear hk x0
  have x0 : w3.cell? ⟨w1.heap.size, 0, none⟩ = some (.iface bt bv) := cell_of_block HM3.out.x 0
  have v0 : w3.cell? ⟨w2.heap.size, 0, none⟩ = some (.int .i64 v.kind) := cell_of_block HM3.out.v 0
  have v1 : w3.cell? ⟨w2.heap.size, 1, none⟩ = some (.int .i64 v.n) := cell_of_block HM3.out.v 1
  have v2 : w3.cell? ⟨w2.heap.size, 2, none⟩ = some (.string v.s) := cell_of_block HM3.out.v 2
  have hz3 : w2.heap.size < w3.heap.size := (Array.getElem?_eq_some_iff.1 HM3.out.v).1
  have hz13 : w1.heap.size < w3.heap.size := Nat.lt_trans hz2 hz3
  have hss : (v.s.toList == v.s.toList) = true := by simp
  unfold valV
  go_wp2_with fail
  refine (HX.out.kind _ (HT.out.k (by have kk := HK3.out; exact Keeps.K))).mono ?_
  rintro e w4 ⟨rfl, hk⟩
  have HK4 : Hid (Keeps [] w w4) := Keeps.trans (by have kk := HK3.out; exact Keeps.K) hk (fun _ _ h => h)
  have HM4 : Hid (TwoMem w1.heap.size w2.heap.size (.iface bt bv) v w4) := HM3.out.k (Keeps.trans (by exact Keeps.K) hk (fun _ _ h => h))
  clear hk x0 v0 v1 v2 hz3 hz13
  rw [kindOf_false]
  go_wp2_with fail
  go_loopw [13] (fun p wr => ∃ (pt : Nat) (t : Int), p = .pointer (some ⟨pt, 0, none⟩) ∧ 1 ≤ t ∧ t ≤ 4 ∧ Hid (wr.heap[pt]? = some (.cells #[.int .i64 t] 3 (0, 0)) ∧ TwoMem w1.heap.size w2.heap.size (.iface bt bv) v wr ∧ Keeps [] w wr)) (fun p wr => leftOf p wr)
  case atStart => exact ⟨w4.heap.size, 1, rfl, by omega, by omega, heap_alloc_new _ _, HM4.out.k ((Keeps.refl [] _).alloc _), by have kk := HK4.out; exact Keeps.K⟩
  case round =>
    obtain ⟨pt, t, rfl, t0, t1, HW⟩ := hrel
    have c0 : wr.cell? ⟨pt, 0, none⟩ = some (.int .i64 t) := cell_of_block HW.out.1 0
    have HPT : Hid (pt < wr.heap.size) := (Array.getElem?_eq_some_iff.1 HW.out.1).1
    by_cases hlt : t ≤ 3
    · have hne : pt < wr.heap.size := HPT.out
      skip
      go_wp2_with fail
      refine (clo_fell t t0 hlt pt w1.heap.size w2.heap.size wr.heap.size _ v false _ HW.out.2.1.clo (by go_simp) HX.out (by simp; try assumption) (HT.out.k (by have kk := HW.out.2.2; exact Keeps.K))).mono ?_
      rintro e w5 ⟨rfl, hk⟩
      rw [kindOf_false]
      have d0 : w5.cell? ⟨pt, 0, none⟩ = some (.int .i64 t) := hk.cellSome (by go_simp) (by simp)
      have HM5 : Hid (TwoMem w1.heap.size w2.heap.size (.iface bt bv) v w5) := HW.out.2.1.k (Keeps.trans (by exact Keeps.K) hk (fun _ _ h => h))
      have HK5 : Hid (Keeps [] w w5) := Keeps.trans (by have kk := HW.out.2.2; exact Keeps.K) hk (fun _ _ h => h)
      have hne5 : pt < w5.heap.size := World.block_lt_of_cell? _ _ d0
      clear hk c0
      go_wp2_with fail
      exact ⟨⟨w5.heap.size + 1, t + 1, rfl, by omega, by omega, new_2 w5 _ _, HM5.out.k (by exact Keeps.K), by have kk := HK5.out; exact Keeps.K⟩, by rw [leftOf_is (cell_of_block (new_2 w5 _ _) 0), leftOf_is (cell_of_block HW.out.1 0)]; omega⟩
    · have t4 : t = 4 := by omega
      subst t4
      go_wp2_with fail
      refine (awake5_any _ (HT.out.k HW.out.2.2)).mono ?_
      rintro e w5 ⟨rfl, hk⟩
      have HK5 : Hid (Keeps [] w w5) := Keeps.trans HW.out.2.2 hk (fun _ _ h => h)
      clear hk
      go_wp2_with fail
      go_ret
      exact ⟨rfl, HK5.out⟩


theorem asserts_any (k n : Int) (s : ByteArray) (w : World) (hT : Tabs w) (hk : I64 k) (hn : I64 n) : Calls Tryd.prog 6 #[.int .i64 k, .int .i64 n, .string s] w fun e w' => e = .returned (.bool true) ∧ Keeps [] w w' := by
  have wk : (Lit.int .i64 k).wf = true := by
    obtain ⟨h0, h1⟩ := hk
    have e1 : IntKind.i64.min = -9223372036854775808 := by rfl
    have e2 : IntKind.i64.max = 9223372036854775807 := by rfl
    simp [Lit.wf, e1, e2]; omega
  by_cases hl : s.size ≤ 5000
  · have hs : (s.size : Int) ≤ 5000 := by omega
    by_cases p0 : placeOf k 11 = 0
    · refine asserts_nil k n s val0 w hT hs (fun wx => (odd_any k n s wx wk hn hl).mono ?_) (fun wx hx => ?_)
      · rintro e w' ⟨x, rfl, h1, h2, _, h3⟩
        rw [p0] at h1
        obtain rfl := h2 p0
        exact ⟨rfl, h1, h3⟩
      · have h := plain_any k n s wx hx wk hl
        rw [p0] at h
        exact h
    · rcases hD : (plainD (placeOf k 11) n s).2 with _ | _
      · refine asserts_false k n s (plainD (placeOf k 11) n s).1 w hT hs (fun wx => (odd_any k n s wx wk hn hl).mono ?_) (fun wx hx => ?_)
        · rintro e w' ⟨x, rfl, h1, _, h2, h3⟩
          obtain ⟨bt, bv, rfl⟩ := h2 p0
          rw [hD] at h1
          exact ⟨bt, bv, rfl, h1, h3⟩
        · have h := plain_any k n s wx hx wk hl
          rw [hD] at h
          exact h
      · refine asserts_true k n s (plainD (placeOf k 11) n s).1 w hT hs (fun wx => (odd_any k n s wx wk hn hl).mono ?_) (fun wx hx => ?_)
        · rintro e w' ⟨x, rfl, h1, _, h2, h3⟩
          obtain ⟨bt, bv, rfl⟩ := h2 p0
          rw [hD] at h1
          exact ⟨bt, bv, rfl, h1, h3⟩
        · have h := plain_any k n s wx hx wk hl
          rw [hD] at h
          exact h
  · have hs : (5000 : Int) < (s.size : Int) := by omega
    have HT := hid hT
    clear hT hk hn hl
    go_enter Tryd.func6, Tryd.ntmps6
    go_wp2_with fail
    refine (awake5_any _ (HT.out.k (by exact Keeps.K))).mono ?_
    rintro e w3 ⟨rfl, hk⟩
    have HK3 : Hid (Keeps [] w w3) := Keeps.trans (by exact Keeps.K) hk (fun _ _ h => h)
    clear hk
    go_wp2_with fail
    go_ret
    exact ⟨rfl, HK3.out⟩

end Go.Proofs.YtnekkkppjofdlaaDoor
