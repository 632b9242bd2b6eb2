/- palaverref01's Pieces, Valid, Count. -/
import Derived.Test.YtdpbjdkkaekebaaDoorVaB
import Derived.Test.YtdpbjdkkaekebaaDoorLays
namespace Go.Proofs.YtdpbjdkkaekebaaDoor
open Go Go.RowKit

def pcC (p : Pc) : List Value := [.int .i64 p.at_, .int .i64 p.n, .int .i32 p.r, .bool p.bad]
def pcL : Lay Pc where
  size := 4
  pos := by decide
  at_ _ _ cs p := cs = pcC p
  len := fun e => by rw [e]; rfl
  one := fun e u hu => by
    rw [e] at hu
    simp [pcC] at hu
    rcases hu with rfl | rfl | rfl | rfl <;> rfl
  keep := fun e _ _ => e
  mono := fun e _ => e
theorem Tryd.infoPc : (Tryd.prog.info? 50).map (fun i => (i.zero, i.size, i.bytes)) = some (some (.agg #[.int .i64 0, .int .i64 0, .int .i32 0, .bool false]), 4, 24) := by kernel_rfl

def FreshPcs (w w' : World) (v : Value) (l : List Pc) : Prop := OwnAt pcL 50 w' w.heap.size (fun b => w.heap.size ≤ b ∧ b ∉ ownB v) v l
def PcsPost (s : ByteArray) (w : World) (e : Ending) (w' : World) : Prop := ∃ a q, e = .returned (.slice a (pieces s.data.toList).length q) ∧ FreshPcs w w' (.slice a (pieces s.data.toList).length q) (pieces s.data.toList) ∧ Keeps [] w w'

set_option maxRecDepth 100000 in
set_option maxHeartbeats 1600000 in
theorem pieces_any (s : ByteArray) (w : World) (hs : s.size ≤ 1000000) :
    Calls Tryd.prog 22 #[.string s] w (PcsPost s w) := by
  obtain ⟨it, hi0, hz0, hz1, hz2⟩ := info_parts Tryd.infoPc
  have HL : Hid (s.data.toList.length = s.size) := Array.length_toList
  go_enter Tryd.func22, Tryd.ntmps22
  go_wp2_with fail
  go_loopw [3, 4] (fun v i wr => ∃ (d : List Pc) (k p : Nat) (a : Option Addr) (q : Nat), p ≤ s.size ∧ k ≤ p ∧ v = .slice a k q ∧ i = .int .i64 p ∧ Hid (d.length = k ∧ PcsAt s.data.toList d p ∧ FreshPcs w wr (.slice a k q) d ∧ Keeps [] w wr)) (fun _ i _ => s.size - (intOf i).toNat)
  case atStart => exact ⟨[], 0, 0, none, 0, Nat.zero_le _, Nat.le_refl _, rfl, rfl, rfl, PcsAt.zero _, OwnAt.nil _ _ _ _, Keeps.refl [] w⟩
  case round =>
    obtain ⟨d, k, p, a, q, hp, hkp, rfl, rfl, HW⟩ := hrel
    have i0 : (0 : Int) ≤ (p : Int) := Int.natCast_nonneg _
    by_cases hlt : p < s.size
    · have hlt' : (p : Int) < (s.size : Int) := by omega
      obtain ⟨x, hx⟩ : ∃ x, pcAt s p = x := ⟨_, rfl⟩
      have HXP : Hid (x.at_ = p) := by show _ = _; rw [← hx]; rfl
      have HX := hid hx
      have HN : Hid (PcsAt s.data.toList (d ++ [x]) (p + x.n) ∧ 1 ≤ x.n) := by
        have h1 := HW.out.2.1.next (by rw [HL.out]; exact hlt)
        rw [← hx]
        exact ⟨h1, Lib.decodeL_width _⟩
      have n0 : 1 ≤ x.n := HN.out.2
      have n1 : p + x.n ≤ s.size := by have := HN.out.1.1; rw [HL.out] at this; exact this
      have HZ : Hid (w.heap.size ≤ wr.heap.size) := HW.out.2.2.2.size
      clear hx
      go_wp2_with fail
      refine (one_any s p _ hlt (by omega)).mono ?_
      rintro e w3 ⟨rfl, hk3⟩
      rw [HX.out]
      unfold pcV
      rw [HXP.out]
      have HRW : Hid (((w3.alloc (.cells #[.int .i64 p, .int .i64 x.n, .int .i32 x.r, .bool x.bad] 50)).alloc (.cells #[.int .i64 p, .int .i64 x.n, .int .i32 x.r, .bool x.bad] 50)).heap[w3.heap.size + 1]? = some (.cells #[.int .i64 p, .int .i64 x.n, .int .i32 x.r, .bool x.bad] 50 (0, 0))) := by
        have h1 := heap_alloc_new (w3.alloc (.cells #[.int .i64 p, .int .i64 x.n, .int .i32 x.r, .bool x.bad] 50)) (.cells #[.int .i64 p, .int .i64 x.n, .int .i32 x.r, .bool x.bad] 50)
        rw [show (w3.alloc (.cells #[.int .i64 p, .int .i64 x.n, .int .i32 x.r, .bool x.bad] 50)).heap.size = w3.heap.size + 1 by simp] at h1
        exact h1
      have K3 := hid hk3
      have HOW : Hid (OwnAt pcL 50 w3 w.heap.size (fun b => w.heap.size ≤ b ∧ b ∉ ownB (.slice a k q)) (.slice a k q) d) := OwnAt.k HW.out.2.2.1 hk3
      have HTL : Hid (d.length = k) := HW.out.1
      have HOB : Hid (∀ b ∈ ownB (.slice a k q), w.heap.size ≤ b ∧ b < w3.heap.size) := fun b hb => ⟨(OwnAt.ge HOW.out b hb).1, Nat.lt_of_lt_of_le (OwnAt.ge HW.out.2.2.1 b hb).2 K3.out.size⟩
      clear hk3
      go_wp2_with (at_builtin; go_must (refine wpList_append_off (L := pcL) (PB := fun _ => False) _ (by rfl) _ _ _ (by rfl) w.heap.size 50 it _ 24 Tryd.underlying42 hi0 hz0 hz1 hz2 rfl (R := fun b => w.heap.size ≤ b) (.slice a k q) (by rfl) d [x] k HTL.out [[.int .i64 p, .int .i64 x.n, .int .i32 x.r, .bool x.bad]] (HOW.out.k (by exact Keeps.K)) (.slice _ _ _) (by rfl) 1 rfl (ElemsAt.one1 (by show _ = pcC x; unfold pcC; rw [HXP.out])) (Reads.one1 HRW.out rfl) (by omega) (le_maxLen (by omega)) (by exact Nat.le_trans HZ.out (Nat.le_trans K3.out.size (Keeps.size (F := []) (by exact Keeps.K)))) (fun b _ hb => hb.elim) ?_; intro a4 q4 w4 ho4 hk4 hv4; have y1 : w4.cell? ⟨w3.heap.size, 1, none⟩ = some (.int .i64 x.n) := hk4.out.cellSome (by go_simp) (fun hb => Nat.lt_irrefl _ (HOB.out _ hb).2)))
      go_roundw
      case rel => exact ⟨d ++ [x], k + 1, p + x.n, a4, q4, n1, by omega, rfl, by go_num, by simp [HW.out.1], HN.out.1, ho4.out, ((HW.out.2.2.2.trans K3.out (fun _ _ h => h)).trans (by exact Keeps.K) (fun _ _ h => h)).trans hk4.out (fun b hb hb' => absurd hb (Nat.not_lt.2 (HOB.out b hb').1))⟩
      case measure => simp [intOf]; omega
    · have hge : (s.size : Int) ≤ (p : Int) := by omega
      have HE : Hid (d = pieces s.data.toList ∧ p = s.data.toList.length) := HW.out.2.1.end_ (by rw [HL.out]; exact hlt)
      go_wp2_with fail
      go_ret
      have h1 := HW.out
      rw [HE.out.1] at h1
      refine ⟨a, q, by rw [h1.1]; rfl, by rw [h1.1]; exact h1.2.2.1, h1.2.2.2⟩

end Go.Proofs.YtdpbjdkkaekebaaDoor
