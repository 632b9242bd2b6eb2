/- The document's net: Spoil. -/
import Derived.Test.YthgdknhocjlphaaNetJ
namespace Go.Proofs.Ythgdknhocjlphaa
open Go Go.RowKit

set_option maxHeartbeats 400000 in
theorem rSpoil_out (n : Nat) (i at_ by_ : Int) (a : Option Addr) (k c : Nat) (w : World) (hl : w.cell? ⟨n, 0, none⟩ = some (.slice a k c)) (hi : i < 0 ∨ (k : Int) ≤ i) :
    Calls Try.prog 25 #[.pointer (some ⟨n, 0, none⟩), .int .i64 i, .int .i64 at_, .int .i64 by_] w fun e w' => e = .returned (.bool false) ∧ w' = w := by
  by_cases h0 : i < 0
  · go_enter Try.func25, Try.ntmps25
    go_wp2
    go_ret
    exact ⟨rfl, rfl⟩
  · have h1 : (k : Int) ≤ i := by omega
    go_enter Try.func25, Try.ntmps25
    go_wp2
    go_ret
    exact ⟨rfl, rfl⟩

set_option maxHeartbeats 400000 in
theorem rSpoil_was (n j g k cap : Nat) (at_ by_ : Int) (w : World) (hl : w.cell? ⟨n, 0, none⟩ = some (.slice (some ⟨g, 0, none⟩) k cap)) (hj : j < k)
    (hs : w.cell? ⟨g, j * 2 + 1, none⟩ = some (.bool true)) :
    Calls Try.prog 25 #[.pointer (some ⟨n, 0, none⟩), .int .i64 j, .int .i64 at_, .int .i64 by_] w fun e w' => e = .returned (.bool false) ∧ w' = w := by
  have j0 : ¬ (j : Int) < 0 := by omega
  have j2 : (0 : Int) ≤ (j : Int) := by omega
  have j1 : (j : Int) < (k : Int) := by omega
  have j3 : ¬ (k : Int) ≤ (j : Int) := by omega
  go_enter Try.func25, Try.ntmps25
  go_wp2
  go_ret
  exact ⟨rfl, rfl⟩

set_option maxHeartbeats 400000 in
theorem rSpoil_zero (n j g k cap : Nat) (at_ by_ : Int) (w : World) (hl : w.cell? ⟨n, 0, none⟩ = some (.slice (some ⟨g, 0, none⟩) k cap)) (hj : j < k)
    (hs : w.cell? ⟨g, j * 2 + 1, none⟩ = some (.bool false)) (hby : (bits .and .i64 by_ 255 == 0) = true) :
    Calls Try.prog 25 #[.pointer (some ⟨n, 0, none⟩), .int .i64 j, .int .i64 at_, .int .i64 by_] w fun e w' => e = .returned (.bool false) ∧ w' = w := by
  have j0 : ¬ (j : Int) < 0 := by omega
  have j2 : (0 : Int) ≤ (j : Int) := by omega
  have j1 : (j : Int) < (k : Int) := by omega
  have j3 : ¬ (k : Int) ≤ (j : Int) := by omega
  go_enter Try.func25, Try.ntmps25
  go_wp2
  go_ret
  exact ⟨rfl, rfl⟩

theorem own_addr {w : World} {base e size n c : Nat} {a : Option Addr} {xs : List Value} (h : w.ownsRow base e size (.slice a n c) n xs) (hn : 0 < n) : ∃ b, a = some ⟨b, 0, none⟩ := by
  obtain ⟨g', c', h, _⟩ := h.form hn
  simp at h
  exact ⟨g', h.1⟩

theorem rspoil_close {w w1 : World} {j g k cap vb cv kk : Nat} {u : Value} {y : UInt8} {bs : List UInt8} {cells : List Value} (hu : u = .int .u8 y.toNat) (ho : w1.ownsRow w.heap.size 5 1 (.slice (some ⟨vb, 0, none⟩) bs.length cv) bs.length (u8s bs))
    (HO1 : w1.ownsRow 0 59 2 (.slice (some ⟨g, 0, none⟩) k cap) k cells) (HK : Keeps [] w w1) (hvg : ¬ vb = g) :
    ∃ bv, (((w1.setCell ⟨vb, kk, none⟩ u).setCell ⟨g, j * 2, none⟩ (.slice (some ⟨vb, 0, none⟩) bs.length cv)).setCell ⟨g, j * 2 + 1, none⟩ (.bool true)).ownsRow w.heap.size 5 1 bv bs.length (u8s (bs.set kk y)) ∧
      (((w1.setCell ⟨vb, kk, none⟩ u).setCell ⟨g, j * 2, none⟩ (.slice (some ⟨vb, 0, none⟩) bs.length cv)).setCell ⟨g, j * 2 + 1, none⟩ (.bool true)).ownsRow 0 59 2 (.slice (some ⟨g, 0, none⟩) k cap) k ((cells.set (j * 2) bv).set (j * 2 + 1) (.bool true)) ∧
      Keeps [g] w (((w1.setCell ⟨vb, kk, none⟩ u).setCell ⟨g, j * 2, none⟩ (.slice (some ⟨vb, 0, none⟩) bs.length cv)).setCell ⟨g, j * 2 + 1, none⟩ (.bool true)) := by
  subst hu
  have hvge : w.heap.size ≤ vb := (ownB_ge ho vb (by simp [mem_ownB, Value.ownBlock])).1
  obtain ⟨o1, g1⟩ := ho.stored kk (.int .u8 y.toNat)
  have L1 := ownsRow_keeps HO1 (Keeps.ofGrown (F := [vb]) g1 (fun k h => by cases h; simp)) (fun b hb => by simp [mem_ownB, Value.ownBlock] at hb; subst hb; simp; exact fun e => hvg e.symm)
  obtain ⟨o2, g2⟩ := L1.stored (j * 2) (.slice (some ⟨vb, 0, none⟩) bs.length cv)
  obtain ⟨o3, g3⟩ := o2.stored (j * 2 + 1) (.bool true)
  have hb : ∀ b, b ∈ ownB (.slice (some ⟨vb, 0, none⟩) bs.length cv) → b ∉ [g] := fun b hb => by simp [mem_ownB, Value.ownBlock] at hb; subst hb; simp; exact hvg
  refine ⟨.slice (some ⟨vb, 0, none⟩) bs.length cv, ?_, o3, ?_⟩
  · rw [u8s_set]
    exact ownsRow_keeps (ownsRow_keeps o1 (Keeps.ofGrown (F := [g]) g2 (fun k h => by cases h; simp)) hb) (Keeps.ofGrown (F := [g]) g3 (fun k h => by cases h; simp)) hb
  · exact (((HK.mono (G := [g]) (fun _ _ h => by cases h)).setCell (.inr hvge) _).setCell (.inl (by simp)) _).setCell (.inl (by simp)) _

set_option maxRecDepth 100000 in
set_option maxHeartbeats 1600000 in
theorem rSpoil_do (n j g k cap : Nat) (at_ by_ : Int) (v : Value) (bs : List UInt8) (cells : List Value) (w : World) (hl : w.cell? ⟨n, 0, none⟩ = some (.slice (some ⟨g, 0, none⟩) k cap)) (hj : j < k)
    (hown : w.ownsRow 0 59 2 (.slice (some ⟨g, 0, none⟩) k cap) k cells) (hv : w.cell? ⟨g, j * 2, none⟩ = some v) (hs : w.cell? ⟨g, j * 2 + 1, none⟩ = some (.bool false)) (hr : Reads w 1 v bs.length (u8s bs)) (hbs : bs.length ≤ 140737488355328)
    (kk : Nat) (hkk : kk < bs.length) (hat : at_.tmod bs.length = (kk : Int) ∨ at_.tmod bs.length = (kk : Int) - bs.length) (_hng : n ≠ g) (hby : (bits .and .i64 by_ 255 == 0) = false) :
    Calls Try.prog 25 #[.pointer (some ⟨n, 0, none⟩), .int .i64 j, .int .i64 at_, .int .i64 by_] w fun e w' => e = .returned (.bool true) ∧ ∃ bv, w'.ownsRow w.heap.size 5 1 bv bs.length (u8s (bs.set kk (bs[kk] ^^^ byteOf by_))) ∧
      w'.ownsRow 0 59 2 (.slice (some ⟨g, 0, none⟩) k cap) k ((cells.set (j * 2) bv).set (j * 2 + 1) (.bool true)) ∧ Keeps [g] w w' := by
  obtain ⟨i1, hi1, hy0, hy1, hy2⟩ := info_parts Try.infoU8
  have hgl : g < w.heap.size := World.block_lt_of_cell? _ _ hv
  have hbl : (bs.length : Int) ≠ 0 := by omega
  have j0 : ¬ (j : Int) < 0 := by omega
  have j2 : (0 : Int) ≤ (j : Int) := by omega
  have j1 : (j : Int) < (k : Int) := by omega
  have j3 : ¬ (k : Int) ≤ (j : Int) := by omega
  have k0 : (0 : Int) ≤ (kk : Int) := Int.natCast_nonneg _
  have k1 : (kk : Int) < (bs.length : Int) := by omega
  have HR := hid hr
  have HO := hid hown
  have HX : Hid (∀ u : Value, u = .int .u8 (bits .xor .u8 (bs[kk].toNat : Int) (bits .and .i64 by_ 255 % 256)) → u = .int .u8 (bs[kk] ^^^ byteOf by_).toNat) := fun u hu => by rw [hu, xor_mod, and255_byteOf]
  clear hr hown
  obtain ⟨x, hx⟩ : ∃ x : Int, x = (kk : Int) := ⟨_, rfl⟩
  have HAT := hid hat
  have hadd : IntKind.i64.wrap ((kk : Int) - bs.length + bs.length) = (kk : Int) := by rw [Int.sub_add_cancel]; exact IntWalk.i64_in _ (by omega)
  have hlt2 : (kk : Int) - bs.length < 0 := by omega
  have hge : ¬ (kk : Int) < 0 := by omega
  clear hat
  rcases HAT.out with hat | hat
  all_goals
    go_enter Try.func25, Try.ntmps25
    go_wp2_with (show wpList _ _ _ (⟨some 45, _, _, _, _, _⟩ :: _) _ _; go_must (refine wpList_append_reads _ (by rfl) _ _ _ (by rfl) w.heap.size 5 i1 (.int .u8 0) 1 1 Try.underlying26 hi1 hy0 hy1 hy2 rfl (by omega) (.slice none 0 0) (by rfl) 0 [] (World.ownsRow_nil _ _ _ _) v (by rfl) bs.length (u8s bs) (by exact HR.out) (u8s_one bs) (by omega) (le_maxLen (by omega)) (by exact Nat.le_refl _) ?_; intro av cv w1 ho hg _ _; simp only [Nat.zero_add, List.nil_append] at ho hg ⊢; obtain ⟨vb, hvb⟩ := own_addr ho.out (by omega); subst hvb; have HK : Hid (Keeps [] w w1) := (Keeps.refl [] w).grown hg.out rfl rfl rfl rfl (fun _ h => by cases h); have c0 := HK.out.cellSome hl (by simp); have c1 := HK.out.cellSome hv (by simp); have c2 := HK.out.cellSome hs (by simp); have hx1 : w1.cell? ⟨vb, kk, none⟩ = some (.int .u8 bs[kk].toNat) := (by rw [ho.out.cellAt kk (by omega), u8s_get _ _ hkk]); have hx2 : w1.frozen? ⟨vb, kk, none⟩ = false := ho.out.frozenAt _; have HO1 : Hid (w1.ownsRow 0 59 2 (.slice (some ⟨g, 0, none⟩) k cap) k cells) := ownsRow_keeps HO.out HK.out (fun _ _ h => by cases h); have hf1 : ∀ i, w1.frozen? ⟨g, i, none⟩ = false := HO1.out.frozenAt; have hvg : w.heap.size ≤ vb := (ownB_ge ho.out vb (by simp [mem_ownB, Value.ownBlock])).1; have hvn : ¬ vb = g := (by omega); have hvm : ¬ vb = n := (by have := World.block_lt_of_cell? _ _ hl; simp at this; omega)))
    go_ret
    exact ⟨rfl, rspoil_close (HX.out _ rfl) ho.out HO1.out HK.out hvn⟩

end Go.Proofs.Ythgdknhocjlphaa
