/- Joined of WlH, WlI, TyF, TyH, TyA, TyD, PaD, SnA. -/
import Derived.Test.YtgjiahilbmeaeaaGreatDoorR09
import Derived.Test.YtgjiahilbmeaeaaGreatDoorR06
import Derived.Test.YtgjiahilbmeaeaaGreatDoorR11
import Derived.Test.YtgjiahilbmeaeaaGreatDoorR10
import Derived.Test.YtgjiahilbmeaeaaGreatDoorPaC
import Derived.Lib.RowBridge
set_option maxRecDepth 100000
set_option maxHeartbeats 8000000
set_option linter.unusedSimpArgs false
set_option linter.unusedVariables false
/- A log opened over a disk without files, where nothing fails. -/
namespace Go.Proofs.YtgjiahilbmeaeaaGreatDoor
open Go Go.RowKit
theorem new3K (w : World) (o1 o2 o3 : Obj) : (((w.alloc o1).alloc o2).alloc o3).heap[w.heap.size]? = some o1 ∧ (((w.alloc o1).alloc o2).alloc o3).heap[w.heap.size + 1]? = some o2 ∧ (((w.alloc o1).alloc o2).alloc o3).heap[w.heap.size + 2]? = some o3 := by
 have e1 := heap_alloc_new w o1
 have e2 := heap_alloc_new (w.alloc o1) o2
 have e3 := heap_alloc_new ((w.alloc o1).alloc o2) o3
 have s1 : (w.alloc o1).heap.size = w.heap.size + 1 := by simp
 have s2 : ((w.alloc o1).alloc o2).heap.size = w.heap.size + 2 := by simp
 rw [s1] at e2
 rw [s2] at e3
 exact ⟨(Below.heap_alloc _ _ _ (by rw [s2]; omega)).trans ((Below.heap_alloc _ _ _ (by rw [s1]; omega)).trans e1), (Below.heap_alloc _ _ _ (by rw [s2]; omega)).trans e2, e3⟩
theorem wlOpen_new (w : World) (F : Nat → Prop) (b n : Nat) (d : DiskD) (h : DiskAt w F b d) (hn : n ≤ 1000000) (hnil : dlist d = [])
 (d1 d2 d3 d4 : DiskD) (k0 : DiskOk2 n d) (k1 : DiskOk2 n d1) (k2 : DiskOk2 n d2) (k3 : DiskOk2 n d3) (g1 : dcreate d walTmp = (d1, 0)) (g2 : dappend d1 walTmp (frameD (recordP 0 [0, 0]) ++ frameD (recordP 1 [0, 0])) = (d2, 0)) (g3 : dsync d2 walTmp = (d3, 0)) (g4 : drename d3 walTmp (walN 1) = (d4, 0))
 (h4 : dlist d4 = [walN 1]) :
 Calls Tryz.prog 33 #[ptrV b] w fun e w' => ∃ wb, e = .returned (.tuple #[ptrV wb, keptV 0 0 0 0 (.slice none 0 0), .int .i64 0]) ∧ ∃ F', DiskAt w' F' b d4 ∧ (∀ x, F' x → F x ∨ w.heap.size ≤ x) ∧ KeepsP F w w' ∧ WalBlk w' wb b 1 0 0 ∧ w.heap.size ≤ wb ∧ ¬ F' wb := by
 have HAT := hid h
 have HNIL := hid hnil
 have HG := hid (And.intro g1 (And.intro g2 (And.intro g3 g4)))
 have HK := hid (And.intro k0 (And.intro k1 (And.intro k2 k3)))
 have HL := hid (fun wx (k : Keeps [] w wx) => dkList_any wx F b d (h.k k) (by have := k0.files; omega))
 rw [hnil] at HL
 have H4 := hid h4
 clear h hnil g1 g2 g3 g4 k0 k1 k2 k3 h4
 unfold ptrV
 go_enter Tryz.func33, Tryz.ntmps33
 go_wp2_with fail
 refine (HL.out _ (by exact Keeps.K)).mono ?_
 rintro e w1 ⟨a, c, rfl, ho, hk⟩
 have hn3 := new3K w (.cells #[.int .i64 0, .int .i64 0, .int .i64 0, .int .i64 0, .slice none 0 0] 92) (.cells #[.pointer (some ⟨b, 0, none⟩), .int .i64 0, .int .i64 0, .int .i64 0] 166) (.cells #[.int .i64 0, .int .i64 0, .int .i64 0, .int .i64 0, .slice none 0 0] 92)
 obtain ⟨A, hA⟩ : ∃ A, w.heap.size = A := ⟨_, rfl⟩
 have hsz : A + 3 ≤ w1.heap.size := by have := hk.size; simp at this; omega
 rw [hA] at hn3
 have hR : w1.heap[A]? = some (.cells #[.int .i64 0, .int .i64 0, .int .i64 0, .int .i64 0, .slice none 0 0] 92 (0, 0)) := (hk.block A (by simp; omega) (by simp)).trans hn3.1
 have hW : w1.heap[A + 1]? = some (.cells #[.pointer (some ⟨b, 0, none⟩), .int .i64 0, .int .i64 0, .int .i64 0] 166 (0, 0)) := (hk.block (A + 1) (by simp; omega) (by simp)).trans hn3.2.1
 have hK : w1.heap[A + 2]? = some (.cells #[.int .i64 0, .int .i64 0, .int .i64 0, .int .i64 0, .slice none 0 0] 92 (0, 0)) := (hk.block (A + 2) (by simp; omega) (by simp)).trans hn3.2.2
 have K1 : Hid (Keeps [] w w1) := Keeps.trans (F := []) (G := []) (by exact Keeps.K) hk (fun _ _ h => h)
 have k2 : w1.cell? ⟨A + 2, 2, none⟩ = some (.int .i64 0) := cell_of_block hK 2
 have k4 : w1.cell? ⟨A + 2, 4, none⟩ = some (.slice none 0 0) := cell_of_block hK 4
 have v2 : w1.cell? ⟨A + 1, 2, none⟩ = some (.int .i64 0) := cell_of_block hW 2
 have v3 : w1.cell? ⟨A + 1, 3, none⟩ = some (.int .i64 0) := cell_of_block hW 3
 have fz : ∀ i, w1.frozen? ⟨A + 1, i, none⟩ = false := fun i => frozen_of_row w1 (A + 1) i _ _ hW
 have HR := hid hR
 have HW := hid hW
 have HKB := hid hK
 have HA := hid hA
 have HSZ := hid hsz
 rw [hA]
 clear hk ho hn3 hR hW hK HL hA
 go_wp2_with fail
 refine wp_loop_rounds 1 ?_
 rw [rounds_succ]
 go_wp2_with fail
 refine Plan.wp_region_plan (fun wx => wx.cell? ⟨A + 2, 2, none⟩ = some (.int .i64 0) ∧ wx.cell? ⟨A + 2, 4, none⟩ = some (.slice none 0 0)) 16 [(true, 0), (true, 1), (true, 2), (true, 3), (true, 4), (true, 5), (true, 6), (true, 7), (true, 8), (true, 9), (true, 10), (true, 11), (false, 12), (true, 13), (true, 14), (false, 15)] (by kernel_rfl) (by as_aux_lemma => kernel_rfl) (by kernel_rfl) (fun _ _ _ _ _ h => h) ?_ (fun hS => ?_)
 (·go_simp)
 simp only [Plan.pick, List.append_eq, List.cons_append, List.nil_append, Plan.g1, Plan.g2, Option.getD_some, List.drop_succ_cons, List.drop_zero]
 iterate 12 (first | refine Plan.tA ?_ | refine Plan.tY ?_ | refine Plan.pN ?_ | refine Plan.pU ?_ | fail)
 refine Plan.step ?_
 go_wp2_with fail
 refine ⟨⟨by go_simp, by go_simp⟩, ?_⟩
 iterate 2 (first | refine Plan.tA ?_ | refine Plan.tY ?_ | refine Plan.pN ?_ | refine Plan.pU ?_ | fail)
 refine Plan.step ?_
 go_wp2_with fail
 refine ⟨⟨by go_simp, by go_simp⟩, ?_⟩
 refine Plan.fin ?_
 clear hS
 obtain ⟨w2, hw2⟩ : ∃ w2, ((w1.setCell ⟨A + 1, 2, none⟩ (.int .i64 0)).setCell ⟨A + 1, 3, none⟩ (.int .i64 0)).drew = w2 := ⟨_, rfl⟩
 have k12 : Keeps [A + 1] w1 w2 := by rw [← hw2]; exact Keeps.K
 have hR2 : w2.heap[A]? = some (.cells #[.int .i64 0, .int .i64 0, .int .i64 0, .int .i64 0, .slice none 0 0] 92 (0, 0)) := (k12.block A (by have := HSZ.out; omega) (by simp)).trans HR.out
 have hK2 : w2.heap[A + 2]? = some (.cells #[.int .i64 0, .int .i64 0, .int .i64 0, .int .i64 0, .slice none 0 0] 92 (0, 0)) := (k12.block (A + 2) (by have := HSZ.out; omega) (by simp)).trans HKB.out
 have hW2 : WalBlk w2 (A + 1) b 0 0 0 := by
  have e1 := heap_setCell_same _ _ 2 _ _ (.int .i64 0) HW.out
  have e2 := heap_setCell_same _ _ 3 _ _ (.int .i64 0) e1
  simp only [List.setIfInBounds_toArray, List.set_cons_zero, List.set_cons_succ] at e2
  rw [← hw2]
  exact e2
 have K2 : Hid (Keeps [] w w2) := K1.out.trans k12 (fun x hx hm => by simp at hm; have := HA.out; omega)
 have HD2 : Hid (DiskAt w2 (fun x => F x ∧ x < A) b d) := by
  have := (HAT.out.old.k K2.out)
  rw [HA.out] at this
  exact this
 have HR2 := hid hR2
 have HK2 := hid hK2
 have HW2 := hid hW2
 have Z2 : Hid (A + 3 ≤ w2.heap.size) := Nat.le_trans HSZ.out k12.size
 have q0 : w2.cell? ⟨A + 2, 0, none⟩ = some (.int .i64 0) := cell_of_block hK2 0
 have q1 : w2.cell? ⟨A + 2, 1, none⟩ = some (.int .i64 0) := cell_of_block hK2 1
 have q2 : w2.cell? ⟨A + 2, 2, none⟩ = some (.int .i64 0) := cell_of_block hK2 2
 have q3 : w2.cell? ⟨A + 2, 3, none⟩ = some (.int .i64 0) := cell_of_block hK2 3
 have q4 : w2.cell? ⟨A + 2, 4, none⟩ = some (.slice none 0 0) := cell_of_block hK2 4
 rw [hw2]
 clear hw2 k12 hR2 hK2 hW2 k2 k4 v2 v3 fz
 go_wp2_with fail
 refine (wlAnew_good w2 _ b n (A + 1) d 0 0 0 0 0 0 none 0 HD2.out hn HW2.out (fun h => by omega) (by decide) (by decide) (by decide) (by decide) d1 d2 d3 d4 HK.out.1 HK.out.2.1 HK.out.2.2.1 HK.out.2.2.2 HG.out.1 HG.out.2.1 HG.out.2.2.1 HG.out.2.2.2).mono ?_
 rintro e w3 ⟨rfl, F3, hd3, hf3, hkp3, hw3⟩
 have hFA : ∀ y, A ≤ y → y < w2.heap.size → ¬ F3 y := fun y h1 h2 h => by
  rcases hf3 y h with h | h
  ·omega
  ·omega
 have HD3 := hid hd3
 have HW3 := hid hw3
 have HF3 : Hid (∀ x, F3 x → F x ∨ w.heap.size ≤ x) := fun x hx => (hf3 x hx).imp (fun h => h.1) (fun h => Nat.le_trans K2.out.size h)
 have HKP3 : Hid (KeepsP F w w3) := (KeepsP.of0 (F := F) K2.out).trans hkp3 (fun x hx h => by
  rcases h with h | h
  ·exact h.1
  ·have := HA.out; omega)
 have HR3 : Hid (w3.heap[A]? = some (.cells #[.int .i64 0, .int .i64 0, .int .i64 0, .int .i64 0, .slice none 0 0] 92 (0, 0))) := hkp3.block HR2.out (fun h => by rcases h with h | h <;> omega)
 have hK3 : w3.heap[A + 2]? = some (.cells #[.int .i64 0, .int .i64 0, .int .i64 0, .int .i64 0, .slice none 0 0] 92 (0, 0)) := hkp3.block HK2.out (fun h => by rcases h with h | h <;> omega)
 have HK3 := hid hK3
 have HFA := hid (hFA (A + 1) (by omega) (by have := Z2.out; omega))
 have HFA0 := hid (hFA A (by omega) (by have := Z2.out; omega))
 clear hd3 hf3 hkp3 hw3 hFA hK3 q0 q1 q2 q3 q4
 go_wp2_with fail
 refine (wlClears_good w3 F3 b 1 (A + 1) d4 0 0 HD3.out HW3.out (by decide) (by have := H4.out; unfold dlist at this; have := congrArg List.length this; simp at this; omega) (fun s hs _ => by rw [H4.out] at hs; simpa using hs)).mono ?_
 rintro e w4 ⟨rfl, hk4⟩
 have HD4 := hid (HD3.out.k hk4)
 have HW4 : Hid (WalBlk w4 (A + 1) b 1 0 0) := (hk4.block (A + 1) (Array.getElem?_eq_some_iff.1 HW3.out).1 (by simp)).trans HW3.out
 have HKP4 : Hid (KeepsP F w w4) := HKP3.out.trans (F' := fun _ => False) (KeepsP.of0 hk4) (fun _ _ h => h.elim)
 have hR4 : w4.heap[A]? = some (.cells #[.int .i64 0, .int .i64 0, .int .i64 0, .int .i64 0, .slice none 0 0] 92 (0, 0)) := (hk4.block A (Array.getElem?_eq_some_iff.1 HR3.out).1 (by simp)).trans HR3.out
 have hK4 : w4.heap[A + 2]? = some (.cells #[.int .i64 0, .int .i64 0, .int .i64 0, .int .i64 0, .slice none 0 0] 92 (0, 0)) := (hk4.block (A + 2) (Array.getElem?_eq_some_iff.1 HK3.out).1 (by simp)).trans HK3.out
 have q0 : w4.cell? ⟨A + 2, 0, none⟩ = some (.int .i64 0) := cell_of_block hK4 0
 have q1 : w4.cell? ⟨A + 2, 1, none⟩ = some (.int .i64 0) := cell_of_block hK4 1
 have q2 : w4.cell? ⟨A + 2, 2, none⟩ = some (.int .i64 0) := cell_of_block hK4 2
 have q3 : w4.cell? ⟨A + 2, 3, none⟩ = some (.int .i64 0) := cell_of_block hK4 3
 have q4 : w4.cell? ⟨A + 2, 4, none⟩ = some (.slice none 0 0) := cell_of_block hK4 4
 have r0 : w4.cell? ⟨A, 0, none⟩ = some (.int .i64 0) := cell_of_block hR4 0
 have r1 : w4.cell? ⟨A, 1, none⟩ = some (.int .i64 0) := cell_of_block hR4 1
 have r2 : w4.cell? ⟨A, 2, none⟩ = some (.int .i64 0) := cell_of_block hR4 2
 have r3 : w4.cell? ⟨A, 3, none⟩ = some (.int .i64 0) := cell_of_block hR4 3
 have r4 : w4.cell? ⟨A, 4, none⟩ = some (.slice none 0 0) := cell_of_block hR4 4
 have fr : ∀ i, w4.frozen? ⟨A, i, none⟩ = false := fun i => frozen_of_row w4 A i _ _ hR4
 have HR4 := hid hR4
 clear hk4 hR4 hK4
 go_wp2_with fail
 refine Plan.wp_region_plan (fun wx => wx.cell? ⟨A + 2, 0, none⟩ = some (.int .i64 0) ∧ wx.cell? ⟨A + 2, 1, none⟩ = some (.int .i64 0) ∧ wx.cell? ⟨A + 2, 2, none⟩ = some (.int .i64 0) ∧ wx.cell? ⟨A + 2, 3, none⟩ = some (.int .i64 0) ∧ wx.cell? ⟨A + 2, 4, none⟩ = some (.slice none 0 0)) 5 [(true, 0), (true, 1), (true, 2), (false, 3), (true, 4)] (by kernel_rfl) (by as_aux_lemma => kernel_rfl) (by kernel_rfl) (fun _ _ _ _ _ h => h) ?_ (fun hS => ?_)
 (·go_simp)
 simp only [Plan.pick, List.append_eq, List.cons_append, List.nil_append, Plan.g1, Plan.g2, Option.getD_some, List.drop_succ_cons, List.drop_zero]
 iterate 3 (first | refine Plan.tA ?_ | refine Plan.tY ?_ | refine Plan.pN ?_ | refine Plan.pU ?_ | fail)
 refine Plan.step ?_
 go_wp2_with fail
 refine ⟨⟨by go_simp, by go_simp, by go_simp, by go_simp, by go_simp⟩, ?_⟩
 iterate 1 (first | refine Plan.tA ?_ | refine Plan.tY ?_ | refine Plan.pN ?_ | refine Plan.pU ?_ | fail)
 refine Plan.fin ?_
 clear hS
 go_wp2_with fail
 obtain ⟨w5, hw5⟩ : ∃ w5, (((((w4.setCell ⟨A, 0, none⟩ (.int .i64 0)).setCell ⟨A, 1, none⟩ (.int .i64 0)).setCell ⟨A, 2, none⟩ (.int .i64 0)).setCell ⟨A, 3, none⟩ (.int .i64 0)).setCell ⟨A, 4, none⟩ (.slice none 0 0)).drew = w5 := ⟨_, rfl⟩
 have k45 : Keeps [A] w4 w5 := by rw [← hw5]; exact Keeps.K
 have hR5 : w5.heap[A]? = some (.cells #[.int .i64 0, .int .i64 0, .int .i64 0, .int .i64 0, .slice none 0 0] 92 (0, 0)) := by
  have e0 := heap_setCell_same _ _ 0 _ _ (.int .i64 0) HR4.out
  have e1 := heap_setCell_same _ _ 1 _ _ (.int .i64 0) e0
  have e2 := heap_setCell_same _ _ 2 _ _ (.int .i64 0) e1
  have e3 := heap_setCell_same _ _ 3 _ _ (.int .i64 0) e2
  have e4 := heap_setCell_same _ _ 4 _ _ (.slice none 0 0) e3
  simp only [List.setIfInBounds_toArray, List.set_cons_zero, List.set_cons_succ] at e4
  rw [← hw5]
  exact e4
 have s0 : w5.cell? ⟨A, 0, none⟩ = some (.int .i64 0) := cell_of_block hR5 0
 have s1 : w5.cell? ⟨A, 1, none⟩ = some (.int .i64 0) := cell_of_block hR5 1
 have s2 : w5.cell? ⟨A, 2, none⟩ = some (.int .i64 0) := cell_of_block hR5 2
 have s3 : w5.cell? ⟨A, 3, none⟩ = some (.int .i64 0) := cell_of_block hR5 3
 have s4 : w5.cell? ⟨A, 4, none⟩ = some (.slice none 0 0) := cell_of_block hR5 4
 rw [hw5]
 refine bodyPost_ret (v := .tuple #[.pointer (some ⟨A + 1, 0, none⟩), keptV 0 0 0 0 (.slice none 0 0), .int .i64 0]) (by simp [results, Tryz.results33, go_sem, s0, s1, s2, s3, s4, keptV]) rfl ?_
 have hA := HA.out
 refine ⟨A + 1, rfl, F3, HD4.out.keep k45 (fun x hx => by simp at hx; subst hx; exact HFA0.out), HF3.out, HKP4.out.trans (F' := fun x => x = A) (KeepsP.of k45 (by simp)) (fun x hx h => by omega), (k45.block (A + 1) (Array.getElem?_eq_some_iff.1 HW4.out).1 (by simp)).trans HW4.out, by omega, HFA.out⟩
theorem wlSave_hard (w : World) (F : Nat → Prop) (b n m wb : Nat) (d : DiskD) (t v base last : Int) (a : Option Addr) (c : Nat) (h : DiskAt w F b d) (hm : m ≤ 1000000) (hn : n ≤ 99999999) (hw : WalBlk w wb b (n : Int) base last) (hF : ¬ F wb)
 (b1 : 0 ≤ t ∧ t ≤ 1099511627776) (b2 : 0 ≤ v ∧ v ≤ 7) (d1 d2 : DiskD) (k0 : DiskOk2 m d) (k1 : DiskOk2 m d1) (g1 : dappend d (walN n) (frameD (recordP 1 [t, v])) = (d1, 0)) (g2 : dsync d1 (walN n) = (d2, 0)) :
 Calls Tryz.prog 46 #[ptrV wb, .bool true, .int .i64 t, .int .i64 v, .int .i64 0, .slice a 0 c] w fun e w' => e = .returned (.int .i64 0) ∧ ∃ F', DiskAt w' F' b d2 ∧ (∀ x, F' x → F x ∨ w.heap.size ≤ x) ∧ KeepsP F w w' ∧ WalBlk w' wb b (n : Int) base last := by
 have I1 : I64 t := ⟨by omega, by omega⟩
 have I2 : I64 v := ⟨by omega, by omega⟩
 have B1 : inW t 1099511627776 = true := decide_eq_true b1
 have B2 : inW v 7 = true := decide_eq_true b2
 have HI := hid (And.intro I1 I2)
 have HB := hid (And.intro B1 B2)
 have HAT := hid h
 have HW := hid hw
 have HF := hid hF
 have HG := hid (And.intro g1 g2)
 have HK := hid (And.intro k0 k1)
 have HN := hid hn
 have hwl : wb < w.heap.size := (Array.getElem?_eq_some_iff.1 hw).1
 clear h hw hF g1 g2 k0 k1 b1 b2 I1 I2 B1 B2 hn
 unfold ptrV
 go_enter Tryz.func46, Tryz.ntmps46
 go_wp2_with fail
 refine (wlIn_any t 1099511627776 _).mono ?_
 rintro e w1 ⟨rfl, hk1⟩
 rw [HB.out.1]
 have K1 := hid hk1
 clear hk1
 go_wp2_with fail
 refine (wlIn_any v 7 _).mono ?_
 rintro e w2 ⟨rfl, hk2⟩
 rw [HB.out.2]
 have K2 : Hid (Keeps [] w w2) := K1.out.trans hk2 (fun _ _ h => h)
 clear hk2
 go_wp2_with fail
 refine (wlRecord_any 1 [t, v] (some ⟨w2.heap.size, 0, none⟩) 2 _ (by have := Reads.ofBlock (n := 2) (size := 1) (heap_alloc_new w2 (.cells #[.int .i64 t, .int .i64 v] 3)) rfl (le_maxLen (by decide)); simpa [i64s] using this) (two_I64 HI.out.1 HI.out.2) (by simp)).mono ?_
 rintro e w3 ⟨a3, q3, rfl, ho3, hk3⟩
 have K3 : Hid (Keeps [] w w3) := K2.out.trans (Keeps.trans (F := []) (G := []) (by exact Keeps.K) hk3 (fun _ _ h => h)) (fun _ _ h => h)
 obtain ⟨r1, hr1⟩ : ∃ r1, recordP 1 [t, v] = r1 := ⟨_, rfl⟩
 have hl1 := frame2 (k := 1) HI.out.1 HI.out.2
 rw [hr1] at hl1 ho3 ⊢
 have HL1 := hid hl1
 have HO3 := hid ho3
 have HR1 := hid hr1
 clear hk3 ho3 hr1 hl1
 go_wp2_with fail
 refine (frPut_any r1 a3 q3 w3 (Reads.ofOwn HO3.out) HL1.out.1 (by have := HL1.out.2; omega)).mono ?_
 rintro e w4 ⟨a4, q4, rfl, ho4, hk4⟩
 have K4 : Hid (Keeps [] w w4) := K3.out.trans hk4 (fun _ _ h => h)
 obtain ⟨f1, hf1⟩ : ∃ f1, frameD r1 = f1 := ⟨_, rfl⟩
 have hlf := frameD_len (b := r1) (by have := HL1.out.2; omega)
 have hlp : f1.length ≠ 0 := by
  rw [← hf1]
  unfold frameD
  simp only [List.length_append, le4, List.length_cons, List.length_nil]
  omega
 rw [hf1] at ho4 hlf ⊢
 have HO4 : Hid (w4.ownsRow w.heap.size 5 1 (.slice a4 f1.length q4) f1.length (u8s f1)) := ownsRow_base ho4 K3.out.size
 have HLF : Hid (f1.length ≤ 40) := by have := HL1.out.2; show _ ≤ _; omega
 have HF1 := hid hf1
 have x0 : w4.cell? ⟨wb, 0, none⟩ = some (.pointer (some ⟨b, 0, none⟩)) := K4.out.cellSome (cell_of_block HW.out 0) (by simp)
 have x1 : w4.cell? ⟨wb, 1, none⟩ = some (.int .i64 (n : Int)) := K4.out.cellSome (cell_of_block HW.out 1) (by simp)
 have hq : ((f1.length : Int) == 0) = false := by rw [beq_eq_false_iff_ne]; omega
 clear hk4 ho4 hf1 hlf hlp
 go_wp2_with fail
 refine Plan.wp_region_plan (fun wx => wx.cell? ⟨wb, 0, none⟩ = some (.pointer (some ⟨b, 0, none⟩)) ∧ wx.cell? ⟨wb, 1, none⟩ = some (.int .i64 (n : Int))) 10 [(true, 0), (true, 1), (true, 2), (true, 3), (true, 4), (true, 5), (true, 6), (true, 7), (true, 9), (false, 8)] (by kernel_rfl) (by as_aux_lemma => kernel_rfl) (by kernel_rfl) (fun _ _ _ _ _ h => h) ?_ (fun hS => ?_)
 (·go_simp)
 simp only [Plan.pick, List.append_eq, List.cons_append, List.nil_append, Plan.g1, Plan.g2, Option.getD_some, List.drop_succ_cons, List.drop_zero]
 iterate 9 (first | refine Plan.tA ?_ | refine Plan.tY ?_ | refine Plan.pN ?_ | refine Plan.pU ?_ | fail)
 refine Plan.step ?_
 go_wp2_with fail
 refine (wlName_any n _ (by have := HN.out; omega)).mono ?_
 rintro e w5 ⟨rfl, hk5⟩
 have K45 : Hid (Keeps [] w4 w5) := Keeps.trans (F := []) (G := []) (by exact Keeps.K) hk5 (fun _ _ h => h)
 have K5 : Hid (Keeps [] w w5) := K4.out.trans K45.out (fun _ _ h => h)
 clear hk5
 go_wp2_with fail
 refine ⟨⟨K45.out.cellSome x0 (by simp), K45.out.cellSome x1 (by simp)⟩, ?_⟩
 refine Plan.fin ?_
 clear hS
 obtain ⟨nm, hnm⟩ : ∃ nm, walN n = nm := ⟨_, rfl⟩
 have hnl : nm.length ≤ 1000 := by
  rw [← hnm]
  unfold walN
  split
  ·simp
  ·unfold nameP
   rw [List.length_append, digits_len]
   simp [walB]
 have HNM := hid hnm
 have HNL := hid hnl
 rw [hnm]
 have hd5 := HAT.out.old.k K5.out
 have happ := dkAppend_any w5 _ b m d nm a4 q4 f1 hd5 HK.out.1 hm HNL.out ((Reads.ofOwn HO4.out).keeps K45.out (fun _ _ h => by cases h)) (by have := HLF.out; omega) (fun x hx h => by have := (ownB_ge HO4.out x hx).1; omega)
 have HAPP := hid happ
 clear hnm hnl hd5 happ x0 x1
 go_wp2_with fail
 refine HAPP.out.mono ?_
 rintro e w6 ⟨he, hp⟩
 rw [← HF1.out, ← HR1.out, ← HNM.out, HG.out.1] at he hp
 subst he
 obtain ⟨F6, hd6, hf6, hkp6⟩ := hp
 have HD6 := hid hd6
 have HF6 : Hid (∀ x, F6 x → (F x ∧ x < w.heap.size) ∨ w.heap.size ≤ x) := fun x hx => (hf6 x hx).imp id (fun h => Nat.le_trans K5.out.size h)
 have HKP6 : Hid (KeepsP F w w6) := (KeepsP.of0 K5.out).trans hkp6 (fun x _ h => h.1)
 have hnF : ¬ (F wb ∧ wb < w.heap.size) := fun h => HF.out h.1
 have hw6 : WalBlk w6 wb b (n : Int) base last := hkp6.block ((K5.out.block wb hwl (by simp)).trans HW.out) hnF
 have HW6 := hid hw6
 have HF6W : Hid (¬ F6 wb) := fun h => by
  rcases hf6 wb h with h | h
  ·exact HF.out h.1
  ·have := K5.out.size; omega
 have x0 : w6.cell? ⟨wb, 0, none⟩ = some (.pointer (some ⟨b, 0, none⟩)) := cell_of_block hw6 0
 have x1 : w6.cell? ⟨wb, 1, none⟩ = some (.int .i64 (n : Int)) := cell_of_block hw6 1
 clear hd6 hf6 hkp6 hw6 hnF
 go_wp2_with fail
 refine Plan.wp_region_plan (fun wx => wx.cell? ⟨wb, 0, none⟩ = some (.pointer (some ⟨b, 0, none⟩)) ∧ wx.cell? ⟨wb, 1, none⟩ = some (.int .i64 (n : Int))) 9 [(true, 0), (true, 1), (true, 2), (true, 3), (true, 4), (true, 5), (true, 6), (true, 7), (false, 8)] (by kernel_rfl) (by as_aux_lemma => kernel_rfl) (by kernel_rfl) (fun _ _ _ _ _ h => h) ?_ (fun hS => ?_)
 (·go_simp)
 simp only [Plan.pick, List.append_eq, List.cons_append, List.nil_append, Plan.g1, Plan.g2, Option.getD_some, List.drop_succ_cons, List.drop_zero]
 iterate 8 (first | refine Plan.tA ?_ | refine Plan.tY ?_ | refine Plan.pN ?_ | refine Plan.pU ?_ | fail)
 refine Plan.step ?_
 go_wp2_with fail
 refine (wlName_any n _ (by have := HN.out; omega)).mono ?_
 rintro e w7 ⟨rfl, hk7⟩
 have K67 : Hid (Keeps [] w6 w7) := Keeps.trans (F := []) (G := []) (by exact Keeps.K) hk7 (fun _ _ h => h)
 clear hk7
 go_wp2_with fail
 refine ⟨⟨K67.out.cellSome x0 (by simp), K67.out.cellSome x1 (by simp)⟩, ?_⟩
 refine Plan.fin ?_
 clear hS x0 x1
 rw [HNM.out]
 have HSY := hid (dkSync_any w7 F6 b m d1 nm (HD6.out.k K67.out) HK.out.2 hm HNL.out)
 go_wp2_with fail
 refine HSY.out.mono ?_
 rintro e w8 ⟨he, hp⟩
 rw [← HNM.out, HG.out.2] at he hp
 subst he
 obtain ⟨F8, hd8, hf8, hkp8⟩ := hp
 have HD8 := hid hd8
 have HF8 : Hid (∀ x, F8 x → F x ∨ w.heap.size ≤ x) := fun x hx => by
  rcases hf8 x hx with h | h
  ·exact (HF6.out x h).imp (fun h => h.1) id
  ·exact .inr (Nat.le_trans HKP6.out.size (Nat.le_trans K67.out.size h))
 have HKP8 : Hid (KeepsP F w w8) := (HKP6.out.trans (F' := fun _ => False) (KeepsP.of0 K67.out) (fun _ _ h => h.elim)).trans hkp8 (fun x hx h => by
  rcases HF6.out x h with h | h
  ·exact h.1
  ·omega)
 have HW8 : Hid (WalBlk w8 wb b (n : Int) base last) := hkp8.block ((K67.out.block wb (Array.getElem?_eq_some_iff.1 HW6.out).1 (by simp)).trans HW6.out) HF6W.out
 clear hd8 hf8 hkp8
 go_wp2_with fail
 go_ret
 exact ⟨rfl, F8, HD8.out, HF8.out, HKP8.out, HW8.out⟩
theorem tyMade_1 (a b c : Int) (w : World) : Calls Tryz.prog 196 #[.int .i64 1, .agg #[.int .i64 a, .int .i64 b, .int .i64 c]] w fun e w' => e = .returned (.int .i64 (madeT 1 a b c)) ∧ Keeps [] w w' := by
 go_enter Tryz.func196, Tryz.ntmps196
 go_wp2_with fail
 go_quiet (fail)
 go_wp2_with fail
 all_goals
  go_ret
  exact ⟨by simp_all [madeT], by exact Keeps.K⟩
theorem tyMade_2 (a b c : Int) (w : World) : Calls Tryz.prog 196 #[.int .i64 2, .agg #[.int .i64 a, .int .i64 b, .int .i64 c]] w fun e w' => e = .returned (.int .i64 (madeT 2 a b c)) ∧ Keeps [] w w' := by
 go_enter Tryz.func196, Tryz.ntmps196
 go_wp2_with fail
 go_quiet (fail)
 go_wp2_with fail
 all_goals
  go_ret
  exact ⟨by simp_all [madeT], by exact Keeps.K⟩
theorem tyMade_3 (a b c : Int) (w : World) : Calls Tryz.prog 196 #[.int .i64 3, .agg #[.int .i64 a, .int .i64 b, .int .i64 c]] w fun e w' => e = .returned (.int .i64 (madeT 3 a b c)) ∧ Keeps [] w w' := by
 go_enter Tryz.func196, Tryz.ntmps196
 go_wp2_with fail
 go_quiet (fail)
 go_wp2_with fail
 all_goals
  go_ret
  exact ⟨by simp_all [madeT], by exact Keeps.K⟩
theorem tyMade_4 (a b c : Int) (w : World) : Calls Tryz.prog 196 #[.int .i64 4, .agg #[.int .i64 a, .int .i64 b, .int .i64 c]] w fun e w' => e = .returned (.int .i64 (madeT 4 a b c)) ∧ Keeps [] w w' := by
 go_enter Tryz.func196, Tryz.ntmps196
 go_wp2_with fail
 go_quiet (fail)
 go_wp2_with fail
 all_goals
  go_ret
  exact ⟨by simp_all [madeT], by exact Keeps.K⟩
theorem tyMade_5 (a b c : Int) (w : World) : Calls Tryz.prog 196 #[.int .i64 5, .agg #[.int .i64 a, .int .i64 b, .int .i64 c]] w fun e w' => e = .returned (.int .i64 (madeT 5 a b c)) ∧ Keeps [] w w' := by
 go_enter Tryz.func196, Tryz.ntmps196
 go_wp2_with fail
 go_quiet (fail)
 go_wp2_with fail
 all_goals
  go_ret
  exact ⟨by simp_all [madeT], by exact Keeps.K⟩
theorem tyMade_6 (a b c : Int) (w : World) : Calls Tryz.prog 196 #[.int .i64 6, .agg #[.int .i64 a, .int .i64 b, .int .i64 c]] w fun e w' => e = .returned (.int .i64 (madeT 6 a b c)) ∧ Keeps [] w w' := by
 go_enter Tryz.func196, Tryz.ntmps196
 go_wp2_with fail
 go_quiet (fail)
 go_wp2_with fail
 all_goals
  go_ret
  exact ⟨by simp_all [madeT], by exact Keeps.K⟩
theorem tyMade_7 (a b c : Int) (w : World) : Calls Tryz.prog 196 #[.int .i64 7, .agg #[.int .i64 a, .int .i64 b, .int .i64 c]] w fun e w' => e = .returned (.int .i64 (madeT 7 a b c)) ∧ Keeps [] w w' := by
 go_enter Tryz.func196, Tryz.ntmps196
 go_wp2_with fail
 go_quiet (fail)
 go_wp2_with fail
 all_goals
  go_ret
  exact ⟨by simp_all [madeT], by exact Keeps.K⟩
theorem tyMade_8 (a b c : Int) (w : World) : Calls Tryz.prog 196 #[.int .i64 8, .agg #[.int .i64 a, .int .i64 b, .int .i64 c]] w fun e w' => e = .returned (.int .i64 (madeT 8 a b c)) ∧ Keeps [] w w' := by
 go_enter Tryz.func196, Tryz.ntmps196
 go_wp2_with fail
 go_quiet (fail)
 go_wp2_with fail
 all_goals
  go_ret
  exact ⟨by simp_all [madeT], by exact Keeps.K⟩
theorem tyMade_17 (a b c : Int) (w : World) : Calls Tryz.prog 196 #[.int .i64 17, .agg #[.int .i64 a, .int .i64 b, .int .i64 c]] w fun e w' => e = .returned (.int .i64 (madeT 17 a b c)) ∧ Keeps [] w w' := by
 go_enter Tryz.func196, Tryz.ntmps196
 go_wp2_with fail
 go_quiet (fail)
 go_wp2_with fail
 all_goals
  go_ret
  exact ⟨by simp_all [madeT], by exact Keeps.K⟩
theorem tyMade_18 (a b c : Int) (w : World) : Calls Tryz.prog 196 #[.int .i64 18, .agg #[.int .i64 a, .int .i64 b, .int .i64 c]] w fun e w' => e = .returned (.int .i64 (madeT 18 a b c)) ∧ Keeps [] w w' := by
 go_enter Tryz.func196, Tryz.ntmps196
 go_wp2_with fail
 go_quiet (fail)
 go_wp2_with fail
 all_goals
  go_ret
  exact ⟨by simp_all [madeT], by exact Keeps.K⟩
theorem tyMade_19 (a b c : Int) (w : World) : Calls Tryz.prog 196 #[.int .i64 19, .agg #[.int .i64 a, .int .i64 b, .int .i64 c]] w fun e w' => e = .returned (.int .i64 (madeT 19 a b c)) ∧ Keeps [] w w' := by
 go_enter Tryz.func196, Tryz.ntmps196
 go_wp2_with fail
 go_quiet (fail)
 go_wp2_with fail
 all_goals
  go_ret
  exact ⟨by simp_all [madeT], by exact Keeps.K⟩
theorem tyMade_20 (a b c : Int) (w : World) : Calls Tryz.prog 196 #[.int .i64 20, .agg #[.int .i64 a, .int .i64 b, .int .i64 c]] w fun e w' => e = .returned (.int .i64 (madeT 20 a b c)) ∧ Keeps [] w w' := by
 go_enter Tryz.func196, Tryz.ntmps196
 go_wp2_with fail
 go_quiet (fail)
 go_wp2_with fail
 all_goals
  go_ret
  exact ⟨by simp_all [madeT], by exact Keeps.K⟩
theorem tyMade_21 (a b c : Int) (w : World) : Calls Tryz.prog 196 #[.int .i64 21, .agg #[.int .i64 a, .int .i64 b, .int .i64 c]] w fun e w' => e = .returned (.int .i64 (madeT 21 a b c)) ∧ Keeps [] w w' := by
 go_enter Tryz.func196, Tryz.ntmps196
 go_wp2_with fail
 go_quiet (fail)
 go_wp2_with fail
 all_goals
  go_ret
  exact ⟨by simp_all [madeT], by exact Keeps.K⟩
theorem tyMade_22 (a b c : Int) (w : World) : Calls Tryz.prog 196 #[.int .i64 22, .agg #[.int .i64 a, .int .i64 b, .int .i64 c]] w fun e w' => e = .returned (.int .i64 (madeT 22 a b c)) ∧ Keeps [] w w' := by
 go_enter Tryz.func196, Tryz.ntmps196
 go_wp2_with fail
 go_quiet (fail)
 go_wp2_with fail
 all_goals
  go_ret
  exact ⟨by simp_all [madeT], by exact Keeps.K⟩
theorem tyMade_23 (a b c : Int) (w : World) : Calls Tryz.prog 196 #[.int .i64 23, .agg #[.int .i64 a, .int .i64 b, .int .i64 c]] w fun e w' => e = .returned (.int .i64 (madeT 23 a b c)) ∧ Keeps [] w w' := by
 go_enter Tryz.func196, Tryz.ntmps196
 go_wp2_with fail
 go_quiet (fail)
 go_wp2_with fail
 all_goals
  go_ret
  exact ⟨by simp_all [madeT], by exact Keeps.K⟩
theorem tyMade_any (o a b c : Int) (w : World) (h0 : 1 ≤ o) (h1 : o ≤ 23) : Calls Tryz.prog 196 #[.int .i64 o, .agg #[.int .i64 a, .int .i64 b, .int .i64 c]] w fun e w' => e = .returned (.int .i64 (madeT o a b c)) ∧ Keeps [] w w' := by
 rcases op23 h0 h1 with rfl | rfl | rfl | rfl | rfl | rfl | rfl | rfl | rfl | rfl | rfl | rfl | rfl | rfl | rfl | rfl | rfl | rfl | rfl | rfl | rfl | rfl | rfl
 ·exact tyMade_1 a b c w
 ·exact tyMade_2 a b c w
 ·exact tyMade_3 a b c w
 ·exact tyMade_4 a b c w
 ·exact tyMade_5 a b c w
 ·exact tyMade_6 a b c w
 ·exact tyMade_7 a b c w
 ·exact tyMade_8 a b c w
 ·exact tyMade_9 a b c w
 ·exact tyMade_10 a b c w
 ·exact tyMade_11 a b c w
 ·exact tyMade_12 a b c w
 ·exact tyMade_13 a b c w
 ·exact tyMade_14 a b c w
 ·exact tyMade_15 a b c w
 ·exact tyMade_16 a b c w
 ·exact tyMade_17 a b c w
 ·exact tyMade_18 a b c w
 ·exact tyMade_19 a b c w
 ·exact tyMade_20 a b c w
 ·exact tyMade_21 a b c w
 ·exact tyMade_22 a b c w
 ·exact tyMade_23 a b c w
theorem made_all : MadeC := fun o a b c w h0 h1 => tyMade_any o a b c w h0 h1
theorem tyOf_ok (e : ExprD) (names : List ByteArray) (types : List Int) (t : Int) (a1 a2 : Option Addr) (c1 c2 n m : Nat) (cs : List Value) (P : Nat → Prop) (w : World) (hT : Tabs w) (hE : Errs w) (hat : ExprAt w P e cs) (hn : names.length = n) (hm : types.length = m) (hr1 : Reads w 1 (.slice a1 n c1) n (names.map Value.string)) (hr2 : Reads w 1 (.slice a2 m c2) m (i64s types)) (h1000 : n ≤ 1000) (hok : exprOk e = true) (h : ofE e names types = (t, 0)) :
 Calls Tryz.prog 81 #[.agg cs.toArray, .slice a1 n c1, .slice a2 m c2] w fun e w' => e = .returned (.tuple #[.int .i64 t, .int .i64 0]) ∧ Keeps [] w w' := by
 have HC := hid (fun wx (k : Keeps [] w wx) => paCheck_ok e cs P wx (hT.k k) (hE.k k) (ExprAt.keep k (fun _ _ => by simp) hat) hok)
 have HO := hid (fun wx (k : Keeps [] w wx) => tyOfR_ok made_all e names types t a1 a2 c1 c2 n m cs P wx (ExprAt.keep k (fun _ _ => by simp) hat) hn hm (hr1.keeps k (fun _ _ h => by cases h)) (hr2.keeps k (fun _ _ h => by cases h)) h1000 (okE.of hok) h)
 obtain ⟨o, nn, s, ks⟩ := e
 obtain ⟨a, c, rfl, _⟩ := ExprAt.parts hat
 clear hat hok h hr1 hr2 hT hE hn hm h1000
 go_enter Tryz.func81, Tryz.ntmps81
 go_wp2_with fail
 refine (HC.out _ (by exact Keeps.K)).mono ?_
 rintro e w1 ⟨rfl, hk⟩
 have K1 : Hid (Keeps [] w w1) := Keeps.trans (F := []) (G := []) (by exact Keeps.K) hk (fun _ _ h => h)
 have hb1 := (hk.block w.heap.size (by simp) (by simp)).trans (heap_alloc_new w (.cells #[.int .i64 o, .int .i64 nn, .string s, .slice a ks.length c] 76))
 obtain ⟨b3, y0, y1, y2, y3, -, -, -, -⟩ := zexpr hb1
 clear hk hb1
 go_wp2_with fail
 refine (HO.out _ (K1.out)).mono ?_
 rintro e w2 ⟨rfl, hk⟩
 have K2 := hid (K1.out.trans hk (fun _ _ h => h))
 clear hk
 go_wp2_with fail
 go_ret2
 exact ⟨rfl, K2.out⟩
theorem insT_perm (x : List UInt8) : ∀ l, (insT x l).Perm (x :: l)
 | [] => List.Perm.refl _
 | y :: r => by
   unfold insT
   split
   ·exact (List.Perm.cons y (insT_perm x r)).trans (List.Perm.swap x y r)
   ·exact List.Perm.refl _
theorem sortT_perm : ∀ l : List (List UInt8), (sortT l).Perm l
 | [] => List.Perm.refl _
 | x :: r => by
   show (insT x (sortT r)).Perm _
   exact (insT_perm x _).trans (List.Perm.cons x (sortT_perm r))
theorem not_before {x y : List UInt8} (h : ¬ bytesBefore y x = true) : x ≤ y := by
 by_cases e : x = y
 ·rw [e]; exact List.le_refl y
 ·rcases Go.WideAt.bytes_total x y e with h' | h'
  ·exact before_le _ _ h'
  ·exact absurd h' h
theorem insT_sorted (x : List UInt8) : ∀ l : List (List UInt8), l.Pairwise (fun a b => a ≤ b) → (insT x l).Pairwise (fun a b => a ≤ b)
 | [], _ => by simp [insT]
 | y :: r, h => by
   obtain ⟨h1, h2⟩ := List.pairwise_cons.1 h
   unfold insT
   split
   ·rename_i hb
    refine List.pairwise_cons.2 ⟨fun z hz => ?_, insT_sorted x r h2⟩
    rcases List.mem_cons.1 ((insT_perm x r).mem_iff.1 hz) with rfl | hz
    ·exact before_le _ _ hb
    ·exact h1 z hz
   ·rename_i hb
    refine List.pairwise_cons.2 ⟨fun z hz => ?_, h⟩
    rcases List.mem_cons.1 hz with rfl | hz
    ·exact not_before hb
    ·exact List.le_trans (not_before hb) (h1 z hz)
theorem sortT_sorted : ∀ l : List (List UInt8), (sortT l).Pairwise (fun a b => a ≤ b)
 | [] => List.Pairwise.nil
 | x :: r => insT_sorted x _ (sortT_sorted r)
theorem sortT_is (l : List (List UInt8)) : l.mergeSort leB = sortT l := by
 rw [mergeSort_of_perm (sortT_perm l).symm]
 refine List.mergeSort_of_pairwise ((sortT_sorted l).imp fun {a b} h => by simpa [leB] using h)
theorem compact_own (w : World) (base : Nat) (a : Option Addr) (c n : Nat) (ss : List (List UInt8)) (hn : ss.length = n) (hown : w.ownsRow base 9 1 (.slice a n c) n (ss.map fun s => .string (str s))) (hs : n ≤ 1000000) :
 Calls Tryz.prog 146 #[.slice a n c] w fun e w' => e = .returned (.slice a (Lib.compact ss).length c) ∧ w'.ownsRow base 9 1 (.slice a (Lib.compact ss).length c) (Lib.compact ss).length ((Lib.compact ss).map fun s => .string (str s)) ∧ Keeps (ownB (.slice a n c)) w w' := by
 subst hn
 have hcl : (Lib.compact ss).length ≤ ss.length := Go.Lib.compact_length_le ss
 rcases Nat.eq_zero_or_pos ss.length with h0 | hp
 ·have h0' : ss = [] := List.eq_nil_of_length_eq_zero h0
  subst h0'
  refine (Tryz.slices_Compact_string_empty a c w).mono ?_
  rintro e w' ⟨rfl, rfl⟩
  exact ⟨rfl, hown, Keeps.refl _ _⟩
 ·obtain ⟨hl, ⟨hv, hx⟩ | ⟨g, cap, cur, hv, hb, hg, hnc, hcm, hcs, htake⟩⟩ := hown
  ·omega
  ·simp only [Value.slice.injEq] at hv
   obtain ⟨rfl, -, rfl⟩ := hv
   have hsz : ss.length ≤ cur.size := by omega
   have hH : Sort.Holds encStr w g 0 ss.toArray := fun j hj => by
    simp at hj
    refine ⟨?_, frozen_of_row w g _ _ _ hg⟩
    rw [Nat.zero_add, cell_of_row w g j cur _ (0, 0) hg]
    have := congrArg (fun l : List Value => l[j]?) htake
    simp only [Nat.mul_one, List.getElem?_take, hj, if_true, List.getElem?_map, Array.getElem?_toList] at this
    rw [this, List.getElem?_eq_getElem hj]
    simp [encStr, str, hj]
   refine (Tryz.slices_Compact_string g 0 c ss w hH (by omega) hnc).mono ?_
   rintro e w' ⟨rfl, q, rfl⟩
   obtain ⟨zs, hzs⟩ : ∃ zs, Lib.compact ss ++ List.replicate (ss.length - (Lib.compact ss).length) [] = zs := ⟨_, rfl⟩
   have hzl : zs.length = ss.length := by rw [← hzs]; simp; omega
   rw [hzs]
   refine ⟨rfl, ⟨by simp, .inr ⟨g, c, Sort.putCells encStr 0 zs.toArray cur, rfl, hb, ?_, by omega, hcm, by simp [Sort.putCells]; omega, ?_⟩⟩, ?_⟩
   ·show (w.heap.modify g _)[g]? = _
    rw [Array.getElem?_modify, if_pos rfl, hg]
    rfl
   ·have := sort_cells zs cur (by omega)
    rw [hzl] at this
    have h2 := congrArg (List.take (Lib.compact ss).length) this
    rw [List.take_take, Nat.min_eq_left hcl, ← List.map_take, ← hzs, List.take_left] at h2
    simpa [← hzs] using h2
   ·have := keeps_sort w q g (Sort.putCells encStr 0 zs.toArray) #[]
    rw [Sort.grow_empty] at this
    exact this.mono (fun x _ hm => by simpa [mem_ownB, Value.ownBlock, eq_comm] using hm)
theorem paNames_ok (e : ExprD) (cs : List Value) (P : Nat → Prop) (w : World) (hT : Tabs w) (hE : Errs w) (hat : ExprAt w P e cs) (h : exprOk e = true) (hl : (namesB e).length ≤ 1000) :
 Calls Tryz.prog 82 #[.agg cs.toArray] w (NamesPost w (namesD e)) := by
 have hat2 := ExprAt.mono (P' := fun b => P b ∧ b < w.heap.size) (fun b hb h => ⟨h, hb⟩) hat
 have HC := hid (fun wx (k : Keeps [] w wx) => paCheck_ok e cs _ wx (hT.k k) (hE.k k) (ExprAt.keep k (fun _ _ => by simp) hat2) h)
 have HN := hid (fun wx (k : Keeps [] w wx) => paNamesR_ok e [] 0 none 0 cs _ wx.heap.size wx (ExprAt.keep k (fun _ _ => by simp) hat2) (fun b hb => Nat.lt_of_lt_of_le hb.2 k.size) (Nat.le_refl _) rfl (OwnAt.nil _ _ _ _) (by omega) (okE.of h))
 have HL := hid hl
 have HD : Hid (Lib.compact (((([] : List Nm) ++ namesB e).mergeSort leB)) = namesD e) := by
  show _ = _
  rw [List.nil_append, sortT_is]
  rfl
 obtain ⟨l, hnl⟩ : ∃ l, ([] : List Nm) ++ namesB e = l := ⟨_, rfl⟩
 have hll : l.length ≤ 1000 := by rw [← hnl]; simpa using hl
 have HLL := hid hll
 rw [hnl] at HN HD
 obtain ⟨o, n, s, ks⟩ := e
 obtain ⟨a, c, rfl, _⟩ := ExprAt.parts hat
 clear hat hat2 h hT hE hl hnl hll
 go_enter Tryz.func82, Tryz.ntmps82
 go_wp2_with fail
 refine (HC.out _ (by exact Keeps.K)).mono ?_
 rintro e w1 ⟨rfl, hk1⟩
 have K1 : Hid (Keeps [] w w1) := Keeps.trans (F := []) (G := []) (by exact Keeps.K) hk1 (fun _ _ h => h)
 have x0 : w1.cell? ⟨w.heap.size, 0, none⟩ = some (.int .i64 o) := hk1.cellSome (by go_simp) (by simp)
 have x1 : w1.cell? ⟨w.heap.size, 1, none⟩ = some (.int .i64 n) := hk1.cellSome (by go_simp) (by simp)
 have x2 : w1.cell? ⟨w.heap.size, 2, none⟩ = some (.string s) := hk1.cellSome (by go_simp) (by simp)
 have x3 : w1.cell? ⟨w.heap.size, 3, none⟩ = some (.slice a ks.length c) := hk1.cellSome (by go_simp) (by simp)
 clear hk1
 go_wp2_with fail
 refine (HN.out _ K1.out).mono ?_
 rintro e w2 ⟨a2, c2, rfl, ho2, hk2⟩
 have K2 : Hid (Keeps [] w w2) := by
  obtain ⟨G, kG, hG⟩ := hk2
  exact K1.out.trans kG (fun x hx hm => by have := hG x hm; have := K1.out.size; omega)
 have HS := hid (sort_own w2 w1.heap.size (.slice a2 l.length c2) l (strL_owns ho2) (by have := HLL.out; omega))
 have HOB := hid (fun x hx => (OwnAt.ge ho2 x hx).1)
 clear ho2 hk2 x0 x1 x2 x3
 go_wp2_with fail
 refine HS.out.mono ?_
 rintro e w3 ⟨rfl, ho3, hk3⟩
 have hcm := compact_own w3 w1.heap.size a2 c2 l.length (l.mergeSort leB) (by simp) (by simpa using ho3) (by have := HLL.out; omega)
 rw [HD.out] at hcm
 have HCM := hid hcm
 have K3 : Hid (Keeps [] w w3) := K2.out.trans hk3 (fun x hx hm => by have := HOB.out x hm; have := K1.out.size; omega)
 clear ho3 hk3 hcm
 go_wp2_with fail
 refine HCM.out.mono ?_
 rintro e w4 ⟨rfl, ho4, hk4⟩
 have HO4 := hid ho4
 have K4 : Hid (Keeps [] w w4) := K3.out.trans hk4 (fun x hx hm => by have := HOB.out x hm; have := K1.out.size; omega)
 clear ho4 hk4
 go_wp2_with fail
 go_ret
 exact ⟨a2, c2, rfl, (strL_own HO4.out).base K1.out.size, K4.out⟩
theorem snNumber_none (s : Nm) (w : World) (hs : s.length ≤ 1000) (h : numberP snapB s 13 = none) :
 Calls Tryz.prog 92 #[.string (str s)] w fun e w' => e = .returned (.tuple #[.int .i64 0, .bool false]) ∧ Keeps [] w w' := by
 have hp := plNumber_any ⟨#[115, 110, 97, 112, 45]⟩ (str s) 13 w (by decide) (by decide) (by simp [str, ByteArray.size]; omega)
 have he : numberP (⟨#[115, 110, 97, 112, 45]⟩ : ByteArray).data.toList (str s).data.toList 13 = none := by
  rw [← h]
  simp [snapB, str]
 rw [he] at hp
 have HP := hid hp
 clear hp he h
 go_enter Tryz.func92, Tryz.ntmps92
 go_wp2_with fail
 refine HP.out.mono ?_
 rintro e w1 ⟨rfl, hk⟩
 have K := hid hk
 unfold numT
 clear hk
 go_wp2_with fail
 refine bodyPost_ret (v := .tuple #[.int .i64 0, .bool false]) (by simp [results, Tryz.results92, go_sem]) rfl ?_
 exact ⟨rfl, K.out⟩
theorem snNewest_none (w : World) (F : Nat → Prop) (b : Nat) (d : DiskD) (h : DiskAt w F b d) (hf : d.files.length ≤ 1000) (hall : ∀ s ∈ dlist d, s.length ≤ 1000 ∧ numberP snapB s 13 = none) :
 Calls Tryz.prog 34 #[ptrV b] w fun e w' => e = .returned (.tuple #[.int .i64 0, .int .i64 0, .slice none 0 0, .int .i64 3]) ∧ Keeps [] w w' := by
 have HL := hid (dkList_any w F b d h hf)
 have HA := hid hall
 have hlf : (dlist d).length ≤ 1000 := by unfold dlist; simpa using hf
 have HLF := hid hlf
 clear h hall hf hlf
 unfold ptrV
 go_enter Tryz.func34, Tryz.ntmps34
 go_wp2_with fail
 go_step3
 go_wp2_with fail
 go_step3
 go_wp2_with fail
 refine HL.out.mono ?_
 rintro e w1 ⟨a, c, rfl, ho, hk⟩
 have HO := hid ho
 have K1 := hid hk
 obtain ⟨l, hl⟩ : ∃ l, dlist d = l := ⟨_, rfl⟩
 rw [hl] at HO HA HLF ⊢
 clear ho hk hl HL
 go_wp2_with fail
 go_loopw [6, 20] (fun xv iv wr => ∃ k : Nat, xv = .int .i64 0 ∧ iv = .int .i64 (k : Int) ∧ k ≤ l.length ∧ Hid (Keeps [] w1 wr)) (fun _ iv _ => l.length - (intOf iv).toNat)
 case atStart => exact ⟨0, rfl, rfl, Nat.zero_le _, by show Keeps _ _ _; exact Keeps.K⟩
 case round =>
  obtain ⟨k, rfl, rfl, hk, hW⟩ := hrel
  have HW := hid hW.out
  clear hW
  have j0 : (0 : Int) ≤ (k : Int) := Int.natCast_nonneg _
  have hll := HLF.out
  by_cases hlt : k < l.length
  ·have i1 : (k : Int) < (l.length : Int) := by omega
   have hw1 : IntKind.i64.wrap ((k : Int) + 1) = (k : Int) + 1 := by rw [IntKind.wrap_i64]; omega
   obtain ⟨s, hs⟩ : ∃ s, l[k] = s := ⟨_, rfl⟩
   have hs2 : l[k]? = some s := by rw [List.getElem?_eq_getElem hlt, hs]
   obtain ⟨g, rfl, hcell⟩ := strL_cell HO.out hs2 hlt
   have hcell := HW.out.cellSome hcell (by simp)
   have hm := HA.out s (by rw [← hs]; exact List.getElem_mem _)
   have HN := hid (snNumber_none s wr hm.1 hm.2)
   have HLT := hid hlt
   clear hs hs2 hlt hm
   go_wp2_with fail
   refine HN.out.mono ?_
   rintro e w2 ⟨rfl, hk2⟩
   have K2 : Hid (Keeps [] w1 w2) := HW.out.trans hk2 (fun _ _ h => h)
   clear hk2
   go_wp2_with fail
   have := HLT.out
   exact ⟨⟨k + 1, rfl, rfl, by omega, K2.out⟩, by simp [intOf]; omega⟩
  ·have i1 : (l.length : Int) ≤ (k : Int) := by omega
   go_wp2_with fail
   rw [Exit.noGoto_ret]
   refine bodyPost_ret (v := .tuple #[.int .i64 0, .int .i64 0, .slice none 0 0, .int .i64 3]) (by simp [results, Tryz.results34, go_sem]) rfl ?_
   exact ⟨rfl, K1.out.trans HW.out (fun _ _ h => h)⟩
end Go.Proofs.YtgjiahilbmeaeaaGreatDoor