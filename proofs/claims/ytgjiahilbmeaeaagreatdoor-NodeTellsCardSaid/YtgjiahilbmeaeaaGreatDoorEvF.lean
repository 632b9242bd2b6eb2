/- A comparison whose second part fails. -/
import Derived.Test.YtgjiahilbmeaeaaGreatDoorEvC
set_option maxRecDepth 100000
set_option maxHeartbeats 8000000
set_option linter.unusedSimpArgs false
set_option linter.unusedVariables false
namespace Go.Proofs.YtgjiahilbmeaeaaGreatDoor
open Go Go.RowKit
theorem evTruth_second14 (w : World) (wb g off : Nat) (c : Nat) (n : Int) (s : ByteArray) (o0 n0 : Int) (s0 : ByteArray) (a0 : Option Addr) (m0 c0 : Nat) (o1 n1 : Int) (s1 : ByteArray) (a1 : Option Addr) (m1 c1 : Nat) (v u : ValD) (hT : Tabs w) (hk : KidAt w g off o0 n0 s0 a0 m0 c0) (hc : KidC w wb o0 n0 s0 a0 m0 c0 v) (hk1 : KidAt w g (off + 4) o1 n1 s1 a1 m1 c1) (hc1 : KidC w wb o1 n1 s1 a1 m1 c1 u) (hf : (needD v [1, 3]).2 = true) (hg : (needD u [v.kind]).2 = false) :
 Calls Tryz.prog 282 #[.pointer (some ⟨wb, 0, none⟩), .agg #[.int .i64 14, .int .i64 n, .string s, .slice (some ⟨g, off, none⟩) 2 c]] w fun e w' => e = .returned (boxV (needD u [v.kind]).1) ∧ Keeps [] w w' := by
 have HC := hid hc
 have HC1 := hid hc1
 have HK1 := hid hk1
 have HT := hid hT
 have HG := hid hg
 have hnd : needD v [1, 3] = (v, true) := by
  unfold needD at hf ⊢
  split at hf
  ·cases hf
  ·split at hf
   ·rename_i h1 h2
    rw [if_neg h1, if_pos h2]
   ·cases hf
 have HND := hid hnd
 have KB : Hid (Keeps [] w ((w.alloc (.cells #[.int .i64 14, .int .i64 n, .string s, .slice (some ⟨g, off, none⟩) 2 c] 76)).alloc (.cells #[.int .i64 1, .int .i64 3, .int .i64 2] 3))) := by show Keeps _ _ _; exact Keeps.K
 obtain ⟨x0, x1, x2, x3⟩ := hk.k KB.out
 have HBB : Hid (((w.alloc (.cells #[.int .i64 14, .int .i64 n, .string s, .slice (some ⟨g, off, none⟩) 2 c] 76)).alloc (.cells #[.int .i64 1, .int .i64 3, .int .i64 2] 3)).heap[w.heap.size]? = some (.cells #[.int .i64 14, .int .i64 n, .string s, .slice (some ⟨g, off, none⟩) 2 c] 76 (0, 0))) := new2 w _ _ 0 rfl
 have HR : Hid (((w.alloc (.cells #[.int .i64 14, .int .i64 n, .string s, .slice (some ⟨g, off, none⟩) 2 c] 76)).alloc (.cells #[.int .i64 1, .int .i64 3, .int .i64 2] 3)).heap[w.heap.size + 1]? = some (.cells #[.int .i64 1, .int .i64 3, .int .i64 2] 3 (0, 0))) := new2K w _ _
 have HR2 : Hid (Reads ((w.alloc (.cells #[.int .i64 14, .int .i64 n, .string s, .slice (some ⟨g, off, none⟩) 2 c] 76)).alloc (.cells #[.int .i64 1, .int .i64 3, .int .i64 2] 3)) 1 (.slice (some ⟨w.heap.size + 1, 0, none⟩) 2 3) 2 (i64s [1, 3])) := by
  refine ⟨rfl, .inr ⟨by decide, _, _, 3, rfl, by decide, by decide, by simp, fun j u hu => ?_⟩⟩
  rw [Nat.zero_add]
  match j, hu with
  | 0, hu => simp [i64s] at hu; subst hu; exact cell_of_block HR.out 0
  | 1, hu => simp [i64s] at hu; subst hu; exact cell_of_block HR.out 1
  | j + 2, hu => simp [i64s] at hu
 clear hc hc1 hk1 hT hk hf hg hnd
 go_enter Tryz.func282, Tryz.ntmps282
 go_wp2_with fail
 refine ((HC.out.k KB.out).need (HT.out.k KB.out) [1, 3] 2 _ 3 rfl (HR2.out) (by decide)).mono ?_
 rintro _ w2 ⟨rfl, hk2⟩
 have K2 := hid (KB.out.trans hk2 (fun _ _ h => h))
 rw [HND.out]
 have hb2 := (hk2.block w.heap.size (by simp; omega) (by simp)).trans HBB.out
 have HB2 := hid hb2
 obtain ⟨_, z0, z1, z2, z3, _⟩ := zexpr hb2
 obtain ⟨y0, y1, y2, y3⟩ := HK1.out.k K2.out
 clear hk2 hb2 x0 x1 x2 x3
 go_wp2_with fail
 refine Plan.wp_region_plan (fun wx => wx.cell? ⟨w.heap.size, 3, none⟩ = some (.slice (some ⟨g, off, none⟩) 2 c) ∧ wx.cell? ⟨g, off + 4, none⟩ = some (.int .i64 o1) ∧ wx.cell? ⟨g, off + 4 + 1, none⟩ = some (.int .i64 n1) ∧ wx.cell? ⟨g, off + 4 + 2, none⟩ = some (.string s1) ∧ wx.cell? ⟨g, off + 4 + 3, none⟩ = some (.slice a1 m1 c1)) 13 [(true, 0), (true, 1), (true, 2), (true, 3), (true, 4), (true, 5), (false, 6), (false, 7), (false, 8), (true, 9), (true, 10), (true, 11), (true, 12)] (by kernel_rfl) (by as_aux_lemma => kernel_rfl) (by kernel_rfl) (fun _ _ _ _ _ h => h) ?_ (fun hS => ?_)
 ·exact ⟨z3, y0, y1, y2, y3⟩
 simp only [Plan.pick, List.append_eq, List.cons_append, List.nil_append, Plan.g1, Plan.g2, Option.getD_some, List.drop_succ_cons, List.drop_zero]
 iterate 6 (first | refine Plan.tA ?_ | refine Plan.tY ?_ | refine Plan.pN ?_ | refine Plan.pU ?_ | fail)
 refine Plan.step ?_
 go_wp2_with fail
 refine (kind_yes (boxV v) v _ (unbox_box HC.out.1.1 _ ((HT.out.k K2.out).k (by exact Keeps.K)) HC.out.1.2)).mono ?_
 rintro _ w3 ⟨rfl, hk3⟩
 have K3 : Hid (Keeps [] w w3) := (K2.out.trans (G := []) (by exact Keeps.K) (fun _ _ h => h)).trans hk3 (fun _ _ h => h)
 have K23 : Hid (Keeps [] w2 w3) := Keeps.trans (F := []) (G := []) (by exact Keeps.K) hk3 (fun _ _ h => h)
 have z3' := K23.out.cellSome z3 (by simp)
 have y0' := K23.out.cellSome y0 (by simp)
 have y1' := K23.out.cellSome y1 (by simp)
 have y2' := K23.out.cellSome y2 (by simp)
 have y3' := K23.out.cellSome y3 (by simp)
 clear hk3 z0 z1 z2 z3 y0 y1 y2 y3
 go_wp2_with fail
 refine ⟨⟨z3', y0', y1', y2', y3'⟩, ?_⟩
 refine Plan.step ?_
 go_wp2_with fail
 have KD : Hid (Keeps [] w3 (w3.alloc (.cells #[.int .i64 v.kind] 3))) := by show Keeps _ _ _; exact Keeps.K
 have HRD : Hid ((w3.alloc (.cells #[.int .i64 v.kind] 3)).heap[w3.heap.size]? = some (.cells #[.int .i64 v.kind] 3 (0, 0))) := heap_alloc_new w3 _
 have z3 := KD.out.cellSome z3' (by simp)
 have y0 := KD.out.cellSome y0' (by simp)
 have y1 := KD.out.cellSome y1' (by simp)
 have y2 := KD.out.cellSome y2' (by simp)
 have y3 := KD.out.cellSome y3' (by simp)
 clear z3' y0' y1' y2' y3'
 refine ⟨⟨z3, y0, y1, y2, y3⟩, ?_⟩
 refine Plan.step ?_
 have KW : Hid (Keeps [] w (w3.alloc (.cells #[.int .i64 v.kind] 3))) := K3.out.trans KD.out (fun _ _ h => h)
 go_wp2_with fail
 refine ((HC1.out.k KW.out).need (HT.out.k KW.out) [v.kind] 1 _ 1 rfl (Reads.ofBlock (n := 1) HRD.out rfl (by decide)) (by decide)).mono ?_
 rintro _ w4 ⟨rfl, hk4⟩
 have K4 : Hid (Keeps [] w w4) := KW.out.trans hk4 (fun _ _ h => h)
 have q3 := hk4.cellSome z3 (by simp)
 have p0 := hk4.cellSome y0 (by simp)
 have p1 := hk4.cellSome y1 (by simp)
 have p2 := hk4.cellSome y2 (by simp)
 have p3 := hk4.cellSome y3 (by simp)
 rw [HG.out]
 clear hk4 z3 y0 y1 y2 y3
 go_wp2_with fail
 refine ⟨⟨q3, p0, p1, p2, p3⟩, ?_⟩
 iterate 4 (first | refine Plan.tA ?_ | refine Plan.tY ?_ | refine Plan.pN ?_ | refine Plan.pU ?_ | fail)
 refine Plan.fin ?_
 clear hS
 go_wp2_with fail
 go_ret
 exact ⟨rfl, K4.out⟩
end Go.Proofs.YtgjiahilbmeaeaaGreatDoor