/- A paper, new: blank values, no versions. -/
import Derived.Test.YtgjiahilbmeaeaaGreatDoorR21
set_option maxRecDepth 100000
set_option maxHeartbeats 8000000
set_option linter.unusedSimpArgs false
set_option linter.unusedVariables false
namespace Go.Proofs.YtgjiahilbmeaeaaGreatDoor
open Go Go.RowKit
theorem made1 (n : Nat) : madeCells #[.int .i64 0] n = (natC (List.replicate n 0)).toArray := by
 refine Array.ext' ?_
 rw [toList_madeCells_one]
 simp [natC]
theorem makeInts (n : Nat) (hn : n ≤ 1000) (w : World) : (Instr.makeSlice 66 (.int .i64 (n : Int)) (.int .i64 (n : Int))).run Tryz.prog w = .ok (.slice (some ⟨w.heap.size, 0, none⟩) n n) (w.alloc (.cells (natC (List.replicate n 0)).toArray 3)) := by
 rw [← made1]
 exact run_make_row' (P := Tryz.prog) 66 3 (.int .i64 0) 8 Tryz.underlying66 Tryz.infoIn8 rfl .i64 .i64 n (by omega) (by omega) w
def PaperNew (w : World) (n : Nat) (y : Ending) (w' : World) : Prop :=
 ∃ g k, y = .returned (stateV (.slice (some ⟨g, 0, none⟩) n n) (.slice (some ⟨k, 0, none⟩) n n) false) ∧ w.heap.size ≤ g ∧ w.heap.size ≤ k ∧ ValsAt w' g (List.replicate n val0) ∧ w'.heap[k]? = some (.cells (natC (List.replicate n 0)).toArray 3 (0, 0)) ∧ Keeps [] w w'
theorem newEnd_of {w W Wf : World} {n g k : Nat} (kS : Keeps [w.heap.size] W Wf) (hv : ValsAt W g (List.replicate n val0)) (hi : W.heap[k]? = some (.cells (natC (List.replicate n 0)).toArray 3 (0, 0))) (kW : Keeps [] w W) (hg : w.heap.size < g) (hk : w.heap.size < k) :
 PaperNew w n (.returned (stateV (.slice (some ⟨g, 0, none⟩) n n) (.slice (some ⟨k, 0, none⟩) n n) false)) Wf := by
 refine ⟨g, k, rfl, by omega, by omega, ?_, ?_, kW.trans kS (fun b hb hm => by simp at hm; omega)⟩
 ·exact (kS.block g (Array.getElem?_eq_some_iff.1 hv).1 (by simp; omega)).trans hv
 ·exact (kS.block k (Array.getElem?_eq_some_iff.1 hi).1 (by simp; omega)).trans hi
theorem vals_rep (n : Nat) : ((List.replicate n val0).map valC).flatten = (List.replicate n (valC val0)).flatten := by rw [List.map_replicate]
theorem ppNew_ok (w : World) (F : Nat → Prop) (sb : Nat) (d : SchD) (n : Nat) (h : ScAt w F sb d) (hn : d.l.length = n) (h1 : 1 ≤ n) (h2 : n ≤ 1000) :
 Calls Tryz.prog 57 #[ptrV sb] w (PaperNew w n) := by
 have HL := hid (fun wx (k : Keeps [] w wx) => scLen_ok wx F sb d (h.k k))
 rw [hn] at HL
 have hm1 := makeVals n h2
 have hm2 := makeInts n h2
 clear h hn
 unfold ptrV at HL ⊢
 go_enter Tryz.func57, Tryz.ntmps57
 go_wp2_with fail
 have hb0 : (w.alloc (.cells #[.slice none 0 0, .slice none 0 0, .bool false] 127)).heap[w.heap.size]? = some (.cells #[.slice none 0 0, .slice none 0 0, .bool false] 127 (0, 0)) := heap_alloc_new w _
 have k0 : Keeps [] w (w.alloc (.cells #[.slice none 0 0, .slice none 0 0, .bool false] 127)) := by exact Keeps.K
 obtain ⟨w0, hw0⟩ : ∃ w0, w.alloc (.cells #[.slice none 0 0, .slice none 0 0, .bool false] 127) = w0 := ⟨_, rfl⟩
 rw [hw0] at hb0 k0 ⊢
 have HB0 := hid hb0
 have K0 := hid k0
 clear hw0 hb0 k0
 refine Plan.wp_region_tree (fun _ => True) 8 (.take 0 (.take 3 (.step 1 (.fork 2 4 (.step 4 (.step 5 (.take 6 (.step 7 .fin)))) (.fork 2 5 (.step 5 (.take 6 (.step 7 .fin))) (.step 2 (.take 6 (.step 7 .fin)))))))) (by kernel_rfl) (by as_aux_lemma => kernel_rfl) (by kernel_rfl) (fun _ _ _ _ _ h => h) trivial (fun hS => ?_)
 simp only [Plan.pickT, List.append_eq, List.cons_append, List.nil_append, Plan.g1, Plan.g2, Option.getD_some, List.drop_succ_cons, List.drop_zero]
 iterate 2 (refine Plan.takeT (v := ?_) (a' := ?_) (Plan.want_all (by rfl)) ?_ ?_ ?_; rotate_left 2; (· (intro w' hS'; (try dsimp only at hS'); go_simp; try with_reducible rfl)); (· (simp only [Act.put, Plan.l1, Plan.l2, Plan.l3]; try with_reducible rfl)))
 refine Plan.stepT ?_
 go_wp2_with fail
 refine (HL.out _ (K0.out.trans (G := []) (by exact Keeps.K) (fun _ _ h => h))).mono ?_
 rintro _ w1 ⟨rfl, hk1⟩
 have K1 : Hid (Keeps [] w0 w1) := Keeps.trans (F := []) (G := []) (by exact Keeps.K) hk1 (fun _ _ h => h)
 clear hk1
 go_wp2_with fail
 refine ⟨trivial, ?_⟩
 refine Plan.forkT ?_ ?_
 ·go_wp2_with fail
  refine ⟨trivial, ?_⟩
  refine Plan.stepT ?_
  go_wp2_with fail
  refine (HL.out _ ((K0.out.trans K1.out (fun _ _ h => h)).trans (G := []) (by exact Keeps.K) (fun _ _ h => h))).mono ?_
  rintro _ w2 ⟨rfl, hk2⟩
  have K2 : Hid (Keeps [] w1 w2) := Keeps.trans (F := []) (G := []) (by exact Keeps.K) hk2 (fun _ _ h => h)
  have hv2 := (hk2.block w1.heap.size (by simp) (by simp)).trans (heap_alloc_new w1 (.cells ((List.replicate n (valC val0)).flatten).toArray 61))
  have HV2 := hid hv2
  have hzz : w1.heap.size < w2.heap.size := (Array.getElem?_eq_some_iff.1 hv2).1
  clear hk2 hv2
  go_wp2_with fail
  refine ⟨trivial, ?_⟩
  refine Plan.stepT ?_
  go_wp2_with fail
  have HGV : Hid (ValsAt (w2.alloc (.cells (natC (List.replicate n 0)).toArray 3)) w1.heap.size (List.replicate n val0)) := by
   show _ = _
   rw [vals_rep]
   exact alloc_old HV2.out
  have HKV : Hid ((w2.alloc (.cells (natC (List.replicate n 0)).toArray 3)).heap[w2.heap.size]? = some (.cells (natC (List.replicate n 0)).toArray 3 (0, 0))) := heap_alloc_new w2 _
  have KW0 : Hid (Keeps [] w0 (w2.alloc (.cells (natC (List.replicate n 0)).toArray 3))) := (K1.out.trans K2.out (fun _ _ h => h)).alloc _
  have KW : Hid (Keeps [] w (w2.alloc (.cells (natC (List.replicate n 0)).toArray 3))) := K0.out.trans KW0.out (fun _ _ h => h)
  have HBR := hid ((KW0.out.block w.heap.size (Array.getElem?_eq_some_iff.1 HB0.out).1 (by simp)).trans HB0.out)
  have hz0 : w.heap.size < w0.heap.size := (Array.getElem?_eq_some_iff.1 HB0.out).1
  have HGE : Hid (w.heap.size < w1.heap.size) := by have := K1.out.size; have := K2.out.size; show _ < _; omega
  have HKE : Hid (w.heap.size < w2.heap.size) := by have := K1.out.size; have := K2.out.size; show _ < _; omega
  refine ⟨trivial, ?_⟩
  iterate 1 (refine Plan.takeT (v := ?_) (a' := ?_) (Plan.want_all (by rfl)) ?_ ?_ ?_; rotate_left 2; (· (intro w' hS'; (try dsimp only at hS'); go_simp; try with_reducible rfl)); (· (simp only [Act.put, Plan.l1, Plan.l2, Plan.l3]; try with_reducible rfl)))
  refine Plan.stepT ?_
  obtain ⟨⟨u0, u1, u2⟩, f⟩ := blk3 HBR.out
  have f0 := f 0
  have f1 := f 1
  have f2 := f 2
  clear f
  go_wp2_with fail
  refine ⟨trivial, ?_⟩
  refine Plan.finT ?_
  clear hS
  go_wp2_with fail
  have h5 := heap_setCell_same _ w.heap.size 2 _ _ (.bool false) (heap_setCell_same _ w.heap.size 1 _ _ (.slice (some ⟨w2.heap.size, 0, none⟩) n n) (heap_setCell_same _ w.heap.size 0 _ _ (.slice (some ⟨w1.heap.size, 0, none⟩) n n) HBR.out))
  simp only [List.setIfInBounds_toArray, List.set_cons_zero, List.set_cons_succ] at h5
  exact bodyPost_ret (results_cell_row rfl _ _ w.heap.size 127 _ (0, 0) _ rfl h5 Tryz.underlying127 rfl (by kernel_rfl)) rfl (newEnd_of ((((Keeps.refl _ _).setCell (.inl (by simp)) _).setCell (.inl (by simp)) _).setCell (.inl (by simp)) _) HGV.out HKV.out KW.out HGE.out HKE.out)
 ·go_wp2_with fail
  refine (HL.out _ (K0.out.trans K1.out (fun _ _ h => h))).mono ?_
  rintro _ w2 ⟨rfl, hk2⟩
  have K2 := hid hk2
  clear hk2
  go_wp2_with fail
  refine ⟨trivial, ?_⟩
  refine Plan.forkT ?_ ?_
  ·go_wp2_with fail
   refine ⟨trivial, ?_⟩
   refine Plan.stepT ?_
   go_wp2_with fail
   have HGV : Hid (ValsAt ((w2.alloc (.cells ((List.replicate n (valC val0)).flatten).toArray 61)).alloc (.cells (natC (List.replicate n 0)).toArray 3)) w2.heap.size (List.replicate n val0)) := by
    show _ = _
    rw [vals_rep]
    exact alloc_old (heap_alloc_new w2 _)
   have HKV : Hid (((w2.alloc (.cells ((List.replicate n (valC val0)).flatten).toArray 61)).alloc (.cells (natC (List.replicate n 0)).toArray 3)).heap[(w2.heap.size + 1)]? = some (.cells (natC (List.replicate n 0)).toArray 3 (0, 0))) := new2K w2 _ _
   have KW0 : Hid (Keeps [] w0 ((w2.alloc (.cells ((List.replicate n (valC val0)).flatten).toArray 61)).alloc (.cells (natC (List.replicate n 0)).toArray 3))) := ((K1.out.trans K2.out (fun _ _ h => h)).alloc _).alloc _
   have KW : Hid (Keeps [] w ((w2.alloc (.cells ((List.replicate n (valC val0)).flatten).toArray 61)).alloc (.cells (natC (List.replicate n 0)).toArray 3))) := K0.out.trans KW0.out (fun _ _ h => h)
   have HBR := hid ((KW0.out.block w.heap.size (Array.getElem?_eq_some_iff.1 HB0.out).1 (by simp)).trans HB0.out)
   have hz0 : w.heap.size < w0.heap.size := (Array.getElem?_eq_some_iff.1 HB0.out).1
   have HGE : Hid (w.heap.size < w2.heap.size) := by have := K1.out.size; have := K2.out.size; show _ < _; omega
   have HKE : Hid (w.heap.size < (w2.heap.size + 1)) := by have := K1.out.size; have := K2.out.size; show _ < _; omega
   refine ⟨trivial, ?_⟩
   iterate 1 (refine Plan.takeT (v := ?_) (a' := ?_) (Plan.want_all (by rfl)) ?_ ?_ ?_; rotate_left 2; (· (intro w' hS'; (try dsimp only at hS'); go_simp; try with_reducible rfl)); (· (simp only [Act.put, Plan.l1, Plan.l2, Plan.l3]; try with_reducible rfl)))
   refine Plan.stepT ?_
   obtain ⟨⟨u0, u1, u2⟩, f⟩ := blk3 HBR.out
   have f0 := f 0
   have f1 := f 1
   have f2 := f 2
   clear f
   go_wp2_with fail
   refine ⟨trivial, ?_⟩
   refine Plan.finT ?_
   clear hS
   go_wp2_with fail
   have h5 := heap_setCell_same _ w.heap.size 2 _ _ (.bool false) (heap_setCell_same _ w.heap.size 1 _ _ (.slice (some ⟨w2.heap.size + 1, 0, none⟩) n n) (heap_setCell_same _ w.heap.size 0 _ _ (.slice (some ⟨w2.heap.size, 0, none⟩) n n) HBR.out))
   simp only [List.setIfInBounds_toArray, List.set_cons_zero, List.set_cons_succ] at h5
   exact bodyPost_ret (results_cell_row rfl _ _ w.heap.size 127 _ (0, 0) _ rfl h5 Tryz.underlying127 rfl (by kernel_rfl)) rfl (newEnd_of ((((Keeps.refl _ _).setCell (.inl (by simp)) _).setCell (.inl (by simp)) _).setCell (.inl (by simp)) _) HGV.out HKV.out KW.out HGE.out HKE.out)
  ·go_wp2_with fail
   refine ⟨trivial, ?_⟩
   refine Plan.stepT ?_
   go_wp2_with fail
   have HGV : Hid (ValsAt ((w2.alloc (.cells (natC (List.replicate n 0)).toArray 3)).alloc (.cells ((List.replicate n (valC val0)).flatten).toArray 61)) (w2.heap.size + 1) (List.replicate n val0)) := by
    show _ = _
    rw [vals_rep]
    exact new2K w2 _ _
   have HKV : Hid (((w2.alloc (.cells (natC (List.replicate n 0)).toArray 3)).alloc (.cells ((List.replicate n (valC val0)).flatten).toArray 61)).heap[w2.heap.size]? = some (.cells (natC (List.replicate n 0)).toArray 3 (0, 0))) := alloc_old (heap_alloc_new w2 _)
   have KW0 : Hid (Keeps [] w0 ((w2.alloc (.cells (natC (List.replicate n 0)).toArray 3)).alloc (.cells ((List.replicate n (valC val0)).flatten).toArray 61))) := ((K1.out.trans K2.out (fun _ _ h => h)).alloc _).alloc _
   have KW : Hid (Keeps [] w ((w2.alloc (.cells (natC (List.replicate n 0)).toArray 3)).alloc (.cells ((List.replicate n (valC val0)).flatten).toArray 61))) := K0.out.trans KW0.out (fun _ _ h => h)
   have HBR := hid ((KW0.out.block w.heap.size (Array.getElem?_eq_some_iff.1 HB0.out).1 (by simp)).trans HB0.out)
   have hz0 : w.heap.size < w0.heap.size := (Array.getElem?_eq_some_iff.1 HB0.out).1
   have HGE : Hid (w.heap.size < (w2.heap.size + 1)) := by have := K1.out.size; have := K2.out.size; show _ < _; omega
   have HKE : Hid (w.heap.size < w2.heap.size) := by have := K1.out.size; have := K2.out.size; show _ < _; omega
   refine ⟨trivial, ?_⟩
   iterate 1 (refine Plan.takeT (v := ?_) (a' := ?_) (Plan.want_all (by rfl)) ?_ ?_ ?_; rotate_left 2; (· (intro w' hS'; (try dsimp only at hS'); go_simp; try with_reducible rfl)); (· (simp only [Act.put, Plan.l1, Plan.l2, Plan.l3]; try with_reducible rfl)))
   refine Plan.stepT ?_
   obtain ⟨⟨u0, u1, u2⟩, f⟩ := blk3 HBR.out
   have f0 := f 0
   have f1 := f 1
   have f2 := f 2
   clear f
   go_wp2_with fail
   refine ⟨trivial, ?_⟩
   refine Plan.finT ?_
   clear hS
   go_wp2_with fail
   have h5 := heap_setCell_same _ w.heap.size 2 _ _ (.bool false) (heap_setCell_same _ w.heap.size 1 _ _ (.slice (some ⟨w2.heap.size, 0, none⟩) n n) (heap_setCell_same _ w.heap.size 0 _ _ (.slice (some ⟨w2.heap.size + 1, 0, none⟩) n n) HBR.out))
   simp only [List.setIfInBounds_toArray, List.set_cons_zero, List.set_cons_succ] at h5
   exact bodyPost_ret (results_cell_row rfl _ _ w.heap.size 127 _ (0, 0) _ rfl h5 Tryz.underlying127 rfl (by kernel_rfl)) rfl (newEnd_of ((((Keeps.refl _ _).setCell (.inl (by simp)) _).setCell (.inl (by simp)) _).setCell (.inl (by simp)) _) HGV.out HKV.out KW.out HGE.out HKE.out)
end Go.Proofs.YtgjiahilbmeaeaaGreatDoor