/- Joined of PpG, EnA, MaA. -/
import Derived.Test.YtgjiahilbmeaeaaGreatDoorPpF
import Derived.Test.YtgjiahilbmeaeaaGreatDoorR11
set_option maxRecDepth 100000
set_option maxHeartbeats 8000000
set_option linter.unusedSimpArgs false
set_option linter.unusedVariables false
/- A paper that is new may be. -/
namespace Go.Proofs.YtgjiahilbmeaeaaGreatDoor
open Go Go.RowKit
theorem fits_blank (t : Int) : fitsD val0 t = true := by
 unfold fitsD
 rw [check_val0]
 rfl
theorem vals_cell0 {w : World} {g n i : Nat} (h : ValsAt w g (List.replicate n val0)) (hi : i < n) (h2 : n ≤ 1000) : w.cell? ⟨g, i * 3, none⟩ = some (.int .i64 0) ∧ w.cell? ⟨g, i * 3 + 1, none⟩ = some (.int .i64 0) ∧ w.cell? ⟨g, i * 3 + 2, none⟩ = some (.string ⟨#[]⟩) := by
 have hx : (List.replicate n val0)[i]? = some val0 := by rw [List.getElem?_replicate, if_pos hi]
 have hl := ListAt.get (L := valL) (h.list (by simp) (by omega) (n := n) h2) hx
 obtain ⟨cs, hcs, hcell⟩ := hl
 have hcs : cs = valC val0 := hcs
 subst hcs
 exact ⟨by simpa [valL, val0] using hcell 0 _ rfl, by simpa [valL, val0] using hcell 1 _ rfl, by simpa [valL, val0] using hcell 2 _ rfl⟩
theorem ppCheck_ok (w : World) (F : Nat → Prop) (sb : Nat) (d : SchD) (n g k : Nat) (hT : Tabs w) (h : ScAt w F sb d) (hn : d.l.length = n) (h1 : 1 ≤ n) (h2 : n ≤ 1000) (hv : ValsAt w g (List.replicate n val0)) (hi : w.heap[k]? = some (.cells (natC (List.replicate n 0)).toArray 3 (0, 0))) :
 Calls Tryz.prog 127 #[ptrV sb, stateV (.slice (some ⟨g, 0, none⟩) n n) (.slice (some ⟨k, 0, none⟩) n n) false] w fun y w' => y = .returned (.bool true) ∧ Keeps [] w w' := by
 have HL := hid (fun wx (k : Keeps [] w wx) => scLen_ok wx F sb d (h.k k))
 rw [hn] at HL
 have HF := hid (fun wx (k : Keeps [] w wx) i x (hx : d.l[i]? = some x) => scField_ok wx F sb i d x (h.k k) hx (by omega))
 have HI := hid (fun wx (k : Keeps [] w wx) i x (hx : d.l[i]? = some x) => scInput_ok wx F sb i d x (h.k k) hx (by omega))
 have HFT : Hid (∀ wx, Keeps [] w wx → ∀ t, Calls Tryz.prog 177 #[.agg #[.int .i64 0, .int .i64 0, .string ⟨#[]⟩], .int .i64 t] wx fun e w' => e = .returned (.bool true) ∧ Keeps [] wx w') := (fun wx (k : Keeps [] w wx) t => (by have := vFits_any val0 t wx (hT.k k) (by decide); rw [fits_blank] at this; exact this))
 have HV := hid hv
 have HK := hid hi
 have HN := hid hn
 have n0 : (0 : Int) ≤ (n : Int) := Int.natCast_nonneg _
 clear h hn hT hv hi
 unfold ptrV at HL HF HI ⊢
 unfold stateV
 go_enter Tryz.func127, Tryz.ntmps127
 go_wp2_with fail
 have HB0 : Hid ((w.alloc (.cells #[.slice (some ⟨g, 0, none⟩) n n, .slice (some ⟨k, 0, none⟩) n n, .bool false] 127)).heap[w.heap.size]? = some (.cells #[.slice (some ⟨g, 0, none⟩) n n, .slice (some ⟨k, 0, none⟩) n n, .bool false] 127 (0, 0))) := heap_alloc_new w _
 have K0 : Hid (Keeps [] w (w.alloc (.cells #[.slice (some ⟨g, 0, none⟩) n n, .slice (some ⟨k, 0, none⟩) n n, .bool false] 127))) := by show Keeps _ _ _; exact Keeps.K
 obtain ⟨w0, hw0⟩ : ∃ w0, w.alloc (.cells #[.slice (some ⟨g, 0, none⟩) n n, .slice (some ⟨k, 0, none⟩) n n, .bool false] 127) = w0 := ⟨_, rfl⟩
 rw [hw0] at HB0 K0 ⊢
 clear hw0
 obtain ⟨⟨x0, x1, x2⟩, _⟩ := blk3 HB0.out
 refine Plan.wp_region_plan (fun wx => wx.cell? ⟨w.heap.size, 0, none⟩ = some (.slice (some ⟨g, 0, none⟩) n n) ∧ wx.cell? ⟨w.heap.size, 1, none⟩ = some (.slice (some ⟨k, 0, none⟩) n n)) 14 [(true, 0), (true, 1), (true, 2), (true, 3), (false, 4), (true, 5), (true, 6), (true, 7), (true, 8), (true, 9), (true, 10), (false, 11), (true, 12), (true, 13)] (by kernel_rfl) (by as_aux_lemma => kernel_rfl) (by kernel_rfl) (fun _ _ _ _ _ h => h) ?_ (fun hS => ?_)
 ·exact ⟨x0, x1⟩
 simp only [Plan.pick, List.append_eq, List.cons_append, List.nil_append, Plan.g1, Plan.g2, Option.getD_some, List.drop_succ_cons, List.drop_zero]
 iterate 4 (first | refine Plan.tA ?_ | refine Plan.tY ?_ | refine Plan.pN ?_ | refine Plan.pU ?_ | fail)
 refine Plan.step ?_
 go_wp2_with fail
 refine (HL.out _ (K0.out.trans (G := []) (by exact Keeps.K) (fun _ _ h => h))).mono ?_
 rintro _ w1 ⟨rfl, hk1⟩
 have K1 : Hid (Keeps [] w0 w1) := Keeps.trans (F := []) (G := []) (by exact Keeps.K) hk1 (fun _ _ h => h)
 have HB1 := hid ((K1.out.block w.heap.size (Array.getElem?_eq_some_iff.1 HB0.out).1 (by simp)).trans HB0.out)
 obtain ⟨⟨y0, y1, y2⟩, _⟩ := blk3 HB1.out
 clear hk1 x0 x1 x2
 go_wp2_with fail
 refine ⟨⟨y0, y1⟩, ?_⟩
 iterate 6 (first | refine Plan.tA ?_ | refine Plan.tY ?_ | refine Plan.pN ?_ | refine Plan.pU ?_ | fail)
 refine Plan.step ?_
 go_wp2_with fail
 refine (HL.out _ ((K0.out.trans K1.out (fun _ _ h => h)).trans (G := []) (by exact Keeps.K) (fun _ _ h => h))).mono ?_
 rintro _ w2 ⟨rfl, hk2⟩
 have K2 : Hid (Keeps [] w0 w2) := (K1.out.trans (G := []) (by exact Keeps.K) (fun _ _ h => h)).trans hk2 (fun _ _ h => h)
 have HB2 := hid ((K2.out.block w.heap.size (Array.getElem?_eq_some_iff.1 HB0.out).1 (by simp)).trans HB0.out)
 obtain ⟨⟨z0, z1, z2⟩, _⟩ := blk3 HB2.out
 clear hk2 y0 y1 y2
 go_wp2_with fail
 refine ⟨⟨z0, z1⟩, ?_⟩
 iterate 2 (first | refine Plan.tA ?_ | refine Plan.tY ?_ | refine Plan.pN ?_ | refine Plan.pU ?_ | fail)
 refine Plan.fin ?_
 clear hS
 go_wp2_with fail
 refine (HL.out _ ((K0.out.trans K2.out (fun _ _ h => h)).trans (G := []) (by exact Keeps.K) (fun _ _ h => h))).mono ?_
 rintro _ w3 ⟨rfl, hk3⟩
 have K3 : Hid (Keeps [] w0 w3) := (K2.out.trans (G := []) (by exact Keeps.K) (fun _ _ h => h)).trans hk3 (fun _ _ h => h)
 clear hk3 z0 z1 z2
 go_wp2_with fail
 go_loopw [26] (fun iv wr => ∃ i : Nat, iv = .int .i64 (i : Int) ∧ i ≤ n ∧ Hid (Keeps [] w0 wr)) (fun iv _ => n - (intOf iv).toNat)
 case atStart => exact ⟨0, rfl, Nat.zero_le _, K3.out.trans (G := []) (by exact Keeps.K) (fun _ _ h => h)⟩
 case round =>
  obtain ⟨i, rfl, hi, hW⟩ := hrel
  have HW := hid hW.out
  clear hW
  have i0 : (0 : Int) ≤ (i : Int) := Int.natCast_nonneg _
  by_cases hlt : i < n
  ·have i1 : (i : Int) < (n : Int) := by omega
   have HLT := hid hlt
   obtain ⟨x, hx⟩ : ∃ x, d.l[i]? = some x := ⟨_, List.getElem?_eq_getElem (by rw [HN.out]; exact hlt)⟩
   have HX := hid hx
   clear hx hlt
   go_wp2_with fail
   refine (HF.out _ ((K0.out.trans HW.out (fun _ _ h => h)).trans (G := []) (by exact Keeps.K) (fun _ _ h => h)) i x HX.out).mono ?_
   rintro _ w4 ⟨rfl, hk4⟩
   have K4 : Hid (Keeps [] w0 w4) := (HW.out.trans (G := []) (by exact Keeps.K) (fun _ _ h => h)).trans hk4 (fun _ _ h => h)
   clear hk4
   unfold fldC
   go_wp2_with fail
   have KW : Hid (Keeps [] w0 (w4.alloc (.cells #[.string (str x.f.name), .int .i64 x.f.typ, .string (str x.f.formula), .string (str x.f.rule), .string (str x.f.shown)] 71))) := K4.out.alloc _
   have HFB : Hid ((w4.alloc (.cells #[.string (str x.f.name), .int .i64 x.f.typ, .string (str x.f.formula), .string (str x.f.rule), .string (str x.f.shown)] 71)).heap[w4.heap.size]? = some (.cells #[.string (str x.f.name), .int .i64 x.f.typ, .string (str x.f.formula), .string (str x.f.rule), .string (str x.f.shown)] 71 (0, 0))) := heap_alloc_new w4 _
   have hb5 := (KW.out.block w.heap.size (Array.getElem?_eq_some_iff.1 HB0.out).1 (by simp)).trans HB0.out
   obtain ⟨⟨x0, x1, x2⟩, _⟩ := blk3 hb5
   obtain ⟨v0, v1, v2⟩ := vals_cell0 ((HV.out.k K0.out).k KW.out) HLT.out h2
   have v3 : (w4.alloc (.cells #[.string (str x.f.name), .int .i64 x.f.typ, .string (str x.f.formula), .string (str x.f.rule), .string (str x.f.shown)] 71)).cell? ⟨k, i, none⟩ = some (.int .i64 0) := (K0.out.trans KW.out (fun _ _ h => h)).cellSome (by
    rw [cell_of_row w k i _ _ (0, 0) HK.out]
    simp [natC, HLT.out]) (by simp)
   obtain ⟨w5, hw5⟩ : ∃ w5, w4.alloc (.cells #[.string (str x.f.name), .int .i64 x.f.typ, .string (str x.f.formula), .string (str x.f.rule), .string (str x.f.shown)] 71) = w5 := ⟨_, rfl⟩
   rw [hw5] at KW HFB x0 x1 x2 v0 v1 v2 v3 ⊢
   clear hw5 hb5
   refine Plan.wp_region_plan (fun wx => wx.cell? ⟨w.heap.size, 0, none⟩ = some (.slice (some ⟨g, 0, none⟩) n n) ∧ wx.cell? ⟨w.heap.size, 1, none⟩ = some (.slice (some ⟨k, 0, none⟩) n n) ∧ wx.cell? ⟨g, i * 3, none⟩ = some (.int .i64 0) ∧ wx.cell? ⟨g, i * 3 + 1, none⟩ = some (.int .i64 0) ∧ wx.cell? ⟨g, i * 3 + 2, none⟩ = some (.string ⟨#[]⟩) ∧ wx.cell? ⟨k, i, none⟩ = some (.int .i64 0)) 12 [(true, 0), (true, 1), (true, 2), (true, 3), (true, 4), (true, 5), (true, 6), (true, 7), (true, 8), (true, 9), (false, 10), (false, 11)] (by kernel_rfl) (by as_aux_lemma => kernel_rfl) (by kernel_rfl) (fun _ _ _ _ _ h => h) ?_ (fun hS => ?_)
   ·exact ⟨x0, x1, v0, v1, v2, v3⟩
   simp only [Plan.pick, List.append_eq, List.cons_append, List.nil_append, Plan.g1, Plan.g2, Option.getD_some, List.drop_succ_cons, List.drop_zero]
   iterate 10 (first | refine Plan.tA ?_ | refine Plan.tY ?_ | refine Plan.pN ?_ | refine Plan.pU ?_ | fail)
   refine Plan.step ?_
   go_wp2_with fail
   have KV : Hid (Keeps [] w5 (w5.alloc (.cells #[.int .i64 0, .int .i64 0, .string ⟨#[]⟩] 61))) := by show Keeps _ _ _; exact Keeps.K
   refine ⟨⟨KV.out.cellSome x0 (by simp), KV.out.cellSome x1 (by simp), KV.out.cellSome v0 (by simp), KV.out.cellSome v1 (by simp), KV.out.cellSome v2 (by simp), KV.out.cellSome v3 (by simp)⟩, ?_⟩
   refine Plan.step ?_
   go_wp2_with fail
   refine ⟨⟨KV.out.cellSome x0 (by simp), KV.out.cellSome x1 (by simp), KV.out.cellSome v0 (by simp), KV.out.cellSome v1 (by simp), KV.out.cellSome v2 (by simp), KV.out.cellSome v3 (by simp)⟩, ?_⟩
   refine Plan.fin ?_
   clear hS
   have HVB : Hid ((w5.alloc (.cells #[.int .i64 0, .int .i64 0, .string ⟨#[]⟩] 61)).heap[w5.heap.size]? = some (.cells #[.int .i64 0, .int .i64 0, .string ⟨#[]⟩] 61 (0, 0))) := heap_alloc_new w5 _
   have HFB6 : Hid ((w5.alloc (.cells #[.int .i64 0, .int .i64 0, .string ⟨#[]⟩] 61)).heap[w4.heap.size]? = some (.cells #[.string (str x.f.name), .int .i64 x.f.typ, .string (str x.f.formula), .string (str x.f.rule), .string (str x.f.shown)] 71 (0, 0)) ) := alloc_old HFB.out
   obtain ⟨-, q1, -, -, -⟩ := fcells HFB6.out
   clear x0 x1 x2 v0 v1 v2 v3
   go_wp2_with fail
   refine (HFT.out _ ((K0.out.trans (KW.out.trans KV.out (fun _ _ h => h)) (fun _ _ h => h)).trans (G := []) (by exact Keeps.K) (fun _ _ h => h)) x.f.typ).mono ?_
   rintro _ w6 ⟨rfl, hk6⟩
   have K6 : Hid (Keeps [] (w5.alloc (.cells #[.int .i64 0, .int .i64 0, .string ⟨#[]⟩] 61)) w6) := Keeps.trans (F := []) (G := []) (by exact Keeps.K) hk6 (fun _ _ h => h)
   clear hk6 q1
   go_wp2_with fail
   refine (HI.out _ ((K0.out.trans (KW.out.trans (KV.out.trans K6.out (fun _ _ h => h)) (fun _ _ h => h)) (fun _ _ h => h)).trans (G := []) (by exact Keeps.K) (fun _ _ h => h)) i x HX.out).mono ?_
   rintro _ w7 ⟨rfl, hk7⟩
   have K7 : Hid (Keeps [] (w5.alloc (.cells #[.int .i64 0, .int .i64 0, .string ⟨#[]⟩] 61)) w7) := (K6.out.trans (G := []) (by exact Keeps.K) (fun _ _ h => h)).trans hk7 (fun _ _ h => h)
   have hb7 := (K7.out.block w5.heap.size (by simp) (by simp)).trans HVB.out
   obtain ⟨⟨q0, _, _⟩, _⟩ := blk3 hb7
   have HLT2 := HLT.out
   have KF : Hid (Keeps [] w0 w7) := KW.out.trans (KV.out.trans K7.out (fun _ _ h => h)) (fun _ _ h => h)
   clear hk7 hb7
   rcases hf : x.formula.isNone with _ | _
   ·clear hf
    go_wp2_with fail
    exact ⟨⟨i + 1, rfl, by omega, KF.out.trans (G := []) (by exact Keeps.K) (fun _ _ h => h)⟩, by simp [intOf]; omega⟩
   ·clear hf
    go_wp2_with fail
    exact ⟨⟨i + 1, rfl, by omega, KF.out.trans (G := []) (by exact Keeps.K) (fun _ _ h => h)⟩, by simp [intOf]; omega⟩
  ·obtain rfl : i = n := by omega
   go_wp2_with fail
   go_ret
   exact ⟨rfl, (K0.out.trans HW.out (fun _ _ h => h)).trans (G := []) (by exact Keeps.K) (fun _ _ h => h)⟩
theorem enNew_ok (w : World) (F : Nat → Prop) (sb : Nat) (d : SchD) (n g k : Nat) (fin : List ValD) (hT : Tabs w) (hE : Errs w) (h : ScAt w F sb d) (hn : d.l.length = n) (h1 : 1 ≤ n) (h2 : n ≤ 1000) (ho : d.order.length ≤ 1000) (hv : ValsAt w g (List.replicate n val0)) (hi : w.heap[k]? = some (.cells (natC (List.replicate n 0)).toArray 3 (0, 0)))
 (hq : workQ d.l (d.l.map fun x => str x.f.name) d.order (List.replicate n val0) = some fin) :
 Calls Tryz.prog 56 #[ptrV sb, stateV (.slice (some ⟨g, 0, none⟩) n n) (.slice (some ⟨k, 0, none⟩) n n) false] w fun y w' => ∃ b, y = .returned (.tuple #[ptrV b, .int .i64 0]) ∧ w.heap.size ≤ b ∧ Keeps [] w w' := by
 have hki : ∀ wx, Keeps [] w wx → wx.heap[k]? = some (.cells (natC (List.replicate n 0)).toArray 3 (0, 0)) := fun wx kx => (kx.block k (Array.getElem?_eq_some_iff.1 hi).1 (by simp)).trans hi
 have hrd : ∀ wx, Keeps [] w wx → Reads wx 1 (.slice (some ⟨k, 0, none⟩) n n) n (natC (List.replicate n 0)) := fun wx kx => Reads.ofBlock (n := n) (size := 1) (hki wx kx) (by simp [natC]) (le_maxLen (by omega))
 have HC := hid (fun wx (kx : Keeps [] w wx) => ppCheck_ok wx F sb d n g k (hT.k kx) (h.k kx) hn h1 h2 (hv.k kx) (hki wx kx))
 have HO := hid (fun wx (kx : Keeps [] w wx) => (ppOwn_ok wx _ _ _ n n n n (List.replicate n val0) (List.replicate n 0) false (by simp) (by simp) ((hv.k kx).list (by simp) h1 h2) (hrd wx kx) h2 h2).mono (fun y w' hh => (by
  obtain ⟨a', c', b', q', e, _, _, kk⟩ := hh
  exact ⟨a', c', b', q', e, kk⟩ : ∃ a' c' b' q', y = .returned (stateV (.slice a' n c') (.slice b' n q') false) ∧ Keeps [] wx w')))
 have HV := hid (fun wx (kx : Keeps [] w wx) => (ppValues_ok wx F sb d (some ⟨g, 0, none⟩) (some ⟨k, 0, none⟩) n n n n (List.replicate n val0) fin (hT.k kx) (hE.k kx) (h.k kx) hn (by simp) ((hv.k kx).list (by simp) h1 h2) (fun v hv => by rw [(List.mem_replicate.1 hv).2]; exact ⟨check_val0, by decide⟩) h1 h2 ho hq).mono (fun y w' hh => (by
  obtain ⟨gv, e, _, _, kk⟩ := hh
  exact ⟨gv, e, kk⟩ : ∃ gv, y = .returned (.slice (some ⟨gv, 0, none⟩) n n) ∧ Keeps [] wx w')))
 have hmm := @run_makeMap Tryz.prog
 clear hT hE h hn h1 h2 ho hv hi hq hki hrd
 unfold ptrV at HC HV ⊢
 unfold stateV at HC HO ⊢
 go_enter Tryz.func56, Tryz.ntmps56
 go_wp2_with fail
 have HB0 : Hid ((w.alloc (.cells #[.slice (some ⟨g, 0, none⟩) n n, .slice (some ⟨k, 0, none⟩) n n, .bool false] 127)).heap[w.heap.size]? = some (.cells #[.slice (some ⟨g, 0, none⟩) n n, .slice (some ⟨k, 0, none⟩) n n, .bool false] 127 (0, 0))) := heap_alloc_new w _
 have K0 : Hid (Keeps [] w (w.alloc (.cells #[.slice (some ⟨g, 0, none⟩) n n, .slice (some ⟨k, 0, none⟩) n n, .bool false] 127))) := by show Keeps _ _ _; exact Keeps.K
 obtain ⟨w0, hw0⟩ : ∃ w0, w.alloc (.cells #[.slice (some ⟨g, 0, none⟩) n n, .slice (some ⟨k, 0, none⟩) n n, .bool false] 127) = w0 := ⟨_, rfl⟩
 rw [hw0] at HB0 K0 ⊢
 clear hw0
 obtain ⟨⟨y0, y1, y2⟩, _⟩ := blk3 HB0.out
 go_wp2_with fail
 refine (HC.out _ K0.out).mono ?_
 rintro _ w1 ⟨rfl, hk1⟩
 have K1 : Hid (Keeps [] w w1) := K0.out.trans hk1 (fun _ _ h => h)
 have HB1 := hid ((hk1.block w.heap.size (Array.getElem?_eq_some_iff.1 HB0.out).1 (by simp)).trans HB0.out)
 clear hk1 y0 y1 y2
 obtain ⟨⟨x0, x1, x2⟩, _⟩ := blk3 HB1.out
 go_wp2_with fail
 refine Plan.wp_region_tree (fun wx => wx.cell? ⟨w.heap.size, 0, none⟩ = some (.slice (some ⟨g, 0, none⟩) n n) ∧ wx.cell? ⟨w.heap.size, 1, none⟩ = some (.slice (some ⟨k, 0, none⟩) n n) ∧ wx.cell? ⟨w.heap.size, 2, none⟩ = some (.bool false)) 11 (.take 0 (.take 1 (.take 3 (.take 4 (.fork 2 6 (.fork 5 6 (.step 6 (.take 7 (.step 8 (.take 9 (.take 10 .fin))))) (.step 5 (.take 7 (.step 8 (.take 9 (.take 10 .fin)))))) (.step 2 (.step 5 (.take 7 (.step 8 (.take 9 (.take 10 .fin))))))))))) (by kernel_rfl) (by as_aux_lemma => kernel_rfl) (by kernel_rfl) (fun _ _ _ _ _ h => h) ⟨x0, x1, x2⟩ (fun hS => ?_)
 simp only [Plan.pickT, List.append_eq, List.cons_append, List.nil_append, Plan.g1, Plan.g2, Option.getD_some, List.drop_succ_cons, List.drop_zero]
 iterate 4 (refine Plan.takeT (v := ?_) (a' := ?_) (Plan.want_all (by rfl)) ?_ ?_ ?_; rotate_left 2; (· (intro w' hS'; (try dsimp only at hS'); go_simp; try with_reducible rfl)); (· (simp only [Act.put, Plan.l1, Plan.l2, Plan.l3]; try with_reducible rfl)))
 refine Plan.forkT ?_ ?_
 ·go_wp2_with fail
  refine (HO.out _ (K1.out.trans (G := []) (by exact Keeps.K) (fun _ _ h => h))).mono ?_
  rintro _ w2 ⟨b1, e1, b2, e2, rfl, hk2⟩
  have K2 : Hid (Keeps [] w1 w2) := Keeps.trans (F := []) (G := []) (by exact Keeps.K) hk2 (fun _ _ h => h)
  clear hk2
  go_wp2_with fail
  refine ⟨⟨K2.out.cellSome x0 (by simp), K2.out.cellSome x1 (by simp), K2.out.cellSome x2 (by simp)⟩, ?_⟩
  refine Plan.forkT ?_ ?_
  ·go_wp2_with fail
   refine (HV.out _ (K1.out.trans K2.out (fun _ _ h => h))).mono ?_
   rintro _ w3 ⟨gv, rfl, hk3⟩
   have K3 : Hid (Keeps [] w1 w3) := K2.out.trans hk3 (fun _ _ h => h)
   clear hk3
   go_wp2_with fail
   refine ⟨⟨K3.out.cellSome x0 (by simp), K3.out.cellSome x1 (by simp), K3.out.cellSome x2 (by simp)⟩, ?_⟩
   refine Plan.stepT ?_
   go_wp2_with fail
   have KM : Hid (Keeps [] w1 (w3.alloc (.map #[] 0))) := K3.out.alloc _
   refine ⟨⟨KM.out.cellSome x0 (by simp), KM.out.cellSome x1 (by simp), KM.out.cellSome x2 (by simp)⟩, ?_⟩
   iterate 1 (refine Plan.takeT (v := ?_) (a' := ?_) (Plan.want_all (by rfl)) ?_ ?_ ?_; rotate_left 2; (· (intro w' hS'; (try dsimp only at hS'); go_simp; try with_reducible rfl)); (· (simp only [Act.put, Plan.l1, Plan.l2, Plan.l3]; try with_reducible rfl)))
   refine Plan.stepT ?_
   go_wp2_with fail
   refine ⟨⟨(KM.out.alloc _).cellSome x0 (by simp), (KM.out.alloc _).cellSome x1 (by simp), (KM.out.alloc _).cellSome x2 (by simp)⟩, ?_⟩
   iterate 2 (refine Plan.takeT (v := ?_) (a' := ?_) (Plan.want_all (by rfl)) ?_ ?_ ?_; rotate_left 2; (· (intro w' hS'; (try dsimp only at hS'); go_simp; try with_reducible rfl)); (· (simp only [Act.put, Plan.l1, Plan.l2, Plan.l3]; try with_reducible rfl)))
   refine Plan.finT ?_
   clear hS
   go_wp2_with fail
   go_ret2
   exact ⟨_, rfl, (by first | exact Nat.le_trans K1.out.size KM.out.size | (have h8 := K1.out.size; have h9 := KM.out.size; simp at h9; omega)), K1.out.trans (KM.out.alloc _) (fun _ _ h => h)⟩
  ·go_wp2_with fail
   have KX : Hid (Keeps [] w1 (w2.alloc (.map #[] 0))) := K2.out.alloc _
   refine ⟨⟨KX.out.cellSome x0 (by simp), KX.out.cellSome x1 (by simp), KX.out.cellSome x2 (by simp)⟩, ?_⟩
   refine Plan.stepT ?_
   go_wp2_with fail
   refine (HV.out _ (K1.out.trans KX.out (fun _ _ h => h))).mono ?_
   rintro _ w4 ⟨gv, rfl, hk4⟩
   have KM : Hid (Keeps [] w1 w4) := KX.out.trans hk4 (fun _ _ h => h)
   clear hk4
   go_wp2_with fail
   refine ⟨⟨KM.out.cellSome x0 (by simp), KM.out.cellSome x1 (by simp), KM.out.cellSome x2 (by simp)⟩, ?_⟩
   iterate 1 (refine Plan.takeT (v := ?_) (a' := ?_) (Plan.want_all (by rfl)) ?_ ?_ ?_; rotate_left 2; (· (intro w' hS'; (try dsimp only at hS'); go_simp; try with_reducible rfl)); (· (simp only [Act.put, Plan.l1, Plan.l2, Plan.l3]; try with_reducible rfl)))
   refine Plan.stepT ?_
   go_wp2_with fail
   refine ⟨⟨(KM.out.alloc _).cellSome x0 (by simp), (KM.out.alloc _).cellSome x1 (by simp), (KM.out.alloc _).cellSome x2 (by simp)⟩, ?_⟩
   iterate 2 (refine Plan.takeT (v := ?_) (a' := ?_) (Plan.want_all (by rfl)) ?_ ?_ ?_; rotate_left 2; (· (intro w' hS'; (try dsimp only at hS'); go_simp; try with_reducible rfl)); (· (simp only [Act.put, Plan.l1, Plan.l2, Plan.l3]; try with_reducible rfl)))
   refine Plan.finT ?_
   clear hS
   go_wp2_with fail
   go_ret2
   exact ⟨_, rfl, (by first | exact Nat.le_trans K1.out.size KM.out.size | (have h8 := K1.out.size; have h9 := KM.out.size; simp at h9; omega)), K1.out.trans (KM.out.alloc _) (fun _ _ h => h)⟩
 ·go_wp2_with fail
  have KX : Hid (Keeps [] w1 (w1.alloc (.map #[] 0))) := by show Keeps _ _ _; exact Keeps.K
  refine ⟨⟨KX.out.cellSome x0 (by simp), KX.out.cellSome x1 (by simp), KX.out.cellSome x2 (by simp)⟩, ?_⟩
  refine Plan.stepT ?_
  go_wp2_with fail
  refine (HO.out _ ((K1.out.trans KX.out (fun _ _ h => h)).trans (G := []) (by exact Keeps.K) (fun _ _ h => h))).mono ?_
  rintro _ w2 ⟨b1, e1, b2, e2, rfl, hk2⟩
  have K2 : Hid (Keeps [] w1 w2) := (KX.out.trans (G := []) (by exact Keeps.K) (fun _ _ h => h)).trans hk2 (fun _ _ h => h)
  clear hk2
  go_wp2_with fail
  refine ⟨⟨K2.out.cellSome x0 (by simp), K2.out.cellSome x1 (by simp), K2.out.cellSome x2 (by simp)⟩, ?_⟩
  refine Plan.stepT ?_
  go_wp2_with fail
  refine (HV.out _ (K1.out.trans K2.out (fun _ _ h => h))).mono ?_
  rintro _ w3 ⟨gv, rfl, hk3⟩
  have KM : Hid (Keeps [] w1 w3) := K2.out.trans hk3 (fun _ _ h => h)
  clear hk3
  go_wp2_with fail
  refine ⟨⟨KM.out.cellSome x0 (by simp), KM.out.cellSome x1 (by simp), KM.out.cellSome x2 (by simp)⟩, ?_⟩
  iterate 1 (refine Plan.takeT (v := ?_) (a' := ?_) (Plan.want_all (by rfl)) ?_ ?_ ?_; rotate_left 2; (· (intro w' hS'; (try dsimp only at hS'); go_simp; try with_reducible rfl)); (· (simp only [Act.put, Plan.l1, Plan.l2, Plan.l3]; try with_reducible rfl)))
  refine Plan.stepT ?_
  go_wp2_with fail
  refine ⟨⟨(KM.out.alloc _).cellSome x0 (by simp), (KM.out.alloc _).cellSome x1 (by simp), (KM.out.alloc _).cellSome x2 (by simp)⟩, ?_⟩
  iterate 2 (refine Plan.takeT (v := ?_) (a' := ?_) (Plan.want_all (by rfl)) ?_ ?_ ?_; rotate_left 2; (· (intro w' hS'; (try dsimp only at hS'); go_simp; try with_reducible rfl)); (· (simp only [Act.put, Plan.l1, Plan.l2, Plan.l3]; try with_reducible rfl)))
  refine Plan.finT ?_
  clear hS
  go_wp2_with fail
  go_ret2
  exact ⟨_, rfl, (by first | exact Nat.le_trans K1.out.size KM.out.size | (have h8 := K1.out.size; have h9 := KM.out.size; simp at h9; omega)), K1.out.trans (KM.out.alloc _) (fun _ _ h => h)⟩
theorem maNew_ok (w : World) (F : Nat → Prop) (sb : Nat) (d : SchD) (n : Nat) (ses : Int) (fin : List ValD) (hT : Tabs w) (hE : Errs w) (h : ScAt w F sb d) (hn : d.l.length = n) (h1 : 1 ≤ n) (h2 : n ≤ 1000) (ho : d.order.length ≤ 1000) (hs : -9223372036854775808 ≤ ses ∧ ses ≤ 9223372036854775807)
 (hq : workQ d.l (d.l.map fun x => str x.f.name) d.order (List.replicate n val0) = some fin) :
 Calls Tryz.prog 18 #[ptrV sb, .int .i64 ses] w fun y w' => ∃ mb, y = .returned (ptrV mb) ∧ w.heap.size ≤ mb ∧ MachAt w' mb sb ses 0 ∧ Keeps [] w w' := by
 have HP := hid (ppNew_ok w F sb d n h hn h1 h2)
 have HEN := hid (fun wx (k : Keeps [] w wx) g j (hv : ValsAt wx g (List.replicate n val0)) (hi : wx.heap[j]? = some (.cells (natC (List.replicate n 0)).toArray 3 (0, 0))) => enNew_ok wx F sb d n g j fin (hT.k k) (hE.k k) (h.k k) hn h1 h2 ho hv hi hq)
 have HSE := hid (fun wx => seNew_ok ses wx hs)
 clear hT hE h hn ho hs hq
 unfold ptrV at HP HEN HSE ⊢
 go_enter Tryz.func18, Tryz.ntmps18
 go_wp2_with fail
 refine HP.out.mono ?_
 rintro _ w1 ⟨g, j, rfl, hg, hj, hv, hi, hk1⟩
 have HEN1 := hid (HEN.out w1 hk1 g j hv hi)
 have K1 := hid hk1
 unfold stateV at HEN1 ⊢
 clear hg hj hv hi hk1
 go_wp2_with fail
 refine HEN1.out.mono ?_
 rintro _ w2 ⟨eb, rfl, heb, hk2⟩
 have K2 := hid (K1.out.trans hk2 (fun _ _ h => h))
 clear hk2 heb
 go_wp2_with fail
 refine (HSE.out _).mono ?_
 rintro _ w3 ⟨tb, rfl, htb, hk3⟩
 have K3 : Hid (Keeps [] w w3) := (K2.out.trans (G := []) (by exact Keeps.K) (fun _ _ h => h)).trans hk3 (fun _ _ h => h)
 clear hk3 htb
 go_wp2_with fail
 go_ret
 exact ⟨w3.heap.size, rfl, K3.out.size, ⟨eb, tb, heap_alloc_new w3 _⟩, K3.out.alloc _⟩
end Go.Proofs.YtgjiahilbmeaeaaGreatDoor