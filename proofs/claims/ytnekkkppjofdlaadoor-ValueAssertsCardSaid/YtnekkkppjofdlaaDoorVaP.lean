/- The closure of ValueAsserts; caught over it. (Printed by gen_clo.py.) -/
import Derived.Test.YtnekkkppjofdlaaDoorVaM
import Derived.Test.YtnekkkppjofdlaaDoorVaL
import Derived.Test.YtnekkkppjofdlaaDoorPlan
namespace Go.Proofs.YtnekkkppjofdlaaDoor
open Go Go.RowKit

/-- Its value is good. -/
def GoodPost (pg : Nat) (w : World) (e : Ending) (w' : World) : Prop := e = .returned (.tuple #[]) ∧ w'.heap[pg]? = some (.cells #[.bool true] 4 (0, 0)) ∧ Keeps [pg] w w'
/-- What the closure reads, but the number. -/
structure CloMem (px pw pg : Nat) (x : Value) (v : ValD) (w : World) : Prop where
  x : w.heap[px]? = some (.cells #[x] 20 (0, 0))
  v : w.heap[pw]? = some (.cells #[.int .i64 v.kind, .int .i64 v.n, .string v.s] 23 (0, 0))
  g : w.heap[pg]? = some (.cells #[.bool false] 4 (0, 0))
theorem CloMem.k {px pw pg : Nat} {x : Value} {v : ValD} {w w' : World} (h : CloMem px pw pg x v w) (k : Keeps [] w w') : CloMem px pw pg x v w' :=
  ⟨(k.block px (Array.getElem?_eq_some_iff.1 h.x).1 (by simp)).trans h.x, (k.block pw (Array.getElem?_eq_some_iff.1 h.v).1 (by simp)).trans h.v, (k.block pg (Array.getElem?_eq_some_iff.1 h.g).1 (by simp)).trans h.g⟩


set_option maxRecDepth 100000 in
set_option maxHeartbeats 1600000 in
theorem clo_fell1 (pt px pw pg : Nat) (x : Value) (v : ValD) (is : Bool) (w : World) (hM : CloMem px pw pg x v w) (ht : w.cell? ⟨pt, 0, none⟩ = some (.int .i64 1)) (hX : BoxOk x v is) (hn : (is && v.kind == 1) = false) (hT : Tabs w) :
    Calls Tryd.prog 26 #[.pointer (some ⟨pt, 0, none⟩), .pointer (some ⟨px, 0, none⟩), .pointer (some ⟨pw, 0, none⟩), .pointer (some ⟨pg, 0, none⟩)] w (FellPost 1 (kindOf v is) w) := by
  have HM := hid hM
  have HT := hid hT
  have HX := hid (hX.intN hn)
  have c0 : w.cell? ⟨px, 0, none⟩ = some x := cell_of_block hM.x 0
  have c1 : w.cell? ⟨pw, 1, none⟩ = some (.int .i64 v.n) := cell_of_block hM.v 1
  clear hM hT hX
  go_enter Tryd.func26, Tryd.ntmps26
  go_wp2_with fail
  refine Plan.wp_region_plan (fun wx => wx.cell? ⟨px, 0, none⟩ = some x ∧ wx.cell? ⟨pw, 1, none⟩ = some (.int .i64 v.n)) 4 [(true, 0), (true, 2), (true, 3), (false, 1)] (by kernel_rfl) (by as_aux_lemma => kernel_rfl) (by kernel_rfl) (fun _ _ _ _ _ h => h) ?_ (fun hS => ?_)
  (· go_simp)
  simp only [Plan.pick, List.append_eq, List.cons_append, List.nil_append, Plan.g1, Plan.g2, Option.getD_some, List.drop_succ_cons, List.drop_zero]
  iterate 3 (first | refine Plan.tA ?_ | refine Plan.tY ?_ | refine Plan.pN ?_ | refine Plan.pU ?_ | fail)
  refine Plan.step ?_
  go_wp2_with fail
  refine (HX.out _ (HT.out.k (by exact Keeps.K))).mono ?_
  rintro e w1 ⟨b, rest, rfl, h1, h2, h3, h4⟩
  have H : Hid (FellPost 1 (kindOf v is) w (.panicked (wrongE b :: rest)) w1) := ⟨b, rest, rfl, h1, h2, by simpa using h3, Keeps.trans (by exact Keeps.K) h4 (fun _ _ h => h)⟩
  clear h1 h2 h3 h4
  go_wp2_with fail
  exact ⟨rfl, H.out⟩

set_option maxRecDepth 100000 in
set_option maxHeartbeats 1600000 in
theorem clo_good1 (pt px pw pg : Nat) (x : Value) (v : ValD) (w : World) (hM : CloMem px pw pg x v w) (ht : w.cell? ⟨pt, 0, none⟩ = some (.int .i64 1)) (hX : BoxOk x v true) (hn : v.kind = 1) (hT : Tabs w) :
    Calls Tryd.prog 26 #[.pointer (some ⟨pt, 0, none⟩), .pointer (some ⟨px, 0, none⟩), .pointer (some ⟨pw, 0, none⟩), .pointer (some ⟨pg, 0, none⟩)] w (GoodPost pg w) := by
  have HM := hid hM
  have HT := hid hT
  have HX := hid (hX.intY rfl hn)
  have c0 : w.cell? ⟨px, 0, none⟩ = some x := cell_of_block hM.x 0
  have c1 : w.cell? ⟨pw, 1, none⟩ = some (.int .i64 v.n) := cell_of_block hM.v 1
  clear hM hT hX
  go_enter Tryd.func26, Tryd.ntmps26
  go_wp2_with fail
  refine Plan.wp_region_plan (fun wx => wx.cell? ⟨px, 0, none⟩ = some x ∧ wx.cell? ⟨pw, 1, none⟩ = some (.int .i64 v.n)) 4 [(true, 0), (true, 2), (true, 3), (false, 1)] (by kernel_rfl) (by as_aux_lemma => kernel_rfl) (by kernel_rfl) (fun _ _ _ _ _ h => h) ?_ (fun hS => ?_)
  (· go_simp)
  simp only [Plan.pick, List.append_eq, List.cons_append, List.nil_append, Plan.g1, Plan.g2, Option.getD_some, List.drop_succ_cons, List.drop_zero]
  iterate 3 (first | refine Plan.tA ?_ | refine Plan.tY ?_ | refine Plan.pN ?_ | refine Plan.pU ?_ | fail)
  refine Plan.step ?_
  go_wp2_with fail
  refine (HX.out _ (HT.out.k (by exact Keeps.K))).mono ?_
  rintro e w1 ⟨rfl, hk⟩
  have HK : Hid (Keeps [] w w1) := Keeps.trans (by exact Keeps.K) hk (fun _ _ h => h)
  have hg1 := (HM.out.k HK.out).g
  have g0 : w1.cell? ⟨pg, 0, none⟩ = some (.bool false) := cell_of_block hg1 0
  have g1 : ∀ i, w1.frozen? ⟨pg, i, none⟩ = false := fun i => frozen_of_row w1 pg i _ _ hg1
  have HG := hid hg1
  have d0 : w1.cell? ⟨px, 0, none⟩ = some x := hk.cellSome (by go_simp) (by simp)
  have d1 : w1.cell? ⟨pw, 1, none⟩ = some (.int .i64 v.n) := hk.cellSome (by go_simp) (by simp)
  clear hk hg1 c0 c1
  go_wp2_with fail
  refine ⟨?_, ?_⟩
  (· go_simp)
  refine Plan.fin ?_
  go_wp2_with fail
  exact bodyPost_end (v := .tuple #[]) (by simp [results, Tryd.results26, go_sem]) rfl ⟨rfl, heap_setCell_same w1 pg 0 _ _ (.bool true) HG.out, Keeps.trans (HK.out.mono (G := [pg]) (fun _ _ h => by cases h)) ((Keeps.refl [pg] w1).setCell (.inl (by simp)) _) (fun _ _ h => h)⟩

set_option maxRecDepth 100000 in
set_option maxHeartbeats 1600000 in
theorem clo_fell2 (pt px pw pg : Nat) (x : Value) (v : ValD) (is : Bool) (w : World) (hM : CloMem px pw pg x v w) (ht : w.cell? ⟨pt, 0, none⟩ = some (.int .i64 2)) (hX : BoxOk x v is) (hn : (is && v.kind == 2) = false) (hT : Tabs w) :
    Calls Tryd.prog 26 #[.pointer (some ⟨pt, 0, none⟩), .pointer (some ⟨px, 0, none⟩), .pointer (some ⟨pw, 0, none⟩), .pointer (some ⟨pg, 0, none⟩)] w (FellPost 2 (kindOf v is) w) := by
  have HM := hid hM
  have HT := hid hT
  have HX := hid (hX.boolN hn)
  have c0 : w.cell? ⟨px, 0, none⟩ = some x := cell_of_block hM.x 0
  have c1 : w.cell? ⟨pw, 1, none⟩ = some (.int .i64 v.n) := cell_of_block hM.v 1
  clear hM hT hX
  go_enter Tryd.func26, Tryd.ntmps26
  go_wp2_with fail
  refine Plan.wp_region_plan (fun wx => wx.cell? ⟨px, 0, none⟩ = some x ∧ wx.cell? ⟨pw, 1, none⟩ = some (.int .i64 v.n)) 5 [(true, 0), (true, 2), (true, 3), (true, 4), (false, 1)] (by kernel_rfl) (by as_aux_lemma => kernel_rfl) (by kernel_rfl) (fun _ _ _ _ _ h => h) ?_ (fun hS => ?_)
  (· go_simp)
  simp only [Plan.pick, List.append_eq, List.cons_append, List.nil_append, Plan.g1, Plan.g2, Option.getD_some, List.drop_succ_cons, List.drop_zero]
  iterate 4 (first | refine Plan.tA ?_ | refine Plan.tY ?_ | refine Plan.pN ?_ | refine Plan.pU ?_ | fail)
  refine Plan.step ?_
  go_wp2_with fail
  refine (HX.out _ (HT.out.k (by exact Keeps.K))).mono ?_
  rintro e w1 ⟨b, rest, rfl, h1, h2, h3, h4⟩
  have H : Hid (FellPost 2 (kindOf v is) w (.panicked (wrongE b :: rest)) w1) := ⟨b, rest, rfl, h1, h2, by simpa using h3, Keeps.trans (by exact Keeps.K) h4 (fun _ _ h => h)⟩
  clear h1 h2 h3 h4
  go_wp2_with fail
  exact ⟨rfl, H.out⟩

set_option maxRecDepth 100000 in
set_option maxHeartbeats 1600000 in
theorem clo_good2 (pt px pw pg : Nat) (x : Value) (v : ValD) (w : World) (hM : CloMem px pw pg x v w) (ht : w.cell? ⟨pt, 0, none⟩ = some (.int .i64 2)) (hX : BoxOk x v true) (hn : v.kind = 2) (hT : Tabs w) :
    Calls Tryd.prog 26 #[.pointer (some ⟨pt, 0, none⟩), .pointer (some ⟨px, 0, none⟩), .pointer (some ⟨pw, 0, none⟩), .pointer (some ⟨pg, 0, none⟩)] w (GoodPost pg w) := by
  have HM := hid hM
  have HT := hid hT
  have HX := hid (hX.boolY rfl hn)
  have c0 : w.cell? ⟨px, 0, none⟩ = some x := cell_of_block hM.x 0
  have c1 : w.cell? ⟨pw, 1, none⟩ = some (.int .i64 v.n) := cell_of_block hM.v 1
  clear hM hT hX
  go_enter Tryd.func26, Tryd.ntmps26
  go_wp2_with fail
  refine Plan.wp_region_plan (fun wx => wx.cell? ⟨px, 0, none⟩ = some x ∧ wx.cell? ⟨pw, 1, none⟩ = some (.int .i64 v.n)) 5 [(true, 0), (true, 2), (true, 3), (true, 4), (false, 1)] (by kernel_rfl) (by as_aux_lemma => kernel_rfl) (by kernel_rfl) (fun _ _ _ _ _ h => h) ?_ (fun hS => ?_)
  (· go_simp)
  simp only [Plan.pick, List.append_eq, List.cons_append, List.nil_append, Plan.g1, Plan.g2, Option.getD_some, List.drop_succ_cons, List.drop_zero]
  iterate 4 (first | refine Plan.tA ?_ | refine Plan.tY ?_ | refine Plan.pN ?_ | refine Plan.pU ?_ | fail)
  refine Plan.step ?_
  go_wp2_with fail
  refine (HX.out _ (HT.out.k (by exact Keeps.K))).mono ?_
  rintro e w1 ⟨rfl, hk⟩
  have HK : Hid (Keeps [] w w1) := Keeps.trans (by exact Keeps.K) hk (fun _ _ h => h)
  have hg1 := (HM.out.k HK.out).g
  have g0 : w1.cell? ⟨pg, 0, none⟩ = some (.bool false) := cell_of_block hg1 0
  have g1 : ∀ i, w1.frozen? ⟨pg, i, none⟩ = false := fun i => frozen_of_row w1 pg i _ _ hg1
  have HG := hid hg1
  have d0 : w1.cell? ⟨px, 0, none⟩ = some x := hk.cellSome (by go_simp) (by simp)
  have d1 : w1.cell? ⟨pw, 1, none⟩ = some (.int .i64 v.n) := hk.cellSome (by go_simp) (by simp)
  clear hk hg1 c0 c1
  go_wp2_with fail
  refine ⟨?_, ?_⟩
  (· go_simp)
  refine Plan.fin ?_
  go_wp2_with fail
  exact bodyPost_end (v := .tuple #[]) (by simp [results, Tryd.results26, go_sem]) rfl ⟨rfl, heap_setCell_same w1 pg 0 _ _ (.bool true) HG.out, Keeps.trans (HK.out.mono (G := [pg]) (fun _ _ h => by cases h)) ((Keeps.refl [pg] w1).setCell (.inl (by simp)) _) (fun _ _ h => h)⟩

set_option maxRecDepth 100000 in
set_option maxHeartbeats 1600000 in
theorem clo_fell3 (pt px pw pg : Nat) (x : Value) (v : ValD) (is : Bool) (w : World) (hM : CloMem px pw pg x v w) (ht : w.cell? ⟨pt, 0, none⟩ = some (.int .i64 3)) (hX : BoxOk x v is) (hn : (is && v.kind == 3) = false) (hT : Tabs w) :
    Calls Tryd.prog 26 #[.pointer (some ⟨pt, 0, none⟩), .pointer (some ⟨px, 0, none⟩), .pointer (some ⟨pw, 0, none⟩), .pointer (some ⟨pg, 0, none⟩)] w (FellPost 3 (kindOf v is) w) := by
  have HM := hid hM
  have HT := hid hT
  have HX := hid (hX.textN hn)
  have c0 : w.cell? ⟨px, 0, none⟩ = some x := cell_of_block hM.x 0
  have c1 : w.cell? ⟨pw, 2, none⟩ = some (.string v.s) := cell_of_block hM.v 2
  clear hM hT hX
  go_enter Tryd.func26, Tryd.ntmps26
  go_wp2_with fail
  refine Plan.wp_region_plan (fun wx => wx.cell? ⟨px, 0, none⟩ = some x ∧ wx.cell? ⟨pw, 2, none⟩ = some (.string v.s)) 4 [(true, 0), (true, 2), (true, 3), (false, 1)] (by kernel_rfl) (by as_aux_lemma => kernel_rfl) (by kernel_rfl) (fun _ _ _ _ _ h => h) ?_ (fun hS => ?_)
  (· go_simp)
  simp only [Plan.pick, List.append_eq, List.cons_append, List.nil_append, Plan.g1, Plan.g2, Option.getD_some, List.drop_succ_cons, List.drop_zero]
  iterate 3 (first | refine Plan.tA ?_ | refine Plan.tY ?_ | refine Plan.pN ?_ | refine Plan.pU ?_ | fail)
  refine Plan.step ?_
  go_wp2_with fail
  refine (HX.out _ (HT.out.k (by exact Keeps.K))).mono ?_
  rintro e w1 ⟨b, rest, rfl, h1, h2, h3, h4⟩
  have H : Hid (FellPost 3 (kindOf v is) w (.panicked (wrongE b :: rest)) w1) := ⟨b, rest, rfl, h1, h2, by simpa using h3, Keeps.trans (by exact Keeps.K) h4 (fun _ _ h => h)⟩
  clear h1 h2 h3 h4
  go_wp2_with fail
  exact ⟨rfl, H.out⟩

set_option maxRecDepth 100000 in
set_option maxHeartbeats 1600000 in
theorem clo_good3 (pt px pw pg : Nat) (x : Value) (v : ValD) (w : World) (hM : CloMem px pw pg x v w) (ht : w.cell? ⟨pt, 0, none⟩ = some (.int .i64 3)) (hX : BoxOk x v true) (hn : v.kind = 3) (hT : Tabs w) :
    Calls Tryd.prog 26 #[.pointer (some ⟨pt, 0, none⟩), .pointer (some ⟨px, 0, none⟩), .pointer (some ⟨pw, 0, none⟩), .pointer (some ⟨pg, 0, none⟩)] w (GoodPost pg w) := by
  have HM := hid hM
  have HT := hid hT
  have HX := hid (hX.textY rfl hn)
  have c0 : w.cell? ⟨px, 0, none⟩ = some x := cell_of_block hM.x 0
  have c1 : w.cell? ⟨pw, 2, none⟩ = some (.string v.s) := cell_of_block hM.v 2
  clear hM hT hX
  go_enter Tryd.func26, Tryd.ntmps26
  go_wp2_with fail
  refine Plan.wp_region_plan (fun wx => wx.cell? ⟨px, 0, none⟩ = some x ∧ wx.cell? ⟨pw, 2, none⟩ = some (.string v.s)) 4 [(true, 0), (true, 2), (true, 3), (false, 1)] (by kernel_rfl) (by as_aux_lemma => kernel_rfl) (by kernel_rfl) (fun _ _ _ _ _ h => h) ?_ (fun hS => ?_)
  (· go_simp)
  simp only [Plan.pick, List.append_eq, List.cons_append, List.nil_append, Plan.g1, Plan.g2, Option.getD_some, List.drop_succ_cons, List.drop_zero]
  iterate 3 (first | refine Plan.tA ?_ | refine Plan.tY ?_ | refine Plan.pN ?_ | refine Plan.pU ?_ | fail)
  refine Plan.step ?_
  go_wp2_with fail
  refine (HX.out _ (HT.out.k (by exact Keeps.K))).mono ?_
  rintro e w1 ⟨rfl, hk⟩
  have HK : Hid (Keeps [] w w1) := Keeps.trans (by exact Keeps.K) hk (fun _ _ h => h)
  have hg1 := (HM.out.k HK.out).g
  have g0 : w1.cell? ⟨pg, 0, none⟩ = some (.bool false) := cell_of_block hg1 0
  have g1 : ∀ i, w1.frozen? ⟨pg, i, none⟩ = false := fun i => frozen_of_row w1 pg i _ _ hg1
  have HG := hid hg1
  have d0 : w1.cell? ⟨px, 0, none⟩ = some x := hk.cellSome (by go_simp) (by simp)
  have d1 : w1.cell? ⟨pw, 2, none⟩ = some (.string v.s) := hk.cellSome (by go_simp) (by simp)
  clear hk hg1 c0 c1
  have hss : (v.s.toList == v.s.toList) = true := by simp
  go_wp2_with fail
  refine ⟨?_, ?_⟩
  (· go_simp)
  refine Plan.fin ?_
  go_wp2_with fail
  exact bodyPost_end (v := .tuple #[]) (by simp [results, Tryd.results26, go_sem]) rfl ⟨rfl, heap_setCell_same w1 pg 0 _ _ (.bool true) HG.out, Keeps.trans (HK.out.mono (G := [pg]) (fun _ _ h => by cases h)) ((Keeps.refl [pg] w1).setCell (.inl (by simp)) _) (fun _ _ h => h)⟩

theorem load_bool (W : World) (p : Nat) (u : Value) (h : W.cell? ⟨p, 0, none⟩ = some u) : (loadVar 4 ⟨p, 0, none⟩).run Tryd.prog W = .ok u W := by simp [loadVar, go_sem, h]

set_option maxRecDepth 100000 in
set_option maxHeartbeats 1600000 in
theorem caught_fell (pt px pw pg : Nat) (want got : Int) (w : World) (hF : ∀ wx, Keeps [] w wx → Calls Tryd.prog 26 #[.pointer (some ⟨pt, 0, none⟩), .pointer (some ⟨px, 0, none⟩), .pointer (some ⟨pw, 0, none⟩), .pointer (some ⟨pg, 0, none⟩)] wx (FellPost want got wx)) :
    Calls Tryd.prog 25 #[.func (.func 26) #[] #[.pointer (some ⟨pt, 0, none⟩), .pointer (some ⟨px, 0, none⟩), .pointer (some ⟨pw, 0, none⟩), .pointer (some ⟨pg, 0, none⟩)]] w fun e w' => e = .returned (.tuple #[.agg #[.int .i64 want, .int .i64 got], .bool true]) ∧ Keeps [] w w' := by
  have HF := hid hF
  clear hF
  have hmf : ∀ (fn : Fn) (first cap : Array Value) (w : World), (Instr.makeFunc fn first cap).run Tryd.prog w = .ok (.func fn first cap) w := fun _ _ _ _ => rfl
  go_enter_defers Tryd.func25, Tryd.ntmps25
  go_wp2_with fail
  refine (HF.out _ (by exact Keeps.K)).mono ?_
  rintro e w1 ⟨b, rest, rfl, h1, h2, h3, h4⟩
  have hp : w1.heap[w.heap.size]? = some (.cells #[.int .i64 0, .int .i64 0] 43 (0, 0)) := (h4.block w.heap.size (by simp; omega) (by simp)).trans (new2' w _ _)
  have hq : w1.heap[w.heap.size + 1]? = some (.cells #[.bool false] 4 (0, 0)) := (h4.block (w.heap.size + 1) (by simp) (by simp)).trans (new_2 w _ _)
  have HK : Hid (Keeps [] w w1) := Keeps.trans (by exact Keeps.K) h4 (fun _ _ h => h)
  show bodyPostD _ _ _ (Exit.panic _) _ _
  refine leaves_cons (f := 52) (args := #[.pointer (some ⟨w.heap.size, 0, none⟩), .pointer (some ⟨w.heap.size + 1, 0, none⟩)]) (by simp) (by simp [go_sem]) ?_
  refine (catch_panicking w.heap.size (w.heap.size + 1) b 0 0 want got false rest _ hp hq (by omega) h2).mono ?_
  rintro e u' w'' ⟨rfl, rfl, g1, g2, g3⟩
  show Leaves _ _ _ _ [] (settle _) _
  unfold settle
  simp only [h1]
  refine ⟨_, results_two rfl _ _ w.heap.size (w.heap.size + 1) 43 4 _ _ (0, 0) (0, 0) _ .bool rfl rfl g1 (cell_of_block g2 0) Tryd.underlying43 rfl (by kernel_rfl) ?_, rfl, ?_⟩
  · simp [loadVar, go_sem, cell_of_block g2 0]
  · exact HK.out.trans (g3.mono (G := [w.heap.size, w.heap.size + 1]) (fun _ _ h => h)) (fun k hk hm => by simp at hm; omega)

set_option maxRecDepth 100000 in
set_option maxHeartbeats 1600000 in
theorem caught_good (pt px pw pg : Nat) (w : World) (hg : pg < w.heap.size) (hF : ∀ wx, Keeps [] w wx → Calls Tryd.prog 26 #[.pointer (some ⟨pt, 0, none⟩), .pointer (some ⟨px, 0, none⟩), .pointer (some ⟨pw, 0, none⟩), .pointer (some ⟨pg, 0, none⟩)] wx (GoodPost pg wx)) :
    Calls Tryd.prog 25 #[.func (.func 26) #[] #[.pointer (some ⟨pt, 0, none⟩), .pointer (some ⟨px, 0, none⟩), .pointer (some ⟨pw, 0, none⟩), .pointer (some ⟨pg, 0, none⟩)]] w fun e w' => e = .returned (.tuple #[.agg #[.int .i64 0, .int .i64 0], .bool false]) ∧ w'.heap[pg]? = some (.cells #[.bool true] 4 (0, 0)) ∧ Keeps [pg] w w' := by
  have HF := hid hF
  have HG := hid hg
  clear hF hg
  have hmf : ∀ (fn : Fn) (first cap : Array Value) (w : World), (Instr.makeFunc fn first cap).run Tryd.prog w = .ok (.func fn first cap) w := fun _ _ _ _ => rfl
  go_enter_defers Tryd.func25, Tryd.ntmps25
  go_wp2_with fail
  refine (HF.out _ (by exact Keeps.K)).mono ?_
  rintro e w1 ⟨rfl, h2, h4⟩
  have hp : w1.heap[w.heap.size]? = some (.cells #[.int .i64 0, .int .i64 0] 43 (0, 0)) := (h4.block w.heap.size (by simp; omega) (by have := HG.out; simp; omega)).trans (new2' w _ _)
  have hq : w1.heap[w.heap.size + 1]? = some (.cells #[.bool false] 4 (0, 0)) := (h4.block (w.heap.size + 1) (by simp) (by have := HG.out; simp; omega)).trans (new_2 w _ _)
  have HK : Hid (Keeps [pg] w w1) := Keeps.trans (by exact Keeps.K) h4 (fun _ _ h => h)
  have HP := hid hp
  have HQ := hid hq
  have H2 := hid h2
  have x0 : w1.cell? ⟨w.heap.size, 0, none⟩ = some (.int .i64 0) := cell_of_block hp 0
  have x1 : w1.cell? ⟨w.heap.size, 1, none⟩ = some (.int .i64 0) := cell_of_block hp 1
  have f0 : ∀ i, w1.frozen? ⟨w.heap.size, i, none⟩ = false := fun i => frozen_of_row w1 _ i _ _ hp
  have z0 : w1.cell? ⟨w.heap.size + 1, 0, none⟩ = some (.bool false) := cell_of_block hq 0
  have g0 : ∀ i, w1.frozen? ⟨w.heap.size + 1, i, none⟩ = false := fun i => frozen_of_row w1 _ i _ _ hq
  clear hp hq h2 h4
  go_wp2_with fail
  have kp : Keeps [w.heap.size, w.heap.size + 1] w1 (((w1.setCell ⟨w.heap.size, 0, none⟩ (.int .i64 0)).setCell ⟨w.heap.size, 1, none⟩ (.int .i64 0)).setCell ⟨w.heap.size + 1, 0, none⟩ (.bool false)) := (((Keeps.refl _ _).setCell (.inl (by simp)) _).setCell (.inl (by simp)) _).setCell (.inl (by simp)) _
  have hp2 : (((w1.setCell ⟨w.heap.size, 0, none⟩ (.int .i64 0)).setCell ⟨w.heap.size, 1, none⟩ (.int .i64 0)).setCell ⟨w.heap.size + 1, 0, none⟩ (.bool false)).heap[w.heap.size]? = some (.cells #[.int .i64 0, .int .i64 0] 43 (0, 0)) :=
    (heap_setCell_other _ ⟨w.heap.size + 1, 0, none⟩ w.heap.size _ (by simp)).trans (heap_setCell_same _ _ 1 _ _ _ (heap_setCell_same w1 _ 0 _ _ _ HP.out))
  have hqw : ((w1.setCell ⟨w.heap.size, 0, none⟩ (.int .i64 0)).setCell ⟨w.heap.size, 1, none⟩ (.int .i64 0)).heap[w.heap.size + 1]? = some (.cells #[.bool false] 4 (0, 0)) := by
    have kq : Keeps [w.heap.size] w1 ((w1.setCell ⟨w.heap.size, 0, none⟩ (.int .i64 0)).setCell ⟨w.heap.size, 1, none⟩ (.int .i64 0)) := ((Keeps.refl _ _).setCell (.inl (by simp)) _).setCell (.inl (by simp)) _
    rw [kq.block (w.heap.size + 1) ((Array.getElem?_eq_some_iff.1 HQ.out).1) (by simp)]
    exact HQ.out
  have hq2 := heap_setCell_same _ _ 0 _ _ (.bool false) hqw
  have hg2 := (kp.block pg (Array.getElem?_eq_some_iff.1 H2.out).1 (by have := HG.out; simp; omega)).trans H2.out
  refine leaves_cons (f := 52) (args := #[.pointer (some ⟨w.heap.size, 0, none⟩), .pointer (some ⟨w.heap.size + 1, 0, none⟩)]) (by simp) (by simp [go_sem]) ?_
  refine (catch_idle _ _ _).mono ?_
  rintro e u' w'' ⟨rfl, rfl, hw⟩
  subst hw
  refine ⟨_, results_two rfl _ _ w.heap.size (w.heap.size + 1) 43 4 _ _ (0, 0) (0, 0) _ .bool rfl rfl hp2 (cell_of_block hq2 0) Tryd.underlying43 rfl (by kernel_rfl) ?_, rfl, hg2, ?_⟩
  · exact load_bool _ _ _ (cell_of_block hq2 0)
  · exact HK.out.trans (kp.mono (G := [pg, w.heap.size, w.heap.size + 1]) (fun _ _ h => by simp at h; simp [h])) (fun k hk hm => by simp at hm ⊢; omega)

end Go.Proofs.YtnekkkppjofdlaaDoor
