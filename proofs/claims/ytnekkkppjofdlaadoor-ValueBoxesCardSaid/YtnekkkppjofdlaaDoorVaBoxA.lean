/- ValueBoxes, walked kind by kind. (Printed by gen_boxes.py.) -/
import Derived.Test.YtnekkkppjofdlaaDoorVaBoxC
namespace Go.Proofs.YtnekkkppjofdlaaDoor
open Go Go.RowKit

set_option maxRecDepth 100000 in
set_option maxHeartbeats 12800000 in
theorem boxes_blank (w : World) (hT : Tabs w) (hc : checkD ⟨0, 0, ⟨#[]⟩⟩ = true) (hx : boxV ⟨0, 0, ⟨#[]⟩⟩ = .nilIface) :
    Calls Tryd.prog 3 #[.agg #[.int .i64 0, .int .i64 0, .string ⟨#[]⟩]] w fun e w' => e = .returned (.bool true) ∧ Keeps [] w w' := by
  have HT := hid hT
  have HB := fun w h1 h2 => vbox_any ⟨0, 0, ⟨#[]⟩⟩ w h1 h2
  rw [hx] at HB
  unfold valV at HB
  have HBX := hid HB
  have HC := hid (r5check_is ⟨0, 0, ⟨#[]⟩⟩ true hc)
  unfold valV at HC
  have HU : Hid (∀ wx, Keeps [] w wx → Calls Tryd.prog 15 #[.nilIface] wx (UnboxPost ⟨0, 0, ⟨#[]⟩⟩ true wx)) := fun wx HK => unbox_nil _
  have hs : ((⟨#[]⟩ : ByteArray).size : Int) ≤ 5000 := by decide
  have hs' : (⟨#[]⟩ : ByteArray).size ≤ 9223372036854775806 := by decide
  clear hT hc hx HB
  have ta0 : ∀ w, (Instr.typeAssert .nilIface 20 2 true).run Tryd.prog w = .ok (.tuple #[.int .i64 0, .bool false]) w := fun _ => by kernel_rfl
  have ta1 : ∀ w, (Instr.typeAssert .nilIface 20 4 true).run Tryd.prog w = .ok (.tuple #[.bool false, .bool false]) w := fun _ => by kernel_rfl
  have ta2 : ∀ w, (Instr.typeAssert .nilIface 20 9 true).run Tryd.prog w = .ok (.tuple #[.string ⟨#[]⟩, .bool false]) w := fun _ => by kernel_rfl
  have ta3 : ∀ w, (Instr.typeAssert .nilIface 20 23 true).run Tryd.prog w = .ok (.tuple #[.agg #[.int .i64 0, .int .i64 0, .string ⟨#[]⟩], .bool false]) w := fun _ => by kernel_rfl
  go_enter Tryd.func3, Tryd.ntmps3
  go_wp2_with fail
  refine (HBX.out _ (HT.out.k (by exact Keeps.K)) hs').mono ?_
  rintro e w1 ⟨rfl, hk⟩
  have c0 : w1.cell? ⟨w.heap.size, 0, none⟩ = some (.int .i64 0) := hk.cellSome (by go_simp) (by simp)
  have c1 : w1.cell? ⟨w.heap.size, 1, none⟩ = some (.int .i64 0) := hk.cellSome (by go_simp) (by simp)
  have c2 : w1.cell? ⟨w.heap.size, 2, none⟩ = some (.string ⟨#[]⟩) := hk.cellSome (by go_simp) (by simp)
  have HK1 : Hid (Keeps [] w w1) := Keeps.trans (by exact Keeps.K) hk (fun _ _ h => h)
  clear hk
  go_wp2_with fail
  refine (HC.out _ (HT.out.k HK1.out) hs').mono ?_
  rintro e w2 ⟨rfl, hk⟩
  have d0 : w2.cell? ⟨w.heap.size, 0, none⟩ = some (.int .i64 0) := hk.cellSome (c0) (by simp)
  have d1 : w2.cell? ⟨w.heap.size, 1, none⟩ = some (.int .i64 0) := hk.cellSome (c1) (by simp)
  have d2 : w2.cell? ⟨w.heap.size, 2, none⟩ = some (.string ⟨#[]⟩) := hk.cellSome (c2) (by simp)
  have HK2 : Hid (Keeps [] w w2) := Keeps.trans HK1.out hk (fun _ _ h => h)
  clear hk c0 c1 c2
  go_wp2_with fail
  refine (HU.out _ HK2.out).mono ?_
  rintro e w3 ⟨rfl, hk⟩
  have e0 : w3.cell? ⟨w.heap.size, 0, none⟩ = some (.int .i64 0) := hk.cellSome (d0) (by simp)
  have e1 : w3.cell? ⟨w.heap.size, 1, none⟩ = some (.int .i64 0) := hk.cellSome (d1) (by simp)
  have e2 : w3.cell? ⟨w.heap.size, 2, none⟩ = some (.string ⟨#[]⟩) := hk.cellSome (d2) (by simp)
  have hz3 : w.heap.size < w3.heap.size := World.block_lt_of_cell? _ _ e0
  have HK3 : Hid (Keeps [] w w3) := Keeps.trans HK2.out hk (fun _ _ h => h)
  clear hk d0 d1 d2
  unfold valV
  go_wp2_with fail
  refine Plan.wp_region_plan (fun wx => wx.cell? ⟨w.heap.size, 0, none⟩ = some (.int .i64 0) ∧ wx.cell? ⟨w.heap.size, 1, none⟩ = some (.int .i64 0) ∧ wx.cell? ⟨w.heap.size, 2, none⟩ = some (.string ⟨#[]⟩) ∧ wx.cell? ⟨w3.heap.size, 0, none⟩ = some (.int .i64 0) ∧ wx.cell? ⟨w3.heap.size, 1, none⟩ = some (.int .i64 0) ∧ wx.cell? ⟨w3.heap.size, 2, none⟩ = some (.string ⟨#[]⟩)) 12 [(true, 0), (true, 1), (true, 2), (true, 3), (true, 4), (true, 5), (true, 6), (true, 7), (true, 8), (true, 10), (true, 11), (false, 9)] (by kernel_rfl) (by as_aux_lemma => kernel_rfl) (by kernel_rfl) (fun _ _ _ _ _ h => h) ?_ (fun hS => ?_)
  (· go_simp)
  simp only [Plan.pick, List.append_eq, List.cons_append, List.nil_append, Plan.g1, Plan.g2, Option.getD_some, List.drop_succ_cons, List.drop_zero]
  iterate 11 (first | refine Plan.tA ?_ | refine Plan.tY ?_ | refine Plan.pN ?_ | refine Plan.pU ?_ | fail)
  refine Plan.step ?_
  go_wp2_with fail
  refine (kind_yes _ ⟨0, 0, ⟨#[]⟩⟩ _ (HU.out _ (by have kk := HK3.out; exact Keeps.K))).mono ?_
  rintro e w4 ⟨rfl, hk⟩
  have f0 : w4.cell? ⟨w.heap.size, 0, none⟩ = some (.int .i64 0) := hk.cellSome (by go_simp) (by simp)
  have f1 : w4.cell? ⟨w.heap.size, 1, none⟩ = some (.int .i64 0) := hk.cellSome (by go_simp) (by simp)
  have f2 : w4.cell? ⟨w.heap.size, 2, none⟩ = some (.string ⟨#[]⟩) := hk.cellSome (by go_simp) (by simp)
  have g0 : w4.cell? ⟨w3.heap.size, 0, none⟩ = some (.int .i64 0) := hk.cellSome (by go_simp) (by simp)
  have g1 : w4.cell? ⟨w3.heap.size, 1, none⟩ = some (.int .i64 0) := hk.cellSome (by go_simp) (by simp)
  have g2 : w4.cell? ⟨w3.heap.size, 2, none⟩ = some (.string ⟨#[]⟩) := hk.cellSome (by go_simp) (by simp)
  have hz4 : w3.heap.size < w4.heap.size := World.block_lt_of_cell? _ _ g0
  have hz5 : w.heap.size < w4.heap.size := Nat.lt_trans hz3 hz4
  have HK4 : Hid (Keeps [] w w4) := Keeps.trans (by have kk := HK3.out; exact Keeps.K) hk (fun _ _ h => h)
  clear hk e0 e1 e2 hS
  go_wp2_with fail
  refine ⟨?_, ?_⟩
  (· go_simp)
  refine Plan.fin ?_
  go_wp2_with fail
  refine Plan.wp_region_plan (fun wx => wx.cell? ⟨w.heap.size, 0, none⟩ = some (.int .i64 0) ∧ wx.cell? ⟨w.heap.size, 1, none⟩ = some (.int .i64 0) ∧ wx.cell? ⟨w.heap.size, 2, none⟩ = some (.string ⟨#[]⟩) ∧ wx.cell? ⟨w4.heap.size, 0, none⟩ = some (.int .i64 0) ∧ wx.cell? ⟨w4.heap.size, 1, none⟩ = some (.int .i64 0) ∧ wx.cell? ⟨w4.heap.size, 2, none⟩ = some (.string ⟨#[]⟩)) 65 [(true, 0), (true, 1), (true, 2), (true, 3), (true, 4), (true, 5), (true, 6), (true, 7), (true, 8), (true, 9), (false, 10), (true, 11), (true, 12), (true, 13), (true, 14), (true, 15), (true, 16), (true, 17), (true, 18), (true, 19), (true, 20), (true, 21), (true, 22), (true, 23), (true, 24), (true, 25), (true, 26), (true, 27), (true, 28), (true, 29), (true, 30), (true, 31), (true, 32), (true, 33), (true, 34), (true, 35), (true, 36), (true, 37), (true, 38), (true, 39), (true, 40), (true, 41), (true, 42), (true, 43), (true, 44), (true, 45), (true, 46), (true, 47), (true, 48), (true, 49), (true, 50), (true, 51), (true, 52), (true, 53), (true, 54), (true, 55), (true, 56), (true, 57), (true, 58), (true, 59), (true, 60), (true, 61), (true, 62), (true, 63), (true, 64)] (by kernel_rfl) (by as_aux_lemma => kernel_rfl) (by kernel_rfl) (fun _ _ _ _ _ h => h) ?_ (fun hS => ?_)
  (· go_simp)
  simp only [Plan.pick, List.append_eq, List.cons_append, List.nil_append, Plan.g1, Plan.g2, Option.getD_some, List.drop_succ_cons, List.drop_zero]
  iterate 10 (first | refine Plan.tA ?_ | refine Plan.tY ?_ | refine Plan.pN ?_ | refine Plan.pU ?_ | fail)
  refine Plan.step ?_
  go_wp2_with fail
  refine (one5_no _ _).mono ?_
  rintro e w5 ⟨rfl, hw5⟩
  subst hw5
  go_wp2_with fail
  refine ⟨?_, ?_⟩
  (· go_simp)
  iterate 54 (first | refine Plan.tA ?_ | refine Plan.tY ?_ | refine Plan.pN ?_ | refine Plan.pU ?_ | fail)
  refine Plan.fin ?_
  go_wp2_with fail
  refine (awake5_any _ (HT.out.k (by have kk := HK4.out; exact Keeps.K))).mono ?_
  rintro e w6 ⟨rfl, hk⟩
  have HK6 : Hid (Keeps [] w w6) := Keeps.trans (by have kk := HK4.out; exact Keeps.K) hk (fun _ _ h => h)
  clear hk
  go_wp2_with fail
  go_ret
  exact ⟨rfl, HK6.out⟩

set_option maxRecDepth 100000 in
set_option maxHeartbeats 12800000 in
theorem boxes_int (n : Int) (w : World) (hT : Tabs w) (hc : checkD ⟨1, n, ⟨#[]⟩⟩ = true) (hx : boxV ⟨1, n, ⟨#[]⟩⟩ = .iface 2 (.int .i64 n)) :
    Calls Tryd.prog 3 #[.agg #[.int .i64 1, .int .i64 n, .string ⟨#[]⟩]] w fun e w' => e = .returned (.bool true) ∧ Keeps [] w w' := by
  have HT := hid hT
  have HB := fun w h1 h2 => vbox_any ⟨1, n, ⟨#[]⟩⟩ w h1 h2
  rw [hx] at HB
  unfold valV at HB
  have HBX := hid HB
  have HC := hid (r5check_is ⟨1, n, ⟨#[]⟩⟩ true hc)
  unfold valV at HC
  have HU : Hid (∀ wx, Keeps [] w wx → Calls Tryd.prog 15 #[.iface 2 (.int .i64 n)] wx (UnboxPost ⟨1, n, ⟨#[]⟩⟩ true wx)) := fun wx HK => unbox_int n _
  have hs : ((⟨#[]⟩ : ByteArray).size : Int) ≤ 5000 := by decide
  have hs' : (⟨#[]⟩ : ByteArray).size ≤ 9223372036854775806 := by decide
  clear hT hc hx HB
  have ta0 : ∀ w, (Instr.typeAssert (.iface 2 (.int .i64 n)) 20 2 true).run Tryd.prog w = .ok (.tuple #[.int .i64 n, .bool true]) w := fun _ => by kernel_rfl
  have ta1 : ∀ w, (Instr.typeAssert (.iface 2 (.int .i64 n)) 20 4 true).run Tryd.prog w = .ok (.tuple #[.bool false, .bool false]) w := fun _ => by kernel_rfl
  have ta2 : ∀ w, (Instr.typeAssert (.iface 2 (.int .i64 n)) 20 9 true).run Tryd.prog w = .ok (.tuple #[.string ⟨#[]⟩, .bool false]) w := fun _ => by kernel_rfl
  have ta3 : ∀ w, (Instr.typeAssert (.iface 2 (.int .i64 n)) 20 23 true).run Tryd.prog w = .ok (.tuple #[.agg #[.int .i64 0, .int .i64 0, .string ⟨#[]⟩], .bool false]) w := fun _ => by kernel_rfl
  go_enter Tryd.func3, Tryd.ntmps3
  go_wp2_with fail
  refine (HBX.out _ (HT.out.k (by exact Keeps.K)) hs').mono ?_
  rintro e w1 ⟨rfl, hk⟩
  have c0 : w1.cell? ⟨w.heap.size, 0, none⟩ = some (.int .i64 1) := hk.cellSome (by go_simp) (by simp)
  have c1 : w1.cell? ⟨w.heap.size, 1, none⟩ = some (.int .i64 n) := hk.cellSome (by go_simp) (by simp)
  have c2 : w1.cell? ⟨w.heap.size, 2, none⟩ = some (.string ⟨#[]⟩) := hk.cellSome (by go_simp) (by simp)
  have HK1 : Hid (Keeps [] w w1) := Keeps.trans (by exact Keeps.K) hk (fun _ _ h => h)
  clear hk
  go_wp2_with fail
  refine (HC.out _ (HT.out.k HK1.out) hs').mono ?_
  rintro e w2 ⟨rfl, hk⟩
  have d0 : w2.cell? ⟨w.heap.size, 0, none⟩ = some (.int .i64 1) := hk.cellSome (c0) (by simp)
  have d1 : w2.cell? ⟨w.heap.size, 1, none⟩ = some (.int .i64 n) := hk.cellSome (c1) (by simp)
  have d2 : w2.cell? ⟨w.heap.size, 2, none⟩ = some (.string ⟨#[]⟩) := hk.cellSome (c2) (by simp)
  have HK2 : Hid (Keeps [] w w2) := Keeps.trans HK1.out hk (fun _ _ h => h)
  clear hk c0 c1 c2
  go_wp2_with fail
  refine (HU.out _ HK2.out).mono ?_
  rintro e w3 ⟨rfl, hk⟩
  have e0 : w3.cell? ⟨w.heap.size, 0, none⟩ = some (.int .i64 1) := hk.cellSome (d0) (by simp)
  have e1 : w3.cell? ⟨w.heap.size, 1, none⟩ = some (.int .i64 n) := hk.cellSome (d1) (by simp)
  have e2 : w3.cell? ⟨w.heap.size, 2, none⟩ = some (.string ⟨#[]⟩) := hk.cellSome (d2) (by simp)
  have hz3 : w.heap.size < w3.heap.size := World.block_lt_of_cell? _ _ e0
  have HK3 : Hid (Keeps [] w w3) := Keeps.trans HK2.out hk (fun _ _ h => h)
  clear hk d0 d1 d2
  unfold valV
  go_wp2_with fail
  refine Plan.wp_region_plan (fun wx => wx.cell? ⟨w.heap.size, 0, none⟩ = some (.int .i64 1) ∧ wx.cell? ⟨w.heap.size, 1, none⟩ = some (.int .i64 n) ∧ wx.cell? ⟨w.heap.size, 2, none⟩ = some (.string ⟨#[]⟩) ∧ wx.cell? ⟨w3.heap.size, 0, none⟩ = some (.int .i64 1) ∧ wx.cell? ⟨w3.heap.size, 1, none⟩ = some (.int .i64 n) ∧ wx.cell? ⟨w3.heap.size, 2, none⟩ = some (.string ⟨#[]⟩)) 12 [(true, 0), (true, 1), (true, 2), (true, 3), (true, 4), (true, 5), (true, 6), (true, 7), (true, 8), (true, 10), (true, 11), (false, 9)] (by kernel_rfl) (by as_aux_lemma => kernel_rfl) (by kernel_rfl) (fun _ _ _ _ _ h => h) ?_ (fun hS => ?_)
  (· go_simp)
  simp only [Plan.pick, List.append_eq, List.cons_append, List.nil_append, Plan.g1, Plan.g2, Option.getD_some, List.drop_succ_cons, List.drop_zero]
  iterate 11 (first | refine Plan.tA ?_ | refine Plan.tY ?_ | refine Plan.pN ?_ | refine Plan.pU ?_ | fail)
  refine Plan.step ?_
  go_wp2_with fail
  refine (kind_yes _ ⟨1, n, ⟨#[]⟩⟩ _ (HU.out _ (by have kk := HK3.out; exact Keeps.K))).mono ?_
  rintro e w4 ⟨rfl, hk⟩
  have f0 : w4.cell? ⟨w.heap.size, 0, none⟩ = some (.int .i64 1) := hk.cellSome (by go_simp) (by simp)
  have f1 : w4.cell? ⟨w.heap.size, 1, none⟩ = some (.int .i64 n) := hk.cellSome (by go_simp) (by simp)
  have f2 : w4.cell? ⟨w.heap.size, 2, none⟩ = some (.string ⟨#[]⟩) := hk.cellSome (by go_simp) (by simp)
  have g0 : w4.cell? ⟨w3.heap.size, 0, none⟩ = some (.int .i64 1) := hk.cellSome (by go_simp) (by simp)
  have g1 : w4.cell? ⟨w3.heap.size, 1, none⟩ = some (.int .i64 n) := hk.cellSome (by go_simp) (by simp)
  have g2 : w4.cell? ⟨w3.heap.size, 2, none⟩ = some (.string ⟨#[]⟩) := hk.cellSome (by go_simp) (by simp)
  have hz4 : w3.heap.size < w4.heap.size := World.block_lt_of_cell? _ _ g0
  have hz5 : w.heap.size < w4.heap.size := Nat.lt_trans hz3 hz4
  have HK4 : Hid (Keeps [] w w4) := Keeps.trans (by have kk := HK3.out; exact Keeps.K) hk (fun _ _ h => h)
  clear hk e0 e1 e2 hS
  go_wp2_with fail
  refine ⟨?_, ?_⟩
  (· go_simp)
  refine Plan.fin ?_
  go_wp2_with fail
  refine Plan.wp_region_plan (fun wx => wx.cell? ⟨w.heap.size, 0, none⟩ = some (.int .i64 1) ∧ wx.cell? ⟨w.heap.size, 1, none⟩ = some (.int .i64 n) ∧ wx.cell? ⟨w.heap.size, 2, none⟩ = some (.string ⟨#[]⟩) ∧ wx.cell? ⟨w4.heap.size, 0, none⟩ = some (.int .i64 0) ∧ wx.cell? ⟨w4.heap.size, 1, none⟩ = some (.int .i64 0) ∧ wx.cell? ⟨w4.heap.size, 2, none⟩ = some (.string ⟨#[]⟩)) 65 [(true, 0), (true, 1), (true, 2), (true, 3), (true, 4), (true, 5), (true, 6), (true, 7), (true, 8), (true, 9), (false, 10), (true, 11), (true, 12), (true, 13), (true, 14), (true, 15), (true, 16), (true, 17), (true, 18), (true, 19), (true, 20), (true, 21), (true, 22), (true, 23), (true, 24), (true, 25), (true, 26), (true, 27), (true, 28), (true, 29), (true, 30), (true, 31), (true, 32), (true, 33), (true, 34), (true, 35), (true, 36), (true, 37), (true, 38), (true, 39), (true, 40), (true, 41), (true, 42), (true, 43), (true, 44), (true, 45), (true, 46), (true, 47), (true, 48), (true, 49), (true, 50), (true, 51), (true, 52), (true, 53), (true, 54), (true, 55), (true, 56), (true, 57), (true, 58), (true, 59), (true, 60), (true, 61), (true, 62), (true, 63), (true, 64)] (by kernel_rfl) (by as_aux_lemma => kernel_rfl) (by kernel_rfl) (fun _ _ _ _ _ h => h) ?_ (fun hS => ?_)
  (· go_simp)
  simp only [Plan.pick, List.append_eq, List.cons_append, List.nil_append, Plan.g1, Plan.g2, Option.getD_some, List.drop_succ_cons, List.drop_zero]
  iterate 10 (first | refine Plan.tA ?_ | refine Plan.tY ?_ | refine Plan.pN ?_ | refine Plan.pU ?_ | fail)
  refine Plan.step ?_
  go_wp2_with fail
  refine (one5_yes _ _).mono ?_
  rintro e w5 ⟨rfl, hw5⟩
  subst hw5
  go_wp2_with fail
  refine ⟨?_, ?_⟩
  (· go_simp)
  iterate 54 (first | refine Plan.tA ?_ | refine Plan.tY ?_ | refine Plan.pN ?_ | refine Plan.pU ?_ | fail)
  refine Plan.fin ?_
  go_wp2_with fail
  refine (awake5_any _ (HT.out.k (by have kk := HK4.out; exact Keeps.K))).mono ?_
  rintro e w6 ⟨rfl, hk⟩
  have HK6 : Hid (Keeps [] w w6) := Keeps.trans (by have kk := HK4.out; exact Keeps.K) hk (fun _ _ h => h)
  clear hk
  go_wp2_with fail
  go_ret
  exact ⟨rfl, HK6.out⟩

set_option maxRecDepth 100000 in
set_option maxHeartbeats 12800000 in
theorem boxes_no (w : World) (hT : Tabs w) (hc : checkD ⟨2, 0, ⟨#[]⟩⟩ = true) (hx : boxV ⟨2, 0, ⟨#[]⟩⟩ = .iface 4 (.bool false)) :
    Calls Tryd.prog 3 #[.agg #[.int .i64 2, .int .i64 0, .string ⟨#[]⟩]] w fun e w' => e = .returned (.bool true) ∧ Keeps [] w w' := by
  have HT := hid hT
  have HB := fun w h1 h2 => vbox_any ⟨2, 0, ⟨#[]⟩⟩ w h1 h2
  rw [hx] at HB
  unfold valV at HB
  have HBX := hid HB
  have HC := hid (r5check_is ⟨2, 0, ⟨#[]⟩⟩ true hc)
  unfold valV at HC
  have HU : Hid (∀ wx, Keeps [] w wx → Calls Tryd.prog 15 #[.iface 4 (.bool false)] wx (UnboxPost ⟨2, 0, ⟨#[]⟩⟩ true wx)) := fun wx HK => unbox_false _
  have hs : ((⟨#[]⟩ : ByteArray).size : Int) ≤ 5000 := by decide
  have hs' : (⟨#[]⟩ : ByteArray).size ≤ 9223372036854775806 := by decide
  clear hT hc hx HB
  have ta0 : ∀ w, (Instr.typeAssert (.iface 4 (.bool false)) 20 2 true).run Tryd.prog w = .ok (.tuple #[.int .i64 0, .bool false]) w := fun _ => by kernel_rfl
  have ta1 : ∀ w, (Instr.typeAssert (.iface 4 (.bool false)) 20 4 true).run Tryd.prog w = .ok (.tuple #[.bool false, .bool true]) w := fun _ => by kernel_rfl
  have ta2 : ∀ w, (Instr.typeAssert (.iface 4 (.bool false)) 20 9 true).run Tryd.prog w = .ok (.tuple #[.string ⟨#[]⟩, .bool false]) w := fun _ => by kernel_rfl
  have ta3 : ∀ w, (Instr.typeAssert (.iface 4 (.bool false)) 20 23 true).run Tryd.prog w = .ok (.tuple #[.agg #[.int .i64 0, .int .i64 0, .string ⟨#[]⟩], .bool false]) w := fun _ => by kernel_rfl
  go_enter Tryd.func3, Tryd.ntmps3
  go_wp2_with fail
  refine (HBX.out _ (HT.out.k (by exact Keeps.K)) hs').mono ?_
  rintro e w1 ⟨rfl, hk⟩
  have c0 : w1.cell? ⟨w.heap.size, 0, none⟩ = some (.int .i64 2) := hk.cellSome (by go_simp) (by simp)
  have c1 : w1.cell? ⟨w.heap.size, 1, none⟩ = some (.int .i64 0) := hk.cellSome (by go_simp) (by simp)
  have c2 : w1.cell? ⟨w.heap.size, 2, none⟩ = some (.string ⟨#[]⟩) := hk.cellSome (by go_simp) (by simp)
  have HK1 : Hid (Keeps [] w w1) := Keeps.trans (by exact Keeps.K) hk (fun _ _ h => h)
  clear hk
  go_wp2_with fail
  refine (HC.out _ (HT.out.k HK1.out) hs').mono ?_
  rintro e w2 ⟨rfl, hk⟩
  have d0 : w2.cell? ⟨w.heap.size, 0, none⟩ = some (.int .i64 2) := hk.cellSome (c0) (by simp)
  have d1 : w2.cell? ⟨w.heap.size, 1, none⟩ = some (.int .i64 0) := hk.cellSome (c1) (by simp)
  have d2 : w2.cell? ⟨w.heap.size, 2, none⟩ = some (.string ⟨#[]⟩) := hk.cellSome (c2) (by simp)
  have HK2 : Hid (Keeps [] w w2) := Keeps.trans HK1.out hk (fun _ _ h => h)
  clear hk c0 c1 c2
  go_wp2_with fail
  refine (HU.out _ HK2.out).mono ?_
  rintro e w3 ⟨rfl, hk⟩
  have e0 : w3.cell? ⟨w.heap.size, 0, none⟩ = some (.int .i64 2) := hk.cellSome (d0) (by simp)
  have e1 : w3.cell? ⟨w.heap.size, 1, none⟩ = some (.int .i64 0) := hk.cellSome (d1) (by simp)
  have e2 : w3.cell? ⟨w.heap.size, 2, none⟩ = some (.string ⟨#[]⟩) := hk.cellSome (d2) (by simp)
  have hz3 : w.heap.size < w3.heap.size := World.block_lt_of_cell? _ _ e0
  have HK3 : Hid (Keeps [] w w3) := Keeps.trans HK2.out hk (fun _ _ h => h)
  clear hk d0 d1 d2
  unfold valV
  go_wp2_with fail
  refine Plan.wp_region_plan (fun wx => wx.cell? ⟨w.heap.size, 0, none⟩ = some (.int .i64 2) ∧ wx.cell? ⟨w.heap.size, 1, none⟩ = some (.int .i64 0) ∧ wx.cell? ⟨w.heap.size, 2, none⟩ = some (.string ⟨#[]⟩) ∧ wx.cell? ⟨w3.heap.size, 0, none⟩ = some (.int .i64 2) ∧ wx.cell? ⟨w3.heap.size, 1, none⟩ = some (.int .i64 0) ∧ wx.cell? ⟨w3.heap.size, 2, none⟩ = some (.string ⟨#[]⟩)) 12 [(true, 0), (true, 1), (true, 2), (true, 3), (true, 4), (true, 5), (true, 6), (true, 7), (true, 8), (true, 10), (true, 11), (false, 9)] (by kernel_rfl) (by as_aux_lemma => kernel_rfl) (by kernel_rfl) (fun _ _ _ _ _ h => h) ?_ (fun hS => ?_)
  (· go_simp)
  simp only [Plan.pick, List.append_eq, List.cons_append, List.nil_append, Plan.g1, Plan.g2, Option.getD_some, List.drop_succ_cons, List.drop_zero]
  iterate 11 (first | refine Plan.tA ?_ | refine Plan.tY ?_ | refine Plan.pN ?_ | refine Plan.pU ?_ | fail)
  refine Plan.step ?_
  go_wp2_with fail
  refine (kind_yes _ ⟨2, 0, ⟨#[]⟩⟩ _ (HU.out _ (by have kk := HK3.out; exact Keeps.K))).mono ?_
  rintro e w4 ⟨rfl, hk⟩
  have f0 : w4.cell? ⟨w.heap.size, 0, none⟩ = some (.int .i64 2) := hk.cellSome (by go_simp) (by simp)
  have f1 : w4.cell? ⟨w.heap.size, 1, none⟩ = some (.int .i64 0) := hk.cellSome (by go_simp) (by simp)
  have f2 : w4.cell? ⟨w.heap.size, 2, none⟩ = some (.string ⟨#[]⟩) := hk.cellSome (by go_simp) (by simp)
  have g0 : w4.cell? ⟨w3.heap.size, 0, none⟩ = some (.int .i64 2) := hk.cellSome (by go_simp) (by simp)
  have g1 : w4.cell? ⟨w3.heap.size, 1, none⟩ = some (.int .i64 0) := hk.cellSome (by go_simp) (by simp)
  have g2 : w4.cell? ⟨w3.heap.size, 2, none⟩ = some (.string ⟨#[]⟩) := hk.cellSome (by go_simp) (by simp)
  have hz4 : w3.heap.size < w4.heap.size := World.block_lt_of_cell? _ _ g0
  have hz5 : w.heap.size < w4.heap.size := Nat.lt_trans hz3 hz4
  have HK4 : Hid (Keeps [] w w4) := Keeps.trans (by have kk := HK3.out; exact Keeps.K) hk (fun _ _ h => h)
  clear hk e0 e1 e2 hS
  go_wp2_with fail
  refine ⟨?_, ?_⟩
  (· go_simp)
  refine Plan.fin ?_
  go_wp2_with fail
  refine Plan.wp_region_plan (fun wx => wx.cell? ⟨w.heap.size, 0, none⟩ = some (.int .i64 2) ∧ wx.cell? ⟨w.heap.size, 1, none⟩ = some (.int .i64 0) ∧ wx.cell? ⟨w.heap.size, 2, none⟩ = some (.string ⟨#[]⟩) ∧ wx.cell? ⟨w4.heap.size, 0, none⟩ = some (.int .i64 0) ∧ wx.cell? ⟨w4.heap.size, 1, none⟩ = some (.int .i64 0) ∧ wx.cell? ⟨w4.heap.size, 2, none⟩ = some (.string ⟨#[]⟩)) 65 [(true, 0), (true, 1), (true, 2), (true, 3), (true, 4), (true, 5), (true, 6), (true, 7), (true, 8), (true, 9), (false, 10), (true, 11), (true, 12), (true, 13), (true, 14), (true, 15), (true, 16), (true, 17), (true, 18), (true, 19), (true, 20), (true, 21), (true, 22), (true, 23), (true, 24), (true, 25), (true, 26), (true, 27), (true, 28), (true, 29), (true, 30), (true, 31), (true, 32), (true, 33), (true, 34), (true, 35), (true, 36), (true, 37), (true, 38), (true, 39), (true, 40), (true, 41), (true, 42), (true, 43), (true, 44), (true, 45), (true, 46), (true, 47), (true, 48), (true, 49), (true, 50), (true, 51), (true, 52), (true, 53), (true, 54), (true, 55), (true, 56), (true, 57), (true, 58), (true, 59), (true, 60), (true, 61), (true, 62), (true, 63), (true, 64)] (by kernel_rfl) (by as_aux_lemma => kernel_rfl) (by kernel_rfl) (fun _ _ _ _ _ h => h) ?_ (fun hS => ?_)
  (· go_simp)
  simp only [Plan.pick, List.append_eq, List.cons_append, List.nil_append, Plan.g1, Plan.g2, Option.getD_some, List.drop_succ_cons, List.drop_zero]
  iterate 10 (first | refine Plan.tA ?_ | refine Plan.tY ?_ | refine Plan.pN ?_ | refine Plan.pU ?_ | fail)
  refine Plan.step ?_
  go_wp2_with fail
  refine (one5_no _ _).mono ?_
  rintro e w5 ⟨rfl, hw5⟩
  subst hw5
  go_wp2_with fail
  refine ⟨?_, ?_⟩
  (· go_simp)
  iterate 54 (first | refine Plan.tA ?_ | refine Plan.tY ?_ | refine Plan.pN ?_ | refine Plan.pU ?_ | fail)
  refine Plan.fin ?_
  go_wp2_with fail
  refine (awake5_any _ (HT.out.k (by have kk := HK4.out; exact Keeps.K))).mono ?_
  rintro e w6 ⟨rfl, hk⟩
  have HK6 : Hid (Keeps [] w w6) := Keeps.trans (by have kk := HK4.out; exact Keeps.K) hk (fun _ _ h => h)
  clear hk
  go_wp2_with fail
  go_ret
  exact ⟨rfl, HK6.out⟩

end Go.Proofs.YtnekkkppjofdlaaDoor
