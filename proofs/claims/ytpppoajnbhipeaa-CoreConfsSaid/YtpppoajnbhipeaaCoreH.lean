/- CoreConfs, walked. -/
import Derived.Test.YtpppoajnbhipeaaCoreG
import Derived.Test.YtpppoajnbhipeaaCoreW
namespace Go.Proofs.Ytpppoajnbhipeaa
open Go Go.RowKit

theorem alike_refl (c : CoreD) : Alike c c := ⟨rfl, rfl, rfl, rfl, rfl, rfl, rfl, rfl, rfl⟩

set_option maxRecDepth 100000 in
set_option maxHeartbeats 3200000 in
theorem confs_walk (cf : ConfD) (id term vote base baseTerm : Int) (w : World) :
    Calls Try.prog 3 #[confV cf, .int .i64 id, .int .i64 term, .int .i64 vote, .int .i64 base, .int .i64 baseTerm] w fun e w' => e = .returned (.bool true) ∧ Below w.heap.size w w' := by
  unfold confV
  go_enter Try.func3, Try.ntmps3
  go_wp2_with fail
  have HX : Hid (∃ w0, w0 = w.alloc (.cells #[.int .i64 cf.nodes, .int .i64 cf.clients, .int .i64 cf.heart, .int .i64 cf.lo, .int .i64 cf.range, .int .i64 cf.sessions, .int .i64 cf.snap, .int .i64 cf.room, .int .i64 cf.retry] 23) ∧ Keeps [] w w0 ∧ w0.heap[w.heap.size]? = some (.cells #[.int .i64 cf.nodes, .int .i64 cf.clients, .int .i64 cf.heart, .int .i64 cf.lo, .int .i64 cf.range, .int .i64 cf.sessions, .int .i64 cf.snap, .int .i64 cf.room, .int .i64 cf.retry] 23 (0, 0))) := ⟨_, rfl, (Keeps.refl [] w).alloc _, heap_alloc_new w _⟩
  obtain ⟨w0, hw0, k0, hb0⟩ := HX.out
  rw [← hw0]
  have K0 := hid k0
  have HB0 := hid hb0
  obtain ⟨⟨c0, c1, c2, c3, c4, c5, c6, c7, c8⟩, _⟩ := blk9 hb0
  have ZF : Hid (∀ wx, Keeps [] w0 wx → wx.cell? ⟨w.heap.size, 0, none⟩ = some (.int .i64 cf.nodes) ∧ wx.cell? ⟨w.heap.size, 1, none⟩ = some (.int .i64 cf.clients) ∧ wx.cell? ⟨w.heap.size, 2, none⟩ = some (.int .i64 cf.heart) ∧ wx.cell? ⟨w.heap.size, 3, none⟩ = some (.int .i64 cf.lo) ∧ wx.cell? ⟨w.heap.size, 4, none⟩ = some (.int .i64 cf.range) ∧ wx.cell? ⟨w.heap.size, 5, none⟩ = some (.int .i64 cf.sessions) ∧ wx.cell? ⟨w.heap.size, 6, none⟩ = some (.int .i64 cf.snap) ∧ wx.cell? ⟨w.heap.size, 7, none⟩ = some (.int .i64 cf.room) ∧ wx.cell? ⟨w.heap.size, 8, none⟩ = some (.int .i64 cf.retry)) := fun wx k => ⟨k.cellSome c0 (by simp), k.cellSome c1 (by simp), k.cellSome c2 (by simp), k.cellSome c3 (by simp), k.cellSome c4 (by simp), k.cellSome c5 (by simp), k.cellSome c6 (by simp), k.cellSome c7 (by simp), k.cellSome c8 (by simp)⟩
  clear hw0 k0 hb0 HX c0 c1 c2 c3 c4 c5 c6 c7 c8
  refine Plan.wp_region_plan (fun wx => wx.cell? ⟨w.heap.size, 0, none⟩ = some (.int .i64 cf.nodes) ∧ wx.cell? ⟨w.heap.size, 1, none⟩ = some (.int .i64 cf.clients) ∧ wx.cell? ⟨w.heap.size, 2, none⟩ = some (.int .i64 cf.heart) ∧ wx.cell? ⟨w.heap.size, 3, none⟩ = some (.int .i64 cf.lo) ∧ wx.cell? ⟨w.heap.size, 4, none⟩ = some (.int .i64 cf.range) ∧ wx.cell? ⟨w.heap.size, 5, none⟩ = some (.int .i64 cf.sessions) ∧ wx.cell? ⟨w.heap.size, 6, none⟩ = some (.int .i64 cf.snap) ∧ wx.cell? ⟨w.heap.size, 7, none⟩ = some (.int .i64 cf.room) ∧ wx.cell? ⟨w.heap.size, 8, none⟩ = some (.int .i64 cf.retry)) 5 [(true, 0), (true, 2), (false, 1), (false, 3), (true, 4)] (by kernel_rfl) (by as_aux_lemma => kernel_rfl) (by kernel_rfl) (fun _ _ _ _ _ h => h) ?_ (fun hS => ?_)
  (· exact ZF.out _ (Keeps.refl [] w0).drew)
  simp only [Plan.pick, List.append_eq, List.cons_append, List.nil_append, List.getElem?_cons_zero, List.getElem?_cons_succ, Option.getD_some, List.drop_succ_cons, List.drop_zero]
  iterate 2 (first | (refine Plan.take (v := ?_) (a' := ?_) (Plan.want_all (by rfl)) ?_ ?_ ?_; rotate_left 2; (· (intro w' hS'; (try dsimp only at hS'); go_simp; try with_reducible rfl)); (· (simp only [Act.put, List.setIfInBounds_toArray, List.set_cons_zero, List.set_cons_succ]; try with_reducible rfl))) | (refine Plan.take (v := ?_) (a' := ?_) (Plan.want_yes (by rfl) (by rfl) (by rfl) (by rfl)) ?_ ?_ ?_; rotate_left 2; (· (intro w' hS'; (try dsimp only at hS'); go_simp; try with_reducible rfl)); (· (simp only [Act.put, List.setIfInBounds_toArray, List.set_cons_zero, List.set_cons_succ]; try with_reducible rfl))) | (refine Plan.pass (a' := ?_) (Plan.want_no (by rfl) (by rfl) (by rfl) (by rfl)) ?_ ?_; rotate_left 1; (· (simp only [Act.put, List.setIfInBounds_toArray, List.set_cons_zero, List.set_cons_succ]; try with_reducible rfl))) | (refine Plan.pass (a' := ?_) (Plan.want_un (by rfl) (by rfl) (by rfl) (by rfl)) ?_ ?_; rotate_left 1; (· (simp only [Act.put, List.setIfInBounds_toArray, List.set_cons_zero, List.set_cons_succ]; try with_reducible rfl))) | fail)
  refine Plan.step ?_
  go_wp2_with fail
  refine (cMay_any cf _).mono ?_
  rintro e w1 ⟨rfl, k1⟩
  have K1 : Hid (Keeps [] w0 w1) := (Keeps.refl [] w0).drew.trans k1 (fun _ _ h => h)
  clear k1
  go_wp2_with fail
  refine ⟨ZF.out _ K1.out, ?_⟩
  refine Plan.step ?_
  go_wp2_with fail
  refine (rMay_any cf _).mono ?_
  rintro e w2 ⟨rfl, k2⟩
  have K2 : Hid (Keeps [] w0 w2) := K1.out.trans k2 (fun _ _ h => h)
  clear k2 K1
  go_wp2_with fail
  refine ⟨ZF.out _ K2.out, ?_⟩
  iterate 1 (first | (refine Plan.take (v := ?_) (a' := ?_) (Plan.want_all (by rfl)) ?_ ?_ ?_; rotate_left 2; (· (intro w' hS'; (try dsimp only at hS'); go_simp; try with_reducible rfl)); (· (simp only [Act.put, List.setIfInBounds_toArray, List.set_cons_zero, List.set_cons_succ]; try with_reducible rfl))) | (refine Plan.take (v := ?_) (a' := ?_) (Plan.want_yes (by rfl) (by rfl) (by rfl) (by rfl)) ?_ ?_ ?_; rotate_left 2; (· (intro w' hS'; (try dsimp only at hS'); go_simp; try with_reducible rfl)); (· (simp only [Act.put, List.setIfInBounds_toArray, List.set_cons_zero, List.set_cons_succ]; try with_reducible rfl))) | (refine Plan.pass (a' := ?_) (Plan.want_no (by rfl) (by rfl) (by rfl) (by rfl)) ?_ ?_; rotate_left 1; (· (simp only [Act.put, List.setIfInBounds_toArray, List.set_cons_zero, List.set_cons_succ]; try with_reducible rfl))) | (refine Plan.pass (a' := ?_) (Plan.want_un (by rfl) (by rfl) (by rfl) (by rfl)) ?_ ?_; rotate_left 1; (· (simp only [Act.put, List.setIfInBounds_toArray, List.set_cons_zero, List.set_cons_succ]; try with_reducible rfl))) | fail)
  refine Plan.fin ?_
  obtain ⟨y0, y1, y2, y3, y4, y5, y6, y7, y8⟩ := ZF.out _ K2.out
  have KW2 : Hid (Keeps [] w w2) := K0.out.trans K2.out (fun _ _ h => h)
  have HNF : Hid (∀ e w' wx, NewPost cf id term vote base baseTerm [] wx e w' → mayNewD cf id term vote base baseTerm [] = false → NewNo wx e w') := fun e w' wx h hf => by
    rcases h with ⟨h, _⟩ | ⟨_, h⟩
    · rw [hf] at h; cases h
    · exact h
  have HRF : Hid (∀ e w' wx, RNewPost cf id term vote base baseTerm [] (fun _ => True) wx e w' → mayNewD cf id term vote base baseTerm [] = false → NewNo wx e w') := fun e w' wx h hf => by
    rcases h with ⟨h, _⟩ | ⟨_, h⟩
    · rw [hf] at h; cases h
    · exact h
  have HNT : Hid (∀ e w' wx, NewPost cf id term vote base baseTerm [] wx e w' → mayNewD cf id term vote base baseTerm [] = true → NewYes cf id term vote base baseTerm [] wx e w') := fun e w' wx h hf => by
    rcases h with ⟨_, h⟩ | ⟨h, _⟩
    · exact h
    · rw [hf] at h; cases h
  have HRT : Hid (∀ e w' wx, RNewPost cf id term vote base baseTerm [] (fun _ => True) wx e w' → mayNewD cf id term vote base baseTerm [] = true → RNewYes cf id term vote base baseTerm [] (fun _ => True) wx e w') := fun e w' wx h hf => by
    rcases h with ⟨_, h⟩ | ⟨h, _⟩
    · exact h
    · rw [hf] at h; cases h
  go_wp2_with fail
  rcases hmn : mayNewD cf id term vote base baseTerm [] with _ | _
  · have HMN := hid hmn
    clear hmn
    refine (cNew_any cf id term vote base baseTerm [] none 0 (fun _ => True) _ (ListAt.nil _ _ _ _) (by simp)).mono ?_
    rintro e w3 h3
    obtain ⟨rfl, k3⟩ := HNF.out _ _ _ h3 HMN.out
    clear h3
    have K3 : Hid (Keeps [] w0 w3) := K2.out.trans k3 (fun _ _ h => h)
    clear k3
    obtain ⟨z0, z1, z2, z3, z4, z5, z6, z7, z8⟩ := ZF.out _ K3.out
    clear y0 y1 y2 y3 y4 y5 y6 y7 y8
    go_wp2_with fail
    refine (rNew_any cf id term vote base baseTerm [] none 0 (fun _ => True) _ (ListAt.nil _ _ _ _) (by simp)).mono ?_
    rintro e w4 h4
    obtain ⟨rfl, k4⟩ := HRF.out _ _ _ h4 HMN.out
    clear h4
    have K4 : Hid (Keeps [] w w4) := (K0.out.trans K3.out (fun _ _ h => h)).trans k4 (fun _ _ h => h)
    clear k4
    go_wp2_with fail
    refine (cAwake_any _).mono ?_
    rintro e w5 ⟨rfl, k5⟩
    have K5 : Hid (Keeps [] w w5) := K4.out.trans k5 (fun _ _ h => h)
    clear k5
    go_wp2_with fail
    go_ret
    exact ⟨rfl, K5.out.below (Nat.le_refl _) (fun _ h => by cases h)⟩
  · have HMN := hid hmn
    clear hmn
    refine (cNew_any cf id term vote base baseTerm [] none 0 (fun _ => True) _ (ListAt.nil _ _ _ _) (by simp)).mono ?_
    rintro e w3 h3
    obtain ⟨n, lv, sv, rfl, hc, k3⟩ := HNT.out _ _ _ h3 HMN.out
    clear h3
    have K3 : Hid (Keeps [] w0 w3) := K2.out.trans k3 (fun _ _ h => h)
    have C3 : Hid (CoreAt w3 w.heap.size n (newD cf id term vote base baseTerm []) lv sv) := hc.lower KW2.out.size
    clear k3 hc
    obtain ⟨z0, z1, z2, z3, z4, z5, z6, z7, z8⟩ := ZF.out _ K3.out
    clear y0 y1 y2 y3 y4 y5 y6 y7 y8
    go_wp2_with fail
    refine (rNew_any cf id term vote base baseTerm [] none 0 (fun _ => True) _ (ListAt.nil _ _ _ _) (by simp)).mono ?_
    rintro e w4 h4
    obtain ⟨rn, lv', sv', rfl, hr, k4⟩ := HRT.out _ _ _ h4 HMN.out
    clear h4
    have KW3 : Hid (Keeps [] w w3) := K0.out.trans K3.out (fun _ _ h => h)
    have K4 : Hid (Keeps [] w w4) := KW3.out.trans k4 (fun _ _ h => h)
    have C4 := hid (C3.out.k k4)
    have R4 : Hid (RefAt w4 w.heap.size rn (newD cf id term vote base baseTerm []) _ lv' sv') := { blk := hr.blk, log := hr.log, snap := hr.snap, apart := hr.apart, base := Nat.le_trans KW3.out.size hr.base, ok := hr.ok }
    clear k4 hr
    go_wp2_with fail
    refine (same_any _ w.heap.size n rn _ _ lv sv lv' sv' _ C4.out R4.out (alike_refl _)).mono ?_
    rintro e w5 ⟨rfl, k5⟩
    have K5 : Hid (Keeps [] w w5) := K4.out.trans k5 (fun _ _ h => h)
    clear k5
    go_wp2_with fail
    refine (cAwake_any _).mono ?_
    rintro e w6 ⟨rfl, k6⟩
    have K6 : Hid (Keeps [] w w6) := K5.out.trans k6 (fun _ _ h => h)
    clear k6
    go_wp2_with fail
    go_ret
    exact ⟨rfl, K6.out.below (Nat.le_refl _) (fun _ h => by cases h)⟩

end Go.Proofs.Ytpppoajnbhipeaa
