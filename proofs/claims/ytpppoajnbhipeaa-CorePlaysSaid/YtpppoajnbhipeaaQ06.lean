/- Joined of CoreJ, CoreK, CoreY. -/
import Derived.Test.YtpppoajnbhipeaaQ05
import Derived.Test.YtpppoajnbhipeaaQ03

/- wrong: is it no message? (Printed by gen_wrong.py.) -/
namespace Go.Proofs.Ytpppoajnbhipeaa
open Go Go.RowKit

set_option maxRecDepth 100000 in
set_option maxHeartbeats 6400000 in
theorem wrong_head (w : World) (B n : Nat) (c : CoreD) (lv sv : Value) (m : MsgD) (ea da : Option Addr) (ec dc : Nat) (h : CoreAt w B n c lv sv) (hw : wrongHead c m = true) :
    Calls Try.prog 52 #[.pointer (some ⟨n, 0, none⟩), msgV m (.slice ea m.entries.length ec) (.slice da m.data.length dc)] w fun e w' => e = .returned (.bool true) ∧ Keeps [] w w' := by
  have h0 : w.cell? ⟨n, 0, none⟩ = some (.int .i64 c.conf.nodes) := h.blk.cell 0
  have h9 : w.cell? ⟨n, 9, none⟩ = some (.int .i64 c.id) := h.blk.cell 9
  have hlt := h.blk.lt
  unfold msgV
  rcases hb0 : decide (m.kind < 1) with _ | _
  rotate_left 1
  · have F0 := hid hb0
    clear h hw
    go_enter Try.func52, Try.ntmps52
    go_wp2_with fail
    refine Plan.wp_region_plan (fun wx => wx.cell? ⟨w.heap.size, 0, none⟩ = some (.int .i64 m.kind) ∧ wx.cell? ⟨w.heap.size, 1, none⟩ = some (.int .i64 m.frm) ∧ wx.cell? ⟨w.heap.size, 2, none⟩ = some (.int .i64 m.to) ∧ wx.cell? ⟨n, 9, none⟩ = some (.int .i64 c.id) ∧ wx.cell? ⟨n, 0, none⟩ = some (.int .i64 c.conf.nodes)) 35 [(true, 0), (true, 1), (true, 2), (true, 3), (true, 4), (true, 5), (true, 6), (true, 7), (true, 8), (true, 9), (true, 10), (true, 11), (true, 12), (true, 13), (true, 14), (true, 15), (true, 16), (true, 17), (true, 18), (true, 19), (true, 20), (true, 21), (true, 22), (true, 23), (true, 24), (false, 25), (true, 26), (true, 27), (true, 28), (true, 29), (true, 30), (true, 31), (true, 32), (true, 33), (true, 34)] (by kernel_rfl) (by as_aux_lemma => kernel_rfl) (by kernel_rfl) (fun _ _ _ _ _ h => h) ?_ (fun hS => ?_)
    (· go_simp)
    simp only [Plan.pick, List.append_eq, List.cons_append, List.nil_append, Plan.g1, Plan.g2, Option.getD_some, List.drop_succ_cons, List.drop_zero]
    iterate 25 (first | refine Plan.tA ?_ | refine Plan.tY ?_ | refine Plan.pN ?_ | refine Plan.pU ?_ | fail)
    refine Plan.step ?_
    go_wp2_with fail
    refine ⟨?_, ?_⟩
    (· go_simp)
    iterate 9 (first | refine Plan.tA ?_ | refine Plan.tY ?_ | refine Plan.pN ?_ | refine Plan.pU ?_ | fail)
    refine Plan.fin ?_
    go_wp2_with fail
    go_ret
    exact ⟨rfl, by exact Keeps.K⟩
  have F0 := hid hb0
  rcases hb1 : decide (5 < m.kind) with _ | _
  rotate_left 1
  · have F1 := hid hb1
    clear h hw
    go_enter Try.func52, Try.ntmps52
    go_wp2_with fail
    refine Plan.wp_region_plan (fun wx => wx.cell? ⟨w.heap.size, 0, none⟩ = some (.int .i64 m.kind) ∧ wx.cell? ⟨w.heap.size, 1, none⟩ = some (.int .i64 m.frm) ∧ wx.cell? ⟨w.heap.size, 2, none⟩ = some (.int .i64 m.to) ∧ wx.cell? ⟨n, 9, none⟩ = some (.int .i64 c.id) ∧ wx.cell? ⟨n, 0, none⟩ = some (.int .i64 c.conf.nodes)) 35 [(true, 0), (true, 1), (true, 2), (true, 3), (true, 4), (true, 5), (true, 6), (true, 7), (true, 8), (true, 9), (true, 10), (true, 11), (true, 12), (true, 13), (true, 14), (true, 15), (true, 16), (true, 17), (true, 18), (true, 19), (true, 20), (true, 21), (true, 22), (true, 23), (true, 24), (false, 25), (true, 26), (true, 27), (true, 28), (true, 29), (true, 30), (true, 31), (true, 32), (true, 33), (true, 34)] (by kernel_rfl) (by as_aux_lemma => kernel_rfl) (by kernel_rfl) (fun _ _ _ _ _ h => h) ?_ (fun hS => ?_)
    (· go_simp)
    simp only [Plan.pick, List.append_eq, List.cons_append, List.nil_append, Plan.g1, Plan.g2, Option.getD_some, List.drop_succ_cons, List.drop_zero]
    iterate 25 (first | refine Plan.tA ?_ | refine Plan.tY ?_ | refine Plan.pN ?_ | refine Plan.pU ?_ | fail)
    refine Plan.step ?_
    go_wp2_with fail
    refine ⟨?_, ?_⟩
    (· go_simp)
    iterate 9 (first | refine Plan.tA ?_ | refine Plan.tY ?_ | refine Plan.pN ?_ | refine Plan.pU ?_ | fail)
    refine Plan.fin ?_
    go_wp2_with fail
    go_ret
    exact ⟨rfl, by exact Keeps.K⟩
  have F1 := hid hb1
  rcases hb2 : m.to != c.id with _ | _
  rotate_left 1
  · have F2 := hid hb2
    clear h hw
    go_enter Try.func52, Try.ntmps52
    go_wp2_with fail
    refine Plan.wp_region_plan (fun wx => wx.cell? ⟨w.heap.size, 0, none⟩ = some (.int .i64 m.kind) ∧ wx.cell? ⟨w.heap.size, 1, none⟩ = some (.int .i64 m.frm) ∧ wx.cell? ⟨w.heap.size, 2, none⟩ = some (.int .i64 m.to) ∧ wx.cell? ⟨n, 9, none⟩ = some (.int .i64 c.id) ∧ wx.cell? ⟨n, 0, none⟩ = some (.int .i64 c.conf.nodes)) 35 [(true, 0), (true, 1), (true, 2), (true, 3), (true, 4), (true, 5), (true, 6), (true, 7), (true, 8), (true, 9), (true, 10), (true, 11), (true, 12), (true, 13), (true, 14), (true, 15), (true, 16), (true, 17), (true, 18), (true, 19), (true, 20), (true, 21), (true, 22), (true, 23), (true, 24), (false, 25), (true, 26), (true, 27), (true, 28), (true, 29), (true, 30), (true, 31), (true, 32), (true, 33), (true, 34)] (by kernel_rfl) (by as_aux_lemma => kernel_rfl) (by kernel_rfl) (fun _ _ _ _ _ h => h) ?_ (fun hS => ?_)
    (· go_simp)
    simp only [Plan.pick, List.append_eq, List.cons_append, List.nil_append, Plan.g1, Plan.g2, Option.getD_some, List.drop_succ_cons, List.drop_zero]
    iterate 25 (first | refine Plan.tA ?_ | refine Plan.tY ?_ | refine Plan.pN ?_ | refine Plan.pU ?_ | fail)
    refine Plan.step ?_
    go_wp2_with fail
    refine ⟨?_, ?_⟩
    (· go_simp)
    iterate 9 (first | refine Plan.tA ?_ | refine Plan.tY ?_ | refine Plan.pN ?_ | refine Plan.pU ?_ | fail)
    refine Plan.fin ?_
    go_wp2_with fail
    go_ret
    exact ⟨rfl, by exact Keeps.K⟩
  have F2 := hid hb2
  rcases hb3 : inD m.frm 1 c.conf.nodes with _ | _
  · have F3 := hid hb3
    clear hb3
    clear h hw
    go_enter Try.func52, Try.ntmps52
    go_wp2_with fail
    refine Plan.wp_region_plan (fun wx => wx.cell? ⟨w.heap.size, 0, none⟩ = some (.int .i64 m.kind) ∧ wx.cell? ⟨w.heap.size, 1, none⟩ = some (.int .i64 m.frm) ∧ wx.cell? ⟨w.heap.size, 2, none⟩ = some (.int .i64 m.to) ∧ wx.cell? ⟨n, 9, none⟩ = some (.int .i64 c.id) ∧ wx.cell? ⟨n, 0, none⟩ = some (.int .i64 c.conf.nodes)) 35 [(true, 0), (true, 1), (true, 2), (true, 3), (true, 4), (true, 5), (true, 6), (true, 7), (true, 8), (true, 9), (true, 10), (true, 11), (true, 12), (true, 13), (true, 14), (true, 15), (true, 16), (true, 17), (true, 18), (true, 19), (true, 20), (true, 21), (true, 22), (true, 23), (true, 24), (false, 25), (true, 26), (true, 27), (true, 28), (true, 29), (true, 30), (true, 31), (true, 32), (true, 33), (true, 34)] (by kernel_rfl) (by as_aux_lemma => kernel_rfl) (by kernel_rfl) (fun _ _ _ _ _ h => h) ?_ (fun hS => ?_)
    (· go_simp)
    simp only [Plan.pick, List.append_eq, List.cons_append, List.nil_append, Plan.g1, Plan.g2, Option.getD_some, List.drop_succ_cons, List.drop_zero]
    iterate 25 (first | refine Plan.tA ?_ | refine Plan.tY ?_ | refine Plan.pN ?_ | refine Plan.pU ?_ | fail)
    refine Plan.step ?_
    go_wp2_with fail
    refine (cin_is false _ _ _ _ F3.out).mono ?_
    rintro e w' ⟨rfl, hw'⟩
    subst hw'
    go_wp2_with fail
    refine ⟨?_, ?_⟩
    (· go_simp)
    iterate 9 (first | refine Plan.tA ?_ | refine Plan.tY ?_ | refine Plan.pN ?_ | refine Plan.pU ?_ | fail)
    refine Plan.fin ?_
    go_wp2_with fail
    go_ret
    exact ⟨rfl, by exact Keeps.K⟩
  have F3 := hid hb3
  clear hb3
  rcases hb4 : m.frm == c.id with _ | _
  rotate_left 1
  · have F4 := hid hb4
    clear h hw
    go_enter Try.func52, Try.ntmps52
    go_wp2_with fail
    refine Plan.wp_region_plan (fun wx => wx.cell? ⟨w.heap.size, 0, none⟩ = some (.int .i64 m.kind) ∧ wx.cell? ⟨w.heap.size, 1, none⟩ = some (.int .i64 m.frm) ∧ wx.cell? ⟨w.heap.size, 2, none⟩ = some (.int .i64 m.to) ∧ wx.cell? ⟨n, 9, none⟩ = some (.int .i64 c.id) ∧ wx.cell? ⟨n, 0, none⟩ = some (.int .i64 c.conf.nodes)) 35 [(true, 0), (true, 1), (true, 2), (true, 3), (true, 4), (true, 5), (true, 6), (true, 7), (true, 8), (true, 9), (true, 10), (true, 11), (true, 12), (true, 13), (true, 14), (true, 15), (true, 16), (true, 17), (true, 18), (true, 19), (true, 20), (true, 21), (true, 22), (true, 23), (true, 24), (false, 25), (true, 26), (true, 27), (true, 28), (true, 29), (true, 30), (true, 31), (true, 32), (true, 33), (true, 34)] (by kernel_rfl) (by as_aux_lemma => kernel_rfl) (by kernel_rfl) (fun _ _ _ _ _ h => h) ?_ (fun hS => ?_)
    (· go_simp)
    simp only [Plan.pick, List.append_eq, List.cons_append, List.nil_append, Plan.g1, Plan.g2, Option.getD_some, List.drop_succ_cons, List.drop_zero]
    iterate 25 (first | refine Plan.tA ?_ | refine Plan.tY ?_ | refine Plan.pN ?_ | refine Plan.pU ?_ | fail)
    refine Plan.step ?_
    go_wp2_with fail
    refine (cin_is true _ _ _ _ F3.out).mono ?_
    rintro e w' ⟨rfl, hw'⟩
    subst hw'
    go_wp2_with fail
    refine ⟨?_, ?_⟩
    (· go_simp)
    iterate 9 (first | refine Plan.tA ?_ | refine Plan.tY ?_ | refine Plan.pN ?_ | refine Plan.pU ?_ | fail)
    refine Plan.fin ?_
    go_wp2_with fail
    go_ret
    exact ⟨rfl, by exact Keeps.K⟩
  have F4 := hid hb4
  rcases hb5 : inD m.term 1 1099511627776 with _ | _
  · have F5 := hid hb5
    clear hb5
    clear h hw
    go_enter Try.func52, Try.ntmps52
    go_wp2_with fail
    refine Plan.wp_region_plan (fun wx => wx.cell? ⟨w.heap.size, 0, none⟩ = some (.int .i64 m.kind) ∧ wx.cell? ⟨w.heap.size, 1, none⟩ = some (.int .i64 m.frm) ∧ wx.cell? ⟨w.heap.size, 2, none⟩ = some (.int .i64 m.to) ∧ wx.cell? ⟨n, 9, none⟩ = some (.int .i64 c.id) ∧ wx.cell? ⟨n, 0, none⟩ = some (.int .i64 c.conf.nodes)) 35 [(true, 0), (true, 1), (true, 2), (true, 3), (true, 4), (true, 5), (true, 6), (true, 7), (true, 8), (true, 9), (true, 10), (true, 11), (true, 12), (true, 13), (true, 14), (true, 15), (true, 16), (true, 17), (true, 18), (true, 19), (true, 20), (true, 21), (true, 22), (true, 23), (true, 24), (false, 25), (true, 26), (true, 27), (true, 28), (true, 29), (true, 30), (true, 31), (true, 32), (true, 33), (true, 34)] (by kernel_rfl) (by as_aux_lemma => kernel_rfl) (by kernel_rfl) (fun _ _ _ _ _ h => h) ?_ (fun hS => ?_)
    (· go_simp)
    simp only [Plan.pick, List.append_eq, List.cons_append, List.nil_append, Plan.g1, Plan.g2, Option.getD_some, List.drop_succ_cons, List.drop_zero]
    iterate 25 (first | refine Plan.tA ?_ | refine Plan.tY ?_ | refine Plan.pN ?_ | refine Plan.pU ?_ | fail)
    refine Plan.step ?_
    go_wp2_with fail
    refine (cin_is true _ _ _ _ F3.out).mono ?_
    rintro e w' ⟨rfl, hw'⟩
    subst hw'
    go_wp2_with fail
    refine ⟨?_, ?_⟩
    (· go_simp)
    iterate 9 (first | refine Plan.tA ?_ | refine Plan.tY ?_ | refine Plan.pN ?_ | refine Plan.pU ?_ | fail)
    refine Plan.fin ?_
    go_wp2_with fail
    refine (cin_is false _ _ _ _ F5.out).mono ?_
    rintro e w' ⟨rfl, hw'⟩
    subst hw'
    go_wp2_with fail
    go_ret
    exact ⟨rfl, by exact Keeps.K⟩
  have F5 := hid hb5
  clear hb5
  rcases hb6 : inD m.a 0 1099511627776 with _ | _
  · have F6 := hid hb6
    clear hb6
    clear h hw
    go_enter Try.func52, Try.ntmps52
    go_wp2_with fail
    refine Plan.wp_region_plan (fun wx => wx.cell? ⟨w.heap.size, 0, none⟩ = some (.int .i64 m.kind) ∧ wx.cell? ⟨w.heap.size, 1, none⟩ = some (.int .i64 m.frm) ∧ wx.cell? ⟨w.heap.size, 2, none⟩ = some (.int .i64 m.to) ∧ wx.cell? ⟨n, 9, none⟩ = some (.int .i64 c.id) ∧ wx.cell? ⟨n, 0, none⟩ = some (.int .i64 c.conf.nodes)) 35 [(true, 0), (true, 1), (true, 2), (true, 3), (true, 4), (true, 5), (true, 6), (true, 7), (true, 8), (true, 9), (true, 10), (true, 11), (true, 12), (true, 13), (true, 14), (true, 15), (true, 16), (true, 17), (true, 18), (true, 19), (true, 20), (true, 21), (true, 22), (true, 23), (true, 24), (false, 25), (true, 26), (true, 27), (true, 28), (true, 29), (true, 30), (true, 31), (true, 32), (true, 33), (true, 34)] (by kernel_rfl) (by as_aux_lemma => kernel_rfl) (by kernel_rfl) (fun _ _ _ _ _ h => h) ?_ (fun hS => ?_)
    (· go_simp)
    simp only [Plan.pick, List.append_eq, List.cons_append, List.nil_append, Plan.g1, Plan.g2, Option.getD_some, List.drop_succ_cons, List.drop_zero]
    iterate 25 (first | refine Plan.tA ?_ | refine Plan.tY ?_ | refine Plan.pN ?_ | refine Plan.pU ?_ | fail)
    refine Plan.step ?_
    go_wp2_with fail
    refine (cin_is true _ _ _ _ F3.out).mono ?_
    rintro e w' ⟨rfl, hw'⟩
    subst hw'
    go_wp2_with fail
    refine ⟨?_, ?_⟩
    (· go_simp)
    iterate 9 (first | refine Plan.tA ?_ | refine Plan.tY ?_ | refine Plan.pN ?_ | refine Plan.pU ?_ | fail)
    refine Plan.fin ?_
    go_wp2_with fail
    refine (cin_is true _ _ _ _ F5.out).mono ?_
    rintro e w' ⟨rfl, hw'⟩
    subst hw'
    go_wp2_with fail
    refine (cin_is false _ _ _ _ F6.out).mono ?_
    rintro e w' ⟨rfl, hw'⟩
    subst hw'
    go_wp2_with fail
    go_ret
    exact ⟨rfl, by exact Keeps.K⟩
  have F6 := hid hb6
  clear hb6
  rcases hb7 : inD m.b 0 1099511627776 with _ | _
  · have F7 := hid hb7
    clear hb7
    clear h hw
    go_enter Try.func52, Try.ntmps52
    go_wp2_with fail
    refine Plan.wp_region_plan (fun wx => wx.cell? ⟨w.heap.size, 0, none⟩ = some (.int .i64 m.kind) ∧ wx.cell? ⟨w.heap.size, 1, none⟩ = some (.int .i64 m.frm) ∧ wx.cell? ⟨w.heap.size, 2, none⟩ = some (.int .i64 m.to) ∧ wx.cell? ⟨n, 9, none⟩ = some (.int .i64 c.id) ∧ wx.cell? ⟨n, 0, none⟩ = some (.int .i64 c.conf.nodes)) 35 [(true, 0), (true, 1), (true, 2), (true, 3), (true, 4), (true, 5), (true, 6), (true, 7), (true, 8), (true, 9), (true, 10), (true, 11), (true, 12), (true, 13), (true, 14), (true, 15), (true, 16), (true, 17), (true, 18), (true, 19), (true, 20), (true, 21), (true, 22), (true, 23), (true, 24), (false, 25), (true, 26), (true, 27), (true, 28), (true, 29), (true, 30), (true, 31), (true, 32), (true, 33), (true, 34)] (by kernel_rfl) (by as_aux_lemma => kernel_rfl) (by kernel_rfl) (fun _ _ _ _ _ h => h) ?_ (fun hS => ?_)
    (· go_simp)
    simp only [Plan.pick, List.append_eq, List.cons_append, List.nil_append, Plan.g1, Plan.g2, Option.getD_some, List.drop_succ_cons, List.drop_zero]
    iterate 25 (first | refine Plan.tA ?_ | refine Plan.tY ?_ | refine Plan.pN ?_ | refine Plan.pU ?_ | fail)
    refine Plan.step ?_
    go_wp2_with fail
    refine (cin_is true _ _ _ _ F3.out).mono ?_
    rintro e w' ⟨rfl, hw'⟩
    subst hw'
    go_wp2_with fail
    refine ⟨?_, ?_⟩
    (· go_simp)
    iterate 9 (first | refine Plan.tA ?_ | refine Plan.tY ?_ | refine Plan.pN ?_ | refine Plan.pU ?_ | fail)
    refine Plan.fin ?_
    go_wp2_with fail
    refine (cin_is true _ _ _ _ F5.out).mono ?_
    rintro e w' ⟨rfl, hw'⟩
    subst hw'
    go_wp2_with fail
    refine (cin_is true _ _ _ _ F6.out).mono ?_
    rintro e w' ⟨rfl, hw'⟩
    subst hw'
    go_wp2_with fail
    refine (cin_is false _ _ _ _ F7.out).mono ?_
    rintro e w' ⟨rfl, hw'⟩
    subst hw'
    go_wp2_with fail
    go_ret
    exact ⟨rfl, by exact Keeps.K⟩
  have F7 := hid hb7
  clear hb7
  rcases hb8 : inD m.c 0 1099511627776 with _ | _
  · have F8 := hid hb8
    clear hb8
    clear h hw
    go_enter Try.func52, Try.ntmps52
    go_wp2_with fail
    refine Plan.wp_region_plan (fun wx => wx.cell? ⟨w.heap.size, 0, none⟩ = some (.int .i64 m.kind) ∧ wx.cell? ⟨w.heap.size, 1, none⟩ = some (.int .i64 m.frm) ∧ wx.cell? ⟨w.heap.size, 2, none⟩ = some (.int .i64 m.to) ∧ wx.cell? ⟨n, 9, none⟩ = some (.int .i64 c.id) ∧ wx.cell? ⟨n, 0, none⟩ = some (.int .i64 c.conf.nodes)) 35 [(true, 0), (true, 1), (true, 2), (true, 3), (true, 4), (true, 5), (true, 6), (true, 7), (true, 8), (true, 9), (true, 10), (true, 11), (true, 12), (true, 13), (true, 14), (true, 15), (true, 16), (true, 17), (true, 18), (true, 19), (true, 20), (true, 21), (true, 22), (true, 23), (true, 24), (false, 25), (true, 26), (true, 27), (true, 28), (true, 29), (true, 30), (true, 31), (true, 32), (true, 33), (true, 34)] (by kernel_rfl) (by as_aux_lemma => kernel_rfl) (by kernel_rfl) (fun _ _ _ _ _ h => h) ?_ (fun hS => ?_)
    (· go_simp)
    simp only [Plan.pick, List.append_eq, List.cons_append, List.nil_append, Plan.g1, Plan.g2, Option.getD_some, List.drop_succ_cons, List.drop_zero]
    iterate 25 (first | refine Plan.tA ?_ | refine Plan.tY ?_ | refine Plan.pN ?_ | refine Plan.pU ?_ | fail)
    refine Plan.step ?_
    go_wp2_with fail
    refine (cin_is true _ _ _ _ F3.out).mono ?_
    rintro e w' ⟨rfl, hw'⟩
    subst hw'
    go_wp2_with fail
    refine ⟨?_, ?_⟩
    (· go_simp)
    iterate 9 (first | refine Plan.tA ?_ | refine Plan.tY ?_ | refine Plan.pN ?_ | refine Plan.pU ?_ | fail)
    refine Plan.fin ?_
    go_wp2_with fail
    refine (cin_is true _ _ _ _ F5.out).mono ?_
    rintro e w' ⟨rfl, hw'⟩
    subst hw'
    go_wp2_with fail
    refine (cin_is true _ _ _ _ F6.out).mono ?_
    rintro e w' ⟨rfl, hw'⟩
    subst hw'
    go_wp2_with fail
    refine (cin_is true _ _ _ _ F7.out).mono ?_
    rintro e w' ⟨rfl, hw'⟩
    subst hw'
    go_wp2_with fail
    refine (cin_is false _ _ _ _ F8.out).mono ?_
    rintro e w' ⟨rfl, hw'⟩
    subst hw'
    go_wp2_with fail
    go_ret
    exact ⟨rfl, by exact Keeps.K⟩
  have F8 := hid hb8
  clear hb8
  have hlen : (8 : Int) < (m.entries.length : Int) := by
    simp only [wrongHead, Bool.or_eq_true, Bool.not_eq_true', decide_eq_true_eq, F3.out, F5.out, F6.out, F7.out, F8.out, hb2, hb4] at hw
    have h3 := F3.out
    simp only [inD, Bool.and_eq_true, decide_eq_true_eq] at h3
    simp at hb0 hb1 hb2 hb4
    simp [inD] at hw
    omega
  clear h hw
  go_enter Try.func52, Try.ntmps52
  go_wp2_with fail
  refine Plan.wp_region_plan (fun wx => wx.cell? ⟨w.heap.size, 0, none⟩ = some (.int .i64 m.kind) ∧ wx.cell? ⟨w.heap.size, 1, none⟩ = some (.int .i64 m.frm) ∧ wx.cell? ⟨w.heap.size, 2, none⟩ = some (.int .i64 m.to) ∧ wx.cell? ⟨n, 9, none⟩ = some (.int .i64 c.id) ∧ wx.cell? ⟨n, 0, none⟩ = some (.int .i64 c.conf.nodes)) 35 [(true, 0), (true, 1), (true, 2), (true, 3), (true, 4), (true, 5), (true, 6), (true, 7), (true, 8), (true, 9), (true, 10), (true, 11), (true, 12), (true, 13), (true, 14), (true, 15), (true, 16), (true, 17), (true, 18), (true, 19), (true, 20), (true, 21), (true, 22), (true, 23), (true, 24), (false, 25), (true, 26), (true, 27), (true, 28), (true, 29), (true, 30), (true, 31), (true, 32), (true, 33), (true, 34)] (by kernel_rfl) (by as_aux_lemma => kernel_rfl) (by kernel_rfl) (fun _ _ _ _ _ h => h) ?_ (fun hS => ?_)
  (· go_simp)
  simp only [Plan.pick, List.append_eq, List.cons_append, List.nil_append, Plan.g1, Plan.g2, Option.getD_some, List.drop_succ_cons, List.drop_zero]
  iterate 25 (first | refine Plan.tA ?_ | refine Plan.tY ?_ | refine Plan.pN ?_ | refine Plan.pU ?_ | fail)
  refine Plan.step ?_
  go_wp2_with fail
  refine (cin_is true _ _ _ _ F3.out).mono ?_
  rintro e w' ⟨rfl, hw'⟩
  subst hw'
  go_wp2_with fail
  refine ⟨?_, ?_⟩
  (· go_simp)
  iterate 9 (first | refine Plan.tA ?_ | refine Plan.tY ?_ | refine Plan.pN ?_ | refine Plan.pU ?_ | fail)
  refine Plan.fin ?_
  go_wp2_with fail
  refine (cin_is true _ _ _ _ F5.out).mono ?_
  rintro e w' ⟨rfl, hw'⟩
  subst hw'
  go_wp2_with fail
  refine (cin_is true _ _ _ _ F6.out).mono ?_
  rintro e w' ⟨rfl, hw'⟩
  subst hw'
  go_wp2_with fail
  refine (cin_is true _ _ _ _ F7.out).mono ?_
  rintro e w' ⟨rfl, hw'⟩
  subst hw'
  go_wp2_with fail
  refine (cin_is true _ _ _ _ F8.out).mono ?_
  rintro e w' ⟨rfl, hw'⟩
  subst hw'
  go_wp2_with fail
  go_ret
  exact ⟨rfl, by exact Keeps.K⟩

end Go.Proofs.Ytpppoajnbhipeaa

/- wrong, the entries. (Printed by gen_wrong.py.) -/
namespace Go.Proofs.Ytpppoajnbhipeaa
open Go Go.RowKit

set_option maxRecDepth 100000 in
set_option maxHeartbeats 6400000 in
theorem wrong_body (w : World) (B n : Nat) (c : CoreD) (lv sv : Value) (m : MsgD) (ea da : Option Addr) (ec dc : Nat) (h : CoreAt w B n c lv sv) (P : Nat → Prop) (hl : ListAt entL w P (.slice ea m.entries.length ec) m.entries) (hw : wrongHead c m = false) :
    Calls Try.prog 52 #[.pointer (some ⟨n, 0, none⟩), msgV m (.slice ea m.entries.length ec) (.slice da m.data.length dc)] w fun e w' => e = .returned (.bool (wrongD c m)) ∧ Keeps [] w w' := by
  have h0 : w.cell? ⟨n, 0, none⟩ = some (.int .i64 c.conf.nodes) := h.blk.cell 0
  have h9 : w.cell? ⟨n, 9, none⟩ = some (.int .i64 c.id) := h.blk.cell 9
  have hlt := h.blk.lt
  have HW0 := hid hw
  have HLA := hid hl
  obtain ⟨⟨k1, k5⟩, e2, hf, e4, h5, h6, h7, h8, h9l⟩ := wrongHead_no hw
  have hb0 : decide (m.kind < 1) = false := by simpa using k1
  have hb1 : decide (5 < m.kind) = false := by simpa using k5
  have hb2 : (m.to != c.id) = false := by simpa using e2
  have hb4 : (m.frm == c.id) = false := by simpa using e4
  have F3 : Hid (inD m.frm 1 c.conf.nodes = true) := by show _ = _; simp [inD, hf]
  have F5 : Hid (inD m.term 1 1099511627776 = true) := by show _ = _; simp [inD, h5]
  have F6 : Hid (inD m.a 0 1099511627776 = true) := by show _ = _; simp [inD, h6]
  have F7 : Hid (inD m.b 0 1099511627776 = true) := by show _ = _; simp [inD, h7]
  have F8 : Hid (inD m.c 0 1099511627776 = true) := by show _ = _; simp [inD, h8]
  have hlen : (m.entries.length : Int) ≤ 8 := by omega
  clear h hl hw k1 k5 e2 hf e4 h5 h6 h7 h8 h9l
  unfold msgV
  go_enter Try.func52, Try.ntmps52
  go_wp2_with fail
  refine Plan.wp_region_plan (fun wx => wx.cell? ⟨w.heap.size, 0, none⟩ = some (.int .i64 m.kind) ∧ wx.cell? ⟨w.heap.size, 1, none⟩ = some (.int .i64 m.frm) ∧ wx.cell? ⟨w.heap.size, 2, none⟩ = some (.int .i64 m.to) ∧ wx.cell? ⟨n, 9, none⟩ = some (.int .i64 c.id) ∧ wx.cell? ⟨n, 0, none⟩ = some (.int .i64 c.conf.nodes)) 35 [(true, 0), (true, 1), (true, 2), (true, 3), (true, 4), (true, 5), (true, 6), (true, 7), (true, 8), (true, 9), (true, 10), (true, 11), (true, 12), (true, 13), (true, 14), (true, 15), (true, 16), (true, 17), (true, 18), (true, 19), (true, 20), (true, 21), (true, 22), (true, 23), (true, 24), (false, 25), (true, 26), (true, 27), (true, 28), (true, 29), (true, 30), (true, 31), (true, 32), (true, 33), (true, 34)] (by kernel_rfl) (by as_aux_lemma => kernel_rfl) (by kernel_rfl) (fun _ _ _ _ _ h => h) ?_ (fun hS => ?_)
  (· go_simp)
  simp only [Plan.pick, List.append_eq, List.cons_append, List.nil_append, Plan.g1, Plan.g2, Option.getD_some, List.drop_succ_cons, List.drop_zero]
  iterate 25 (first | refine Plan.tA ?_ | refine Plan.tY ?_ | refine Plan.pN ?_ | refine Plan.pU ?_ | fail)
  refine Plan.step ?_
  go_wp2_with fail
  refine (cin_is true _ _ _ _ F3.out).mono ?_
  rintro e w' ⟨rfl, hw'⟩
  subst hw'
  go_wp2_with fail
  refine ⟨?_, ?_⟩
  (· go_simp)
  iterate 9 (first | refine Plan.tA ?_ | refine Plan.tY ?_ | refine Plan.pN ?_ | refine Plan.pU ?_ | fail)
  refine Plan.fin ?_
  go_wp2_with fail
  refine (cin_is true _ _ _ _ F5.out).mono ?_
  rintro e w' ⟨rfl, hw'⟩
  subst hw'
  go_wp2_with fail
  refine (cin_is true _ _ _ _ F6.out).mono ?_
  rintro e w' ⟨rfl, hw'⟩
  subst hw'
  go_wp2_with fail
  refine (cin_is true _ _ _ _ F7.out).mono ?_
  rintro e w' ⟨rfl, hw'⟩
  subst hw'
  go_wp2_with fail
  refine (cin_is true _ _ _ _ F8.out).mono ?_
  rintro e w' ⟨rfl, hw'⟩
  subst hw'
  go_wp2_with fail
  have HZ : Hid (∀ k, k < m.entries.length → ∃ e, m.entries[k]? = some e) := fun k hk => ⟨m.entries[k], List.getElem?_eq_getElem hk⟩
  go_loopw [77] (fun i wr => ∃ k : Nat, k ≤ m.entries.length ∧ i = .int .i64 k ∧ wr.cell? ⟨w.heap.size, 3, none⟩ = some (.int .i64 m.term) ∧ Hid (Keeps [] w wr ∧ ∀ e ∈ m.entries.take k, inD e.term 1 m.term = true)) (fun i _ => m.entries.length - (intOf i).toNat)
  case atStart => exact ⟨0, Nat.zero_le _, rfl, by go_simp, by exact Keeps.K, by simp⟩
  case round =>
    obtain ⟨k, hk, rfl, hb3, HW⟩ := hrel
    have i0 : (0 : Int) ≤ (k : Int) := Int.natCast_nonneg _
    by_cases hlt' : k < m.entries.length
    · have i1 : (k : Int) < (m.entries.length : Int) := by omega
      obtain ⟨e, he⟩ := HZ.out k hlt'
      obtain ⟨g, off, cg, ha, hcg, hcm, hgl, hgP⟩ := (HLA.out.k HW.out.1).addr (fun hn => by rw [hn] at hlt'; simp at hlt')
      simp at ha
      obtain ⟨ha, hcc⟩ := ha
      subst ha
      subst hcc
      obtain ⟨cs, ⟨v, rfl, hbv⟩, hcs⟩ := (HLA.out.k HW.out.1).get he
      have y0 : wr.cell? ⟨g, off + k * 3, none⟩ = some (.int .i64 e.term) := hcs 0 _ rfl
      have y1 : wr.cell? ⟨g, off + k * 3 + 1, none⟩ = some (.bool e.cmd) := hcs 1 _ rfl
      have y2 : wr.cell? ⟨g, off + k * 3 + 2, none⟩ = some v := hcs 2 _ rfl
      obtain ⟨va, vc, rfl⟩ := hbv.form
      have HE := hid he
      have hbz : w.heap.size < wr.heap.size := World.block_lt_of_cell? _ _ hb3
      clear hcs hbv he hcm hcg
      rcases hq : inD e.term 1 m.term with _ | _
      · have HF : Hid (wrongD c m = true) := by
          show _ = _
          unfold wrongD
          rw [HW0.out]
          simp only [Bool.false_or, List.any_eq_true]
          exact ⟨e, List.mem_of_getElem? HE.out, by simp [hq]⟩
        have HQ := hid hq
        clear hq
        go_wp2_with fail
        refine (cin_is false _ _ _ _ HQ.out).mono ?_
        rintro z w3 ⟨rfl, hw3⟩
        subst hw3
        go_wp2_with fail
        go_ret
        exact ⟨ret_bool HF.out.symm, HW.out.1.alloc _⟩
      · have HQ := hid hq
        clear hq
        have HT : Hid (∀ x ∈ m.entries.take (k + 1), inD x.term 1 m.term = true) := by
          show ∀ _, _
          rw [List.take_add_one, HE.out]
          intro x hx
          rcases List.mem_append.1 hx with hx | hx
          · exact HW.out.2 x hx
          · simp at hx; subst hx; exact HQ.out
        go_wp2_with fail
        refine (cin_is true _ _ _ _ HQ.out).mono ?_
        rintro z w3 ⟨rfl, hw3⟩
        subst hw3
        go_wp2_with fail
        go_roundw
        case rel => exact ⟨k + 1, by omega, by go_num, by go_simp, HW.out.1.alloc _, HT.out⟩
        case measure => simp [intOf]; omega
    · have hkn : k = m.entries.length := by omega
      have HF : Hid (wrongD c m = false) := by
        show _ = _
        have h2 := HW.out.2
        rw [hkn, List.take_of_length_le (Nat.le_refl _)] at h2
        unfold wrongD
        rw [HW0.out]
        simp only [Bool.false_or, List.any_eq_false]
        intro x hx
        simp [h2 x hx]
      have hge : (m.entries.length : Int) ≤ (k : Int) := by omega
      clear hkn
      go_wp2_with fail
      go_ret
      exact ⟨ret_bool HF.out.symm, HW.out.1⟩

theorem wrong_any (w : World) (B n : Nat) (c : CoreD) (lv sv : Value) (m : MsgD) (ea da : Option Addr) (ec dc : Nat) (P : Nat → Prop) (h : CoreAt w B n c lv sv) (hl : ListAt entL w P (.slice ea m.entries.length ec) m.entries) :
    Calls Try.prog 52 #[.pointer (some ⟨n, 0, none⟩), msgV m (.slice ea m.entries.length ec) (.slice da m.data.length dc)] w fun e w' => e = .returned (.bool (wrongD c m)) ∧ Keeps [] w w' := by
  cases hw : wrongHead c m with
  | true =>
    have e : wrongD c m = true := by unfold wrongD; rw [hw]; rfl
    rw [e]
    exact wrong_head w B n c lv sv m ea da ec dc h hw
  | false => exact wrong_body w B n c lv sv m ea da ec dc h P hl hw
theorem wrong_is (r : Bool) (w : World) (B n : Nat) (c : CoreD) (lv sv : Value) (m : MsgD) (ea da : Option Addr) (ec dc : Nat) (P : Nat → Prop) (h : CoreAt w B n c lv sv) (hl : ListAt entL w P (.slice ea m.entries.length ec) m.entries) (hr : wrongD c m = r) :
    Calls Try.prog 52 #[.pointer (some ⟨n, 0, none⟩), msgV m (.slice ea m.entries.length ec) (.slice da m.data.length dc)] w fun e w' => e = .returned (.bool r) ∧ Keeps [] w w' := by
  rw [← hr]
  exact wrong_any w B n c lv sv m ea da ec dc P h hl

end Go.Proofs.Ytpppoajnbhipeaa

/- The votes that are asked for: the closure of Tick, others with it. -/
namespace Go.Proofs.Ytpppoajnbhipeaa
open Go Go.RowKit

set_option maxRecDepth 100000 in
set_option maxHeartbeats 1600000 in
theorem tick1_any (w : World) (B n pc pt : Nat) (c : CoreD) (lv sv : Value) (to tm : Int) (h : CoreAt w B n c lv sv) (hc : w.cell? ⟨pc, 0, none⟩ = some (.pointer (some ⟨n, 0, none⟩))) (ht : w.cell? ⟨pt, 0, none⟩ = some (.int .i64 tm)) :
    Calls Try.prog 64 #[.int .i64 to, .pointer (some ⟨pc, 0, none⟩), .pointer (some ⟨pt, 0, none⟩)] w fun x w' =>
      x = .returned (.agg #[.int .i64 1, .int .i64 c.id, .int .i64 to, .int .i64 c.term, .int .i64 (lastD c), .int .i64 tm, .int .i64 0, .bool false, .slice none 0 0, .slice none 0 0]) ∧ Keeps [] w w' := by
  have H := hid h
  have h9 : w.cell? ⟨n, 9, none⟩ = some (.int .i64 c.id) := h.blk.cell 9
  have h10 : w.cell? ⟨n, 10, none⟩ = some (.int .i64 c.term) := h.blk.cell 10
  have hlt := h.blk.lt
  have hpc := World.block_lt_of_cell? _ _ hc
  have hpt := World.block_lt_of_cell? _ _ ht
  simp at hpc hpt
  clear h
  go_enter Try.func64, Try.ntmps64
  go_wp2_with fail
  refine Plan.wp_region_plan (fun wx => wx.cell? ⟨pc, 0, none⟩ = some (.pointer (some ⟨n, 0, none⟩)) ∧ wx.cell? ⟨pt, 0, none⟩ = some (.int .i64 tm)) 6 [(true, 0), (true, 1), (true, 3), (true, 5), (false, 2), (true, 4)] (by kernel_rfl) (by as_aux_lemma => kernel_rfl) (by kernel_rfl) (fun _ _ _ _ _ h => h) ?_ (fun hS => ?_)
  (· go_simp)
  simp only [Plan.pick, List.append_eq, List.cons_append, List.nil_append, Plan.g1, Plan.g2, Option.getD_some, List.drop_succ_cons, List.drop_zero]
  iterate 4 (first | refine Plan.tA ?_ | refine Plan.tY ?_ | refine Plan.pN ?_ | refine Plan.pU ?_ | fail)
  refine Plan.step ?_
  go_wp2_with fail
  refine (cLast_any _ B n c lv sv (H.out.k (((Keeps.refl [] w).alloc _).drew))).mono ?_
  rintro e w' ⟨rfl, k, rfl⟩
  go_wp2_with fail
  refine ⟨?_, ?_⟩
  (· go_simp)
  iterate 1 (first | refine Plan.tA ?_ | refine Plan.tY ?_ | refine Plan.pN ?_ | refine Plan.pU ?_ | fail)
  refine Plan.fin ?_
  go_wp2_with fail
  refine (says_any _ n c.id c.term _ _ _ _ _ _ _ _ _ _ _ _ _ _ _ ?_ ?_ ?_).mono ?_
  (· go_simp)
  (· go_simp)
  (· simp; omega)
  rintro e w2 ⟨rfl, hk⟩
  obtain ⟨⟨c0, c1, c2, c3, c4, c5, c6, c7, c8, c9⟩, f3⟩ := blk10 ((hk.block w.heap.size (by simp) (by simp)).trans (heap_alloc_new w _))
  have HK := hid hk
  clear hk
  go_wp2_with fail
  refine bodyPost_ret (v := .agg #[.int .i64 1, .int .i64 c.id, .int .i64 to, .int .i64 c.term, .int .i64 (lastD c), .int .i64 tm, .int .i64 0, .bool false, .slice none 0 0, .slice none 0 0]) (by simp [results, Try.results64, go_sem, c0, c1, c2, c3, c4, c5, c6, c7, c8, c9]) rfl ⟨rfl, ?_⟩
  have K3 : Keeps [] w w2 := (((Keeps.refl [] w).alloc _).drewN _).trans HK.out (fun _ _ h => h)
  exact Keeps.K

/-- Messages in new memory. -/
def FreshMsgs (w w' : World) (v : Value) (l : List MsgD) : Prop := OwnAt msgL 40 w' w.heap.size (fun b => w.heap.size ≤ b ∧ b ∉ ownB v) v l
def MsgsPost (l : List MsgD) (w : World) (e : Ending) (w' : World) : Prop := ∃ a q, e = .returned (.slice a l.length q) ∧ FreshMsgs w w' (.slice a l.length q) l ∧ Keeps [] w w'

theorem othersTo_skip {id : Int} {k : Nat} (h : ((k : Nat) : Int) + 1 = id) : othersTo id (k + 1) = othersTo id k := by
  rw [othersTo, if_pos (by omega)]
theorem othersTo_take {id : Int} {k : Nat} (h : ¬ ((k : Nat) : Int) + 1 = id) : othersTo id (k + 1) = othersTo id k ++ [(k : Int) + 1] := by
  rw [othersTo, if_neg (by omega)]
  simp
theorem othersTo_len (id : Int) : ∀ k, (othersTo id k).length ≤ k
  | 0 => Nat.le_refl _
  | k + 1 => by
    have := othersTo_len id k
    unfold othersTo
    split
    · omega
    · simp; omega

def votMsg (c : CoreD) (tm to : Int) : MsgD := { kind := 1, frm := c.id, to := to, term := c.term, a := lastD c, b := tm, c := 0, ok := false, entries := [], data := [] }

set_option maxRecDepth 100000 in
set_option maxHeartbeats 1600000 in
theorem others_vote (w : World) (B n pc pt : Nat) (c : CoreD) (lv sv : Value) (tm : Int) (h : CoreAt w B n c lv sv) (hc : w.cell? ⟨pc, 0, none⟩ = some (.pointer (some ⟨n, 0, none⟩))) (ht : w.cell? ⟨pt, 0, none⟩ = some (.int .i64 tm)) :
    Calls Try.prog 62 #[.pointer (some ⟨n, 0, none⟩), .func (.func 64) #[] #[.pointer (some ⟨pc, 0, none⟩), .pointer (some ⟨pt, 0, none⟩)]] w (MsgsPost ((othersTo c.id c.conf.nodes.toNat).map (votMsg c tm)) w) := by
  obtain ⟨it, hi0, hz0, hz1, hz2⟩ := info_parts Try.infoMsg
  have hm := (ConfD.may_iff c.conf).1 h.ok.may
  have h0 : w.cell? ⟨n, 0, none⟩ = some (.int .i64 c.conf.nodes) := h.blk.cell 0
  have h9 : w.cell? ⟨n, 9, none⟩ = some (.int .i64 c.id) := h.blk.cell 9
  have n1 := hm.1.1
  have n2 := hm.1.2
  have H := hid h
  have HC := hid hc
  have HT := hid ht
  have HN : Hid ((c.conf.nodes.toNat : Int) = c.conf.nodes) := by show _ = _; omega
  clear hm h hc ht
  go_enter Try.func62, Try.ntmps62
  go_wp2_with fail
  go_step3
  go_wp2_with fail
  go_step3
  go_wp2_with fail
  go_loopw [5, 6] (fun v t wr => ∃ (k m : Nat) (a : Option Addr) (q : Nat), k ≤ c.conf.nodes.toNat ∧ m ≤ k ∧ v = .slice a m q ∧ t = .int .i64 ((k : Int) + 1) ∧ Hid ((othersTo c.id k).length = m ∧ FreshMsgs w wr (.slice a m q) ((othersTo c.id k).map (votMsg c tm)) ∧ Keeps [] w wr)) (fun _ t _ => (c.conf.nodes + 1 - intOf t).toNat)
  case atStart => exact ⟨0, 0, none, 0, Nat.zero_le _, Nat.le_refl _, rfl, rfl, rfl, OwnAt.nil _ _ _ _, Keeps.refl [] w⟩
  case round =>
    obtain ⟨k, m, a, q, hk, hmk, rfl, rfl, HW⟩ := hrel
    have i0 : (0 : Int) ≤ (k : Int) := Int.natCast_nonneg _
    have x0 := HW.out.2.2.cellSome h0 (by simp)
    have x9 := HW.out.2.2.cellSome h9 (by simp)
    by_cases hlt : k < c.conf.nodes.toNat
    · have hle : (k : Int) + 1 ≤ c.conf.nodes := by have := HN.out; omega
      by_cases hid' : (k : Int) + 1 = c.id
      · have HS := hid (othersTo_skip hid')
        have hb : ((k : Int) + 1 == c.id) = true := by simpa using hid'
        clear hid'
        go_wp2_with fail
        go_roundw
        case rel => exact ⟨k + 1, m, a, q, by omega, by omega, rfl, by go_num, by rw [HS.out]; exact HW.out⟩
        case measure => simp [intOf]; omega
      · have HS := hid (othersTo_take hid')
        have hb : ((k : Int) + 1 == c.id) = false := by simpa using hid'
        clear hid'
        have y1 := HW.out.2.2.cellSome HC.out (by simp)
        have y2 := HW.out.2.2.cellSome HT.out (by simp)
        have Y1 := hid y1
        have Y2 := hid y2
        clear y1 y2
        have HTL : Hid (((othersTo c.id k).map (votMsg c tm)).length = m) := by show _ = _; rw [List.length_map]; exact HW.out.1
        have HZ : Hid (w.heap.size ≤ wr.heap.size) := HW.out.2.2.size
        have hm7 : m ≤ 7 := by omega
        go_wp2_with fail
        refine (tick1_any wr B n pc pt c lv sv _ tm (H.out.k HW.out.2.2) Y1.out Y2.out).mono ?_
        rintro e w3 ⟨rfl, hk3⟩
        have K3 := hid hk3
        have HOW : Hid (OwnAt msgL 40 w3 w.heap.size (fun b => w.heap.size ≤ b ∧ b ∉ ownB (.slice a m q)) (.slice a m q) ((othersTo c.id k).map (votMsg c tm))) := OwnAt.k HW.out.2.1 hk3
        clear hk3
        go_wp2_with (at_builtin; go_must (refine wpList_append_off (L := msgL) (PB := fun _ => False) _ (by rfl) _ _ _ (by rfl) w.heap.size 40 it _ 112 Try.underlying36 hi0 hz0 hz1 hz2 rfl (R := fun b => w.heap.size ≤ b) (.slice a m q) (by rfl) ((othersTo c.id k).map (votMsg c tm)) [votMsg c tm ((k : Int) + 1)] m HTL.out [[.int .i64 1, .int .i64 c.id, .int .i64 ((k : Int) + 1), .int .i64 c.term, .int .i64 (lastD c), .int .i64 tm, .int .i64 0, .bool false, .slice none 0 0, .slice none 0 0]] (HOW.out.k ((Keeps.refl [] _).alloc _)) (.slice _ _ _) (by rfl) 1 rfl (ElemsAt.one1 ⟨_, _, rfl, ListAt.nil _ _ _ _, BytesAt.nil _ _ _ _⟩) (Reads.one1 (heap_alloc_new _ _) rfl) (by omega) (le_maxLen (by omega)) (by exact Nat.le_trans HZ.out (Nat.le_trans K3.out.size ((Keeps.refl [] _).alloc _).size)) (fun b _ hb => hb.elim) ?_; intro a4 q4 w4 ho4 hk4 hv4))
        go_roundw
        case rel =>
          refine ⟨k + 1, m + 1, a4, q4, by omega, by omega, rfl, by go_num, ?_, ?_, ?_⟩
          · rw [HS.out]; simp [HW.out.1]
          · rw [HS.out, List.map_append]; exact ho4.out
          · refine (HW.out.2.2.trans K3.out (fun _ _ h => h)).trans (((Keeps.refl _ _).alloc _).trans hk4.out (fun _ _ h => h)) (fun b hb hb' => ?_)
            have := (OwnAt.ge HOW.out b hb').1
            omega
        case measure => simp [intOf]; omega
    · have hkn : k = c.conf.nodes.toNat := by omega
      have hge : c.conf.nodes < (k : Int) + 1 := by have := HN.out; omega
      have HK := hid hkn
      clear hkn
      go_wp2_with fail
      rw [Exit.noGoto_ret]
      go_ret
      have h1 := HW.out
      rw [HK.out] at h1
      refine ⟨a, q, ?_, ?_, h1.2.2⟩
      · rw [List.length_map, h1.1]; rfl
      · rw [List.length_map, h1.1]; exact h1.2.1

end Go.Proofs.Ytpppoajnbhipeaa
