/- Joined of CoreX, CoreJ. -/
import Derived.Test.YtgjiahilbmeaeaaGreatDoorQ03
import Derived.Test.YtgjiahilbmeaeaaGreatDoorQ04
set_option maxRecDepth 100000
set_option maxHeartbeats 6400000
set_option linter.unusedSimpArgs false
set_option linter.unusedVariables false
/- What a core says; Draw; rises. -/
namespace Go.Proofs.YtgjiahilbmeaeaaGreatDoor
open Go Go.RowKit
theorem says_any (w : World) (n : Nat) (id term : Int) (k f t0 tm a b c «to» : Int) (ok : Bool) (ea da : Option Addr) (el ec dl dc : Nat) (h9 : w.cell? ⟨n, 9, none⟩ = some (.int .i64 id)) (h10 : w.cell? ⟨n, 10, none⟩ = some (.int .i64 term)) (hlt : n < w.heap.size) :
 Calls Tryz.prog 137 #[.pointer (some ⟨n, 0, none⟩), .agg #[.int .i64 k, .int .i64 f, .int .i64 t0, .int .i64 tm, .int .i64 a, .int .i64 b, .int .i64 c, .bool ok, .slice ea el ec, .slice da dl dc], .int .i64 «to»] w fun x w' =>
  x = .returned (.agg #[.int .i64 k, .int .i64 id, .int .i64 «to», .int .i64 term, .int .i64 a, .int .i64 b, .int .i64 c, .bool ok, .slice ea el ec, .slice da dl dc]) ∧ Keeps [] w w' := by
 go_enter Tryz.func137, Tryz.ntmps137
 go_wp2_with fail
 refine Plan.wp_region_plan (fun wx => wx.cell? ⟨n, 9, none⟩ = some (.int .i64 id) ∧ wx.cell? ⟨n, 10, none⟩ = some (.int .i64 term)) 13 [(true, 0), (true, 1), (true, 2), (true, 3), (true, 4), (true, 5), (true, 6), (true, 7), (true, 8), (true, 9), (false, 10), (true, 11), (false, 12)] (by kernel_rfl) (by as_aux_lemma => kernel_rfl) (by kernel_rfl) (fun _ _ _ _ _ h => h) ?_ (fun hS => ?_)
 (·go_simp)
 simp only [Plan.pick, List.getElem?_cons_zero, List.getElem?_cons_succ, Option.getD_some, List.drop_succ_cons, List.drop_zero]
 iterate 10 (first | refine Plan.tA ?_ | refine Plan.tY ?_ | refine Plan.pN ?_ | refine Plan.pU ?_ | fail)
 refine Plan.step ?_
 go_wp2_with fail
 refine ⟨?_, ?_⟩
 (·go_simp)
 iterate 1 (first | refine Plan.tA ?_ | refine Plan.tY ?_ | refine Plan.pN ?_ | refine Plan.pU ?_ | fail)
 refine Plan.step ?_
 go_wp2_with fail
 refine ⟨?_, ?_⟩
 (·go_simp)
 refine Plan.fin ?_
 go_wp2_with fail
 refine bodyPost_ret (v := .agg #[.int .i64 k, .int .i64 id, .int .i64 «to», .int .i64 term, .int .i64 a, .int .i64 b, .int .i64 c, .bool ok, .slice ea el ec, .slice da dl dc]) (by simp [results, Tryz.results137, go_sem]) rfl ⟨rfl, ?_⟩
 exact Keeps.K
theorem tail_get (c : CoreD) (hv : c.votes.length = 8) (hn : c.next.length = 8) (hm : c.matc.length = 8) : (tailCells c)[24]? = some (.bool c.hard) ∧ (tailCells c)[25]? = some (.int .i64 c.frm) ∧ (tailCells c)[26]? = some (.bool c.tsnap) := by
 unfold tailCells bools ints
 refine ⟨?_, ?_, ?_⟩ <;>
 ·rw [List.getElem?_append_right (by simp; omega), List.getElem?_append_right (by simp; omega), List.getElem?_append_right (by simp; omega)]
  simp [hv, hn, hm]
theorem tail_hard (c : CoreD) (hv : c.votes.length = 8) (hn : c.next.length = 8) (hm : c.matc.length = 8) (b : Bool) : (tailCells c).set 24 (.bool b) = tailCells { c with hard := b } := by
 unfold tailCells bools ints
 rw [List.set_append_right _ _ (by simp; omega), List.set_append_right _ _ (by simp; omega), List.set_append_right _ _ (by simp; omega)]
 simp [hv, hn, hm]
theorem tail_frm (c : CoreD) (hv : c.votes.length = 8) (hn : c.next.length = 8) (hm : c.matc.length = 8) (b : Int) : (tailCells c).set 25 (.int .i64 b) = tailCells { c with frm := b } := by
 unfold tailCells bools ints
 rw [List.set_append_right _ _ (by simp; omega), List.set_append_right _ _ (by simp; omega), List.set_append_right _ _ (by simp; omega)]
 simp [hv, hn, hm]
theorem tail_tsnap (c : CoreD) (hv : c.votes.length = 8) (hn : c.next.length = 8) (hm : c.matc.length = 8) (b : Bool) : (tailCells c).set 26 (.bool b) = tailCells { c with tsnap := b } := by
 unfold tailCells bools ints
 rw [List.set_append_right _ _ (by simp; omega), List.set_append_right _ _ (by simp; omega), List.set_append_right _ _ (by simp; omega)]
 simp [hv, hn, hm]
theorem set21 (c : CoreD) (lv sv v : Value) (i : Nat) : (coreCells c lv sv).set (21 + i) v =
 .int .i64 c.conf.nodes :: .int .i64 c.conf.clients :: .int .i64 c.conf.heart :: .int .i64 c.conf.lo :: .int .i64 c.conf.range :: .int .i64 c.conf.sessions :: .int .i64 c.conf.snap :: .int .i64 c.conf.room :: .int .i64 c.conf.retry ::
 .int .i64 c.id :: .int .i64 c.term :: .int .i64 c.vote :: .int .i64 c.role :: .int .i64 c.leader :: .int .i64 c.commit :: .int .i64 c.base :: .int .i64 c.baseTerm :: lv :: sv :: .int .i64 c.draw :: .int .i64 c.patience :: (tailCells c).set i v := by
 unfold coreCells
 rw [show 21 + i = i + 21 by omega]
 rfl
theorem get21 (c : CoreD) (lv sv : Value) (i : Nat) : (coreCells c lv sv)[21 + i]? = (tailCells c)[i]? := by
 unfold coreCells
 rw [show 21 + i = i + 21 by omega]
 rfl
theorem risesD_ok {c : CoreD} {t v : Int} (h : CoreOk c) (ht : 0 ≤ t ∧ t ≤ 1099511627776) : CoreOk (risesD c t v) :=
 { may := h.may, id := h.id, term := ht, base := h.base, baseTerm := h.baseTerm, len := h.len, last := h.last, commit := h.commit, draw := h.draw, votes := h.votes, next := h.next, matc := h.matc, nexts := h.nexts, matcs := h.matcs, ents := h.ents, frm := h.frm, data := h.data, snap := h.snap }
theorem rises_any (w : World) (B n : Nat) (c : CoreD) (lv sv : Value) (t v : Int) (h : CoreAt w B n c lv sv) (ht : 0 ≤ t ∧ t ≤ 1099511627776) :
 Calls Tryz.prog 66 #[.pointer (some ⟨n, 0, none⟩), .int .i64 t, .int .i64 v] w fun e w' => e = .returned (.tuple #[]) ∧ CoreAt w' B n (risesD c t v) lv sv ∧ Keeps [n] w w' := by
 obtain ⟨t24, _, _⟩ := tail_get c h.ok.votes h.ok.next h.ok.matc
 have h10 : w.cell? ⟨n, 10, none⟩ = some (.int .i64 c.term) := h.blk.cell 10
 have h11 : w.cell? ⟨n, 11, none⟩ = some (.int .i64 c.vote) := h.blk.cell 11
 have h45 : w.cell? ⟨n, 45, none⟩ = some (.bool c.hard) := (h.blk.cell 45).trans ((get21 c lv sv 24).trans t24)
 have f10 : w.frozen? ⟨n, 10, none⟩ = false := h.blk.free 10
 have f11 : w.frozen? ⟨n, 11, none⟩ = false := h.blk.free 11
 have f45 : w.frozen? ⟨n, 45, none⟩ = false := h.blk.free 45
 have HD : Hid (∀ b, b = (c.hard || t != c.term || v != c.vote) → CoreAt (((w.setCell ⟨n, 45, none⟩ (.bool b)).setCell ⟨n, 10, none⟩ (.int .i64 t)).setCell ⟨n, 11, none⟩ (.int .i64 v)) B n (risesD c t v) lv sv ∧ Keeps [n] w (((w.setCell ⟨n, 45, none⟩ (.bool b)).setCell ⟨n, 10, none⟩ (.int .i64 t)).setCell ⟨n, 11, none⟩ (.int .i64 v))) := fun b hb => by
  have k : Keeps [n] w (((w.setCell ⟨n, 45, none⟩ (.bool b)).setCell ⟨n, 10, none⟩ (.int .i64 t)).setCell ⟨n, 11, none⟩ (.int .i64 v)) := (((Keeps.refl _ _).setCell (.inl (by simp)) _).setCell (.inl (by simp)) _).setCell (.inl (by simp)) _
  have b1 : CoreBlk (w.setCell ⟨n, 45, none⟩ (.bool b)) n { c with hard := b } lv sv := h.blk.set 45 _ (by rw [show 45 = 21 + 24 from rfl, set21, tail_hard c h.ok.votes h.ok.next h.ok.matc]; rfl)
  have b2 : CoreBlk ((w.setCell ⟨n, 45, none⟩ (.bool b)).setCell ⟨n, 10, none⟩ (.int .i64 t)) n { c with hard := b, term := t } lv sv := b1.set 10 _ rfl
  have b3 : CoreBlk (((w.setCell ⟨n, 45, none⟩ (.bool b)).setCell ⟨n, 10, none⟩ (.int .i64 t)).setCell ⟨n, 11, none⟩ (.int .i64 v)) n { c with hard := b, term := t, vote := v } lv sv := b2.set 11 _ rfl
  subst hb
  exact ⟨h.wrote k b3 rfl rfl (risesD_ok h.ok ht), k⟩
 clear h t24
 rcases hh : c.hard with _ | _
 ·rw [hh] at h45 HD
  by_cases g1 : t = c.term
  ·subst g1
   by_cases g2 : v = c.vote
   ·subst g2
    clear hh
    go_enter Tryz.func66, Tryz.ntmps66
    go_wp2
    exact bodyPost_end (by simp [results, Tryz.results66, go_sem]) rfl ⟨rfl, HD.out _ (by simp)⟩
   ·clear hh
    have g3 : (v != c.vote) = true := by simpa using g2
    have HD' := hid (HD.out true (by simp [g2]))
    go_enter Tryz.func66, Tryz.ntmps66
    go_wp2
    exact bodyPost_end (by simp [results, Tryz.results66, go_sem]) rfl ⟨rfl, HD'.out⟩
  ·clear hh
   have g3 : (t != c.term) = true := by simpa using g1
   have HD' := hid (HD.out true (by simp [g1]))
   go_enter Tryz.func66, Tryz.ntmps66
   go_wp2
   exact bodyPost_end (by simp [results, Tryz.results66, go_sem]) rfl ⟨rfl, HD'.out⟩
 ·rw [hh] at h45 HD
  clear hh
  have HD' := hid (HD.out true (by simp))
  go_enter Tryz.func66, Tryz.ntmps66
  go_wp2
  exact bodyPost_end (by simp [results, Tryz.results66, go_sem]) rfl ⟨rfl, HD'.out⟩
theorem wrong_head (w : World) (B n : Nat) (c : CoreD) (lv sv : Value) (m : MsgD) (ea da : Option Addr) (ec dc : Nat) (h : CoreAt w B n c lv sv) (hw : wrongHead c m = true) :
 Calls Tryz.prog 65 #[.pointer (some ⟨n, 0, none⟩), msgV m (.slice ea m.entries.length ec) (.slice da m.data.length dc)] w fun e w' => e = .returned (.bool true) ∧ Keeps [] w w' := by
 have h0 : w.cell? ⟨n, 0, none⟩ = some (.int .i64 c.conf.nodes) := h.blk.cell 0
 have h9 : w.cell? ⟨n, 9, none⟩ = some (.int .i64 c.id) := h.blk.cell 9
 have hlt := h.blk.lt
 unfold msgV
 rcases hb0 : decide (m.kind < 1) with _ | _
 rotate_left 1
 ·have F0 := hid hb0
  clear h hw
  go_enter Tryz.func65, Tryz.ntmps65
  go_wp2_with fail
  refine Plan.wp_region_plan (fun wx => wx.cell? ⟨w.heap.size, 0, none⟩ = some (.int .i64 m.kind) ∧ wx.cell? ⟨w.heap.size, 1, none⟩ = some (.int .i64 m.frm) ∧ wx.cell? ⟨w.heap.size, 2, none⟩ = some (.int .i64 m.«to») ∧ wx.cell? ⟨n, 9, none⟩ = some (.int .i64 c.id) ∧ wx.cell? ⟨n, 0, none⟩ = some (.int .i64 c.conf.nodes)) 35 [(true, 0), (true, 1), (true, 2), (true, 3), (true, 4), (true, 5), (true, 6), (true, 7), (true, 8), (true, 9), (true, 10), (true, 11), (true, 12), (true, 13), (true, 14), (true, 15), (true, 16), (true, 17), (true, 18), (true, 19), (true, 20), (true, 21), (true, 22), (true, 23), (true, 24), (false, 25), (true, 26), (true, 27), (true, 28), (true, 29), (true, 30), (true, 31), (true, 32), (true, 33), (true, 34)] (by kernel_rfl) (by as_aux_lemma => kernel_rfl) (by kernel_rfl) (fun _ _ _ _ _ h => h) ?_ (fun hS => ?_)
  (·go_simp)
  simp only [Plan.pick, List.append_eq, List.cons_append, List.nil_append, Plan.g1, Plan.g2, Option.getD_some, List.drop_succ_cons, List.drop_zero]
  iterate 25 (first | refine Plan.tA ?_ | refine Plan.tY ?_ | refine Plan.pN ?_ | refine Plan.pU ?_ | fail)
  refine Plan.step ?_
  go_wp2_with fail
  refine ⟨?_, ?_⟩
  (·go_simp)
  iterate 9 (first | refine Plan.tA ?_ | refine Plan.tY ?_ | refine Plan.pN ?_ | refine Plan.pU ?_ | fail)
  refine Plan.fin ?_
  go_wp2_with fail
  go_ret
  exact ⟨rfl, by exact Keeps.K⟩
 have F0 := hid hb0
 rcases hb1 : decide (5 < m.kind) with _ | _
 rotate_left 1
 ·have F1 := hid hb1
  clear h hw
  go_enter Tryz.func65, Tryz.ntmps65
  go_wp2_with fail
  refine Plan.wp_region_plan (fun wx => wx.cell? ⟨w.heap.size, 0, none⟩ = some (.int .i64 m.kind) ∧ wx.cell? ⟨w.heap.size, 1, none⟩ = some (.int .i64 m.frm) ∧ wx.cell? ⟨w.heap.size, 2, none⟩ = some (.int .i64 m.«to») ∧ wx.cell? ⟨n, 9, none⟩ = some (.int .i64 c.id) ∧ wx.cell? ⟨n, 0, none⟩ = some (.int .i64 c.conf.nodes)) 35 [(true, 0), (true, 1), (true, 2), (true, 3), (true, 4), (true, 5), (true, 6), (true, 7), (true, 8), (true, 9), (true, 10), (true, 11), (true, 12), (true, 13), (true, 14), (true, 15), (true, 16), (true, 17), (true, 18), (true, 19), (true, 20), (true, 21), (true, 22), (true, 23), (true, 24), (false, 25), (true, 26), (true, 27), (true, 28), (true, 29), (true, 30), (true, 31), (true, 32), (true, 33), (true, 34)] (by kernel_rfl) (by as_aux_lemma => kernel_rfl) (by kernel_rfl) (fun _ _ _ _ _ h => h) ?_ (fun hS => ?_)
  (·go_simp)
  simp only [Plan.pick, List.append_eq, List.cons_append, List.nil_append, Plan.g1, Plan.g2, Option.getD_some, List.drop_succ_cons, List.drop_zero]
  iterate 25 (first | refine Plan.tA ?_ | refine Plan.tY ?_ | refine Plan.pN ?_ | refine Plan.pU ?_ | fail)
  refine Plan.step ?_
  go_wp2_with fail
  refine ⟨?_, ?_⟩
  (·go_simp)
  iterate 9 (first | refine Plan.tA ?_ | refine Plan.tY ?_ | refine Plan.pN ?_ | refine Plan.pU ?_ | fail)
  refine Plan.fin ?_
  go_wp2_with fail
  go_ret
  exact ⟨rfl, by exact Keeps.K⟩
 have F1 := hid hb1
 rcases hb2 : m.«to» != c.id with _ | _
 rotate_left 1
 ·have F2 := hid hb2
  clear h hw
  go_enter Tryz.func65, Tryz.ntmps65
  go_wp2_with fail
  refine Plan.wp_region_plan (fun wx => wx.cell? ⟨w.heap.size, 0, none⟩ = some (.int .i64 m.kind) ∧ wx.cell? ⟨w.heap.size, 1, none⟩ = some (.int .i64 m.frm) ∧ wx.cell? ⟨w.heap.size, 2, none⟩ = some (.int .i64 m.«to») ∧ wx.cell? ⟨n, 9, none⟩ = some (.int .i64 c.id) ∧ wx.cell? ⟨n, 0, none⟩ = some (.int .i64 c.conf.nodes)) 35 [(true, 0), (true, 1), (true, 2), (true, 3), (true, 4), (true, 5), (true, 6), (true, 7), (true, 8), (true, 9), (true, 10), (true, 11), (true, 12), (true, 13), (true, 14), (true, 15), (true, 16), (true, 17), (true, 18), (true, 19), (true, 20), (true, 21), (true, 22), (true, 23), (true, 24), (false, 25), (true, 26), (true, 27), (true, 28), (true, 29), (true, 30), (true, 31), (true, 32), (true, 33), (true, 34)] (by kernel_rfl) (by as_aux_lemma => kernel_rfl) (by kernel_rfl) (fun _ _ _ _ _ h => h) ?_ (fun hS => ?_)
  (·go_simp)
  simp only [Plan.pick, List.append_eq, List.cons_append, List.nil_append, Plan.g1, Plan.g2, Option.getD_some, List.drop_succ_cons, List.drop_zero]
  iterate 25 (first | refine Plan.tA ?_ | refine Plan.tY ?_ | refine Plan.pN ?_ | refine Plan.pU ?_ | fail)
  refine Plan.step ?_
  go_wp2_with fail
  refine ⟨?_, ?_⟩
  (·go_simp)
  iterate 9 (first | refine Plan.tA ?_ | refine Plan.tY ?_ | refine Plan.pN ?_ | refine Plan.pU ?_ | fail)
  refine Plan.fin ?_
  go_wp2_with fail
  go_ret
  exact ⟨rfl, by exact Keeps.K⟩
 have F2 := hid hb2
 rcases hb3 : inD m.frm 1 c.conf.nodes with _ | _
 ·have F3 := hid hb3
  clear hb3
  clear h hw
  go_enter Tryz.func65, Tryz.ntmps65
  go_wp2_with fail
  refine Plan.wp_region_plan (fun wx => wx.cell? ⟨w.heap.size, 0, none⟩ = some (.int .i64 m.kind) ∧ wx.cell? ⟨w.heap.size, 1, none⟩ = some (.int .i64 m.frm) ∧ wx.cell? ⟨w.heap.size, 2, none⟩ = some (.int .i64 m.«to») ∧ wx.cell? ⟨n, 9, none⟩ = some (.int .i64 c.id) ∧ wx.cell? ⟨n, 0, none⟩ = some (.int .i64 c.conf.nodes)) 35 [(true, 0), (true, 1), (true, 2), (true, 3), (true, 4), (true, 5), (true, 6), (true, 7), (true, 8), (true, 9), (true, 10), (true, 11), (true, 12), (true, 13), (true, 14), (true, 15), (true, 16), (true, 17), (true, 18), (true, 19), (true, 20), (true, 21), (true, 22), (true, 23), (true, 24), (false, 25), (true, 26), (true, 27), (true, 28), (true, 29), (true, 30), (true, 31), (true, 32), (true, 33), (true, 34)] (by kernel_rfl) (by as_aux_lemma => kernel_rfl) (by kernel_rfl) (fun _ _ _ _ _ h => h) ?_ (fun hS => ?_)
  (·go_simp)
  simp only [Plan.pick, List.append_eq, List.cons_append, List.nil_append, Plan.g1, Plan.g2, Option.getD_some, List.drop_succ_cons, List.drop_zero]
  iterate 25 (first | refine Plan.tA ?_ | refine Plan.tY ?_ | refine Plan.pN ?_ | refine Plan.pU ?_ | fail)
  refine Plan.step ?_
  go_wp2_with fail
  refine (cin_is false _ _ _ _ F3.out).mono ?_
  rintro e w' ⟨rfl, hw'⟩
  subst hw'
  go_wp2_with fail
  refine ⟨?_, ?_⟩
  (·go_simp)
  iterate 9 (first | refine Plan.tA ?_ | refine Plan.tY ?_ | refine Plan.pN ?_ | refine Plan.pU ?_ | fail)
  refine Plan.fin ?_
  go_wp2_with fail
  go_ret
  exact ⟨rfl, by exact Keeps.K⟩
 have F3 := hid hb3
 clear hb3
 rcases hb4 : m.frm == c.id with _ | _
 rotate_left 1
 ·have F4 := hid hb4
  clear h hw
  go_enter Tryz.func65, Tryz.ntmps65
  go_wp2_with fail
  refine Plan.wp_region_plan (fun wx => wx.cell? ⟨w.heap.size, 0, none⟩ = some (.int .i64 m.kind) ∧ wx.cell? ⟨w.heap.size, 1, none⟩ = some (.int .i64 m.frm) ∧ wx.cell? ⟨w.heap.size, 2, none⟩ = some (.int .i64 m.«to») ∧ wx.cell? ⟨n, 9, none⟩ = some (.int .i64 c.id) ∧ wx.cell? ⟨n, 0, none⟩ = some (.int .i64 c.conf.nodes)) 35 [(true, 0), (true, 1), (true, 2), (true, 3), (true, 4), (true, 5), (true, 6), (true, 7), (true, 8), (true, 9), (true, 10), (true, 11), (true, 12), (true, 13), (true, 14), (true, 15), (true, 16), (true, 17), (true, 18), (true, 19), (true, 20), (true, 21), (true, 22), (true, 23), (true, 24), (false, 25), (true, 26), (true, 27), (true, 28), (true, 29), (true, 30), (true, 31), (true, 32), (true, 33), (true, 34)] (by kernel_rfl) (by as_aux_lemma => kernel_rfl) (by kernel_rfl) (fun _ _ _ _ _ h => h) ?_ (fun hS => ?_)
  (·go_simp)
  simp only [Plan.pick, List.append_eq, List.cons_append, List.nil_append, Plan.g1, Plan.g2, Option.getD_some, List.drop_succ_cons, List.drop_zero]
  iterate 25 (first | refine Plan.tA ?_ | refine Plan.tY ?_ | refine Plan.pN ?_ | refine Plan.pU ?_ | fail)
  refine Plan.step ?_
  go_wp2_with fail
  refine (cin_is true _ _ _ _ F3.out).mono ?_
  rintro e w' ⟨rfl, hw'⟩
  subst hw'
  go_wp2_with fail
  refine ⟨?_, ?_⟩
  (·go_simp)
  iterate 9 (first | refine Plan.tA ?_ | refine Plan.tY ?_ | refine Plan.pN ?_ | refine Plan.pU ?_ | fail)
  refine Plan.fin ?_
  go_wp2_with fail
  go_ret
  exact ⟨rfl, by exact Keeps.K⟩
 have F4 := hid hb4
 rcases hb5 : inD m.term 1 1099511627776 with _ | _
 ·have F5 := hid hb5
  clear hb5
  clear h hw
  go_enter Tryz.func65, Tryz.ntmps65
  go_wp2_with fail
  refine Plan.wp_region_plan (fun wx => wx.cell? ⟨w.heap.size, 0, none⟩ = some (.int .i64 m.kind) ∧ wx.cell? ⟨w.heap.size, 1, none⟩ = some (.int .i64 m.frm) ∧ wx.cell? ⟨w.heap.size, 2, none⟩ = some (.int .i64 m.«to») ∧ wx.cell? ⟨n, 9, none⟩ = some (.int .i64 c.id) ∧ wx.cell? ⟨n, 0, none⟩ = some (.int .i64 c.conf.nodes)) 35 [(true, 0), (true, 1), (true, 2), (true, 3), (true, 4), (true, 5), (true, 6), (true, 7), (true, 8), (true, 9), (true, 10), (true, 11), (true, 12), (true, 13), (true, 14), (true, 15), (true, 16), (true, 17), (true, 18), (true, 19), (true, 20), (true, 21), (true, 22), (true, 23), (true, 24), (false, 25), (true, 26), (true, 27), (true, 28), (true, 29), (true, 30), (true, 31), (true, 32), (true, 33), (true, 34)] (by kernel_rfl) (by as_aux_lemma => kernel_rfl) (by kernel_rfl) (fun _ _ _ _ _ h => h) ?_ (fun hS => ?_)
  (·go_simp)
  simp only [Plan.pick, List.append_eq, List.cons_append, List.nil_append, Plan.g1, Plan.g2, Option.getD_some, List.drop_succ_cons, List.drop_zero]
  iterate 25 (first | refine Plan.tA ?_ | refine Plan.tY ?_ | refine Plan.pN ?_ | refine Plan.pU ?_ | fail)
  refine Plan.step ?_
  go_wp2_with fail
  refine (cin_is true _ _ _ _ F3.out).mono ?_
  rintro e w' ⟨rfl, hw'⟩
  subst hw'
  go_wp2_with fail
  refine ⟨?_, ?_⟩
  (·go_simp)
  iterate 9 (first | refine Plan.tA ?_ | refine Plan.tY ?_ | refine Plan.pN ?_ | refine Plan.pU ?_ | fail)
  refine Plan.fin ?_
  go_wp2_with fail
  refine (cin_is false _ _ _ _ F5.out).mono ?_
  rintro e w' ⟨rfl, hw'⟩
  subst hw'
  go_wp2_with fail
  go_ret
  exact ⟨rfl, by exact Keeps.K⟩
 have F5 := hid hb5
 clear hb5
 rcases hb6 : inD m.a 0 1099511627776 with _ | _
 ·have F6 := hid hb6
  clear hb6
  clear h hw
  go_enter Tryz.func65, Tryz.ntmps65
  go_wp2_with fail
  refine Plan.wp_region_plan (fun wx => wx.cell? ⟨w.heap.size, 0, none⟩ = some (.int .i64 m.kind) ∧ wx.cell? ⟨w.heap.size, 1, none⟩ = some (.int .i64 m.frm) ∧ wx.cell? ⟨w.heap.size, 2, none⟩ = some (.int .i64 m.«to») ∧ wx.cell? ⟨n, 9, none⟩ = some (.int .i64 c.id) ∧ wx.cell? ⟨n, 0, none⟩ = some (.int .i64 c.conf.nodes)) 35 [(true, 0), (true, 1), (true, 2), (true, 3), (true, 4), (true, 5), (true, 6), (true, 7), (true, 8), (true, 9), (true, 10), (true, 11), (true, 12), (true, 13), (true, 14), (true, 15), (true, 16), (true, 17), (true, 18), (true, 19), (true, 20), (true, 21), (true, 22), (true, 23), (true, 24), (false, 25), (true, 26), (true, 27), (true, 28), (true, 29), (true, 30), (true, 31), (true, 32), (true, 33), (true, 34)] (by kernel_rfl) (by as_aux_lemma => kernel_rfl) (by kernel_rfl) (fun _ _ _ _ _ h => h) ?_ (fun hS => ?_)
  (·go_simp)
  simp only [Plan.pick, List.append_eq, List.cons_append, List.nil_append, Plan.g1, Plan.g2, Option.getD_some, List.drop_succ_cons, List.drop_zero]
  iterate 25 (first | refine Plan.tA ?_ | refine Plan.tY ?_ | refine Plan.pN ?_ | refine Plan.pU ?_ | fail)
  refine Plan.step ?_
  go_wp2_with fail
  refine (cin_is true _ _ _ _ F3.out).mono ?_
  rintro e w' ⟨rfl, hw'⟩
  subst hw'
  go_wp2_with fail
  refine ⟨?_, ?_⟩
  (·go_simp)
  iterate 9 (first | refine Plan.tA ?_ | refine Plan.tY ?_ | refine Plan.pN ?_ | refine Plan.pU ?_ | fail)
  refine Plan.fin ?_
  go_wp2_with fail
  refine (cin_is true _ _ _ _ F5.out).mono ?_
  rintro e w' ⟨rfl, hw'⟩
  subst hw'
  go_wp2_with fail
  refine (cin_is false _ _ _ _ F6.out).mono ?_
  rintro e w' ⟨rfl, hw'⟩
  subst hw'
  go_wp2_with fail
  go_ret
  exact ⟨rfl, by exact Keeps.K⟩
 have F6 := hid hb6
 clear hb6
 rcases hb7 : inD m.b 0 1099511627776 with _ | _
 ·have F7 := hid hb7
  clear hb7
  clear h hw
  go_enter Tryz.func65, Tryz.ntmps65
  go_wp2_with fail
  refine Plan.wp_region_plan (fun wx => wx.cell? ⟨w.heap.size, 0, none⟩ = some (.int .i64 m.kind) ∧ wx.cell? ⟨w.heap.size, 1, none⟩ = some (.int .i64 m.frm) ∧ wx.cell? ⟨w.heap.size, 2, none⟩ = some (.int .i64 m.«to») ∧ wx.cell? ⟨n, 9, none⟩ = some (.int .i64 c.id) ∧ wx.cell? ⟨n, 0, none⟩ = some (.int .i64 c.conf.nodes)) 35 [(true, 0), (true, 1), (true, 2), (true, 3), (true, 4), (true, 5), (true, 6), (true, 7), (true, 8), (true, 9), (true, 10), (true, 11), (true, 12), (true, 13), (true, 14), (true, 15), (true, 16), (true, 17), (true, 18), (true, 19), (true, 20), (true, 21), (true, 22), (true, 23), (true, 24), (false, 25), (true, 26), (true, 27), (true, 28), (true, 29), (true, 30), (true, 31), (true, 32), (true, 33), (true, 34)] (by kernel_rfl) (by as_aux_lemma => kernel_rfl) (by kernel_rfl) (fun _ _ _ _ _ h => h) ?_ (fun hS => ?_)
  (·go_simp)
  simp only [Plan.pick, List.append_eq, List.cons_append, List.nil_append, Plan.g1, Plan.g2, Option.getD_some, List.drop_succ_cons, List.drop_zero]
  iterate 25 (first | refine Plan.tA ?_ | refine Plan.tY ?_ | refine Plan.pN ?_ | refine Plan.pU ?_ | fail)
  refine Plan.step ?_
  go_wp2_with fail
  refine (cin_is true _ _ _ _ F3.out).mono ?_
  rintro e w' ⟨rfl, hw'⟩
  subst hw'
  go_wp2_with fail
  refine ⟨?_, ?_⟩
  (·go_simp)
  iterate 9 (first | refine Plan.tA ?_ | refine Plan.tY ?_ | refine Plan.pN ?_ | refine Plan.pU ?_ | fail)
  refine Plan.fin ?_
  go_wp2_with fail
  refine (cin_is true _ _ _ _ F5.out).mono ?_
  rintro e w' ⟨rfl, hw'⟩
  subst hw'
  go_wp2_with fail
  refine (cin_is true _ _ _ _ F6.out).mono ?_
  rintro e w' ⟨rfl, hw'⟩
  subst hw'
  go_wp2_with fail
  refine (cin_is false _ _ _ _ F7.out).mono ?_
  rintro e w' ⟨rfl, hw'⟩
  subst hw'
  go_wp2_with fail
  go_ret
  exact ⟨rfl, by exact Keeps.K⟩
 have F7 := hid hb7
 clear hb7
 rcases hb8 : inD m.c 0 1099511627776 with _ | _
 ·have F8 := hid hb8
  clear hb8
  clear h hw
  go_enter Tryz.func65, Tryz.ntmps65
  go_wp2_with fail
  refine Plan.wp_region_plan (fun wx => wx.cell? ⟨w.heap.size, 0, none⟩ = some (.int .i64 m.kind) ∧ wx.cell? ⟨w.heap.size, 1, none⟩ = some (.int .i64 m.frm) ∧ wx.cell? ⟨w.heap.size, 2, none⟩ = some (.int .i64 m.«to») ∧ wx.cell? ⟨n, 9, none⟩ = some (.int .i64 c.id) ∧ wx.cell? ⟨n, 0, none⟩ = some (.int .i64 c.conf.nodes)) 35 [(true, 0), (true, 1), (true, 2), (true, 3), (true, 4), (true, 5), (true, 6), (true, 7), (true, 8), (true, 9), (true, 10), (true, 11), (true, 12), (true, 13), (true, 14), (true, 15), (true, 16), (true, 17), (true, 18), (true, 19), (true, 20), (true, 21), (true, 22), (true, 23), (true, 24), (false, 25), (true, 26), (true, 27), (true, 28), (true, 29), (true, 30), (true, 31), (true, 32), (true, 33), (true, 34)] (by kernel_rfl) (by as_aux_lemma => kernel_rfl) (by kernel_rfl) (fun _ _ _ _ _ h => h) ?_ (fun hS => ?_)
  (·go_simp)
  simp only [Plan.pick, List.append_eq, List.cons_append, List.nil_append, Plan.g1, Plan.g2, Option.getD_some, List.drop_succ_cons, List.drop_zero]
  iterate 25 (first | refine Plan.tA ?_ | refine Plan.tY ?_ | refine Plan.pN ?_ | refine Plan.pU ?_ | fail)
  refine Plan.step ?_
  go_wp2_with fail
  refine (cin_is true _ _ _ _ F3.out).mono ?_
  rintro e w' ⟨rfl, hw'⟩
  subst hw'
  go_wp2_with fail
  refine ⟨?_, ?_⟩
  (·go_simp)
  iterate 9 (first | refine Plan.tA ?_ | refine Plan.tY ?_ | refine Plan.pN ?_ | refine Plan.pU ?_ | fail)
  refine Plan.fin ?_
  go_wp2_with fail
  refine (cin_is true _ _ _ _ F5.out).mono ?_
  rintro e w' ⟨rfl, hw'⟩
  subst hw'
  go_wp2_with fail
  refine (cin_is true _ _ _ _ F6.out).mono ?_
  rintro e w' ⟨rfl, hw'⟩
  subst hw'
  go_wp2_with fail
  refine (cin_is true _ _ _ _ F7.out).mono ?_
  rintro e w' ⟨rfl, hw'⟩
  subst hw'
  go_wp2_with fail
  refine (cin_is false _ _ _ _ F8.out).mono ?_
  rintro e w' ⟨rfl, hw'⟩
  subst hw'
  go_wp2_with fail
  go_ret
  exact ⟨rfl, by exact Keeps.K⟩
 have F8 := hid hb8
 clear hb8
 have hlen : (8 : Int) < (m.entries.length : Int) := by
  simp only [wrongHead, Bool.or_eq_true, Bool.not_eq_true', decide_eq_true_eq, F3.out, F5.out, F6.out, F7.out, F8.out, hb2, hb4] at hw
  have h3 := F3.out
  simp only [inD, Bool.and_eq_true, decide_eq_true_eq] at h3
  simp at hb0 hb1 hb2 hb4
  simp [inD] at hw
  omega
 clear h hw
 go_enter Tryz.func65, Tryz.ntmps65
 go_wp2_with fail
 refine Plan.wp_region_plan (fun wx => wx.cell? ⟨w.heap.size, 0, none⟩ = some (.int .i64 m.kind) ∧ wx.cell? ⟨w.heap.size, 1, none⟩ = some (.int .i64 m.frm) ∧ wx.cell? ⟨w.heap.size, 2, none⟩ = some (.int .i64 m.«to») ∧ wx.cell? ⟨n, 9, none⟩ = some (.int .i64 c.id) ∧ wx.cell? ⟨n, 0, none⟩ = some (.int .i64 c.conf.nodes)) 35 [(true, 0), (true, 1), (true, 2), (true, 3), (true, 4), (true, 5), (true, 6), (true, 7), (true, 8), (true, 9), (true, 10), (true, 11), (true, 12), (true, 13), (true, 14), (true, 15), (true, 16), (true, 17), (true, 18), (true, 19), (true, 20), (true, 21), (true, 22), (true, 23), (true, 24), (false, 25), (true, 26), (true, 27), (true, 28), (true, 29), (true, 30), (true, 31), (true, 32), (true, 33), (true, 34)] (by kernel_rfl) (by as_aux_lemma => kernel_rfl) (by kernel_rfl) (fun _ _ _ _ _ h => h) ?_ (fun hS => ?_)
 (·go_simp)
 simp only [Plan.pick, List.append_eq, List.cons_append, List.nil_append, Plan.g1, Plan.g2, Option.getD_some, List.drop_succ_cons, List.drop_zero]
 iterate 25 (first | refine Plan.tA ?_ | refine Plan.tY ?_ | refine Plan.pN ?_ | refine Plan.pU ?_ | fail)
 refine Plan.step ?_
 go_wp2_with fail
 refine (cin_is true _ _ _ _ F3.out).mono ?_
 rintro e w' ⟨rfl, hw'⟩
 subst hw'
 go_wp2_with fail
 refine ⟨?_, ?_⟩
 (·go_simp)
 iterate 9 (first | refine Plan.tA ?_ | refine Plan.tY ?_ | refine Plan.pN ?_ | refine Plan.pU ?_ | fail)
 refine Plan.fin ?_
 go_wp2_with fail
 refine (cin_is true _ _ _ _ F5.out).mono ?_
 rintro e w' ⟨rfl, hw'⟩
 subst hw'
 go_wp2_with fail
 refine (cin_is true _ _ _ _ F6.out).mono ?_
 rintro e w' ⟨rfl, hw'⟩
 subst hw'
 go_wp2_with fail
 refine (cin_is true _ _ _ _ F7.out).mono ?_
 rintro e w' ⟨rfl, hw'⟩
 subst hw'
 go_wp2_with fail
 refine (cin_is true _ _ _ _ F8.out).mono ?_
 rintro e w' ⟨rfl, hw'⟩
 subst hw'
 go_wp2_with fail
 go_ret
 exact ⟨rfl, by exact Keeps.K⟩
end Go.Proofs.YtgjiahilbmeaeaaGreatDoor