/- What a core says; Draw; rises. -/
import Derived.Test.YtpppoajnbhipeaaCoreF
namespace Go.Proofs.Ytpppoajnbhipeaa
open Go Go.RowKit

set_option maxRecDepth 100000 in
set_option maxHeartbeats 1600000 in
theorem says_any (w : World) (n : Nat) (id term : Int) (k f t0 tm a b c to : Int) (ok : Bool) (ea da : Option Addr) (el ec dl dc : Nat) (h9 : w.cell? ⟨n, 9, none⟩ = some (.int .i64 id)) (h10 : w.cell? ⟨n, 10, none⟩ = some (.int .i64 term)) (hlt : n < w.heap.size) :
    Calls Try.prog 65 #[.pointer (some ⟨n, 0, none⟩), .agg #[.int .i64 k, .int .i64 f, .int .i64 t0, .int .i64 tm, .int .i64 a, .int .i64 b, .int .i64 c, .bool ok, .slice ea el ec, .slice da dl dc], .int .i64 to] w fun x w' =>
      x = .returned (.agg #[.int .i64 k, .int .i64 id, .int .i64 to, .int .i64 term, .int .i64 a, .int .i64 b, .int .i64 c, .bool ok, .slice ea el ec, .slice da dl dc]) ∧ Keeps [] w w' := by
  go_enter Try.func65, Try.ntmps65
  go_wp2_with fail
  refine Plan.wp_region_plan (fun wx => wx.cell? ⟨n, 9, none⟩ = some (.int .i64 id) ∧ wx.cell? ⟨n, 10, none⟩ = some (.int .i64 term)) 13 [(true, 0), (true, 1), (true, 2), (true, 3), (true, 4), (true, 5), (true, 6), (true, 7), (true, 8), (true, 9), (false, 10), (true, 11), (false, 12)] (by kernel_rfl) (by as_aux_lemma => kernel_rfl) (by kernel_rfl) (fun _ _ _ _ _ h => h) ?_ (fun hS => ?_)
  (· go_simp)
  simp only [Plan.pick, List.getElem?_cons_zero, List.getElem?_cons_succ, Option.getD_some, List.drop_succ_cons, List.drop_zero]
  iterate 10 (first | (refine Plan.take (v := ?_) (a' := ?_) (Plan.want_all (by rfl)) ?_ ?_ ?_; rotate_left 2; (· (intro w' hS'; (try dsimp only at hS'); go_simp; try with_reducible rfl)); (· (simp only [Act.put, List.setIfInBounds_toArray, List.set_cons_zero, List.set_cons_succ]; try with_reducible rfl))) | (refine Plan.take (v := ?_) (a' := ?_) (Plan.want_yes (by rfl) (by rfl) (by rfl) (by rfl)) ?_ ?_ ?_; rotate_left 2; (· (intro w' hS'; (try dsimp only at hS'); go_simp; try with_reducible rfl)); (· (simp only [Act.put, List.setIfInBounds_toArray, List.set_cons_zero, List.set_cons_succ]; try with_reducible rfl))) | (refine Plan.pass (a' := ?_) (Plan.want_no (by rfl) (by rfl) (by rfl) (by rfl)) ?_ ?_; rotate_left 1; (· (simp only [Act.put, List.setIfInBounds_toArray, List.set_cons_zero, List.set_cons_succ]; try with_reducible rfl))) | (refine Plan.pass (a' := ?_) (Plan.want_un (by rfl) (by rfl) (by rfl) (by rfl)) ?_ ?_; rotate_left 1; (· (simp only [Act.put, List.setIfInBounds_toArray, List.set_cons_zero, List.set_cons_succ]; try with_reducible rfl))) | fail)
  refine Plan.step ?_
  go_wp2_with fail
  refine ⟨?_, ?_⟩
  (· go_simp)
  iterate 1 (first | (refine Plan.take (v := ?_) (a' := ?_) (Plan.want_all (by rfl)) ?_ ?_ ?_; rotate_left 2; (· (intro w' hS'; (try dsimp only at hS'); go_simp; try with_reducible rfl)); (· (simp only [Act.put, List.setIfInBounds_toArray, List.set_cons_zero, List.set_cons_succ]; try with_reducible rfl))) | (refine Plan.take (v := ?_) (a' := ?_) (Plan.want_yes (by rfl) (by rfl) (by rfl) (by rfl)) ?_ ?_ ?_; rotate_left 2; (· (intro w' hS'; (try dsimp only at hS'); go_simp; try with_reducible rfl)); (· (simp only [Act.put, List.setIfInBounds_toArray, List.set_cons_zero, List.set_cons_succ]; try with_reducible rfl))) | (refine Plan.pass (a' := ?_) (Plan.want_no (by rfl) (by rfl) (by rfl) (by rfl)) ?_ ?_; rotate_left 1; (· (simp only [Act.put, List.setIfInBounds_toArray, List.set_cons_zero, List.set_cons_succ]; try with_reducible rfl))) | (refine Plan.pass (a' := ?_) (Plan.want_un (by rfl) (by rfl) (by rfl) (by rfl)) ?_ ?_; rotate_left 1; (· (simp only [Act.put, List.setIfInBounds_toArray, List.set_cons_zero, List.set_cons_succ]; try with_reducible rfl))) | fail)
  refine Plan.step ?_
  go_wp2_with fail
  refine ⟨?_, ?_⟩
  (· go_simp)
  refine Plan.fin ?_
  go_wp2_with fail
  refine bodyPost_ret (v := .agg #[.int .i64 k, .int .i64 id, .int .i64 to, .int .i64 term, .int .i64 a, .int .i64 b, .int .i64 c, .bool ok, .slice ea el ec, .slice da dl dc]) (by simp [results, Try.results65, go_sem]) rfl ⟨rfl, ?_⟩
  (repeat (first | (with_reducible exact Keeps.refl _ _) | (with_reducible assumption) | ((with_reducible refine Keeps.setCell ?_ ?_ _); rotate_left 1; (· first | (refine .inl ?_; simp; done) | (refine .inr ?_; first | exact Nat.le_refl _ | (simp; done) | (simp; omega) | omega))) | (with_reducible refine Keeps.alloc ?_ _) | (with_reducible refine Keeps.drewN ?_ _) | (with_reducible refine Keeps.drew ?_)))

/-- A block's cells are no other block's. -/
theorem cDraw_bd (c : CoreD) (v : Int) (h : CoreOk c) : CoreOk (drawD c v) := by
  have hm := (ConfD.may_iff c.conf).1 h.may
  exact { may := h.may, id := h.id, term := h.term, base := h.base, baseTerm := h.baseTerm, len := h.len, last := h.last, commit := h.commit, draw := ⟨by show 0 ≤ max _ _; omega, by show max _ _ ≤ _; omega⟩, votes := h.votes, next := h.next, matc := h.matc, nexts := h.nexts, matcs := h.matcs, ents := h.ents, frm := h.frm, data := h.data, snap := h.snap }

set_option maxHeartbeats 800000 in
theorem cDraw_any (w : World) (B n : Nat) (c : CoreD) (lv sv : Value) (v : Int) (h : CoreAt w B n c lv sv) :
    Calls Try.prog 40 #[.pointer (some ⟨n, 0, none⟩), .int .i64 v] w fun e w' => e = .returned (.tuple #[]) ∧ CoreAt w' B n (drawD c v) lv sv ∧ Keeps [n] w w' := by
  have h4 : w.cell? ⟨n, 4, none⟩ = some (.int .i64 c.conf.range) := h.blk.cell 4
  have h19 : w.cell? ⟨n, 19, none⟩ = some (.int .i64 c.draw) := h.blk.cell 19
  have f19 : w.frozen? ⟨n, 19, none⟩ = false := h.blk.free 19
  have H := hid h
  clear h
  go_enter Try.func40, Try.ntmps40
  have HD : Hid (∀ u, u = max 0 (min v c.conf.range) → CoreAt (w.setCell ⟨n, 19, none⟩ (.int .i64 u)) B n (drawD c v) lv sv ∧ Keeps [n] w (w.setCell ⟨n, 19, none⟩ (.int .i64 u))) := fun u hu => by
    have k : Keeps [n] w (w.setCell ⟨n, 19, none⟩ (.int .i64 u)) := (Keeps.refl _ _).setCell (.inl (by simp)) _
    subst hu
    exact ⟨H.out.wrote k (H.out.blk.set 19 _ rfl) rfl rfl (cDraw_bd c v H.out.ok), k⟩
  go_wp2_with fail
  all_goals
    refine bodyPost_end (v := .tuple #[]) ?_ rfl ⟨rfl, HD.out _ ?_⟩
    (· simp [results, Try.results40, go_sem])
    omega

theorem bools_set (l : List Bool) (i : Nat) (b : Bool) : (bools l).set i (.bool b) = bools (l.set i b) := by simp [bools, List.map_set]
theorem ints_set (l : List Int) (i : Nat) (b : Int) : (ints l).set i (.int .i64 b) = ints (l.set i b) := by simp [ints, List.map_set]
/-- The last cells of a core. -/
theorem tail_get (c : CoreD) (hv : c.votes.length = 8) (hn : c.next.length = 8) (hm : c.matc.length = 8) : (tailCells c)[24]? = some (.bool c.hard) ∧ (tailCells c)[25]? = some (.int .i64 c.frm) ∧ (tailCells c)[26]? = some (.bool c.tsnap) := by
  unfold tailCells bools ints
  refine ⟨?_, ?_, ?_⟩ <;>
  · rw [List.getElem?_append_right (by simp; omega), List.getElem?_append_right (by simp; omega), List.getElem?_append_right (by simp; omega)]
    simp [hv, hn, hm]
theorem tail_hard (c : CoreD) (hv : c.votes.length = 8) (hn : c.next.length = 8) (hm : c.matc.length = 8) (b : Bool) : (tailCells c).set 24 (.bool b) = tailCells { c with hard := b } := by
  unfold tailCells bools ints
  rw [List.set_append_right _ _ (by simp; omega), List.set_append_right _ _ (by simp; omega), List.set_append_right _ _ (by simp; omega)]
  simp [hv, hn, hm]
theorem tail_frm (c : CoreD) (hv : c.votes.length = 8) (hn : c.next.length = 8) (hm : c.matc.length = 8) (b : Int) : (tailCells c).set 25 (.int .i64 b) = tailCells { c with frm := b } := by
  unfold tailCells bools ints
  rw [List.set_append_right _ _ (by simp; omega), List.set_append_right _ _ (by simp; omega), List.set_append_right _ _ (by simp; omega)]
  simp [hv, hn, hm]
theorem tail_tsnap (c : CoreD) (hv : c.votes.length = 8) (hn : c.next.length = 8) (hm : c.matc.length = 8) (b : Bool) : (tailCells c).set 26 (.bool b) = tailCells { c with tsnap := b } := by
  unfold tailCells bools ints
  rw [List.set_append_right _ _ (by simp; omega), List.set_append_right _ _ (by simp; omega), List.set_append_right _ _ (by simp; omega)]
  simp [hv, hn, hm]
theorem tail_votes (c : CoreD) (hv : c.votes.length = 8) (i : Nat) (hi : i < 8) (b : Bool) : (tailCells c).set i (.bool b) = tailCells { c with votes := c.votes.set i b } := by
  unfold tailCells
  rw [List.set_append_left _ _ (by simp [bools]; omega), bools_set]
theorem tail_next (c : CoreD) (hv : c.votes.length = 8) (hn : c.next.length = 8) (i : Nat) (hi : i < 8) (b : Int) : (tailCells c).set (8 + i) (.int .i64 b) = tailCells { c with next := c.next.set i b } := by
  unfold tailCells
  rw [List.set_append_right _ _ (by simp [bools]; omega), List.set_append_left _ _ (by simp [bools, ints]; omega), show 8 + i - (bools c.votes).length = i by simp [bools]; omega, ints_set]
theorem tail_matc (c : CoreD) (hv : c.votes.length = 8) (hn : c.next.length = 8) (hm : c.matc.length = 8) (i : Nat) (hi : i < 8) (b : Int) : (tailCells c).set (16 + i) (.int .i64 b) = tailCells { c with matc := c.matc.set i b } := by
  unfold tailCells
  rw [List.set_append_right _ _ (by simp [bools]; omega), List.set_append_right _ _ (by simp [bools, ints]; omega), List.set_append_left _ _ (by simp [bools, ints]; omega), show 16 + i - (bools c.votes).length - (ints c.next).length = i by simp [bools, ints]; omega, ints_set]
theorem set21 (c : CoreD) (lv sv v : Value) (i : Nat) : (coreCells c lv sv).set (21 + i) v =
  .int .i64 c.conf.nodes :: .int .i64 c.conf.clients :: .int .i64 c.conf.heart :: .int .i64 c.conf.lo :: .int .i64 c.conf.range :: .int .i64 c.conf.sessions :: .int .i64 c.conf.snap :: .int .i64 c.conf.room :: .int .i64 c.conf.retry ::
  .int .i64 c.id :: .int .i64 c.term :: .int .i64 c.vote :: .int .i64 c.role :: .int .i64 c.leader :: .int .i64 c.commit :: .int .i64 c.base :: .int .i64 c.baseTerm :: lv :: sv :: .int .i64 c.draw :: .int .i64 c.patience :: (tailCells c).set i v := by
  unfold coreCells
  rw [show 21 + i = i + 21 by omega]
  rfl
theorem get21 (c : CoreD) (lv sv : Value) (i : Nat) : (coreCells c lv sv)[21 + i]? = (tailCells c)[i]? := by
  unfold coreCells
  rw [show 21 + i = i + 21 by omega]
  rfl

theorem risesD_ok {c : CoreD} {t v : Int} (h : CoreOk c) (ht : 0 ≤ t ∧ t ≤ 1099511627776) : CoreOk (risesD c t v) :=
  { may := h.may, id := h.id, term := ht, base := h.base, baseTerm := h.baseTerm, len := h.len, last := h.last, commit := h.commit, draw := h.draw, votes := h.votes, next := h.next, matc := h.matc, nexts := h.nexts, matcs := h.matcs, ents := h.ents, frm := h.frm, data := h.data, snap := h.snap }

set_option maxRecDepth 100000 in
set_option maxHeartbeats 1600000 in
theorem rises_any (w : World) (B n : Nat) (c : CoreD) (lv sv : Value) (t v : Int) (h : CoreAt w B n c lv sv) (ht : 0 ≤ t ∧ t ≤ 1099511627776) :
    Calls Try.prog 53 #[.pointer (some ⟨n, 0, none⟩), .int .i64 t, .int .i64 v] w fun e w' => e = .returned (.tuple #[]) ∧ CoreAt w' B n (risesD c t v) lv sv ∧ Keeps [n] w w' := by
  obtain ⟨t24, _, _⟩ := tail_get c h.ok.votes h.ok.next h.ok.matc
  have h10 : w.cell? ⟨n, 10, none⟩ = some (.int .i64 c.term) := h.blk.cell 10
  have h11 : w.cell? ⟨n, 11, none⟩ = some (.int .i64 c.vote) := h.blk.cell 11
  have h45 : w.cell? ⟨n, 45, none⟩ = some (.bool c.hard) := (h.blk.cell 45).trans ((get21 c lv sv 24).trans t24)
  have f10 : w.frozen? ⟨n, 10, none⟩ = false := h.blk.free 10
  have f11 : w.frozen? ⟨n, 11, none⟩ = false := h.blk.free 11
  have f45 : w.frozen? ⟨n, 45, none⟩ = false := h.blk.free 45
  have HD : Hid (∀ b, b = (c.hard || t != c.term || v != c.vote) → CoreAt (((w.setCell ⟨n, 45, none⟩ (.bool b)).setCell ⟨n, 10, none⟩ (.int .i64 t)).setCell ⟨n, 11, none⟩ (.int .i64 v)) B n (risesD c t v) lv sv ∧ Keeps [n] w (((w.setCell ⟨n, 45, none⟩ (.bool b)).setCell ⟨n, 10, none⟩ (.int .i64 t)).setCell ⟨n, 11, none⟩ (.int .i64 v))) := fun b hb => by
    have k : Keeps [n] w (((w.setCell ⟨n, 45, none⟩ (.bool b)).setCell ⟨n, 10, none⟩ (.int .i64 t)).setCell ⟨n, 11, none⟩ (.int .i64 v)) := (((Keeps.refl _ _).setCell (.inl (by simp)) _).setCell (.inl (by simp)) _).setCell (.inl (by simp)) _
    have b1 : CoreBlk (w.setCell ⟨n, 45, none⟩ (.bool b)) n { c with hard := b } lv sv := h.blk.set 45 _ (by rw [show 45 = 21 + 24 from rfl, set21, tail_hard c h.ok.votes h.ok.next h.ok.matc]; rfl)
    have b2 : CoreBlk ((w.setCell ⟨n, 45, none⟩ (.bool b)).setCell ⟨n, 10, none⟩ (.int .i64 t)) n { c with hard := b, term := t } lv sv := b1.set 10 _ rfl
    have b3 : CoreBlk (((w.setCell ⟨n, 45, none⟩ (.bool b)).setCell ⟨n, 10, none⟩ (.int .i64 t)).setCell ⟨n, 11, none⟩ (.int .i64 v)) n { c with hard := b, term := t, vote := v } lv sv := b2.set 11 _ rfl
    subst hb
    exact ⟨h.wrote k b3 rfl rfl (risesD_ok h.ok ht), k⟩
  clear h t24
  rcases hh : c.hard with _ | _
  · rw [hh] at h45 HD
    by_cases g1 : t = c.term
    · subst g1
      by_cases g2 : v = c.vote
      · subst g2
        clear hh
        go_enter Try.func53, Try.ntmps53
        go_wp2
        exact bodyPost_end (by simp [results, Try.results53, go_sem]) rfl ⟨rfl, HD.out _ (by simp)⟩
      · clear hh
        have g3 : (v != c.vote) = true := by simpa using g2
        have HD' := hid (HD.out true (by simp [g2]))
        go_enter Try.func53, Try.ntmps53
        go_wp2
        exact bodyPost_end (by simp [results, Try.results53, go_sem]) rfl ⟨rfl, HD'.out⟩
    · clear hh
      have g3 : (t != c.term) = true := by simpa using g1
      have HD' := hid (HD.out true (by simp [g1]))
      go_enter Try.func53, Try.ntmps53
      go_wp2
      exact bodyPost_end (by simp [results, Try.results53, go_sem]) rfl ⟨rfl, HD'.out⟩
  · rw [hh] at h45 HD
    clear hh
    have HD' := hid (HD.out true (by simp))
    go_enter Try.func53, Try.ntmps53
    go_wp2
    exact bodyPost_end (by simp [results, Try.results53, go_sem]) rfl ⟨rfl, HD'.out⟩

end Go.Proofs.Ytpppoajnbhipeaa
