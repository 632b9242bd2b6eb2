/- Tick: nobody is asked yet; everybody is asked for a vote. -/
import Derived.Test.YtpppoajnbhipeaaCoreY
import Derived.Test.YtpppoajnbhipeaaPlanT
namespace Go.Proofs.Ytpppoajnbhipeaa
open Go Go.RowKit

theorem ret_slice {a : Option Addr} {n m q : Nat} (h : n = m) : Ending.returned (.slice a n q) = .returned (.slice a m q) := by rw [h]
theorem patience_ok {c : CoreD} (h : CoreOk c) (p : Int) : CoreOk { c with patience := p } :=
  { may := h.may, id := h.id, term := h.term, base := h.base, baseTerm := h.baseTerm, len := h.len, last := h.last, commit := h.commit, draw := h.draw, votes := h.votes, next := h.next, matc := h.matc, nexts := h.nexts, matcs := h.matcs, ents := h.ents, frm := h.frm, data := h.data, snap := h.snap }

set_option maxRecDepth 100000 in
set_option maxHeartbeats 1600000 in
theorem tick_wait (w : World) (B n : Nat) (c : CoreD) (lv sv : Value) (h : CoreAt w B n c lv sv) (hr : c.role ≠ 2) (hp : 0 ≤ c.patience ∧ c.patience ≤ 1000000000) (hw : c.patience + 1 < c.conf.lo + c.draw) :
    Calls Try.prog 38 #[.pointer (some ⟨n, 0, none⟩)] w fun e w' => e = .returned (.slice none 0 0) ∧ CoreAt w' B n { c with patience := c.patience + 1 } lv sv ∧ Keeps [n] w w' := by
  have hm := (ConfD.may_iff c.conf).1 h.ok.may
  have h3 : w.cell? ⟨n, 3, none⟩ = some (.int .i64 c.conf.lo) := h.blk.cell 3
  have h12 : w.cell? ⟨n, 12, none⟩ = some (.int .i64 c.role) := h.blk.cell 12
  have h19 : w.cell? ⟨n, 19, none⟩ = some (.int .i64 c.draw) := h.blk.cell 19
  have h20 : w.cell? ⟨n, 20, none⟩ = some (.int .i64 c.patience) := h.blk.cell 20
  have f20 : w.frozen? ⟨n, 20, none⟩ = false := h.blk.free 20
  have hlt := h.blk.lt
  obtain ⟨p0, p1⟩ := hp
  have l0 : 0 ≤ c.conf.lo := by omega
  have l1 : c.conf.lo ≤ 1000 := by omega
  have d0 := h.ok.draw.1
  have d1 := h.ok.draw.2
  have hrb : (c.role == 2) = false := by simpa using hr
  have hd : decide (c.patience + 1 < c.conf.lo + c.draw) = true := by simpa using hw
  have wr1 : IntKind.i64.wrap (c.conf.lo + c.draw) = c.conf.lo + c.draw := IntWalk.i64_in _ (by omega)
  have H := hid h
  have HF : Hid (∀ w1, Keeps [] w w1 → CoreAt (w1.setCell ⟨n, 20, none⟩ (.int .i64 (c.patience + 1))) B n { c with patience := c.patience + 1 } lv sv ∧ Keeps [n] w (w1.setCell ⟨n, 20, none⟩ (.int .i64 (c.patience + 1)))) := fun w1 k => by
    have k2 : Keeps [n] w1 (w1.setCell ⟨n, 20, none⟩ (.int .i64 (c.patience + 1))) := (Keeps.refl _ _).setCell (.inl (by simp)) _
    exact ⟨(h.k k).wrote k2 ((h.k k).blk.set 20 _ rfl) rfl rfl (patience_ok h.ok _), (k.mono (G := [n]) (fun _ _ h => by cases h)).trans k2 (fun _ _ h => h)⟩
  clear h hm hr
  go_enter Try.func38, Try.ntmps38
  go_wp2_with fail
  refine Plan.wp_region_plan (fun wx => wx.cell? ⟨w.heap.size, 0, none⟩ = some (.pointer (some ⟨n, 0, none⟩)) ∧ wx.cell? ⟨n, 20, none⟩ = some (.int .i64 (c.patience + 1)) ∧ wx.cell? ⟨n, 3, none⟩ = some (.int .i64 c.conf.lo) ∧ wx.cell? ⟨n, 19, none⟩ = some (.int .i64 c.draw)) 22 [(true, 0), (true, 1), (true, 2), (true, 3), (true, 4), (true, 5), (true, 6), (true, 7), (true, 8), (true, 9), (true, 10), (true, 11), (true, 12), (true, 13), (true, 14), (true, 15), (true, 16), (true, 17), (true, 18), (true, 19), (true, 20), (true, 21)] (by kernel_rfl) (by as_aux_lemma => kernel_rfl) (by kernel_rfl) (fun _ _ _ _ _ h => h) ?_ (fun hS => ?_)
  (· go_simp)
  simp only [Plan.pick, List.append_eq, List.cons_append, List.nil_append, List.getElem?_cons_zero, List.getElem?_cons_succ, Option.getD_some, List.drop_succ_cons, List.drop_zero]
  iterate 22 (first | (refine Plan.take (v := ?_) (a' := ?_) (Plan.want_all (by rfl)) ?_ ?_ ?_; rotate_left 2; (· (intro w' hS'; (try dsimp only at hS'); go_simp; try with_reducible rfl)); (· (simp only [Act.put, List.setIfInBounds_toArray, List.set_cons_zero, List.set_cons_succ]; try with_reducible rfl))) | (refine Plan.take (v := ?_) (a' := ?_) (Plan.want_yes (by rfl) (by rfl) (by rfl) (by rfl)) ?_ ?_ ?_; rotate_left 2; (· (intro w' hS'; (try dsimp only at hS'); go_simp; try with_reducible rfl)); (· (simp only [Act.put, List.setIfInBounds_toArray, List.set_cons_zero, List.set_cons_succ]; try with_reducible rfl))) | (refine Plan.pass (a' := ?_) (Plan.want_no (by rfl) (by rfl) (by rfl) (by rfl)) ?_ ?_; rotate_left 1; (· (simp only [Act.put, List.setIfInBounds_toArray, List.set_cons_zero, List.set_cons_succ]; try with_reducible rfl))) | (refine Plan.pass (a' := ?_) (Plan.want_un (by rfl) (by rfl) (by rfl) (by rfl)) ?_ ?_; rotate_left 1; (· (simp only [Act.put, List.setIfInBounds_toArray, List.set_cons_zero, List.set_cons_succ]; try with_reducible rfl))) | fail)
  refine Plan.fin ?_
  clear wr1
  go_wp2_with fail
  go_ret
  exact ⟨rfl, (HF.out w (Keeps.refl [] w)).1.k ((Keeps.refl [] _).alloc _).drew, ((HF.out w (Keeps.refl [] w)).2.alloc _).drew⟩

theorem votes_cell {w : World} {n : Nat} {c : CoreD} {lv sv : Value} (h : CoreBlk w n c lv sv) (h8 : c.votes.length = 8) (i : Nat) (hi : i < 8) : ∃ b, w.cell? ⟨n, 21 + i, none⟩ = some (.bool b) := by
  refine ⟨c.votes[i], (h.cell _).trans ((get21 c lv sv i).trans ?_)⟩
  unfold tailCells bools
  rw [List.getElem?_append_left (by simp; omega)]
  simp
theorem votes_all {c : CoreD} {lv sv : Value} {w : World} {n : Nat} (h : CoreBlk w n c lv sv) (h8 : c.votes.length = 8) :
    CoreBlk ((((((((w.setCell ⟨n, 21, none⟩ (.bool false)).setCell ⟨n, 22, none⟩ (.bool false)).setCell ⟨n, 23, none⟩ (.bool false)).setCell ⟨n, 24, none⟩ (.bool false)).setCell ⟨n, 25, none⟩ (.bool false)).setCell ⟨n, 26, none⟩ (.bool false)).setCell ⟨n, 27, none⟩ (.bool false)).setCell ⟨n, 28, none⟩ (.bool false)) n { c with votes := List.replicate 8 false } lv sv := by
  have st : ∀ (w : World) (c : CoreD) (i : Nat), CoreBlk w n c lv sv → c.votes.length = 8 → i < 8 → CoreBlk (w.setCell ⟨n, 21 + i, none⟩ (.bool false)) n { c with votes := c.votes.set i false } lv sv := fun w c i h h8 hi => h.set (21 + i) _ (by rw [set21, tail_votes c h8 i hi]; rfl)
  have h1 := st _ _ 7 (st _ _ 6 (st _ _ 5 (st _ _ 4 (st _ _ 3 (st _ _ 2 (st _ _ 1 (st w c 0 h h8 (by omega)) (by simp [h8]) (by omega)) (by simp [h8]) (by omega)) (by simp [h8]) (by omega)) (by simp [h8]) (by omega)) (by simp [h8]) (by omega)) (by simp [h8]) (by omega)) (by simp [h8]) (by omega)
  have e : (((((((c.votes.set 0 false).set 1 false).set 2 false).set 3 false).set 4 false).set 5 false).set 6 false).set 7 false = List.replicate 8 false := by
    match c.votes, h8 with
    | [_, _, _, _, _, _, _, _], _ => rfl
  simp only [e] at h1
  exact h1

theorem runD_ok {c : CoreD} (h : CoreOk c) (ht : c.term < 1099511627776) : CoreOk (runD c) := by
  have h1 := risesD_ok (t := c.term + 1) (v := c.id) h ⟨by have := h.term; omega, by omega⟩
  exact { may := h.may, id := h.id, term := h1.term, base := h.base, baseTerm := h.baseTerm, len := h.len, last := h.last, commit := h.commit, draw := h.draw, votes := by simp [runD], next := h.next, matc := h.matc, nexts := h.nexts, matcs := h.matcs, ents := h.ents, frm := h.frm, data := h.data, snap := h.snap }

def run0 (c : CoreD) : CoreD := { risesD { c with patience := c.patience + 1 } (c.term + 1) c.id with role := 1, leader := 0, patience := 0, votes := List.replicate 8 false }
theorem run0_ok {c : CoreD} (h : CoreOk c) (ht : c.term < 1099511627776) : CoreOk (run0 c) := by
  have h1 := risesD_ok (t := c.term + 1) (v := c.id) h ⟨by have := h.term; omega, by omega⟩
  exact { may := h.may, id := h.id, term := h1.term, base := h.base, baseTerm := h.baseTerm, len := h.len, last := h.last, commit := h.commit, draw := h.draw, votes := by simp [run0], next := h.next, matc := h.matc, nexts := h.nexts, matcs := h.matcs, ents := h.ents, frm := h.frm, data := h.data, snap := h.snap }

set_option maxRecDepth 100000 in
set_option maxHeartbeats 3200000 in
theorem tick_run (w : World) (B n : Nat) (c : CoreD) (lv sv : Value) (h : CoreAt w B n c lv sv) (hr : c.role ≠ 2) (hp : 0 ≤ c.patience ∧ c.patience ≤ 1000000000) (hw : c.conf.lo + c.draw ≤ c.patience + 1) (ht : c.term < 1099511627776) :
    Calls Try.prog 38 #[.pointer (some ⟨n, 0, none⟩)] w fun e w' => ∃ a q, e = .returned (.slice a (othersD (runD c) (voteMsg (runD c))).length q) ∧ CoreAt w' B n (runD c) lv sv ∧ ListAt msgL w' (fun b => w.heap.size ≤ b) (.slice a (othersD (runD c) (voteMsg (runD c))).length q) (othersD (runD c) (voteMsg (runD c))) ∧ Keeps [n] w w' := by
  have hm := (ConfD.may_iff c.conf).1 h.ok.may
  have h3 : w.cell? ⟨n, 3, none⟩ = some (.int .i64 c.conf.lo) := h.blk.cell 3
  have h9 : w.cell? ⟨n, 9, none⟩ = some (.int .i64 c.id) := h.blk.cell 9
  have h10 : w.cell? ⟨n, 10, none⟩ = some (.int .i64 c.term) := h.blk.cell 10
  have h12 : w.cell? ⟨n, 12, none⟩ = some (.int .i64 c.role) := h.blk.cell 12
  have h19 : w.cell? ⟨n, 19, none⟩ = some (.int .i64 c.draw) := h.blk.cell 19
  have h20 : w.cell? ⟨n, 20, none⟩ = some (.int .i64 c.patience) := h.blk.cell 20
  have f20 : w.frozen? ⟨n, 20, none⟩ = false := h.blk.free 20
  have hlt := h.blk.lt
  obtain ⟨p0, p1⟩ := hp
  have l0 : 0 ≤ c.conf.lo := by omega
  have l1 : c.conf.lo ≤ 1000 := by omega
  have d0 := h.ok.draw.1
  have d1 := h.ok.draw.2
  have t0 := h.ok.term.1
  have hrb : (c.role == 2) = false := by simpa using hr
  have hd : decide (c.patience + 1 < c.conf.lo + c.draw) = false := by simpa using hw
  have hd2 : decide (1099511627776 ≤ c.term) = false := by simpa using ht
  have wr1 : IntKind.i64.wrap (c.conf.lo + c.draw) = c.conf.lo + c.draw := IntWalk.i64_in _ (by omega)
  have wr2 : IntKind.i64.wrap (c.term + 1) = c.term + 1 := IntWalk.i64_in _ (by omega)
  have H := hid h
  have HF : Hid (∀ w1, Keeps [] w w1 → CoreAt (w1.setCell ⟨n, 20, none⟩ (.int .i64 (c.patience + 1))) B n { c with patience := c.patience + 1 } lv sv ∧ Keeps [n] w (w1.setCell ⟨n, 20, none⟩ (.int .i64 (c.patience + 1)))) := fun w1 k => by
    have k2 : Keeps [n] w1 (w1.setCell ⟨n, 20, none⟩ (.int .i64 (c.patience + 1))) := (Keeps.refl _ _).setCell (.inl (by simp)) _
    exact ⟨(h.k k).wrote k2 ((h.k k).blk.set 20 _ rfl) rfl rfl (patience_ok h.ok _), (k.mono (G := [n]) (fun _ _ h => by cases h)).trans k2 (fun _ _ h => h)⟩
  clear h hm hr
  go_enter Try.func38, Try.ntmps38
  go_wp2_with fail
  refine Plan.wp_region_plan (fun wx => wx.cell? ⟨w.heap.size, 0, none⟩ = some (.pointer (some ⟨n, 0, none⟩)) ∧ wx.cell? ⟨n, 20, none⟩ = some (.int .i64 (c.patience + 1)) ∧ wx.cell? ⟨n, 3, none⟩ = some (.int .i64 c.conf.lo) ∧ wx.cell? ⟨n, 19, none⟩ = some (.int .i64 c.draw) ∧ wx.cell? ⟨n, 10, none⟩ = some (.int .i64 c.term)) 22 [(true, 0), (true, 1), (true, 2), (true, 3), (true, 4), (true, 5), (true, 6), (true, 7), (true, 8), (true, 9), (true, 10), (true, 11), (true, 12), (true, 13), (true, 14), (true, 15), (true, 16), (true, 17), (true, 18), (true, 19), (true, 20), (true, 21)] (by kernel_rfl) (by as_aux_lemma => kernel_rfl) (by kernel_rfl) (fun _ _ _ _ _ h => h) ?_ (fun hS => ?_)
  (· go_simp)
  simp only [Plan.pick, List.append_eq, List.cons_append, List.nil_append, List.getElem?_cons_zero, List.getElem?_cons_succ, Option.getD_some, List.drop_succ_cons, List.drop_zero]
  iterate 22 (first | (refine Plan.take (v := ?_) (a' := ?_) (Plan.want_all (by rfl)) ?_ ?_ ?_; rotate_left 2; (· (intro w' hS'; (try dsimp only at hS'); go_simp; try with_reducible rfl)); (· (simp only [Act.put, List.setIfInBounds_toArray, List.set_cons_zero, List.set_cons_succ]; try with_reducible rfl))) | (refine Plan.take (v := ?_) (a' := ?_) (Plan.want_yes (by rfl) (by rfl) (by rfl) (by rfl)) ?_ ?_ ?_; rotate_left 2; (· (intro w' hS'; (try dsimp only at hS'); go_simp; try with_reducible rfl)); (· (simp only [Act.put, List.setIfInBounds_toArray, List.set_cons_zero, List.set_cons_succ]; try with_reducible rfl))) | (refine Plan.pass (a' := ?_) (Plan.want_no (by rfl) (by rfl) (by rfl) (by rfl)) ?_ ?_; rotate_left 1; (· (simp only [Act.put, List.setIfInBounds_toArray, List.set_cons_zero, List.set_cons_succ]; try with_reducible rfl))) | (refine Plan.pass (a' := ?_) (Plan.want_un (by rfl) (by rfl) (by rfl) (by rfl)) ?_ ?_; rotate_left 1; (· (simp only [Act.put, List.setIfInBounds_toArray, List.set_cons_zero, List.set_cons_succ]; try with_reducible rfl))) | fail)
  refine Plan.fin ?_
  clear wr1
  go_wp2_with fail
  refine Plan.wp_region_plan (fun wx => wx.cell? ⟨w.heap.size, 0, none⟩ = some (.pointer (some ⟨n, 0, none⟩)) ∧ wx.cell? ⟨n, 10, none⟩ = some (.int .i64 c.term) ∧ wx.cell? ⟨n, 9, none⟩ = some (.int .i64 c.id)) 10 [(true, 0), (true, 1), (true, 2), (true, 3), (true, 4), (true, 5), (true, 6), (true, 7), (true, 8), (true, 9)] (by kernel_rfl) (by as_aux_lemma => kernel_rfl) (by kernel_rfl) (fun _ _ _ _ _ h => h) ?_ (fun hS => ?_)
  (· go_simp)
  simp only [Plan.pick, List.append_eq, List.cons_append, List.nil_append, List.getElem?_cons_zero, List.getElem?_cons_succ, Option.getD_some, List.drop_succ_cons, List.drop_zero]
  iterate 10 (first | (refine Plan.take (v := ?_) (a' := ?_) (Plan.want_all (by rfl)) ?_ ?_ ?_; rotate_left 2; (· (intro w' hS'; (try dsimp only at hS'); go_simp; try with_reducible rfl)); (· (simp only [Act.put, List.setIfInBounds_toArray, List.set_cons_zero, List.set_cons_succ]; try with_reducible rfl))) | (refine Plan.take (v := ?_) (a' := ?_) (Plan.want_yes (by rfl) (by rfl) (by rfl) (by rfl)) ?_ ?_ ?_; rotate_left 2; (· (intro w' hS'; (try dsimp only at hS'); go_simp; try with_reducible rfl)); (· (simp only [Act.put, List.setIfInBounds_toArray, List.set_cons_zero, List.set_cons_succ]; try with_reducible rfl))) | (refine Plan.pass (a' := ?_) (Plan.want_no (by rfl) (by rfl) (by rfl) (by rfl)) ?_ ?_; rotate_left 1; (· (simp only [Act.put, List.setIfInBounds_toArray, List.set_cons_zero, List.set_cons_succ]; try with_reducible rfl))) | (refine Plan.pass (a' := ?_) (Plan.want_un (by rfl) (by rfl) (by rfl) (by rfl)) ?_ ?_; rotate_left 1; (· (simp only [Act.put, List.setIfInBounds_toArray, List.set_cons_zero, List.set_cons_succ]; try with_reducible rfl))) | fail)
  refine Plan.fin ?_
  go_wp2_with fail
  refine (rises_any _ B n { c with patience := c.patience + 1 } lv sv (c.term + 1) c.id ((HF.out w (Keeps.refl [] w)).1.k (((Keeps.refl [] _).alloc _).drew.drew)) (by omega)).mono ?_
  rintro e w2 ⟨rfl, hc2, hk2⟩
  have K2 : Hid (Keeps [n] w w2) := ((((HF.out w (Keeps.refl [] w)).2.alloc _).drew).drew).trans hk2 (fun _ _ h => h)
  have xb : w2.cell? ⟨w.heap.size, 0, none⟩ = some (.pointer (some ⟨n, 0, none⟩)) := hk2.cellSome (by go_simp) (by simp; omega)
  have HZ : Hid (w.heap.size < w2.heap.size) := World.block_lt_of_cell? _ _ xb
  have C2 := hid hc2
  have x9 : w2.cell? ⟨n, 9, none⟩ = some (.int .i64 c.id) := hc2.blk.cell 9
  have x12 : w2.cell? ⟨n, 12, none⟩ = some (.int .i64 c.role) := hc2.blk.cell 12
  have x13 : w2.cell? ⟨n, 13, none⟩ = some (.int .i64 c.leader) := hc2.blk.cell 13
  have x20 : w2.cell? ⟨n, 20, none⟩ = some (.int .i64 (c.patience + 1)) := hc2.blk.cell 20
  have h8 : (risesD { c with patience := c.patience + 1 } (c.term + 1) c.id).votes.length = 8 := hc2.ok.votes
  obtain ⟨b0, x21⟩ : ∃ b, w2.cell? ⟨n, 21, none⟩ = some (.bool b) := votes_cell hc2.blk h8 0 (by omega)
  obtain ⟨b1, x22⟩ : ∃ b, w2.cell? ⟨n, 22, none⟩ = some (.bool b) := votes_cell hc2.blk h8 1 (by omega)
  obtain ⟨b2, x23⟩ : ∃ b, w2.cell? ⟨n, 23, none⟩ = some (.bool b) := votes_cell hc2.blk h8 2 (by omega)
  obtain ⟨b3, x24⟩ : ∃ b, w2.cell? ⟨n, 24, none⟩ = some (.bool b) := votes_cell hc2.blk h8 3 (by omega)
  obtain ⟨b4, x25⟩ : ∃ b, w2.cell? ⟨n, 25, none⟩ = some (.bool b) := votes_cell hc2.blk h8 4 (by omega)
  obtain ⟨b5, x26⟩ : ∃ b, w2.cell? ⟨n, 26, none⟩ = some (.bool b) := votes_cell hc2.blk h8 5 (by omega)
  obtain ⟨b6, x27⟩ : ∃ b, w2.cell? ⟨n, 27, none⟩ = some (.bool b) := votes_cell hc2.blk h8 6 (by omega)
  obtain ⟨b7, x28⟩ : ∃ b, w2.cell? ⟨n, 28, none⟩ = some (.bool b) := votes_cell hc2.blk h8 7 (by omega)
  clear h8
  have fz : ∀ i, w2.frozen? ⟨n, i, none⟩ = false := fun i => hc2.blk.free i
  have hnz : n ≠ w.heap.size := by omega
  clear hc2 hk2 h3 h9 h10 h12 h19 h20 f20 wr2
  go_wp2_with fail
  refine Plan.wp_region_plan (fun wx => wx.cell? ⟨w.heap.size, 0, none⟩ = some (.pointer (some ⟨n, 0, none⟩))) 9 [(true, 0), (true, 1), (true, 2), (true, 3), (true, 4), (false, 5), (true, 6), (true, 7), (false, 8)] (by kernel_rfl) (by as_aux_lemma => kernel_rfl) (by kernel_rfl) (fun _ _ _ _ _ h => h) ?_ (fun hS => ?_)
  (· exact xb)
  simp only [Plan.pick, List.append_eq, List.cons_append, List.nil_append, List.getElem?_cons_zero, List.getElem?_cons_succ, Option.getD_some, List.drop_succ_cons, List.drop_zero]
  iterate 5 (first | (refine Plan.take (v := ?_) (a' := ?_) (Plan.want_all (by rfl)) ?_ ?_ ?_; rotate_left 2; (· (intro w' hS'; (try dsimp only at hS'); go_simp; try with_reducible rfl)); (· (simp only [Act.put, List.setIfInBounds_toArray, List.set_cons_zero, List.set_cons_succ]; try with_reducible rfl))) | (refine Plan.take (v := ?_) (a' := ?_) (Plan.want_yes (by rfl) (by rfl) (by rfl) (by rfl)) ?_ ?_ ?_; rotate_left 2; (· (intro w' hS'; (try dsimp only at hS'); go_simp; try with_reducible rfl)); (· (simp only [Act.put, List.setIfInBounds_toArray, List.set_cons_zero, List.set_cons_succ]; try with_reducible rfl))) | (refine Plan.pass (a' := ?_) (Plan.want_no (by rfl) (by rfl) (by rfl) (by rfl)) ?_ ?_; rotate_left 1; (· (simp only [Act.put, List.setIfInBounds_toArray, List.set_cons_zero, List.set_cons_succ]; try with_reducible rfl))) | (refine Plan.pass (a' := ?_) (Plan.want_un (by rfl) (by rfl) (by rfl) (by rfl)) ?_ ?_; rotate_left 1; (· (simp only [Act.put, List.setIfInBounds_toArray, List.set_cons_zero, List.set_cons_succ]; try with_reducible rfl))) | fail)
  refine Plan.step ?_
  go_wp2_with fail
  refine ⟨?_, ?_⟩
  (· go_simp)
  iterate 2 (first | (refine Plan.take (v := ?_) (a' := ?_) (Plan.want_all (by rfl)) ?_ ?_ ?_; rotate_left 2; (· (intro w' hS'; (try dsimp only at hS'); go_simp; try with_reducible rfl)); (· (simp only [Act.put, List.setIfInBounds_toArray, List.set_cons_zero, List.set_cons_succ]; try with_reducible rfl))) | (refine Plan.take (v := ?_) (a' := ?_) (Plan.want_yes (by rfl) (by rfl) (by rfl) (by rfl)) ?_ ?_ ?_; rotate_left 2; (· (intro w' hS'; (try dsimp only at hS'); go_simp; try with_reducible rfl)); (· (simp only [Act.put, List.setIfInBounds_toArray, List.set_cons_zero, List.set_cons_succ]; try with_reducible rfl))) | (refine Plan.pass (a' := ?_) (Plan.want_no (by rfl) (by rfl) (by rfl) (by rfl)) ?_ ?_; rotate_left 1; (· (simp only [Act.put, List.setIfInBounds_toArray, List.set_cons_zero, List.set_cons_succ]; try with_reducible rfl))) | (refine Plan.pass (a' := ?_) (Plan.want_un (by rfl) (by rfl) (by rfl) (by rfl)) ?_ ?_; rotate_left 1; (· (simp only [Act.put, List.setIfInBounds_toArray, List.set_cons_zero, List.set_cons_succ]; try with_reducible rfl))) | fail)
  refine Plan.step ?_
  go_wp2_with fail
  refine ⟨?_, ?_⟩
  (· go_simp)
  refine Plan.fin ?_
  have HX : Hid (∃ w3, w3 = (((((((((((w2.setCell ⟨n, 12, none⟩ (.int .i64 1)).setCell ⟨n, 13, none⟩ (.int .i64 0)).setCell ⟨n, 20, none⟩ (.int .i64 0)).setCell ⟨n, 21, none⟩ (.bool false)).setCell ⟨n, 22, none⟩ (.bool false)).setCell ⟨n, 23, none⟩ (.bool false)).setCell ⟨n, 24, none⟩ (.bool false)).setCell ⟨n, 25, none⟩ (.bool false)).setCell ⟨n, 26, none⟩ (.bool false)).setCell ⟨n, 27, none⟩ (.bool false)).setCell ⟨n, 28, none⟩ (.bool false)) ∧ CoreAt w3 B n (run0 c) lv sv ∧ Keeps [n] w2 w3) := by
    have k : Keeps [n] w2 (((((((((((w2.setCell ⟨n, 12, none⟩ (.int .i64 1)).setCell ⟨n, 13, none⟩ (.int .i64 0)).setCell ⟨n, 20, none⟩ (.int .i64 0)).setCell ⟨n, 21, none⟩ (.bool false)).setCell ⟨n, 22, none⟩ (.bool false)).setCell ⟨n, 23, none⟩ (.bool false)).setCell ⟨n, 24, none⟩ (.bool false)).setCell ⟨n, 25, none⟩ (.bool false)).setCell ⟨n, 26, none⟩ (.bool false)).setCell ⟨n, 27, none⟩ (.bool false)).setCell ⟨n, 28, none⟩ (.bool false)) := by
      (repeat (first | (with_reducible exact Keeps.refl _ _) | (with_reducible assumption) | ((with_reducible refine Keeps.setCell ?_ ?_ _); rotate_left 1; (· first | (refine .inl ?_; simp; done) | (refine .inr ?_; first | exact Nat.le_refl _ | (simp; done) | (simp; omega) | omega))) | (with_reducible refine Keeps.alloc ?_ _) | (with_reducible refine Keeps.drewN ?_ _) | (with_reducible refine Keeps.drew ?_)))
    have hb := votes_all (((C2.out.blk.set (c' := { risesD { c with patience := c.patience + 1 } (c.term + 1) c.id with role := 1 }) 12 (.int .i64 1) rfl).set (c' := { risesD { c with patience := c.patience + 1 } (c.term + 1) c.id with role := 1, leader := 0 }) 13 (.int .i64 0) rfl).set (c' := { risesD { c with patience := c.patience + 1 } (c.term + 1) c.id with role := 1, leader := 0, patience := 0 }) 20 (.int .i64 0) rfl) C2.out.ok.votes
    exact ⟨_, rfl, C2.out.wrote k hb rfl rfl (run0_ok H.out.ok ht), k⟩
  go_wp2_with fail
  obtain ⟨w3, hw3, hc3, hk3⟩ := HX.out
  rw [← hw3]
  have C3 := hid hc3
  have K3 : Hid (Keeps [n] w w3) := K2.out.trans hk3 (fun _ _ h => h)
  have yb := hk3.cellSome xb (by simp; omega)
  have y9 : w3.cell? ⟨n, 9, none⟩ = some (.int .i64 c.id) := hc3.blk.cell 9
  have i1 : 1 ≤ c.id := H.out.ok.id.1
  have i7 : c.id ≤ 7 := by have h1 := H.out.ok.id.2; have h2 := ((ConfD.may_iff c.conf).1 H.out.ok.may).1.2; omega
  obtain ⟨bv, yv⟩ : ∃ b, w3.cell? ⟨n, 21 + c.id.toNat, none⟩ = some (.bool b) := votes_cell hc3.blk hc3.ok.votes _ (by omega)
  have yf : w3.frozen? ⟨n, 21 + c.id.toNat, none⟩ = false := hc3.blk.free _
  clear hw3 hk3 hc3 HX fz xb x9 x12 x13 x20 x21 x22 x23 x24 x25 x26 x27 x28
  refine Plan.wp_region_plan (fun wx => wx.cell? ⟨w.heap.size, 0, none⟩ = some (.pointer (some ⟨n, 0, none⟩)) ∧ wx.cell? ⟨n, 9, none⟩ = some (.int .i64 c.id)) 7 [(true, 0), (true, 1), (true, 2), (true, 3), (true, 4), (true, 5), (true, 6)] (by kernel_rfl) (by as_aux_lemma => kernel_rfl) (by kernel_rfl) (fun _ _ _ _ _ h => h) ?_ (fun hS => ?_)
  (· exact ⟨yb, y9⟩)
  simp only [Plan.pick, List.append_eq, List.cons_append, List.nil_append, List.getElem?_cons_zero, List.getElem?_cons_succ, Option.getD_some, List.drop_succ_cons, List.drop_zero]
  iterate 7 (first | (refine Plan.take (v := ?_) (a' := ?_) (Plan.want_all (by rfl)) ?_ ?_ ?_; rotate_left 2; (· (intro w' hS'; (try dsimp only at hS'); go_simp; try with_reducible rfl)); (· (simp only [Act.put, List.setIfInBounds_toArray, List.set_cons_zero, List.set_cons_succ]; try with_reducible rfl))) | (refine Plan.take (v := ?_) (a' := ?_) (Plan.want_yes (by rfl) (by rfl) (by rfl) (by rfl)) ?_ ?_ ?_; rotate_left 2; (· (intro w' hS'; (try dsimp only at hS'); go_simp; try with_reducible rfl)); (· (simp only [Act.put, List.setIfInBounds_toArray, List.set_cons_zero, List.set_cons_succ]; try with_reducible rfl))) | (refine Plan.pass (a' := ?_) (Plan.want_no (by rfl) (by rfl) (by rfl) (by rfl)) ?_ ?_; rotate_left 1; (· (simp only [Act.put, List.setIfInBounds_toArray, List.set_cons_zero, List.set_cons_succ]; try with_reducible rfl))) | (refine Plan.pass (a' := ?_) (Plan.want_un (by rfl) (by rfl) (by rfl) (by rfl)) ?_ ?_; rotate_left 1; (· (simp only [Act.put, List.setIfInBounds_toArray, List.set_cons_zero, List.set_cons_succ]; try with_reducible rfl))) | fail)
  refine Plan.fin ?_
  have HY : Hid (∃ w4, w4 = w3.setCell ⟨n, 21 + c.id.toNat, none⟩ (.bool true) ∧ CoreAt w4 B n (runD c) lv sv ∧ Keeps [n] w3 w4) := by
    have k : Keeps [n] w3 (w3.setCell ⟨n, 21 + c.id.toNat, none⟩ (.bool true)) := (Keeps.refl _ _).setCell (.inl (by simp)) _
    refine ⟨_, rfl, C3.out.wrote k (C3.out.blk.set _ _ ?_) rfl rfl (runD_ok H.out.ok ht), k⟩
    rw [set21, tail_votes (run0 c) C3.out.ok.votes _ (by omega)]
    rfl
  go_wp2_with fail
  obtain ⟨w4, hw4, hc4, hk4⟩ := HY.out
  rw [← hw4]
  have C4 := hid hc4
  have K4 : Hid (Keeps [n] w w4) := K3.out.trans hk4 (fun _ _ h => h)
  have zb := hk4.cellSome yb (by simp; omega)
  have lb1 : 0 ≤ lastD (runD c) := by have := hc4.ok.base.1; unfold lastD; omega
  have lb2 : lastD (runD c) ≤ 2199023255552 := by have := hc4.ok.last; unfold lastD; omega
  have hzb : w.heap.size < w4.heap.size := World.block_lt_of_cell? _ _ zb
  clear hw4 hk4 hc4 HY yb y9 yv yf
  have ZB : Hid (∀ wx, Keeps [] w4 wx → wx.cell? ⟨w.heap.size, 0, none⟩ = some (.pointer (some ⟨n, 0, none⟩))) := fun wx k => k.cellSome zb (by simp)
  have za : ∀ q, ((w4.drewN q).alloc (.cells #[.int .i64 0] 3)).cell? ⟨w.heap.size, 0, none⟩ = some (.pointer (some ⟨n, 0, none⟩)) := fun q => ZB.out _ (((Keeps.refl [] w4).drewN q).alloc _)
  have al1 : ∀ q, ((w4.drewN q).alloc (.cells #[.int .i64 0] 3)).cell? ⟨w4.heap.size, 0, none⟩ = some (.int .i64 0) := fun q => cell_of_block (heap_alloc_new (w4.drewN q) _) 0
  have al2 : ∀ q, ((w4.drewN q).alloc (.cells #[.int .i64 0] 3)).frozen? ⟨w4.heap.size, 0, none⟩ = false := fun q => frozen_of_row _ _ 0 _ _ (heap_alloc_new (w4.drewN q) _)
  refine Plan.wp_region_tree (fun wx => wx.cell? ⟨w.heap.size, 0, none⟩ = some (.pointer (some ⟨n, 0, none⟩))) 10 (.take 0 (.take 1 (.fork 2 7 (.fork 3 7 (.take 4 (.take 5 (.take 6 (.step 7 (.step 8 (.take 9 .fin)))))) (.step 3 (.take 4 (.take 5 (.take 6 (.step 8 (.take 9 .fin))))))) (.step 2 (.step 3 (.take 4 (.take 5 (.take 6 (.step 8 (.take 9 .fin)))))))))) (by kernel_rfl) (by as_aux_lemma => kernel_rfl) (by kernel_rfl) (fun _ _ _ _ _ h => h) ?_ (fun hS => ?_)
  (· exact zb)
  simp only [Plan.pickT, List.append_eq, List.cons_append, List.nil_append, List.getElem?_cons_zero, List.getElem?_cons_succ, Option.getD_some, List.drop_succ_cons, List.drop_zero]
  iterate 2 (first | (refine Plan.takeT (v := ?_) (a' := ?_) (Plan.want_all (by rfl)) ?_ ?_ ?_; rotate_left 2; (· (intro w' hS'; (try dsimp only at hS'); go_simp; try with_reducible rfl)); (· (simp only [Act.put, List.setIfInBounds_toArray, List.set_cons_zero, List.set_cons_succ]; try with_reducible rfl))) | fail)
  refine Plan.forkT ?_ ?_
  rotate_left 1
  go_wp2_with fail
  refine ⟨?_, ?_⟩
  (· exact ZB.out _ (by (repeat (first | (with_reducible exact Keeps.refl _ _) | (with_reducible assumption) | ((with_reducible refine Keeps.setCell ?_ ?_ _); rotate_left 1; (· first | (refine .inl ?_; simp; done) | (refine .inr ?_; first | exact Nat.le_refl _ | (simp; done) | (simp; omega) | omega))) | (with_reducible refine Keeps.alloc ?_ _) | (with_reducible refine Keeps.drewN ?_ _) | (with_reducible refine Keeps.drew ?_)))))
  refine Plan.stepT ?_
  go_wp2_with fail
  refine (cLast_any _ B n (runD c) lv sv (C4.out.k ?_)).mono ?_
  (· (repeat (first | (with_reducible exact Keeps.refl _ _) | (with_reducible assumption) | ((with_reducible refine Keeps.setCell ?_ ?_ _); rotate_left 1; (· first | (refine .inl ?_; simp; done) | (refine .inr ?_; first | exact Nat.le_refl _ | (simp; done) | (simp; omega) | omega))) | (with_reducible refine Keeps.alloc ?_ _) | (with_reducible refine Keeps.drewN ?_ _) | (with_reducible refine Keeps.drew ?_))))
  rintro e w' ⟨rfl, kk, rfl⟩
  go_wp2_with fail
  refine ⟨?_, ?_⟩
  (· exact ZB.out _ (by (repeat (first | (with_reducible exact Keeps.refl _ _) | (with_reducible assumption) | ((with_reducible refine Keeps.setCell ?_ ?_ _); rotate_left 1; (· first | (refine .inl ?_; simp; done) | (refine .inr ?_; first | exact Nat.le_refl _ | (simp; done) | (simp; omega) | omega))) | (with_reducible refine Keeps.alloc ?_ _) | (with_reducible refine Keeps.drewN ?_ _) | (with_reducible refine Keeps.drew ?_)))))
  refine Plan.stepT ?_
  go_wp2_with fail
  refine (cAt_any _ B n (runD c) lv sv (C4.out.k ?_) (lastD (runD c)) (by omega) (by omega)).mono ?_
  (· (repeat (first | (with_reducible exact Keeps.refl _ _) | (with_reducible assumption) | ((with_reducible refine Keeps.setCell ?_ ?_ _); rotate_left 1; (· first | (refine .inl ?_; simp; done) | (refine .inr ?_; first | exact Nat.le_refl _ | (simp; done) | (simp; omega) | omega))) | (with_reducible refine Keeps.alloc ?_ _) | (with_reducible refine Keeps.drewN ?_ _) | (with_reducible refine Keeps.drew ?_))))
  rintro e w' ⟨rfl, kk, rfl⟩
  go_wp2_with fail
  refine ⟨?_, ?_⟩
  (· exact ZB.out _ (by (repeat (first | (with_reducible exact Keeps.refl _ _) | (with_reducible assumption) | ((with_reducible refine Keeps.setCell ?_ ?_ _); rotate_left 1; (· first | (refine .inl ?_; simp; done) | (refine .inr ?_; first | exact Nat.le_refl _ | (simp; done) | (simp; omega) | omega))) | (with_reducible refine Keeps.alloc ?_ _) | (with_reducible refine Keeps.drewN ?_ _) | (with_reducible refine Keeps.drew ?_)))))
  iterate 3 (first | (refine Plan.takeT (v := ?_) (a' := ?_) (Plan.want_all (by rfl)) ?_ ?_ ?_; rotate_left 2; (· (intro w' hS'; (try dsimp only at hS'); go_simp; try with_reducible rfl)); (· (simp only [Act.put, List.setIfInBounds_toArray, List.set_cons_zero, List.set_cons_succ]; try with_reducible rfl))) | fail)
  refine Plan.stepT ?_
  go_wp2_with fail
  refine ⟨?_, ?_⟩
  (· exact ZB.out _ (by (repeat (first | (with_reducible exact Keeps.refl _ _) | (with_reducible assumption) | ((with_reducible refine Keeps.setCell ?_ ?_ _); rotate_left 1; (· first | (refine .inl ?_; simp; done) | (refine .inr ?_; first | exact Nat.le_refl _ | (simp; done) | (simp; omega) | omega))) | (with_reducible refine Keeps.alloc ?_ _) | (with_reducible refine Keeps.drewN ?_ _) | (with_reducible refine Keeps.drew ?_)))))
  iterate 1 (first | (refine Plan.takeT (v := ?_) (a' := ?_) (Plan.want_all (by rfl)) ?_ ?_ ?_; rotate_left 2; (· (intro w' hS'; (try dsimp only at hS'); go_simp; try with_reducible rfl)); (· (simp only [Act.put, List.setIfInBounds_toArray, List.set_cons_zero, List.set_cons_succ]; try with_reducible rfl))) | fail)
  refine Plan.finT ?_
  rotate_left 1
  go_wp2_with fail
  refine (cLast_any _ B n (runD c) lv sv (C4.out.k ?_)).mono ?_
  (· (repeat (first | (with_reducible exact Keeps.refl _ _) | (with_reducible assumption) | ((with_reducible refine Keeps.setCell ?_ ?_ _); rotate_left 1; (· first | (refine .inl ?_; simp; done) | (refine .inr ?_; first | exact Nat.le_refl _ | (simp; done) | (simp; omega) | omega))) | (with_reducible refine Keeps.alloc ?_ _) | (with_reducible refine Keeps.drewN ?_ _) | (with_reducible refine Keeps.drew ?_))))
  rintro e w' ⟨rfl, kk, rfl⟩
  go_wp2_with fail
  refine ⟨?_, ?_⟩
  (· exact ZB.out _ (by (repeat (first | (with_reducible exact Keeps.refl _ _) | (with_reducible assumption) | ((with_reducible refine Keeps.setCell ?_ ?_ _); rotate_left 1; (· first | (refine .inl ?_; simp; done) | (refine .inr ?_; first | exact Nat.le_refl _ | (simp; done) | (simp; omega) | omega))) | (with_reducible refine Keeps.alloc ?_ _) | (with_reducible refine Keeps.drewN ?_ _) | (with_reducible refine Keeps.drew ?_)))))
  refine Plan.forkT ?_ ?_
  rotate_left 1
  go_wp2_with fail
  refine ⟨?_, ?_⟩
  (· exact ZB.out _ (by (repeat (first | (with_reducible exact Keeps.refl _ _) | (with_reducible assumption) | ((with_reducible refine Keeps.setCell ?_ ?_ _); rotate_left 1; (· first | (refine .inl ?_; simp; done) | (refine .inr ?_; first | exact Nat.le_refl _ | (simp; done) | (simp; omega) | omega))) | (with_reducible refine Keeps.alloc ?_ _) | (with_reducible refine Keeps.drewN ?_ _) | (with_reducible refine Keeps.drew ?_)))))
  refine Plan.stepT ?_
  go_wp2_with fail
  refine (cAt_any _ B n (runD c) lv sv (C4.out.k ?_) (lastD (runD c)) (by omega) (by omega)).mono ?_
  (· (repeat (first | (with_reducible exact Keeps.refl _ _) | (with_reducible assumption) | ((with_reducible refine Keeps.setCell ?_ ?_ _); rotate_left 1; (· first | (refine .inl ?_; simp; done) | (refine .inr ?_; first | exact Nat.le_refl _ | (simp; done) | (simp; omega) | omega))) | (with_reducible refine Keeps.alloc ?_ _) | (with_reducible refine Keeps.drewN ?_ _) | (with_reducible refine Keeps.drew ?_))))
  rintro e w' ⟨rfl, kk, rfl⟩
  go_wp2_with fail
  refine ⟨?_, ?_⟩
  (· exact ZB.out _ (by (repeat (first | (with_reducible exact Keeps.refl _ _) | (with_reducible assumption) | ((with_reducible refine Keeps.setCell ?_ ?_ _); rotate_left 1; (· first | (refine .inl ?_; simp; done) | (refine .inr ?_; first | exact Nat.le_refl _ | (simp; done) | (simp; omega) | omega))) | (with_reducible refine Keeps.alloc ?_ _) | (with_reducible refine Keeps.drewN ?_ _) | (with_reducible refine Keeps.drew ?_)))))
  iterate 3 (first | (refine Plan.takeT (v := ?_) (a' := ?_) (Plan.want_all (by rfl)) ?_ ?_ ?_; rotate_left 2; (· (intro w' hS'; (try dsimp only at hS'); go_simp; try with_reducible rfl)); (· (simp only [Act.put, List.setIfInBounds_toArray, List.set_cons_zero, List.set_cons_succ]; try with_reducible rfl))) | fail)
  refine Plan.stepT ?_
  go_wp2_with fail
  refine ⟨?_, ?_⟩
  (· exact ZB.out _ (by (repeat (first | (with_reducible exact Keeps.refl _ _) | (with_reducible assumption) | ((with_reducible refine Keeps.setCell ?_ ?_ _); rotate_left 1; (· first | (refine .inl ?_; simp; done) | (refine .inr ?_; first | exact Nat.le_refl _ | (simp; done) | (simp; omega) | omega))) | (with_reducible refine Keeps.alloc ?_ _) | (with_reducible refine Keeps.drewN ?_ _) | (with_reducible refine Keeps.drew ?_)))))
  iterate 1 (first | (refine Plan.takeT (v := ?_) (a' := ?_) (Plan.want_all (by rfl)) ?_ ?_ ?_; rotate_left 2; (· (intro w' hS'; (try dsimp only at hS'); go_simp; try with_reducible rfl)); (· (simp only [Act.put, List.setIfInBounds_toArray, List.set_cons_zero, List.set_cons_succ]; try with_reducible rfl))) | fail)
  refine Plan.finT ?_
  rotate_left 2
  go_wp2_with fail
  refine (cAt_any _ B n (runD c) lv sv (C4.out.k ?_) (lastD (runD c)) (by omega) (by omega)).mono ?_
  (· (repeat (first | (with_reducible exact Keeps.refl _ _) | (with_reducible assumption) | ((with_reducible refine Keeps.setCell ?_ ?_ _); rotate_left 1; (· first | (refine .inl ?_; simp; done) | (refine .inr ?_; first | exact Nat.le_refl _ | (simp; done) | (simp; omega) | omega))) | (with_reducible refine Keeps.alloc ?_ _) | (with_reducible refine Keeps.drewN ?_ _) | (with_reducible refine Keeps.drew ?_))))
  rintro e w' ⟨rfl, kk, rfl⟩
  go_wp2_with fail
  refine ⟨?_, ?_⟩
  (· exact ZB.out _ (by (repeat (first | (with_reducible exact Keeps.refl _ _) | (with_reducible assumption) | ((with_reducible refine Keeps.setCell ?_ ?_ _); rotate_left 1; (· first | (refine .inl ?_; simp; done) | (refine .inr ?_; first | exact Nat.le_refl _ | (simp; done) | (simp; omega) | omega))) | (with_reducible refine Keeps.alloc ?_ _) | (with_reducible refine Keeps.drewN ?_ _) | (with_reducible refine Keeps.drew ?_)))))
  iterate 3 (first | (refine Plan.takeT (v := ?_) (a' := ?_) (Plan.want_all (by rfl)) ?_ ?_ ?_; rotate_left 2; (· (intro w' hS'; (try dsimp only at hS'); go_simp; try with_reducible rfl)); (· (simp only [Act.put, List.setIfInBounds_toArray, List.set_cons_zero, List.set_cons_succ]; try with_reducible rfl))) | fail)
  refine Plan.stepT ?_
  go_wp2_with fail
  refine ⟨?_, ?_⟩
  (· exact ZB.out _ (by (repeat (first | (with_reducible exact Keeps.refl _ _) | (with_reducible assumption) | ((with_reducible refine Keeps.setCell ?_ ?_ _); rotate_left 1; (· first | (refine .inl ?_; simp; done) | (refine .inr ?_; first | exact Nat.le_refl _ | (simp; done) | (simp; omega) | omega))) | (with_reducible refine Keeps.alloc ?_ _) | (with_reducible refine Keeps.drewN ?_ _) | (with_reducible refine Keeps.drew ?_)))))
  refine Plan.stepT ?_
  go_wp2_with fail
  refine ⟨?_, ?_⟩
  (· exact ZB.out _ (by (repeat (first | (with_reducible exact Keeps.refl _ _) | (with_reducible assumption) | ((with_reducible refine Keeps.setCell ?_ ?_ _); rotate_left 1; (· first | (refine .inl ?_; simp; done) | (refine .inr ?_; first | exact Nat.le_refl _ | (simp; done) | (simp; omega) | omega))) | (with_reducible refine Keeps.alloc ?_ _) | (with_reducible refine Keeps.drewN ?_ _) | (with_reducible refine Keeps.drew ?_)))))
  iterate 1 (first | (refine Plan.takeT (v := ?_) (a' := ?_) (Plan.want_all (by rfl)) ?_ ?_ ?_; rotate_left 2; (· (intro w' hS'; (try dsimp only at hS'); go_simp; try with_reducible rfl)); (· (simp only [Act.put, List.setIfInBounds_toArray, List.set_cons_zero, List.set_cons_succ]; try with_reducible rfl))) | fail)
  refine Plan.finT ?_
  all_goals
    go_wp2_with fail
    refine (others_vote _ B n w.heap.size w4.heap.size (runD c) lv sv (atD (runD c) (lastD (runD c))).1 (C4.out.k ?_) ?_ ?_).mono ?_
    (· (repeat (first | (with_reducible exact Keeps.refl _ _) | (with_reducible assumption) | ((with_reducible refine Keeps.setCell ?_ ?_ _); rotate_left 1; (· first | (refine .inl ?_; simp; done) | (refine .inr ?_; first | exact Nat.le_refl _ | (simp; done) | (simp; omega) | omega))) | (with_reducible refine Keeps.alloc ?_ _) | (with_reducible refine Keeps.drewN ?_ _) | (with_reducible refine Keeps.drew ?_))))
    (· exact ZB.out _ (by (repeat (first | (with_reducible exact Keeps.refl _ _) | (with_reducible assumption) | ((with_reducible refine Keeps.setCell ?_ ?_ _); rotate_left 1; (· first | (refine .inl ?_; simp; done) | (refine .inr ?_; first | exact Nat.le_refl _ | (simp; done) | (simp; omega) | omega))) | (with_reducible refine Keeps.alloc ?_ _) | (with_reducible refine Keeps.drewN ?_ _) | (with_reducible refine Keeps.drew ?_)))))
    (· go_simp)
    rintro e w5 ⟨a5, q5, rfl, h5, k5⟩
    have C5 := hid ((C4.out.k (by (repeat (first | (with_reducible exact Keeps.refl _ _) | (with_reducible assumption) | ((with_reducible refine Keeps.setCell ?_ ?_ _); rotate_left 1; (· first | (refine .inl ?_; simp; done) | (refine .inr ?_; first | exact Nat.le_refl _ | (simp; done) | (simp; omega) | omega))) | (with_reducible refine Keeps.alloc ?_ _) | (with_reducible refine Keeps.drewN ?_ _) | (with_reducible refine Keeps.drew ?_))))).k k5)
    have hz4 : w.heap.size ≤ w4.heap.size := by omega
    have KA : Keeps [n] w4 w5 := (Keeps.mono (G := [n]) (F := []) (by (repeat (first | (with_reducible exact Keeps.refl _ _) | (with_reducible assumption) | ((with_reducible refine Keeps.setCell ?_ ?_ _); rotate_left 1; (· first | (refine .inl ?_; simp; done) | (refine .inr ?_; first | exact Nat.le_refl _ | (simp; done) | (simp; omega) | omega))) | (with_reducible refine Keeps.alloc ?_ _) | (with_reducible refine Keeps.drewN ?_ _) | (with_reducible refine Keeps.drew ?_)))) (fun _ _ h => by cases h)).trans k5 (fun _ _ h => by cases h)
    have K5 := hid (K4.out.trans KA (fun _ _ h => h))
    have H5 := hid (OwnAt.list (P' := fun b => w.heap.size ≤ b) h5 (fun b _ hb => Nat.le_trans (by simp; omega) hb.1) (fun b hb => Nat.le_trans (by simp; omega) (OwnAt.ge h5 b hb).1))
    clear h5 k5 KA
    go_wp2_with fail
    go_ret
    exact ⟨a5, q5, ret_slice (by simp [othersD]), C5.out, H5.out, K5.out⟩

end Go.Proofs.Ytpppoajnbhipeaa
