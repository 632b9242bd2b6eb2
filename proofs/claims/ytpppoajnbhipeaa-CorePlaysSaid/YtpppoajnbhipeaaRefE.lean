/- The document's core: Tick of one that runs. -/
import Derived.Test.YtpppoajnbhipeaaQ12
namespace Go.Proofs.Ytpppoajnbhipeaa
open Go Go.RowKit

theorem rvotes_cell {w : World} {n : Nat} {c : CoreD} {lv sv : Value} (h : RefBlk w n c lv sv) (h8 : c.votes.length = 8) (i : Nat) (hi : i < 8) : w.cell? ⟨n, 21 + i, none⟩ = some (.bool (c.votes.getD i false)) :=
  (h.cell _).trans ((rget21 c lv sv i).trans (rtail_vote_get c i hi h8))
theorem rvotes_all {c : CoreD} {lv sv : Value} {w : World} {n : Nat} (h : RefBlk w n c lv sv) (h8 : c.votes.length = 8) :
    RefBlk ((((((((w.setCell ⟨n, 21, none⟩ (.bool false)).setCell ⟨n, 22, none⟩ (.bool false)).setCell ⟨n, 23, none⟩ (.bool false)).setCell ⟨n, 24, none⟩ (.bool false)).setCell ⟨n, 25, none⟩ (.bool false)).setCell ⟨n, 26, none⟩ (.bool false)).setCell ⟨n, 27, none⟩ (.bool false)).setCell ⟨n, 28, none⟩ (.bool false)) n { c with votes := List.replicate 8 false } lv sv := by
  have st : ∀ (w : World) (c : CoreD) (i : Nat), RefBlk w n c lv sv → c.votes.length = 8 → i < 8 → RefBlk (w.setCell ⟨n, 21 + i, none⟩ (.bool false)) n { c with votes := c.votes.set i false } lv sv := fun w c i h h8 hi => h.set (21 + i) _ (by rw [rset21, rtail_votes c h8 i hi]; rfl)
  have h1 := st _ _ 7 (st _ _ 6 (st _ _ 5 (st _ _ 4 (st _ _ 3 (st _ _ 2 (st _ _ 1 (st w c 0 h h8 (by omega)) (by simp [h8]) (by omega)) (by simp [h8]) (by omega)) (by simp [h8]) (by omega)) (by simp [h8]) (by omega)) (by simp [h8]) (by omega)) (by simp [h8]) (by omega)) (by simp [h8]) (by omega)
  have e : (((((((c.votes.set 0 false).set 1 false).set 2 false).set 3 false).set 4 false).set 5 false).set 6 false).set 7 false = List.replicate 8 false := by
    match c.votes, h8 with
    | [_, _, _, _, _, _, _, _], _ => rfl
  simp only [e] at h1
  exact h1
theorem RefBlk.hard {w : World} {n : Nat} {c : CoreD} {lv sv : Value} (h : RefBlk w n c lv sv) (h1 : c.votes.length = 8) (h2 : c.next.length = 8) (h3 : c.matc.length = 8) (b : Bool) : RefBlk (w.setCell ⟨n, 45, none⟩ (.bool b)) n { c with hard := b } lv sv :=
  h.set 45 _ (by rw [show 45 = 21 + 24 from rfl, rset21, rtail_hard c h1 h2 h3]; rfl)

/-- A candidate, its own vote not counted yet. -/
def rrun (c : CoreD) : CoreD := { c with patience := c.patience + 1, term := c.term + 1, vote := c.id, hard := true, role := 1, leader := 0, votes := List.replicate 8 false }
def rrun2 (c : CoreD) : CoreD := { rrun c with votes := (List.replicate 8 false).set c.id.toNat true }
theorem rrun_ok {c : CoreD} (h : CoreOk c) (ht : c.term < 1099511627776) : CoreOk (rrun c) :=
  { may := h.may, id := h.id, term := ⟨by show 0 ≤ c.term + 1; have := h.term; omega, by show c.term + 1 ≤ _; omega⟩, base := h.base, baseTerm := h.baseTerm, len := h.len, last := h.last, commit := h.commit, draw := h.draw, votes := by simp [rrun], next := h.next, matc := h.matc, nexts := h.nexts, matcs := h.matcs, ents := h.ents, frm := h.frm, data := h.data, snap := h.snap }
theorem rrun2_ok {c : CoreD} (h : CoreOk c) (ht : c.term < 1099511627776) : CoreOk (rrun2 c) :=
  { may := h.may, id := h.id, term := ⟨by show 0 ≤ c.term + 1; have := h.term; omega, by show c.term + 1 ≤ _; omega⟩, base := h.base, baseTerm := h.baseTerm, len := h.len, last := h.last, commit := h.commit, draw := h.draw, votes := by simp [rrun2], next := h.next, matc := h.matc, nexts := h.nexts, matcs := h.matcs, ents := h.ents, frm := h.frm, data := h.data, snap := h.snap }
theorem runD_is {c : CoreD} : runD c = { rrun2 c with patience := 0 } := by
  have : (c.hard || c.term + 1 != c.term || c.id != c.vote) = true := by
    have : (c.term + 1 != c.term) = true := by simp; omega
    rw [this]
    simp
  unfold runD risesD rrun2 rrun
  rw [this]

theorem rLast_is (w : World) (B n : Nat) (c : CoreD) (P : Nat → Prop) (lv sv : Value) (h : RefAt w B n c P lv sv) (L : Int) (hL : lastD c = L) : Calls Try.prog 48 #[.pointer (some ⟨n, 0, none⟩)] w fun e w' => e = .returned (.int .i64 L) ∧ ∃ k, w' = w.drewN k := by
  rw [← hL]
  exact rLast_any w B n c P lv sv h

set_option maxRecDepth 100000 in
set_option maxHeartbeats 3200000 in
theorem rtick_runs (w : World) (B n : Nat) (c : CoreD) (P : Nat → Prop) (lv sv : Value) (h : RefAt w B n c P lv sv) (hP : ∀ b, P b → b < w.heap.size) (hr : c.role ≠ 2) (hp : 0 ≤ c.patience ∧ c.patience ≤ 1000000000) (hw : ¬ (c.patience + 1 < c.conf.lo + c.draw ∨ 1099511627776 ≤ c.term)) :
    Calls Try.prog 68 #[.pointer (some ⟨n, 0, none⟩)] w (RCallPost B n P (tickD c) w) := by
  rw [tickD_runs hr hw]
  obtain ⟨it, hi0, hz0, hz1, hz2⟩ := info_parts Try.infoMsg
  have hm := (ConfD.may_iff c.conf).1 h.ok.may
  have h0 : w.cell? ⟨n, 0, none⟩ = some (.int .i64 c.conf.nodes) := h.blk.cell 0
  have h3 : w.cell? ⟨n, 3, none⟩ = some (.int .i64 c.conf.lo) := h.blk.cell 3
  have h9 : w.cell? ⟨n, 9, none⟩ = some (.int .i64 c.id) := h.blk.cell 9
  have h10 : w.cell? ⟨n, 10, none⟩ = some (.int .i64 c.term) := h.blk.cell 10
  have h11 : w.cell? ⟨n, 11, none⟩ = some (.int .i64 c.vote) := h.blk.cell 11
  have h12 : w.cell? ⟨n, 12, none⟩ = some (.int .i64 c.role) := h.blk.cell 12
  have h13 : w.cell? ⟨n, 13, none⟩ = some (.int .i64 c.leader) := h.blk.cell 13
  have h20 : w.cell? ⟨n, 20, none⟩ = some (.int .i64 c.draw) := h.blk.cell 20
  have h19 : w.cell? ⟨n, 19, none⟩ = some (.int .i64 c.patience) := h.blk.cell 19
  have x21 := rvotes_cell h.blk h.ok.votes 0 (by omega)
  have x22 := rvotes_cell h.blk h.ok.votes 1 (by omega)
  have x23 := rvotes_cell h.blk h.ok.votes 2 (by omega)
  have x24 := rvotes_cell h.blk h.ok.votes 3 (by omega)
  have x25 := rvotes_cell h.blk h.ok.votes 4 (by omega)
  have x26 := rvotes_cell h.blk h.ok.votes 5 (by omega)
  have x27 := rvotes_cell h.blk h.ok.votes 6 (by omega)
  have x28 := rvotes_cell h.blk h.ok.votes 7 (by omega)
  have x45 : w.cell? ⟨n, 45, none⟩ = some (.bool c.hard) := (h.blk.cell 45).trans ((rget21 c lv sv 24).trans (rtail_get c h.ok.votes h.ok.next h.ok.matc).1)
  have fz : ∀ i, w.frozen? ⟨n, i, none⟩ = false := fun i => h.blk.free i
  have hlt := h.blk.lt
  have HPB := hid hP
  obtain ⟨p0, p1⟩ := hp
  have l0 : 0 ≤ c.conf.lo := by omega
  have l1 : c.conf.lo ≤ 1000 := by omega
  have d0 := h.ok.draw.1
  have d1 := h.ok.draw.2
  have t0 := h.ok.term.1
  have t1 : c.term < 1099511627776 := by omega
  have i1 : 1 ≤ c.id := h.ok.id.1
  have i7 : c.id ≤ 7 := by have h1 := h.ok.id.2; have h2 := hm.1.2; omega
  have n2 := hm.1.2
  have HN : Hid ((c.conf.nodes.toNat : Int) = c.conf.nodes) := by show _ = _; have := hm.1.1; omega
  have hrb : (c.role == 2) = false := by simpa using hr
  have hd : decide (c.patience + 1 < c.conf.lo + c.draw) = false := by simp; omega
  have hd2 : decide (1099511627776 ≤ c.term) = false := by simp; omega
  have wr1 : IntKind.i64.wrap (c.conf.lo + c.draw) = c.conf.lo + c.draw := IntWalk.i64_in _ (by omega)
  have wr2 : IntKind.i64.wrap (c.term + 1) = c.term + 1 := IntWalk.i64_in _ (by omega)
  have H := hid h
  clear h hm hr hw hP
  go_enter Try.func68, Try.ntmps68
  go_wp2_with fail
  refine Plan.wp_region_plan (fun wx => wx.cell? ⟨n, 19, none⟩ = some (.int .i64 (c.patience + 1)) ∧ wx.cell? ⟨n, 3, none⟩ = some (.int .i64 c.conf.lo) ∧ wx.cell? ⟨n, 20, none⟩ = some (.int .i64 c.draw) ∧ wx.cell? ⟨n, 10, none⟩ = some (.int .i64 c.term)) 22 [(true, 0), (true, 1), (true, 2), (true, 3), (true, 4), (true, 5), (true, 6), (true, 7), (true, 8), (true, 9), (true, 10), (true, 11), (true, 12), (true, 13), (true, 14), (true, 15), (true, 16), (true, 17), (true, 18), (true, 19), (true, 20), (true, 21)] (by kernel_rfl) (by as_aux_lemma => kernel_rfl) (by kernel_rfl) (fun _ _ _ _ _ h => h) ?_ (fun hS => ?_)
  (· go_simp)
  simp only [Plan.pick, List.append_eq, List.cons_append, List.nil_append, Plan.g1, Plan.g2, Option.getD_some, List.drop_succ_cons, List.drop_zero]
  iterate 22 (first | refine Plan.tA ?_ | refine Plan.tY ?_ | refine Plan.pN ?_ | refine Plan.pU ?_ | fail)
  refine Plan.fin ?_
  clear wr1 hS
  go_wp2_with fail
  have HX : Hid (∃ w3, w3 = ((((((((((((((w.setCell ⟨n, 19, none⟩ (.int .i64 (c.patience + 1))).setCell ⟨n, 10, none⟩ (.int .i64 (c.term + 1))).setCell ⟨n, 11, none⟩ (.int .i64 c.id)).setCell ⟨n, 45, none⟩ (.bool true)).setCell ⟨n, 12, none⟩ (.int .i64 1)).setCell ⟨n, 13, none⟩ (.int .i64 0)).setCell ⟨n, 21, none⟩ (.bool false)).setCell ⟨n, 22, none⟩ (.bool false)).setCell ⟨n, 23, none⟩ (.bool false)).setCell ⟨n, 24, none⟩ (.bool false)).setCell ⟨n, 25, none⟩ (.bool false)).setCell ⟨n, 26, none⟩ (.bool false)).setCell ⟨n, 27, none⟩ (.bool false)).setCell ⟨n, 28, none⟩ (.bool false)) ∧ RefAt w3 B n (rrun c) P lv sv ∧ Keeps [n] w w3) := by
    have b1 := H.out.blk.set (c' := { c with patience := c.patience + 1 }) (lv' := lv) (sv' := sv) 19 (.int .i64 (c.patience + 1)) rfl
    have b2 := b1.set (c' := { c with patience := c.patience + 1, term := c.term + 1 }) (lv' := lv) (sv' := sv) 10 (.int .i64 (c.term + 1)) rfl
    have b3 := b2.set (c' := { c with patience := c.patience + 1, term := c.term + 1, vote := c.id }) (lv' := lv) (sv' := sv) 11 (.int .i64 c.id) rfl
    have b4 := b3.hard H.out.ok.votes H.out.ok.next H.out.ok.matc true
    have b5 := b4.set (c' := { c with patience := c.patience + 1, term := c.term + 1, vote := c.id, hard := true, role := 1 }) (lv' := lv) (sv' := sv) 12 (.int .i64 1) rfl
    have b6 := b5.set (c' := { c with patience := c.patience + 1, term := c.term + 1, vote := c.id, hard := true, role := 1, leader := 0 }) (lv' := lv) (sv' := sv) 13 (.int .i64 0) rfl
    have b7 := rvotes_all b6 H.out.ok.votes
    have k : Keeps [n] w ((((((((((((((w.setCell ⟨n, 19, none⟩ (.int .i64 (c.patience + 1))).setCell ⟨n, 10, none⟩ (.int .i64 (c.term + 1))).setCell ⟨n, 11, none⟩ (.int .i64 c.id)).setCell ⟨n, 45, none⟩ (.bool true)).setCell ⟨n, 12, none⟩ (.int .i64 1)).setCell ⟨n, 13, none⟩ (.int .i64 0)).setCell ⟨n, 21, none⟩ (.bool false)).setCell ⟨n, 22, none⟩ (.bool false)).setCell ⟨n, 23, none⟩ (.bool false)).setCell ⟨n, 24, none⟩ (.bool false)).setCell ⟨n, 25, none⟩ (.bool false)).setCell ⟨n, 26, none⟩ (.bool false)).setCell ⟨n, 27, none⟩ (.bool false)).setCell ⟨n, 28, none⟩ (.bool false)) := by exact Keeps.K
    exact ⟨_, rfl, H.out.wrote k b7 rfl rfl (rrun_ok H.out.ok t1), k⟩
  obtain ⟨w3, hw3, hc3, hk3⟩ := HX.out
  rw [← hw3]
  have C3 := hid hc3
  have K3 := hid hk3
  have y9 : w3.cell? ⟨n, 9, none⟩ = some (.int .i64 c.id) := hc3.blk.cell 9
  have y19 : w3.cell? ⟨n, 19, none⟩ = some (.int .i64 (c.patience + 1)) := hc3.blk.cell 19
  have yf19 : w3.frozen? ⟨n, 19, none⟩ = false := hc3.blk.free _
  have yv : w3.cell? ⟨n, 21 + c.id.toNat, none⟩ = some (.bool ((List.replicate 8 false).getD c.id.toNat false)) := rvotes_cell hc3.blk hc3.ok.votes _ (by omega)
  have yf : w3.frozen? ⟨n, 21 + c.id.toNat, none⟩ = false := hc3.blk.free _
  have hn3 : n < w3.heap.size := Nat.lt_of_lt_of_le hlt hk3.size
  have hi0' : 0 ≤ c.id := by omega
  have hi8 : c.id < 8 := by omega
  have hne : ¬ (21 + c.id.toNat = 19) := by omega
  clear hw3 hk3 hc3 HX fz x21 x22 x23 x24 x25 x26 x27 x28 x45 h0 h3 h9 h10 h11 h12 h13 h20 h19
  refine Plan.wp_region_plan (fun wx => wx.cell? ⟨n, 9, none⟩ = some (.int .i64 c.id)) 9 [(true, 0), (true, 1), (true, 2), (true, 3), (true, 4), (true, 5), (true, 6), (true, 7), (false, 8)] (by kernel_rfl) (by as_aux_lemma => kernel_rfl) (by kernel_rfl) (fun _ _ _ _ _ h => h) ?_ (fun hS => ?_)
  (· exact y9)
  simp only [Plan.pick, List.append_eq, List.cons_append, List.nil_append, Plan.g1, Plan.g2, Option.getD_some, List.drop_succ_cons, List.drop_zero]
  iterate 8 (first | refine Plan.tA ?_ | refine Plan.tY ?_ | refine Plan.pN ?_ | refine Plan.pU ?_ | fail)
  refine Plan.step ?_
  go_wp2_with fail
  refine ⟨?_, ?_⟩
  (· go_simp)
  refine Plan.fin ?_
  go_wp2_with fail
  have HY : Hid (∃ w5, w5 = (w3.setCell ⟨n, 21 + c.id.toNat, none⟩ (.bool true)).setCell ⟨n, 19, none⟩ (.int .i64 0) ∧ RefAt w5 B n (runD c) P lv sv ∧ Keeps [n] w w5) := by
    obtain ⟨r1, k1⟩ := C3.out.set (c' := rrun2 c) (21 + c.id.toNat) (.bool true) (by rw [rset21, rtail_votes (rrun c) (by simp [rrun]) _ (by omega)]; rfl) rfl rfl (rrun2_ok H.out.ok t1)
    obtain ⟨r2, k2⟩ := r1.set (c' := runD c) 19 (.int .i64 0) (by rw [runD_is]; rfl) rfl rfl (runD_ok H.out.ok t1)
    exact ⟨_, rfl, r2, (K3.out.trans k1 (fun _ _ h => h)).trans k2 (fun _ _ h => h)⟩
  obtain ⟨w5, hw5, hc5, hk5⟩ := HY.out
  rw [← hw5]
  have C5 := hid hc5
  have K5 := hid hk5
  have hn5 : n < w5.heap.size := Nat.lt_of_lt_of_le hlt hk5.size
  have z0 : w5.cell? ⟨n, 0, none⟩ = some (.int .i64 c.conf.nodes) := hc5.blk.cell 0
  have z9 : w5.cell? ⟨n, 9, none⟩ = some (.int .i64 c.id) := hc5.blk.cell 9
  have z10 : w5.cell? ⟨n, 10, none⟩ = some (.int .i64 (c.term + 1)) := hc5.blk.cell 10
  obtain ⟨L, hL⟩ : ∃ L, lastD (runD c) = L := ⟨_, rfl⟩
  obtain ⟨T, okT, hT⟩ : ∃ t o, atD (runD c) L = (t, o) := ⟨_, _, rfl⟩
  have hLb : 0 ≤ L ∧ L ≤ 2199023255552 := by have h1 := hc5.ok.base; have h2 := hc5.ok.last; rw [← hL]; unfold lastD; omega
  have HM : Hid (∀ to, voteMsg (runD c) to = { kind := 1, frm := c.id, to := to, term := c.term + 1, a := L, b := T, c := 0, ok := false, entries := [], data := [] }) := fun to => by
    unfold voteMsg saysD
    rw [hL, hT]
    rfl
  have HL := hid hL
  have HT := hid hT
  clear hw5 hc5 hk5 HY y9 y19 yf19 yv yf hS hL hT
  go_loopw [3, 4] (fun v t wr => ∃ (k m : Nat) (a : Option Addr) (q : Nat), k ≤ c.conf.nodes.toNat ∧ m ≤ k ∧ v = .slice a m q ∧ t = .int .i64 ((k : Int) + 1) ∧ Hid ((othersTo c.id k).length = m ∧ FreshMsgs w5 wr (.slice a m q) ((othersTo c.id k).map (voteMsg (runD c))) ∧ Keeps [] w5 wr)) (fun _ t _ => (c.conf.nodes + 1 - intOf t).toNat)
  case atStart => exact ⟨0, 0, none, 0, Nat.zero_le _, Nat.le_refl _, rfl, rfl, rfl, OwnAt.nil _ _ _ _, by exact Keeps.K⟩
  case round =>
    obtain ⟨k, m, a, q, hk, hmk, rfl, rfl, HW⟩ := hrel
    have i0 : (0 : Int) ≤ (k : Int) := Int.natCast_nonneg _
    have x0 := HW.out.2.2.cellSome z0 (by simp)
    have x9 := HW.out.2.2.cellSome z9 (by simp)
    have x10 := HW.out.2.2.cellSome z10 (by simp)
    have hnr : n < wr.heap.size := Nat.lt_of_lt_of_le hn5 HW.out.2.2.size
    by_cases hlt' : k < c.conf.nodes.toNat
    · have hle : (k : Int) + 1 ≤ c.conf.nodes := by have := HN.out; omega
      by_cases hid' : (k : Int) + 1 = c.id
      · have HS := hid (othersTo_skip hid')
        have hb : ((k : Int) + 1 != c.id) = false := by simpa using hid'
        clear hid'
        go_wp2_with fail
        go_roundw
        case rel => exact ⟨k + 1, m, a, q, by omega, by omega, rfl, by go_num, by rw [HS.out]; exact HW.out⟩
        case measure => simp [intOf]; omega
      · have HS := hid (othersTo_take hid')
        have hb : ((k : Int) + 1 != c.id) = true := by simpa using hid'
        clear hid'
        have HTL : Hid (((othersTo c.id k).map (voteMsg (runD c))).length = m) := by show _ = _; rw [List.length_map]; exact HW.out.1
        have HZ : Hid (w5.heap.size ≤ wr.heap.size) := HW.out.2.2.size
        have hm7 : m ≤ 7 := by omega
        go_wp2_with fail
        refine (rmsg_any _ n c.id (c.term + 1) _ _ x9 x10 hnr).mono ?_
        rintro e w6 ⟨rfl, hk6⟩
        have K6 := hid hk6
        have hn6 : n < w6.heap.size := Nat.lt_of_lt_of_le hnr hk6.size
        have HR6 : Hid (RefAt w6 B n (runD c) P lv sv) := C5.out.k (HW.out.2.2.trans hk6 (fun _ _ h => h))
        clear hk6
        go_wp2_with fail
        refine (rLast_is _ B n _ P lv sv (HR6.out.k ((Keeps.refl _ _).alloc _)) L HL.out).mono ?_
        rintro e w' ⟨rfl, kk, rfl⟩
        go_wp2_with fail
        refine (rLast_is _ B n _ P lv sv (HR6.out.k (by exact Keeps.K)) L HL.out).mono ?_
        rintro e w' ⟨rfl, kk2, rfl⟩
        go_wp2_with fail
        refine (rAt_is _ B n _ P lv sv (HR6.out.k (by exact Keeps.K)) L T okT (by omega) (by omega) HT.out).mono ?_
        rintro e w' ⟨rfl, kk3, rfl⟩
        have HOW : Hid (OwnAt msgL 40 w6 w5.heap.size (fun b => w5.heap.size ≤ b ∧ b ∉ ownB (.slice a m q)) (.slice a m q) ((othersTo c.id k).map (voteMsg (runD c)))) := OwnAt.k HW.out.2.1 K6.out
        have HEL : Hid (∀ wx : World, msgL.at_ wx (fun b => w6.heap.size ≤ b) [.int .i64 1, .int .i64 c.id, .int .i64 ((k : Int) + 1), .int .i64 (c.term + 1), .int .i64 L, .int .i64 T, .int .i64 0, .bool false, .slice none 0 0, .slice none 0 0] (voteMsg (runD c) ((k : Int) + 1))) := fun wx => by
          show msgL.at_ _ _ _ _
          rw [HM.out]
          exact ⟨_, _, rfl, ListAt.nil _ _ _ _, BytesAt.nil _ _ _ _⟩
        have KB : Hid (Keeps [] w6 ((((((w6.alloc (.cells #[.int .i64 1, .int .i64 c.id, .int .i64 ((k : Int) + 1), .int .i64 (c.term + 1), .int .i64 0, .int .i64 0, .int .i64 0, .bool false, .slice none 0 0, .slice none 0 0] 40)).drewN kk).setCell ⟨w6.heap.size, 4, none⟩ (.int .i64 L)).drewN (kk2 + kk3)).setCell ⟨w6.heap.size, 5, none⟩ (.int .i64 T)).alloc (.cells #[.int .i64 1, .int .i64 c.id, .int .i64 ((k : Int) + 1), .int .i64 (c.term + 1), .int .i64 L, .int .i64 T, .int .i64 0, .bool false, .slice none 0 0, .slice none 0 0] 40))) := by show Keeps _ _ _; exact Keeps.K
        have HNEW : Hid (((((((w6.alloc (.cells #[.int .i64 1, .int .i64 c.id, .int .i64 ((k : Int) + 1), .int .i64 (c.term + 1), .int .i64 0, .int .i64 0, .int .i64 0, .bool false, .slice none 0 0, .slice none 0 0] 40)).drewN kk).setCell ⟨w6.heap.size, 4, none⟩ (.int .i64 L)).drewN (kk2 + kk3)).setCell ⟨w6.heap.size, 5, none⟩ (.int .i64 T)).alloc (.cells #[.int .i64 1, .int .i64 c.id, .int .i64 ((k : Int) + 1), .int .i64 (c.term + 1), .int .i64 L, .int .i64 T, .int .i64 0, .bool false, .slice none 0 0, .slice none 0 0] 40)).heap[w6.heap.size + 1]? = some (.cells #[.int .i64 1, .int .i64 c.id, .int .i64 ((k : Int) + 1), .int .i64 (c.term + 1), .int .i64 L, .int .i64 T, .int .i64 0, .bool false, .slice none 0 0, .slice none 0 0] 40 (0, 0))) := by
          have e := heap_alloc_new (((((w6.alloc (.cells #[.int .i64 1, .int .i64 c.id, .int .i64 ((k : Int) + 1), .int .i64 (c.term + 1), .int .i64 0, .int .i64 0, .int .i64 0, .bool false, .slice none 0 0, .slice none 0 0] 40)).drewN kk).setCell ⟨w6.heap.size, 4, none⟩ (.int .i64 L)).drewN (kk2 + kk3)).setCell ⟨w6.heap.size, 5, none⟩ (.int .i64 T)) (.cells #[.int .i64 1, .int .i64 c.id, .int .i64 ((k : Int) + 1), .int .i64 (c.term + 1), .int .i64 L, .int .i64 T, .int .i64 0, .bool false, .slice none 0 0, .slice none 0 0] 40)
          rw [show (((((w6.alloc (.cells #[.int .i64 1, .int .i64 c.id, .int .i64 ((k : Int) + 1), .int .i64 (c.term + 1), .int .i64 0, .int .i64 0, .int .i64 0, .bool false, .slice none 0 0, .slice none 0 0] 40)).drewN kk).setCell ⟨w6.heap.size, 4, none⟩ (.int .i64 L)).drewN (kk2 + kk3)).setCell ⟨w6.heap.size, 5, none⟩ (.int .i64 T)).heap.size = w6.heap.size + 1 by simp] at e
          exact e
        have HBB : Hid (∀ b, w6.heap.size ≤ b → w5.heap.size ≤ b ∧ b ∉ ownB (.slice a m q)) := fun b hb => ⟨Nat.le_trans HZ.out (Nat.le_trans K6.out.size hb), fun hb' => by have := (OwnAt.ge HOW.out b hb').2; omega⟩
        go_wp2_with (at_builtin; go_must (refine wpList_append_off (L := msgL) (PB := fun b => w6.heap.size ≤ b) _ (by rfl) _ _ _ (by rfl) w5.heap.size 40 it _ 112 Try.underlying36 hi0 hz0 hz1 hz2 rfl (R := fun b => w5.heap.size ≤ b) (.slice a m q) (by rfl) ((othersTo c.id k).map (voteMsg (runD c))) [voteMsg (runD c) ((k : Int) + 1)] m HTL.out [[.int .i64 1, .int .i64 c.id, .int .i64 ((k : Int) + 1), .int .i64 (c.term + 1), .int .i64 L, .int .i64 T, .int .i64 0, .bool false, .slice none 0 0, .slice none 0 0]] (HOW.out.k KB.out) (.slice (some ⟨w6.heap.size + 1, 0, none⟩) 1 1) (by rfl) 1 rfl (ElemsAt.one1 (HEL.out _)) (Reads.one1 HNEW.out rfl) (by omega) (le_maxLen (by omega)) (by exact Nat.le_trans HZ.out (Nat.le_trans K6.out.size KB.out.size)) (fun b _ hb => HBB.out b hb) ?_; intro a4 q4 w4 ho4 hk4 hv4))
        go_roundw
        case rel =>
          refine ⟨k + 1, m + 1, a4, q4, by omega, by omega, rfl, by go_num, ?_, ?_, ?_⟩
          · rw [HS.out]; simp [HW.out.1]
          · rw [HS.out, List.map_append]; exact ho4.out
          · refine ((HW.out.2.2.trans K6.out (fun _ _ h => h)).trans KB.out (fun _ _ h => h)).trans hk4.out (fun b hb hb' => ?_)
            have := (OwnAt.ge HOW.out b hb').1
            omega
        case measure => simp [intOf]; omega
    · have hkn : k = c.conf.nodes.toNat := by omega
      have hge : c.conf.nodes < (k : Int) + 1 := by have := HN.out; omega
      have HK := hid hkn
      clear hkn
      go_wp2_with fail
      go_ret
      have h1 := HW.out
      rw [HK.out] at h1
      refine RCallPost.tells (C5.out.toGr hlt) hlt K5.out (RMsgsPost.of ?_)
      show MsgsPost (othersD (runD c) (voteMsg (runD c))) _ _ _
      unfold othersD
      refine ⟨a, q, ?_, ?_, h1.2.2⟩
      · rw [List.length_map]
        show _ = Ending.returned (.slice a (othersTo c.id c.conf.nodes.toNat).length q)
        rw [h1.1]
        rfl
      · rw [List.length_map]
        show FreshMsgs _ _ (.slice a (othersTo c.id c.conf.nodes.toNat).length q) _
        rw [h1.1]
        exact h1.2.1

theorem rtick_any (w : World) (B n : Nat) (c : CoreD) (P : Nat → Prop) (lv sv : Value) (h : RefAt w B n c P lv sv) (hP : ∀ b, P b → b < w.heap.size) (hp : 0 ≤ c.patience ∧ c.patience ≤ 1000000000) :
    Calls Try.prog 68 #[.pointer (some ⟨n, 0, none⟩)] w (RCallPost B n P (tickD c) w) := by
  by_cases hr : c.role = 2
  · by_cases hh : c.patience + 1 < c.conf.heart
    · exact rtick_still w B n c P lv sv h hr hp hh
    · exact rtick_sends w B n c P lv sv h hP hr hp hh
  · by_cases hw : c.patience + 1 < c.conf.lo + c.draw ∨ 1099511627776 ≤ c.term
    · exact rtick_waits w B n c P lv sv h hr hp hw
    · exact rtick_runs w B n c P lv sv h hP hr hp hw

end Go.Proofs.Ytpppoajnbhipeaa
