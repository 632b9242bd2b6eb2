/- Joined of VotedA, AppA, AppB. -/
import Derived.Test.YtpppoajnbhipeaaQ10
import Derived.Test.YtpppoajnbhipeaaQ11

/- voted: a vote comes; with more than half of them it leads. -/
namespace Go.Proofs.Ytpppoajnbhipeaa
open Go Go.RowKit

theorem votedD_no {c : CoreD} {m : MsgD} (h : m.term ≠ c.term ∨ c.role ≠ 1 ∨ m.ok = false) : votedD c m = (c, []) := by unfold votedD; rw [if_pos h]
theorem votesL (l : List Bool) (h : l.length = 8) : ∃ b0 b1 b2 b3 b4 b5 b6 b7, l = [b0, b1, b2, b3, b4, b5, b6, b7] := by
  match l, h with
  | [b0, b1, b2, b3, b4, b5, b6, b7], _ => exact ⟨b0, b1, b2, b3, b4, b5, b6, b7, rfl⟩
theorem matc_all {c : CoreD} {lv sv : Value} {w : World} {n : Nat} (h : CoreBlk w n c lv sv) (hv : c.votes.length = 8) (hn : c.next.length = 8) (hm : c.matc.length = 8) :
    CoreBlk ((((((((w.setCell ⟨n, 37, none⟩ (.int .i64 0)).setCell ⟨n, 38, none⟩ (.int .i64 0)).setCell ⟨n, 39, none⟩ (.int .i64 0)).setCell ⟨n, 40, none⟩ (.int .i64 0)).setCell ⟨n, 41, none⟩ (.int .i64 0)).setCell ⟨n, 42, none⟩ (.int .i64 0)).setCell ⟨n, 43, none⟩ (.int .i64 0)).setCell ⟨n, 44, none⟩ (.int .i64 0)) n { c with matc := List.replicate 8 0 } lv sv := by
  have st : ∀ (w : World) (c : CoreD) (i : Nat), CoreBlk w n c lv sv → c.votes.length = 8 → c.next.length = 8 → c.matc.length = 8 → i < 8 → CoreBlk (w.setCell ⟨n, 21 + (16 + i), none⟩ (.int .i64 0)) n { c with matc := c.matc.set i 0 } lv sv := fun w c i h hv hn hm hi => h.set (21 + (16 + i)) _ (by rw [set21, tail_matc c hv hn hm i hi]; rfl)
  have h1 := st _ _ 7 (st _ _ 6 (st _ _ 5 (st _ _ 4 (st _ _ 3 (st _ _ 2 (st _ _ 1 (st w c 0 h hv hn hm (by omega)) hv hn (by simp [hm]) (by omega)) hv hn (by simp [hm]) (by omega)) hv hn (by simp [hm]) (by omega)) hv hn (by simp [hm]) (by omega)) hv hn (by simp [hm]) (by omega)) hv hn (by simp [hm]) (by omega)) hv hn (by simp [hm]) (by omega)
  have e : (((((((c.matc.set 0 0).set 1 0).set 2 0).set 3 0).set 4 0).set 5 0).set 6 0).set 7 0 = List.replicate 8 0 := by
    match c.matc, hm with
    | [_, _, _, _, _, _, _, _], _ => rfl
  simp only [e] at h1
  exact h1
theorem votes_get {w : World} {n : Nat} {c : CoreD} {lv sv : Value} (h : CoreBlk w n c lv sv) (i : Nat) (b : Bool) (hb : c.votes[i]? = some b) : w.cell? ⟨n, 21 + i, none⟩ = some (.bool b) := by
  refine (h.cell _).trans ((get21 c lv sv i).trans ?_)
  unfold tailCells bools
  have hi : i < c.votes.length := (List.getElem?_eq_some_iff.1 hb).1
  rw [List.getElem?_append_left (by simp; omega)]
  simp [hb]
theorem vote_idx (b0 b1 b2 b3 b4 b5 b6 b7 : Bool) (w : World) : ∀ k : Nat, k < 8 → ∃ b, [b0, b1, b2, b3, b4, b5, b6, b7][k]? = some b ∧ (Instr.index 87 (.agg #[.bool b0, .bool b1, .bool b2, .bool b3, .bool b4, .bool b5, .bool b6, .bool b7]) (.int .i64 k)).run Try.prog w = .ok (.bool b) w
  | 0, _ => ⟨_, rfl, by kernel_rfl⟩
  | 1, _ => ⟨_, rfl, by kernel_rfl⟩
  | 2, _ => ⟨_, rfl, by kernel_rfl⟩
  | 3, _ => ⟨_, rfl, by kernel_rfl⟩
  | 4, _ => ⟨_, rfl, by kernel_rfl⟩
  | 5, _ => ⟨_, rfl, by kernel_rfl⟩
  | 6, _ => ⟨_, rfl, by kernel_rfl⟩
  | 7, _ => ⟨_, rfl, by kernel_rfl⟩
  | n + 8, h => by omega
theorem count_take {l : List Bool} {k : Nat} {b : Bool} (h : l[k]? = some b) : (l.take (k + 1)).count true = (l.take k).count true + (if b then 1 else 0) := by
  rw [List.take_add_one, h, List.count_append]
  cases b <;> simp

theorem votedC_ok {c : CoreD} (h : CoreOk c) (m : MsgD) : CoreOk (votedC c m) :=
  { may := h.may, id := h.id, term := h.term, base := h.base, baseTerm := h.baseTerm, len := h.len, last := h.last, commit := h.commit, draw := h.draw, votes := by simp [votedC, h.votes], next := h.next, matc := h.matc, nexts := h.nexts, matcs := h.matcs, ents := h.ents, frm := h.frm, data := h.data, snap := h.snap }

set_option maxRecDepth 100000 in
set_option maxHeartbeats 3200000 in
theorem voted_no (w : World) (B n : Nat) (c : CoreD) (lv sv : Value) (m : MsgD) (ea da : Option Addr) (ec dc : Nat) (h : CoreAt w B n c lv sv) (hn : m.term ≠ c.term ∨ c.role ≠ 1 ∨ m.ok = false) :
    Calls Try.prog 55 #[.pointer (some ⟨n, 0, none⟩), msgV m (.slice ea m.entries.length ec) (.slice da m.data.length dc)] w (CallPost B n lv (votedD c m) w) := by
  rw [votedD_no hn]
  have h10 : w.cell? ⟨n, 10, none⟩ = some (.int .i64 c.term) := h.blk.cell 10
  have h12 : w.cell? ⟨n, 12, none⟩ = some (.int .i64 c.role) := h.blk.cell 12
  have hlt := h.blk.lt
  have H := hid h
  have HE : Hid (∀ w', Keeps [] w w' → CallPost B n lv (c, []) w (.returned (.slice none 0 0)) w') := fun w' k => CallPost.silent rfl (h.k k) (k.mono (fun _ _ h => by cases h))
  unfold msgV
  clear h
  rcases hb1 : m.term != c.term with _ | _
  rotate_left 1
  · clear hn
    go_enter Try.func55, Try.ntmps55
    go_wp2_with fail
    go_quiet (fail)
    go_wp2_with fail
    go_ret
    exact HE.out _ (by exact Keeps.K)
  rcases hb2 : c.role != 1 with _ | _
  rotate_left 1
  · clear hn
    go_enter Try.func55, Try.ntmps55
    go_wp2_with fail
    go_quiet (fail)
    go_wp2_with fail
    go_ret
    exact HE.out _ (by exact Keeps.K)
  have hok : m.ok = false := by
    simp at hb1 hb2
    rcases hn with h | h | h
    · exact absurd hb1 h
    · exact absurd hb2 h
    · exact h
  clear hn
  rw [hok]
  go_enter Try.func55, Try.ntmps55
  go_wp2_with fail
  go_quiet (fail)
  go_wp2_with fail
  go_ret
  exact HE.out _ (by exact Keeps.K)

/-- What it is when it leads, before the others' next ones are told: the first k are. -/
def leadK (c : CoreD) (k : Nat) : CoreD := { c with role := 2, leader := c.id, patience := 0, matc := List.replicate 8 0, next := List.replicate k (lastD c + 1) ++ c.next.drop k }
theorem leadK_8 {c : CoreD} (h : c.next.length = 8) : leadK c 8 = lead0 c := by
  unfold leadK lead0
  rw [List.drop_eq_nil_of_le (by omega)]
  simp
theorem leadK_ok {c : CoreD} (h : CoreOk c) (k : Nat) (hk : k ≤ 8) : CoreOk (leadK c k) :=
  { may := h.may, id := h.id, term := h.term, base := h.base, baseTerm := h.baseTerm, len := h.len, last := h.last, commit := h.commit, draw := h.draw, votes := h.votes, next := by have := h.next; simp [leadK]; omega, matc := by simp [leadK],
    nexts := fun x hx => by
      rcases List.mem_append.1 hx with hx | hx
      · rw [(List.mem_replicate.1 hx).2]
        have h1 := h.base
        have h2 := h.last
        unfold lastD
        omega
      · exact h.nexts x (List.mem_of_mem_drop hx)
    matcs := fun x hx => by rw [(List.mem_replicate.1 hx).2]; omega
    ents := h.ents, frm := h.frm, data := h.data, snap := h.snap }
theorem leadK_next {c : CoreD} (h : c.next.length = 8) {k : Nat} (hk : k < 8) : (leadK c k).next.set k (lastD c + 1) = (leadK c (k + 1)).next := by
  show (List.replicate k (lastD c + 1) ++ c.next.drop k).set k _ = List.replicate (k + 1) _ ++ c.next.drop (k + 1)
  have e : c.next.drop k = c.next[k]'(by omega) :: c.next.drop (k + 1) := List.drop_eq_getElem_cons (by omega)
  rw [List.set_append_right _ _ (by simp)]
  simp only [List.length_replicate, Nat.sub_self]
  rw [e]
  show _ ++ (_ :: List.drop (k + 1) c.next) = _
  rw [List.replicate_succ', List.append_assoc]
  rfl

set_option maxRecDepth 100000 in
set_option maxHeartbeats 6400000 in
theorem voted_yes (w : World) (B n : Nat) (c : CoreD) (lv sv : Value) (m : MsgD) (ea da : Option Addr) (ec dc : Nat) (h : CoreAt w B n c lv sv) (g1 : m.term = c.term) (g2 : c.role = 1) (g3 : m.ok = true) (hf : 1 ≤ m.frm ∧ m.frm ≤ 7) (hll : lastD c + 1 ≤ 2199023255552) :
    Calls Try.prog 55 #[.pointer (some ⟨n, 0, none⟩), msgV m (.slice ea m.entries.length ec) (.slice da m.data.length dc)] w (CallPost B n lv (votedD c m) w) := by
  have h10 : w.cell? ⟨n, 10, none⟩ = some (.int .i64 c.term) := h.blk.cell 10
  have h12 : w.cell? ⟨n, 12, none⟩ = some (.int .i64 c.role) := h.blk.cell 12
  obtain ⟨bv, hbv⟩ := votes_cell h.blk h.ok.votes m.frm.toNat (by omega)
  have hfz : w.frozen? ⟨n, 21 + m.frm.toNat, none⟩ = false := h.blk.free _
  have hlt := h.blk.lt
  have hb1 : (m.term != c.term) = false := by simpa using g1
  have hb2 : (c.role != 1) = false := by simpa using g2
  have HR : Hid (votedD c m = if ((votedC c m).votes.count true : Int) ≤ c.conf.nodes / 2 then (votedC c m, []) else (leadD (votedC c m), othersD (leadD (votedC c m)) (sendD (leadD (votedC c m))))) := by
    show _ = _
    conv => lhs; unfold votedD
    rw [if_neg (by rw [g1, g2, g3]; simp)]
  have H := hid h
  have HY : Hid (∀ wx, Keeps [] w wx → ∃ w4, w4 = wx.setCell ⟨n, 21 + m.frm.toNat, none⟩ (.bool true) ∧ CoreAt w4 B n (votedC c m) lv sv ∧ Keeps [n] w w4) := fun wx k0 => by
    have k1 : Keeps [n] wx (wx.setCell ⟨n, 21 + m.frm.toNat, none⟩ (.bool true)) := (Keeps.refl _ _).setCell (.inl (by simp)) _
    refine ⟨_, rfl, (h.k k0).wrote k1 ((h.k k0).blk.set _ _ ?_) rfl rfl (votedC_ok h.ok m), (k0.mono (G := [n]) (fun _ _ h => by cases h)).trans k1 (fun _ _ h => h)⟩
    rw [set21, tail_votes c h.ok.votes _ (by omega)]
    rfl
  obtain ⟨f1, f7⟩ := hf
  have f0 : 0 ≤ m.frm := by omega
  have f8 : m.frm < 8 := by omega
  have f8n : m.frm.toNat < 8 := by omega
  unfold msgV
  rw [g3]
  have HLL := hid hll
  clear h g1 g2 g3 hll
  go_enter Try.func55, Try.ntmps55
  go_wp2_with fail
  go_quiet (fail)
  go_wp2_with fail
  refine Plan.wp_region_plan (fun wx => wx.cell? ⟨w.heap.size, 1, none⟩ = some (.int .i64 m.frm)) 5 [(true, 0), (true, 1), (true, 2), (true, 3), (true, 4)] (by kernel_rfl) (by as_aux_lemma => kernel_rfl) (by kernel_rfl) (fun _ _ _ _ _ h => h) ?_ (fun hS => ?_)
  (· go_simp)
  simp only [Plan.pick, List.append_eq, List.cons_append, List.nil_append, Plan.g1, Plan.g2, Option.getD_some, List.drop_succ_cons, List.drop_zero]
  iterate 5 (first | refine Plan.tA ?_ | refine Plan.tY ?_ | refine Plan.pN ?_ | refine Plan.pU ?_ | fail)
  refine Plan.fin ?_
  refine wpl_fold (fun wx => Keeps [] w wx) (by exact Keeps.K) ?_
  intro w1 hk1
  have bv1 := hk1.cellSome hbv (by simp)
  have bf1 : w1.frozen? ⟨n, 21 + m.frm.toNat, none⟩ = false := (hk1.frozen (a := ⟨n, 21 + m.frm.toNat, none⟩) hlt (by simp)).trans hfz
  go_step
  go_step
  go_at_K
  go_step
  go_step
  go_step
  obtain ⟨w4, hw4, hc4, hk4⟩ := HY.out w1 hk1
  rw [← hw4]
  have HC4 := hid hc4
  have HK4 := hid hk4
  obtain ⟨b0, b1, b2, b3, b4, b5, b6, b7, hvl⟩ := votesL (votedC c m).votes hc4.ok.votes
  have HVL := hid hvl
  have hcell : ∀ i b, (votedC c m).votes[i]? = some b → w4.cell? ⟨n, 21 + i, none⟩ = some (.bool b) := fun i b hb => votes_get hc4.blk i b hb
  have x21 := hcell 0 b0 (by rw [hvl]; rfl)
  have x22 := hcell 1 b1 (by rw [hvl]; rfl)
  have x23 := hcell 2 b2 (by rw [hvl]; rfl)
  have x24 := hcell 3 b3 (by rw [hvl]; rfl)
  have x25 := hcell 4 b4 (by rw [hvl]; rfl)
  have x26 := hcell 5 b5 (by rw [hvl]; rfl)
  have x27 := hcell 6 b6 (by rw [hvl]; rfl)
  have x28 := hcell 7 b7 (by rw [hvl]; rfl)
  have hl4 := hc4.blk.lt
  have n0 : w4.cell? ⟨n, 0, none⟩ = some (.int .i64 c.conf.nodes) := hc4.blk.cell 0
  have hn3 := ((ConfD.may_iff c.conf).1 H.out.ok.may).1
  clear hw4 hc4 hk4 hvl hcell hk1 bv1 bf1 hbv hfz h10 h12 hlt
  go_wp2_with fail
  clear x21 x22 x23 x24 x25 x26 x27 x28
  obtain ⟨n1, n2⟩ := hn3
  go_loopw [5, 38] (fun cnt i wr => ∃ k q : Nat, k ≤ 8 ∧ q ≤ k ∧ i = .int .i64 k ∧ w4 = wr ∧ cnt = .int .i64 q ∧ Hid (q = ([b0, b1, b2, b3, b4, b5, b6, b7].take k).count true)) (fun _ i _ => 8 - (intOf i).toNat)
  case atStart => exact ⟨0, 0, Nat.zero_le _, Nat.zero_le _, rfl, rfl, rfl, rfl⟩
  case round =>
    obtain ⟨k, q, hk, hq, rfl, hw, rfl, HQ⟩ := hrel
    subst hw
    have i0 : (0 : Int) ≤ (k : Int) := Int.natCast_nonneg _
    have q0 : (0 : Int) ≤ (q : Int) := Int.natCast_nonneg _
    have q8 : (q : Int) ≤ 8 := by omega
    by_cases hlt' : k < 8
    · have i1 : (k : Int) < 8 := by omega
      obtain ⟨b, hb, hi⟩ := vote_idx b0 b1 b2 b3 b4 b5 b6 b7 w4 k hlt'
      have HI := hid hi
      have HN := hid (count_take hb)
      clear hi hb
      rcases b with _ | _
      · go_wp2_with (show wpList _ _ _ (⟨some 40, _, _, _, _, _⟩ :: _) _ _; go_must (refine wpList_index rfl _ _ _ rfl _ _ _ rfl rfl HI.out ?_))
        go_roundw
        case rel => exact ⟨k + 1, q, by omega, by omega, by go_num, by first | exact True.intro | rfl, rfl, by show _ = _; rw [HN.out, HQ.out]; rfl⟩
        case measure => simp [intOf]; omega
      · have wr1 : IntKind.i64.wrap ((q : Int) + 1) = (q : Int) + 1 := IntWalk.i64_in _ (by omega)
        go_wp2_with (show wpList _ _ _ (⟨some 40, _, _, _, _, _⟩ :: _) _ _; go_must (refine wpList_index rfl _ _ _ rfl _ _ _ rfl rfl HI.out ?_))
        go_roundw
        case rel => exact ⟨k + 1, q + 1, by omega, by omega, by go_num, by first | exact True.intro | rfl, by go_num, by show _ = _; rw [HN.out, HQ.out]; rfl⟩
        case measure => simp [intOf]; omega
    · have hk8 : k = 8 := by omega
      have HQ8 : Hid ((q : Int) = ((votedC c m).votes.count true : Int)) := by
        have h1 := HQ.out
        show _ = _
        rw [h1, HVL.out, hk8]
        rfl
      have i8 : (8 : Int) ≤ (k : Int) := by omega
      clear hk8
      by_cases hmj : (q : Int) ≤ c.conf.nodes / 2
      · have HRS : Hid (votedD c m = (votedC c m, [])) := by
          show _ = _
          rw [HR.out, if_pos (by rw [← HQ8.out]; exact hmj)]
        go_wp2_with fail
        go_ret
        rw [HRS.out]
        exact CallPost.silent rfl HC4.out (HK4.out.mono (fun _ _ h => by simp at h; simp [h]))
      · have HRS : Hid (votedD c m = (leadD (votedC c m), othersD (leadD (votedC c m)) (sendD (leadD (votedC c m))))) := by
          show _ = _
          rw [HR.out, if_neg (by rw [← HQ8.out]; exact hmj)]
        have hmj2 : c.conf.nodes / 2 < (q : Int) := by omega
        clear hmj
        have x9 : w4.cell? ⟨n, 9, none⟩ = some (.int .i64 c.id) := HC4.out.blk.cell 9
        have x12 : w4.cell? ⟨n, 12, none⟩ = some (.int .i64 c.role) := HC4.out.blk.cell 12
        have x13 : w4.cell? ⟨n, 13, none⟩ = some (.int .i64 c.leader) := HC4.out.blk.cell 13
        have x20 : w4.cell? ⟨n, 20, none⟩ = some (.int .i64 c.patience) := HC4.out.blk.cell 20
        have x37 := matc_cell HC4.out.blk HC4.out.ok.votes HC4.out.ok.next HC4.out.ok.matc 0 (by omega)
        have x38 := matc_cell HC4.out.blk HC4.out.ok.votes HC4.out.ok.next HC4.out.ok.matc 1 (by omega)
        have x39 := matc_cell HC4.out.blk HC4.out.ok.votes HC4.out.ok.next HC4.out.ok.matc 2 (by omega)
        have x40 := matc_cell HC4.out.blk HC4.out.ok.votes HC4.out.ok.next HC4.out.ok.matc 3 (by omega)
        have x41 := matc_cell HC4.out.blk HC4.out.ok.votes HC4.out.ok.next HC4.out.ok.matc 4 (by omega)
        have x42 := matc_cell HC4.out.blk HC4.out.ok.votes HC4.out.ok.next HC4.out.ok.matc 5 (by omega)
        have x43 := matc_cell HC4.out.blk HC4.out.ok.votes HC4.out.ok.next HC4.out.ok.matc 6 (by omega)
        have x44 := matc_cell HC4.out.blk HC4.out.ok.votes HC4.out.ok.next HC4.out.ok.matc 7 (by omega)
        simp only [Nat.reduceAdd] at x37 x38 x39 x40 x41 x42 x43 x44
        have fz : ∀ j, w4.frozen? ⟨n, j, none⟩ = false := fun j => HC4.out.blk.free j
        have HX : Hid (∃ w5, w5 = ((((((((((w4.setCell ⟨n, 12, none⟩ (.int .i64 2)).setCell ⟨n, 13, none⟩ (.int .i64 c.id)).setCell ⟨n, 20, none⟩ (.int .i64 0)).setCell ⟨n, 37, none⟩ (.int .i64 0)).setCell ⟨n, 38, none⟩ (.int .i64 0)).setCell ⟨n, 39, none⟩ (.int .i64 0)).setCell ⟨n, 40, none⟩ (.int .i64 0)).setCell ⟨n, 41, none⟩ (.int .i64 0)).setCell ⟨n, 42, none⟩ (.int .i64 0)).setCell ⟨n, 43, none⟩ (.int .i64 0)).setCell ⟨n, 44, none⟩ (.int .i64 0) ∧ CoreAt w5 B n (leadK (votedC c m) 0) lv sv ∧ Keeps [n] w w5) := by
          have k : Keeps [n] w4 (((((((((((w4.setCell ⟨n, 12, none⟩ (.int .i64 2)).setCell ⟨n, 13, none⟩ (.int .i64 c.id)).setCell ⟨n, 20, none⟩ (.int .i64 0)).setCell ⟨n, 37, none⟩ (.int .i64 0)).setCell ⟨n, 38, none⟩ (.int .i64 0)).setCell ⟨n, 39, none⟩ (.int .i64 0)).setCell ⟨n, 40, none⟩ (.int .i64 0)).setCell ⟨n, 41, none⟩ (.int .i64 0)).setCell ⟨n, 42, none⟩ (.int .i64 0)).setCell ⟨n, 43, none⟩ (.int .i64 0)).setCell ⟨n, 44, none⟩ (.int .i64 0)) := by exact Keeps.K
          have hb := matc_all (((HC4.out.blk.set (c' := { votedC c m with role := 2 }) 12 (.int .i64 2) rfl).set (c' := { votedC c m with role := 2, leader := c.id }) 13 (.int .i64 c.id) rfl).set (c' := { votedC c m with role := 2, leader := c.id, patience := 0 }) 20 (.int .i64 0) rfl) HC4.out.ok.votes HC4.out.ok.next HC4.out.ok.matc
          exact ⟨_, rfl, HC4.out.wrote k hb rfl rfl (leadK_ok HC4.out.ok 0 (by omega)), HK4.out.trans k (fun _ _ h => h)⟩
        go_wp2_with fail
        obtain ⟨w5, hw5, hc5, hk5⟩ := HX.out
        rw [← hw5]
        have HC5 := hid hc5
        have HK5 := hid hk5
        have hl5 := hc5.blk.lt
        clear hw5 hc5 hk5 HX fz x9 x12 x13 x20 x37 x38 x39 x40 x41 x42 x43 x44 hmj2 n0
        have c1 : CoreOk (votedC c m) := HC4.out.ok
        have HC1 := hid c1
        clear c1
        go_loopw [70] (fun i wr => ∃ k : Nat, k ≤ 8 ∧ i = .int .i64 k ∧ Hid (CoreAt wr B n (leadK (votedC c m) k) lv sv ∧ Keeps [n] w wr)) (fun i _ => 8 - (intOf i).toNat)
        case atStart => exact ⟨0, Nat.zero_le _, rfl, HC5.out, HK5.out⟩
        case round =>
          obtain ⟨k, hk, rfl, HW⟩ := hrel
          have i0 : (0 : Int) ≤ (k : Int) := Int.natCast_nonneg _
          by_cases hlt' : k < 8
          · have i1 : (k : Int) < 8 := by omega
            have kn : ((k : Int)).toNat < 8 := by omega
            have kk : ((k : Int)).toNat = k := by omega
            have wr2 : IntKind.i64.wrap (lastD (votedC c m) + 1) = lastD (votedC c m) + 1 := IntWalk.i64_in _ (by have := lastD_bd HC4.out; omega)
            have yb := next_cell HW.out.1.blk HW.out.1.ok.votes HW.out.1.ok.next k hlt'
            have yf : wr.frozen? ⟨n, 29 + k, none⟩ = false := HW.out.1.blk.free _
            have yl := HW.out.1.blk.lt
            go_wp2_with fail
            refine Plan.wp_region_plan (fun wx => True) 7 [(true, 0), (true, 1), (true, 2), (true, 5), (true, 6), (false, 3), (true, 4)] (by kernel_rfl) (by as_aux_lemma => kernel_rfl) (by kernel_rfl) (fun _ _ _ _ _ h => h) ?_ (fun hS => ?_)
            (· trivial)
            simp only [Plan.pick, List.append_eq, List.cons_append, List.nil_append, Plan.g1, Plan.g2, Option.getD_some, List.drop_succ_cons, List.drop_zero]
            iterate 5 (first | refine Plan.tA ?_ | refine Plan.tY ?_ | refine Plan.pN ?_ | refine Plan.pU ?_ | fail)
            refine Plan.step ?_
            go_wp2_with fail
            refine (cLast_is _ B n _ lv sv (HW.out.1.k (by exact Keeps.K)) (lastD (votedC c m)) rfl).mono ?_
            rintro e w' ⟨rfl, kk2, rfl⟩
            go_wp2_with fail
            refine ⟨trivial, ?_⟩
            iterate 1 (first | refine Plan.tA ?_ | refine Plan.tY ?_ | refine Plan.pN ?_ | refine Plan.pU ?_ | fail)
            refine Plan.fin ?_
            refine wpl_fold (fun wx => Keeps [] wr wx) (by exact Keeps.K) ?_
            intro w2 hk2
            have zb := hk2.cellSome yb (by simp)
            have zf : w2.frozen? ⟨n, 29 + k, none⟩ = false := (hk2.frozen (a := ⟨n, 29 + k, none⟩) yl (by simp)).trans yf
            have HN : Hid (CoreAt (w2.setCell ⟨n, 29 + k, none⟩ (.int .i64 (lastD (votedC c m) + 1))) B n (leadK (votedC c m) (k + 1)) lv sv ∧ Keeps [n] w (w2.setCell ⟨n, 29 + k, none⟩ (.int .i64 (lastD (votedC c m) + 1)))) := by
              have k1 : Keeps [n] w2 (w2.setCell ⟨n, 29 + k, none⟩ (.int .i64 (lastD (votedC c m) + 1))) := (Keeps.refl _ _).setCell (.inl (by simp)) _
              have hc2 := HW.out.1.k hk2
              refine ⟨hc2.wrote k1 (hc2.blk.set _ _ ?_) rfl rfl (leadK_ok HC1.out (k + 1) (by omega)), (HW.out.2.trans hk2 (fun _ _ h => by cases h)).trans k1 (fun _ _ h => h)⟩
              rw [show 29 + k = 21 + (8 + k) by omega, set21, tail_next _ hc2.ok.votes hc2.ok.next k hlt', leadK_next HC1.out.next hlt']
              rfl
            clear hk2 yb yf
            go_wp2_with fail
            go_roundw
            case rel => exact ⟨k + 1, by omega, by go_num, HN.out⟩
            case measure => simp [intOf]; omega
          · have hk8 : k = 8 := by omega
            subst hk8
            have hc6 : CoreAt wr B n (lead0 (votedC c m)) lv sv := by
              have h1 := HW.out.1
              rw [leadK_8 HC1.out.next] at h1
              exact h1
            have HC6 := hid hc6
            obtain ⟨la, lq, hlv⟩ := hc6.form
            have HLV := hid hlv
            have y17 : wr.cell? ⟨n, 17, none⟩ = some (.slice la c.l.length lq) := (hc6.blk.cell 17).trans (by rw [hlv]; rfl)
            have y10 : wr.cell? ⟨n, 10, none⟩ = some (.int .i64 c.term) := hc6.blk.cell 10
            have yl := hc6.blk.lt
            clear hc6 hlv
            by_cases hlen : c.l.length < 5096
            · have hlen2 : (c.l.length : Int) < 5096 := by omega
              have HLD : Hid (leadD (votedC c m) = putD (lead0 (votedC c m)) { term := c.term, cmd := false, data := [] }) := by
                show _ = _
                unfold leadD
                rw [if_pos (by exact hlen)]
                rfl
              have HLN := hid hlen
              clear hlen
              go_wp2_with fail
              refine (put_any _ B n _ lv sv { term := c.term, cmd := false, data := [] } none 0 (HC6.out) (BytesAt.nil _ _ _ _) HLN.out HLL.out (HC6.out.ok.term) (by simp)).mono ?_
              rintro e w7 ⟨lv', rfl, hc7, hk7, hv7⟩
              have HC7 : Hid (CoreAt w7 B n (leadD (votedC c m)) lv' sv) := by
                show CoreAt _ _ _ _ _ _
                rw [HLD.out]
                exact hc7
              have HK7 : Hid (Keeps (n :: ownB lv) w w7) := (HW.out.2.mono (G := n :: ownB lv) (fun _ _ h => by simp at h; simp [h])).trans hk7 (fun _ _ h => h)
              have HV7 : Hid (∀ b ∈ ownB lv', b ∈ ownB lv ∨ w.heap.size ≤ b) := fun b hb => (hv7 b hb).imp (fun h => h) (fun h => Nat.le_trans HW.out.2.size h)
              clear hc7 hk7 hv7
              go_wp2_with fail
              refine (others_send _ B n _ lv' sv HC7.out).mono ?_
              rintro e w8 hp
              obtain ⟨a, q8, lv8, sv8, rfl, hp2⟩ : CallPost B n lv (leadD (votedC c m), othersD (leadD (votedC c m)) (sendD (leadD (votedC c m)))) w e w8 := CallPost.tellsOf HC7.out HK7.out HV7.out hp
              have HP := hid hp2
              clear hp hp2
              go_wp2_with fail
              go_ret
              rw [HRS.out]
              exact ⟨a, q8, lv8, sv8, rfl, HP.out⟩
            · have hlen2 : (5096 : Int) ≤ (c.l.length : Int) := by omega
              have HLD : Hid (leadD (votedC c m) = lead0 (votedC c m)) := by
                show _ = _
                unfold leadD
                rw [if_neg (by exact hlen)]
              clear hlen
              go_wp2_with fail
              refine (others_send _ B n _ lv sv HC6.out).mono ?_
              rintro e w8 hp
              rw [← HLD.out] at hp
              obtain ⟨a, q8, lv8, sv8, rfl, hp2⟩ : CallPost B n lv (leadD (votedC c m), othersD (leadD (votedC c m)) (sendD (leadD (votedC c m)))) w e w8 := CallPost.tellsOf (by rw [HLD.out]; exact HC6.out) (HW.out.2.mono (fun _ _ h => by simp at h; simp [h])) (fun _ h => .inl h) hp
              have HP := hid hp2
              clear hp hp2
              go_wp2_with fail
              go_ret
              rw [HRS.out]
              exact ⟨a, q8, lv8, sv8, rfl, HP.out⟩

end Go.Proofs.Ytpppoajnbhipeaa

/- appended: who follows has entries, or has not. -/
namespace Go.Proofs.Ytpppoajnbhipeaa
open Go Go.RowKit

theorem appendedD_no {c : CoreD} {m : MsgD} (h : m.term ≠ c.term ∨ c.role ≠ 2 ∨ (m.ok = true ∧ lastD c < m.a)) : appendedD c m = (c, []) := by unfold appendedD; rw [if_pos h]

set_option maxRecDepth 100000 in
set_option maxHeartbeats 3200000 in
theorem appended_no (w : World) (B n : Nat) (c : CoreD) (lv sv : Value) (m : MsgD) (ea da : Option Addr) (ec dc : Nat) (h : CoreAt w B n c lv sv) (hn : m.term ≠ c.term ∨ c.role ≠ 2 ∨ (m.ok = true ∧ lastD c < m.a)) :
    Calls Try.prog 56 #[.pointer (some ⟨n, 0, none⟩), msgV m (.slice ea m.entries.length ec) (.slice da m.data.length dc)] w (CallPost B n lv (appendedD c m) w) := by
  rw [appendedD_no hn]
  have h10 : w.cell? ⟨n, 10, none⟩ = some (.int .i64 c.term) := h.blk.cell 10
  have h12 : w.cell? ⟨n, 12, none⟩ = some (.int .i64 c.role) := h.blk.cell 12
  have hlt := h.blk.lt
  have H := hid h
  have HE : Hid (∀ w', Keeps [] w w' → CallPost B n lv (c, []) w (.returned (.slice none 0 0)) w') := fun w' k => CallPost.silent rfl (h.k k) (k.mono (fun _ _ h => by cases h))
  have hcs : (m.term != c.term) = true ∨ ((m.term != c.term) = false ∧ (c.role != 2) = true) ∨ ((m.term != c.term) = false ∧ (c.role != 2) = false ∧ m.ok = true ∧ decide (lastD c < m.a) = true) := by
    by_cases e1 : m.term = c.term
    · by_cases e2 : c.role = 2
      · rcases hn with h | h | h
        · exact absurd e1 h
        · exact absurd e2 h
        · exact .inr (.inr ⟨by simpa using e1, by simpa using e2, h.1, by simpa using h.2⟩)
      · exact .inr (.inl ⟨by simpa using e1, by simpa using e2⟩)
    · exact .inl (by simpa using e1)
  clear h hn
  unfold msgV
  rcases hcs with hb1 | ⟨hb1, hb2⟩ | ⟨hb1, hb2, hb3, hb4⟩
  all_goals
    go_enter Try.func56, Try.ntmps56
    go_wp2_with fail
    refine Plan.wp_region_plan (fun wx => (wx.cell? ⟨w.heap.size, 0, none⟩ = some (.int .i64 m.kind) ∧ wx.cell? ⟨w.heap.size, 1, none⟩ = some (.int .i64 m.frm) ∧ wx.cell? ⟨w.heap.size, 2, none⟩ = some (.int .i64 m.to) ∧ wx.cell? ⟨w.heap.size, 3, none⟩ = some (.int .i64 m.term) ∧ wx.cell? ⟨w.heap.size, 4, none⟩ = some (.int .i64 m.a) ∧ wx.cell? ⟨w.heap.size, 5, none⟩ = some (.int .i64 m.b) ∧ wx.cell? ⟨w.heap.size, 6, none⟩ = some (.int .i64 m.c) ∧ wx.cell? ⟨w.heap.size, 7, none⟩ = some (.bool m.ok) ∧ wx.cell? ⟨w.heap.size, 8, none⟩ = some (.slice ea m.entries.length ec) ∧ wx.cell? ⟨w.heap.size, 9, none⟩ = some (.slice da m.data.length dc)) ∧ wx.cell? ⟨n, 10, none⟩ = some (.int .i64 c.term) ∧ wx.cell? ⟨n, 12, none⟩ = some (.int .i64 c.role)) 25 [(true, 0), (true, 1), (true, 2), (true, 3), (true, 4), (true, 5), (true, 6), (true, 7), (true, 8), (true, 9), (true, 10), (true, 11), (true, 12), (true, 13), (true, 14), (true, 15), (true, 16), (true, 17), (true, 18), (true, 19), (true, 20), (false, 21), (true, 22), (true, 23), (true, 24)] (by kernel_rfl) (by as_aux_lemma => kernel_rfl) (by kernel_rfl) (fun _ _ _ _ _ h => h) ?_ (fun hS => ?_)
    (· go_simp)
    simp only [Plan.pick, List.append_eq, List.cons_append, List.nil_append, Plan.g1, Plan.g2, Option.getD_some, List.drop_succ_cons, List.drop_zero]
    iterate 21 (first | refine Plan.tA ?_ | refine Plan.tY ?_ | refine Plan.pN ?_ | refine Plan.pU ?_ | fail)
    refine Plan.step ?_
    go_wp2_with fail
    first
      | (refine (cLast_any _ B n c lv sv (H.out.k ?_)).mono ?_
         (· exact Keeps.K)
         rintro e w' ⟨rfl, k3, rfl⟩
         go_wp2_with fail)
      | skip
    refine ⟨?_, ?_⟩
    (· go_simp)
    iterate 3 (first | refine Plan.tA ?_ | refine Plan.tY ?_ | refine Plan.pN ?_ | refine Plan.pU ?_ | fail)
    refine Plan.fin ?_
    go_wp2_with fail
    go_ret
    exact HE.out _ (by exact Keeps.K)

end Go.Proofs.Ytpppoajnbhipeaa

/- agrees: the greatest index of its term that more than half have. -/
namespace Go.Proofs.Ytpppoajnbhipeaa
open Go Go.RowKit

theorem haveD_bd (c : CoreD) (i : Int) : ∀ t : Nat, 1 ≤ haveD c i t ∧ haveD c i t ≤ t + 1
  | 0 => by simp [haveD]
  | t + 1 => by
    have := haveD_bd c i t
    unfold haveD
    split <;> omega
theorem agreesTo_bd (c : CoreD) : ∀ k : Nat, c.commit ≤ agreesTo c k ∧ agreesTo c k ≤ c.commit + k
  | 0 => by simp [agreesTo]
  | k + 1 => by
    have := agreesTo_bd c k
    unfold agreesTo
    split <;> omega
theorem agreesD_ok {c : CoreD} (h : CoreOk c) : CoreOk (agreesD c) := by
  have h1 := agreesTo_bd c (lastD c - c.commit).toNat
  have h2 := h.commit
  have h3 := h.base
  have h4 : ((lastD c - c.commit).toNat : Int) = lastD c - c.commit := by unfold lastD; omega
  unfold lastD at h1 h4
  exact { may := h.may, id := h.id, term := h.term, base := ⟨h.base.1, by show c.base ≤ agreesTo c (lastD c - c.commit).toNat; unfold lastD; omega⟩, baseTerm := h.baseTerm, len := h.len, last := h.last, commit := by show agreesTo c (lastD c - c.commit).toNat ≤ c.base + c.l.length; unfold lastD; omega, draw := h.draw, votes := h.votes, next := h.next, matc := h.matc, nexts := h.nexts, matcs := h.matcs, ents := h.ents, frm := h.frm, data := h.data, snap := h.snap }

def AgreesPost (B n : Nat) (c : CoreD) (lv sv : Value) (w : World) (e : Ending) (w' : World) : Prop := e = .returned (.tuple #[]) ∧ CoreAt w' B n (agreesD c) lv sv ∧ Keeps [n] w w'

set_option maxRecDepth 100000 in
set_option maxHeartbeats 3200000 in
theorem agrees_any (w : World) (B n : Nat) (c : CoreD) (lv sv : Value) (h : CoreAt w B n c lv sv) : Calls Try.prog 74 #[.pointer (some ⟨n, 0, none⟩)] w (AgreesPost B n c lv sv w) := by
  have hbd := lastD_bd h
  have hcm := h.ok.commit
  have hbs := h.ok.base
  have hm := ((ConfD.may_iff c.conf).1 h.ok.may).1
  have H := hid h
  have HL : Hid (∃ K : Nat, lastD c = c.commit + K ∧ (lastD c - c.commit).toNat = K) := ⟨(lastD c - c.commit).toNat, by unfold lastD; omega, rfl⟩
  obtain ⟨K, hK, hK2⟩ := HL.out
  have HKK := hid hK2
  have b1 : c.commit + K ≤ 2199023255552 := by omega
  have b0 : 0 ≤ c.commit := by omega
  have HKL := hid hK
  obtain ⟨n1, n2⟩ := hm
  have HNN : Hid ((c.conf.nodes.toNat : Int) = c.conf.nodes) := by show _ = _; omega
  have HFIN : Hid (∀ wr, Keeps [] w wr → ∀ x : Int, agreesTo c K = x → CoreAt (wr.setCell ⟨n, 14, none⟩ (.int .i64 x)) B n (agreesD c) lv sv ∧ Keeps [n] w (wr.setCell ⟨n, 14, none⟩ (.int .i64 x))) := fun wr k x hx => by
    have k1 : Keeps [n] wr (wr.setCell ⟨n, 14, none⟩ (.int .i64 x)) := (Keeps.refl _ _).setCell (.inl (by simp)) _
    have e : agreesD c = { c with commit := x } := by unfold agreesD; rw [HKK.out, hx]
    rw [e]
    have ho := agreesD_ok H.out.ok
    rw [e] at ho
    exact ⟨(H.out.k k).wrote k1 ((H.out.k k).blk.set 14 _ rfl) rfl rfl ho, (k.mono (G := [n]) (fun _ _ h => by cases h)).trans k1 (fun _ _ h => h)⟩
  have HEND : Hid (∀ wr, Keeps [] w wr → agreesTo c K = c.commit → AgreesPost B n c lv sv w (.returned (.tuple #[])) wr) := fun wr k hx => by
    have e : agreesD c = c := by unfold agreesD; rw [HKK.out, hx]
    exact ⟨rfl, by rw [e]; exact H.out.k k, k.mono (fun _ _ h => by cases h)⟩
  clear h HL hK2 hcm hbs hbd hK
  go_enter Try.func74, Try.ntmps74
  go_wp2_with fail
  refine (cLast_is _ B n c lv sv H.out (c.commit + K) HKL.out).mono ?_
  rintro e w' ⟨rfl, k0, rfl⟩
  go_wp2_with fail
  go_loopw [2] (fun i wr => ∃ (I : Int) (k : Nat), i = .int .i64 I ∧ k ≤ K ∧ Hid (I = c.commit + k ∧ agreesTo c K = agreesTo c k ∧ Keeps [] w wr)) (fun i _ => (intOf i - c.commit).toNat)
  case atStart => exact ⟨_, K, rfl, Nat.le_refl _, rfl, rfl, by exact Keeps.K⟩
  case round =>
    obtain ⟨I, k, rfl, hk, HW⟩ := hrel
    have x14 : wr.cell? ⟨n, 14, none⟩ = some (.int .i64 c.commit) := (H.out.k HW.out.2.2).blk.cell 14
    have x10 : wr.cell? ⟨n, 10, none⟩ = some (.int .i64 c.term) := (H.out.k HW.out.2.2).blk.cell 10
    have ib1 : -4611686018427387904 ≤ I := by have := HW.out.1; omega
    have ib2 : I ≤ 4611686018427387904 := by have := HW.out.1; omega
    rcases k with _ | j
    · have d0 : decide (c.commit < I) = false := by have := HW.out.1; simp; omega
      go_wp2_with fail
      exact bodyPost_end (by simp [results, Try.results74, go_sem]) rfl (HEND.out _ HW.out.2.2 HW.out.2.1)
    · have d0 : decide (c.commit < I) = true := by have := HW.out.1; simp; omega
      have hI : c.commit < I := by have := HW.out.1; omega
      obtain ⟨T, okT, hT⟩ : ∃ t o, atD c I = (t, o) := ⟨_, _, rfl⟩
      have HT := hid hT
      have wr3 : IntKind.i64.wrap (I - 1) = I - 1 := IntWalk.i64_in _ (by omega)
      clear hT
      by_cases ht : T = c.term
      · have g1 : (T != c.term) = false := by simpa using ht
        have HST : Hid (agreesTo c (j + 1) = if c.conf.nodes / 2 < haveD c I c.conf.nodes.toNat then I else agreesTo c j) := by
          show _ = _
          conv => lhs; unfold agreesTo
          have e : c.commit + ((j + 1 : Nat) : Int) = I := by have := HW.out.1; omega
          rw [e, HT.out]
          simp [ht]
        clear ht
        go_wp2_with fail
        refine (cAt_is _ B n c lv sv (H.out.k HW.out.2.2) I T okT ib1 ib2 HT.out).mono ?_
        rintro e w' ⟨rfl, k2, rfl⟩
        go_wp2_with fail
        obtain ⟨w2, hw2, hk2⟩ : ∃ w2, w2 = wr.drewN k2 ∧ Keeps [] w w2 := ⟨_, rfl, HW.out.2.2.drewN _⟩
        rw [← hw2]
        have HK2 := hid hk2
        have y0 : w2.cell? ⟨n, 0, none⟩ = some (.int .i64 c.conf.nodes) := (H.out.k hk2).blk.cell 0
        have y9 : w2.cell? ⟨n, 9, none⟩ = some (.int .i64 c.id) := (H.out.k hk2).blk.cell 9
        have y14 : w2.cell? ⟨n, 14, none⟩ = some (.int .i64 c.commit) := (H.out.k hk2).blk.cell 14
        have yf : w2.frozen? ⟨n, 14, none⟩ = false := (H.out.k hk2).blk.free 14
        clear hw2 hk2
        go_loopw [5, 6] (fun cnt to wi => ∃ (q : Int) (t s : Nat), cnt = .int .i64 q ∧ to = .int .i64 (t : Int) ∧ w2 = wi ∧ s ≤ c.conf.nodes.toNat ∧ Hid (t = s + 1 ∧ q = haveD c I s)) (fun _ to _ => (c.conf.nodes.toNat + 1) - (intOf to).toNat)
        case atStart => exact ⟨1, 1, 0, rfl, rfl, rfl, Nat.zero_le _, rfl, rfl⟩
        case round =>
          obtain ⟨q, t, s, rfl, rfl, hw, hs, HQ⟩ := hrel
          subst hw
          have t1 := HQ.out.1
          have q1 := haveD_bd c I s
          rw [← HQ.out.2] at q1
          obtain ⟨q1, q2⟩ := q1
          have hn7 := HNN.out
          have tt : (t : Int).toNat = t := by omega
          have t0 : (0 : Int) ≤ (t : Int) := Int.natCast_nonneg _
          have q9 : q ≤ 9 := by omega
          by_cases hlt' : t ≤ c.conf.nodes.toNat
          · have i1 : (t : Int) ≤ c.conf.nodes := by omega
            have i8 : (t : Int) < 8 := by omega
            have i8n : t < 8 := by omega
            have y37 := matc_cell (H.out.k HK2.out).blk (H.out.k HK2.out).ok.votes (H.out.k HK2.out).ok.next (H.out.k HK2.out).ok.matc t i8n
            have HN : Hid (haveD c I (s + 1) = q + (if (t : Int) ≠ c.id ∧ I ≤ c.matc.getD t 0 then 1 else 0)) := by
              show _ = _
              conv => lhs; unfold haveD
              rw [← HQ.out.2, ← t1]
            obtain ⟨mt, hmt⟩ : ∃ x, c.matc.getD t 0 = x := ⟨_, rfl⟩
            rw [hmt] at y37 HN
            clear t1 hn7 hmt
            have wr4 : IntKind.i64.wrap (q + 1) = q + 1 := IntWalk.i64_in _ (by omega)
            by_cases hid1 : (t : Int) = c.id
            · have g2 : ((t : Int) != c.id) = false := by simpa using hid1
              have HN2 : Hid (haveD c I (s + 1) = q) := by show _ = _; rw [HN.out, if_neg (by intro h; exact h.1 hid1)]; omega
              clear hid1
              go_wp2_with fail
              go_roundw
              case rel => exact ⟨q, t + 1, s + 1, rfl, by go_num, by first | exact True.intro | rfl, by have := HQ.out.1; omega, by have := HQ.out.1; omega, HN2.out.symm⟩
              case measure => have := HQ.out.1; simp [intOf]; omega
            · have g2 : ((t : Int) != c.id) = true := by simpa using hid1
              by_cases hge : I ≤ mt
              · have g3 : decide (I ≤ mt) = true := by simpa using hge
                have HN2 : Hid (haveD c I (s + 1) = q + 1) := by show _ = _; rw [HN.out, if_pos ⟨hid1, hge⟩]
                clear hid1 hge
                go_wp2_with fail
                go_roundw
                case rel => exact ⟨q + 1, t + 1, s + 1, by go_num, by go_num, by first | exact True.intro | rfl, by have := HQ.out.1; omega, by have := HQ.out.1; omega, HN2.out.symm⟩
                case measure => have := HQ.out.1; simp [intOf]; omega
              · have g3 : decide (I ≤ mt) = false := by simpa using hge
                have HN2 : Hid (haveD c I (s + 1) = q) := by show _ = _; rw [HN.out, if_neg (by intro h; exact hge h.2)]; omega
                clear hid1 hge
                go_wp2_with fail
                go_roundw
                case rel => exact ⟨q, t + 1, s + 1, rfl, by go_num, by first | exact True.intro | rfl, by have := HQ.out.1; omega, by have := HQ.out.1; omega, HN2.out.symm⟩
                case measure => have := HQ.out.1; simp [intOf]; omega
          · have hsn : s = c.conf.nodes.toNat := by omega
            have i1 : c.conf.nodes < (t : Int) := by omega
            have HQN : Hid (q = haveD c I c.conf.nodes.toNat) := by show _ = _; rw [HQ.out.2, hsn]
            clear t1 hn7 hsn
            by_cases hmj : c.conf.nodes / 2 < q
            · have HA : Hid (agreesTo c K = I) := by show _ = _; rw [HW.out.2.1, HST.out, if_pos (by rw [← HQN.out]; exact hmj)]
              go_wp2_with fail
              exact bodyPost_end (by simp [results, Try.results74, go_sem]) rfl ⟨rfl, HFIN.out _ HK2.out I HA.out⟩
            · have HA : Hid (agreesTo c K = agreesTo c j) := by show _ = _; rw [HW.out.2.1, HST.out, if_neg (by rw [← HQN.out]; exact hmj)]
              have hmj2 : q ≤ c.conf.nodes / 2 := by omega
              clear hmj
              go_wp2_with fail
              go_roundw
              case rel => exact ⟨I - 1, j, by go_num, by omega, by have := HW.out.1; omega, HA.out, HK2.out⟩
              case measure => have := HW.out.1; simp [intOf]; omega
      · have g1 : (T != c.term) = true := by simpa using ht
        have HST : Hid (agreesTo c (j + 1) = agreesTo c j) := by
          show _ = _
          conv => lhs; unfold agreesTo
          have e : c.commit + ((j + 1 : Nat) : Int) = I := by have := HW.out.1; omega
          rw [e, HT.out]
          simp [ht]
        clear ht
        go_wp2_with fail
        refine (cAt_is _ B n c lv sv (H.out.k HW.out.2.2) I T okT ib1 ib2 HT.out).mono ?_
        rintro e w' ⟨rfl, k2, rfl⟩
        go_wp2_with fail
        go_roundw
        case rel => exact ⟨I - 1, j, by go_num, by omega, by have := HW.out.1; omega, HW.out.2.1.trans HST.out, HW.out.2.2.drewN _⟩
        case measure => have := HW.out.1; simp [intOf]; omega

end Go.Proofs.Ytpppoajnbhipeaa
