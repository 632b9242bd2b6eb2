/- Joined of AppC, ApA. -/
import Derived.Test.YtpppoajnbhipeaaQ18
import Derived.Test.YtpppoajnbhipeaaQ07

/- appended: the next entries are sent; or it counts who has what. -/
namespace Go.Proofs.Ytpppoajnbhipeaa
open Go Go.RowKit

theorem mem_set_bd {l : List Int} {i : Nat} {x : Int} {p : Int → Prop} (h : ∀ y ∈ l, p y) (hx : p x) : ∀ y ∈ l.set i x, p y := fun y hy => by
  rcases List.mem_or_eq_of_mem_set hy with h1 | h1
  · exact h y h1
  · rw [h1]; exact hx
theorem getD_bd {l : List Int} {i : Nat} {p : Int → Prop} (h : ∀ y ∈ l, p y) (h0 : p 0) : p (l.getD i 0) := by
  rw [List.getD_eq_getElem?_getD]
  rcases hi : l[i]? with _ | y
  · exact h0
  · exact h y (List.mem_of_getElem? hi)
theorem nextT_ok {c : CoreD} (h : CoreOk c) {l : List Int} (h1 : l.length = 8) (h2 : ∀ x ∈ l, 0 ≤ x ∧ x ≤ 2199023255553) : CoreOk { c with next := l } :=
  { may := h.may, id := h.id, term := h.term, base := h.base, baseTerm := h.baseTerm, len := h.len, last := h.last, commit := h.commit, draw := h.draw, votes := h.votes, next := h1, matc := h.matc, nexts := h2, matcs := h.matcs, ents := h.ents, frm := h.frm, data := h.data, snap := h.snap }
theorem matcT_ok {c : CoreD} (h : CoreOk c) {l : List Int} (h1 : l.length = 8) (h2 : ∀ x ∈ l, 0 ≤ x ∧ x ≤ 2199023255552) : CoreOk { c with matc := l } :=
  { may := h.may, id := h.id, term := h.term, base := h.base, baseTerm := h.baseTerm, len := h.len, last := h.last, commit := h.commit, draw := h.draw, votes := h.votes, next := h.next, matc := h1, nexts := h.nexts, matcs := h2, ents := h.ents, frm := h.frm, data := h.data, snap := h.snap }
/-- What it tries next. -/
def nextV (nx a : Int) : Int := if a < nx - 1 - 1 then a + 1 else nx - 1

set_option maxRecDepth 100000 in
set_option maxHeartbeats 3200000 in
theorem appended_send (w : World) (B n : Nat) (c : CoreD) (lv sv : Value) (m : MsgD) (ea da : Option Addr) (ec dc : Nat) (h : CoreAt w B n c lv sv) (g1 : m.term = c.term) (g2 : c.role = 2) (g3 : m.ok = false) (hf : 1 ≤ m.frm ∧ m.frm ≤ 7) (ha : 0 ≤ m.a ∧ m.a ≤ 1099511627776) :
    Calls Try.prog 56 #[.pointer (some ⟨n, 0, none⟩), msgV m (.slice ea m.entries.length ec) (.slice da m.data.length dc)] w (CallPost B n lv (appendedD c m) w) := by
  have h10 : w.cell? ⟨n, 10, none⟩ = some (.int .i64 c.term) := h.blk.cell 10
  have h12 : w.cell? ⟨n, 12, none⟩ = some (.int .i64 c.role) := h.blk.cell 12
  have f8n : m.frm.toNat < 8 := by omega
  have h29 := next_cell h.blk h.ok.votes h.ok.next m.frm.toNat f8n
  have h37 := matc_cell h.blk h.ok.votes h.ok.next h.ok.matc m.frm.toNat f8n
  have hfz : w.frozen? ⟨n, 29 + m.frm.toNat, none⟩ = false := h.blk.free _
  have hnx : 0 ≤ c.next.getD m.frm.toNat 0 ∧ c.next.getD m.frm.toNat 0 ≤ 2199023255553 := getD_bd (p := fun x => 0 ≤ x ∧ x ≤ 2199023255553) h.ok.nexts (by omega)
  have hmt : 0 ≤ c.matc.getD m.frm.toNat 0 ∧ c.matc.getD m.frm.toNat 0 ≤ 2199023255552 := getD_bd (p := fun x => 0 ≤ x ∧ x ≤ 2199023255552) h.ok.matcs (by omega)
  have hlt := h.blk.lt
  have HR : Hid (appendedD c m = (appNo c m, [sendD (appNo c m) m.frm])) := by
    show _ = _
    unfold appendedD
    rw [if_neg (by rw [g1, g2, g3]; simp), if_pos g3]
  have HNO : Hid (appNo c m = { c with next := c.next.set m.frm.toNat (max (c.matc.getD m.frm.toNat 0 + 1) (nextV (c.next.getD m.frm.toNat 0) m.a)) }) := rfl
  obtain ⟨nx, hnxe⟩ : ∃ x, c.next.getD m.frm.toNat 0 = x := ⟨_, rfl⟩
  obtain ⟨mt, hmte⟩ : ∃ x, c.matc.getD m.frm.toNat 0 = x := ⟨_, rfl⟩
  rw [hnxe] at h29 hnx HNO
  rw [hmte] at h37 hmt HNO
  have hnv : nextV nx m.a ≤ 2199023255552 := by unfold nextV; split <;> omega
  have HOK : Hid (CoreOk { c with next := c.next.set m.frm.toNat (max (mt + 1) (nextV nx m.a)) }) := nextT_ok h.ok (by simp [h.ok.next]) (mem_set_bd (p := fun x => 0 ≤ x ∧ x ≤ 2199023255553) h.ok.nexts (by omega))
  have H := hid h
  have hb1 : (m.term != c.term) = false := by simpa using g1
  have hb2 : (c.role != 2) = false := by simpa using g2
  have HY : Hid (∀ wx, Keeps [] w wx → ∃ w4, w4 = wx.setCell ⟨n, 29 + m.frm.toNat, none⟩ (.int .i64 (max (mt + 1) (nextV nx m.a))) ∧ CoreAt w4 B n (appNo c m) lv sv ∧ Keeps [n] w w4) := fun wx k0 => by
    have k1 : Keeps [n] wx (wx.setCell ⟨n, 29 + m.frm.toNat, none⟩ (.int .i64 (max (mt + 1) (nextV nx m.a)))) := (Keeps.refl _ _).setCell (.inl (by simp)) _
    rw [HNO.out]
    refine ⟨_, rfl, (H.out.k k0).wrote k1 ((H.out.k k0).blk.set _ _ ?_) rfl rfl HOK.out, (k0.mono (G := [n]) (fun _ _ h => by cases h)).trans k1 (fun _ _ h => h)⟩
    rw [show 29 + m.frm.toNat = 21 + (8 + m.frm.toNat) by omega, set21, tail_next c H.out.ok.votes H.out.ok.next _ f8n]
    rfl
  obtain ⟨f1, f7⟩ := hf
  have f0 : 0 ≤ m.frm := by omega
  have f8 : m.frm < 8 := by omega
  obtain ⟨a0, a1⟩ := ha
  obtain ⟨x0, x1⟩ := hnx
  obtain ⟨z0, z1⟩ := hmt
  have wr1 : IntKind.i64.wrap (nx - 1) = nx - 1 := IntWalk.i64_in _ (by omega)
  have wr2 : IntKind.i64.wrap (nx - 1 - 1) = nx - 1 - 1 := IntWalk.i64_in _ (by omega)
  have wr3 : IntKind.i64.wrap (m.a + 1) = m.a + 1 := IntWalk.i64_in _ (by omega)
  have wr4 : IntKind.i64.wrap (mt + 1) = mt + 1 := IntWalk.i64_in _ (by omega)
  unfold msgV
  rw [g3]
  clear h g1 g2 g3 hnxe hmte hnv
  by_cases hlow : m.a < nx - 1 - 1
  · have HV : Hid (nextV nx m.a = m.a + 1) := by show _ = _; unfold nextV; rw [if_pos hlow]
    go_enter Try.func56, Try.ntmps56
    go_wp2_with fail
    refine Plan.wp_region_plan (fun wx => (wx.cell? ⟨w.heap.size, 0, none⟩ = some (.int .i64 m.kind) ∧ wx.cell? ⟨w.heap.size, 1, none⟩ = some (.int .i64 m.frm) ∧ wx.cell? ⟨w.heap.size, 2, none⟩ = some (.int .i64 m.to) ∧ wx.cell? ⟨w.heap.size, 3, none⟩ = some (.int .i64 m.term) ∧ wx.cell? ⟨w.heap.size, 4, none⟩ = some (.int .i64 m.a) ∧ wx.cell? ⟨w.heap.size, 5, none⟩ = some (.int .i64 m.b) ∧ wx.cell? ⟨w.heap.size, 6, none⟩ = some (.int .i64 m.c) ∧ wx.cell? ⟨w.heap.size, 7, none⟩ = some (.bool false) ∧ wx.cell? ⟨w.heap.size, 8, none⟩ = some (.slice ea m.entries.length ec) ∧ wx.cell? ⟨w.heap.size, 9, none⟩ = some (.slice da m.data.length dc)) ∧ wx.cell? ⟨n, 10, none⟩ = some (.int .i64 c.term) ∧ wx.cell? ⟨n, 12, none⟩ = some (.int .i64 c.role)) 25 [(true, 0), (true, 1), (true, 2), (true, 3), (true, 4), (true, 5), (true, 6), (true, 7), (true, 8), (true, 9), (true, 10), (true, 11), (true, 12), (true, 13), (true, 14), (true, 15), (true, 16), (true, 17), (true, 18), (true, 19), (true, 20), (false, 21), (true, 22), (true, 23), (true, 24)] (by kernel_rfl) (by as_aux_lemma => kernel_rfl) (by kernel_rfl) (fun _ _ _ _ _ h => h) ?_ (fun hS => ?_)
    (· go_simp)
    simp only [Plan.pick, List.append_eq, List.cons_append, List.nil_append, Plan.g1, Plan.g2, Option.getD_some, List.drop_succ_cons, List.drop_zero]
    iterate 21 (first | refine Plan.tA ?_ | refine Plan.tY ?_ | refine Plan.pN ?_ | refine Plan.pU ?_ | fail)
    refine Plan.step ?_
    go_wp2_with fail
    refine ⟨?_, ?_⟩
    (· go_simp)
    iterate 3 (first | refine Plan.tA ?_ | refine Plan.tY ?_ | refine Plan.pN ?_ | refine Plan.pU ?_ | fail)
    refine Plan.fin ?_
    go_wp2_with fail
    refine Plan.wp_region_plan (fun wx => wx.cell? ⟨n, 37 + m.frm.toNat, none⟩ = some (.int .i64 mt)) 13 [(true, 0), (true, 1), (true, 2), (true, 3), (true, 4), (true, 5), (true, 6), (true, 7), (true, 8), (true, 9), (true, 10), (true, 11), (true, 12)] (by kernel_rfl) (by as_aux_lemma => kernel_rfl) (by kernel_rfl) (fun _ _ _ _ _ h => h) ?_ (fun hS => ?_)
    (· go_simp)
    simp only [Plan.pick, List.append_eq, List.cons_append, List.nil_append, Plan.g1, Plan.g2, Option.getD_some, List.drop_succ_cons, List.drop_zero]
    iterate 13 (first | refine Plan.tA ?_ | refine Plan.tY ?_ | refine Plan.pN ?_ | refine Plan.pU ?_ | fail)
    refine Plan.fin ?_
    refine wpl_fold (fun wx => Keeps [] w wx) (by exact Keeps.K) ?_
    intro w1 hk1
    have zb := hk1.cellSome h29 (by simp)
    have zf : w1.frozen? ⟨n, 29 + m.frm.toNat, none⟩ = false := (hk1.frozen (a := ⟨n, 29 + m.frm.toNat, none⟩) hlt (by simp)).trans hfz
    obtain ⟨w4, hw4, hc4, hk4⟩ := HY.out w1 hk1
    rw [HV.out] at hw4
    have HC4 := hid hc4
    have HK4 : Hid (Keeps (n :: ownB lv) w w4) := hk4.mono (fun _ _ h => by simp at h; simp [h])
    have HW4 := hid hw4
    clear hk1 hw4 hc4 hk4
    go_wp2_with fail
    all_goals
      first
        | rw [show w1.setCell ⟨n, 29 + m.frm.toNat, none⟩ (.int .i64 (m.a + 1)) = w4 by rw [HW4.out, show max (mt + 1) (m.a + 1) = m.a + 1 by omega]]
        | rw [show w1.setCell ⟨n, 29 + m.frm.toNat, none⟩ (.int .i64 (mt + 1)) = w4 by rw [HW4.out, show max (mt + 1) (m.a + 1) = mt + 1 by omega]]
      refine (send_any _ B n _ lv sv m.frm HC4.out (by omega)).mono ?_
      rintro e w5 ⟨ea5, ec5, da5, dc5, rfl, he5, hd5, hk5⟩
      have HP : Hid (CallPost B n lv (appendedD c m) w (.returned (.slice (some ⟨w5.heap.size, 0, none⟩) 1 1)) (w5.alloc (.cells #[.int .i64 (sendD (appNo c m) m.frm).kind, .int .i64 (sendD (appNo c m) m.frm).frm, .int .i64 (sendD (appNo c m) m.frm).to, .int .i64 (sendD (appNo c m) m.frm).term, .int .i64 (sendD (appNo c m) m.frm).a, .int .i64 (sendD (appNo c m) m.frm).b, .int .i64 (sendD (appNo c m) m.frm).c, .bool (sendD (appNo c m) m.frm).ok, .slice ea5 (sendD (appNo c m) m.frm).entries.length ec5, .slice da5 (sendD (appNo c m) m.frm).data.length dc5] 40))) := by
        rw [HR.out]
        exact CallPost.tells HC4.out HK4.out (msgs_one hk5 he5 hd5)
      clear he5 hd5 hk5
      unfold msgV
      go_wp2_with fail
      go_ret
      exact HP.out
  · have HV : Hid (nextV nx m.a = nx - 1) := by show _ = _; unfold nextV; rw [if_neg hlow]
    have hlow2 : nx - 1 - 1 ≤ m.a := by omega
    clear hlow
    go_enter Try.func56, Try.ntmps56
    go_wp2_with fail
    refine Plan.wp_region_plan (fun wx => (wx.cell? ⟨w.heap.size, 0, none⟩ = some (.int .i64 m.kind) ∧ wx.cell? ⟨w.heap.size, 1, none⟩ = some (.int .i64 m.frm) ∧ wx.cell? ⟨w.heap.size, 2, none⟩ = some (.int .i64 m.to) ∧ wx.cell? ⟨w.heap.size, 3, none⟩ = some (.int .i64 m.term) ∧ wx.cell? ⟨w.heap.size, 4, none⟩ = some (.int .i64 m.a) ∧ wx.cell? ⟨w.heap.size, 5, none⟩ = some (.int .i64 m.b) ∧ wx.cell? ⟨w.heap.size, 6, none⟩ = some (.int .i64 m.c) ∧ wx.cell? ⟨w.heap.size, 7, none⟩ = some (.bool false) ∧ wx.cell? ⟨w.heap.size, 8, none⟩ = some (.slice ea m.entries.length ec) ∧ wx.cell? ⟨w.heap.size, 9, none⟩ = some (.slice da m.data.length dc)) ∧ wx.cell? ⟨n, 10, none⟩ = some (.int .i64 c.term) ∧ wx.cell? ⟨n, 12, none⟩ = some (.int .i64 c.role)) 25 [(true, 0), (true, 1), (true, 2), (true, 3), (true, 4), (true, 5), (true, 6), (true, 7), (true, 8), (true, 9), (true, 10), (true, 11), (true, 12), (true, 13), (true, 14), (true, 15), (true, 16), (true, 17), (true, 18), (true, 19), (true, 20), (false, 21), (true, 22), (true, 23), (true, 24)] (by kernel_rfl) (by as_aux_lemma => kernel_rfl) (by kernel_rfl) (fun _ _ _ _ _ h => h) ?_ (fun hS => ?_)
    (· go_simp)
    simp only [Plan.pick, List.append_eq, List.cons_append, List.nil_append, Plan.g1, Plan.g2, Option.getD_some, List.drop_succ_cons, List.drop_zero]
    iterate 21 (first | refine Plan.tA ?_ | refine Plan.tY ?_ | refine Plan.pN ?_ | refine Plan.pU ?_ | fail)
    refine Plan.step ?_
    go_wp2_with fail
    refine ⟨?_, ?_⟩
    (· go_simp)
    iterate 3 (first | refine Plan.tA ?_ | refine Plan.tY ?_ | refine Plan.pN ?_ | refine Plan.pU ?_ | fail)
    refine Plan.fin ?_
    go_wp2_with fail
    refine Plan.wp_region_plan (fun wx => wx.cell? ⟨n, 37 + m.frm.toNat, none⟩ = some (.int .i64 mt)) 13 [(true, 0), (true, 1), (true, 2), (true, 3), (true, 4), (true, 5), (true, 6), (true, 7), (true, 8), (true, 9), (true, 10), (true, 11), (true, 12)] (by kernel_rfl) (by as_aux_lemma => kernel_rfl) (by kernel_rfl) (fun _ _ _ _ _ h => h) ?_ (fun hS => ?_)
    (· go_simp)
    simp only [Plan.pick, List.append_eq, List.cons_append, List.nil_append, Plan.g1, Plan.g2, Option.getD_some, List.drop_succ_cons, List.drop_zero]
    iterate 13 (first | refine Plan.tA ?_ | refine Plan.tY ?_ | refine Plan.pN ?_ | refine Plan.pU ?_ | fail)
    refine Plan.fin ?_
    refine wpl_fold (fun wx => Keeps [] w wx) (by exact Keeps.K) ?_
    intro w1 hk1
    have zb := hk1.cellSome h29 (by simp)
    have zf : w1.frozen? ⟨n, 29 + m.frm.toNat, none⟩ = false := (hk1.frozen (a := ⟨n, 29 + m.frm.toNat, none⟩) hlt (by simp)).trans hfz
    obtain ⟨w4, hw4, hc4, hk4⟩ := HY.out w1 hk1
    rw [HV.out] at hw4
    have HC4 := hid hc4
    have HK4 : Hid (Keeps (n :: ownB lv) w w4) := hk4.mono (fun _ _ h => by simp at h; simp [h])
    have HW4 := hid hw4
    clear hk1 hw4 hc4 hk4
    go_wp2_with fail
    all_goals
      first
        | rw [show w1.setCell ⟨n, 29 + m.frm.toNat, none⟩ (.int .i64 (nx - 1)) = w4 by rw [HW4.out, show max (mt + 1) (nx - 1) = nx - 1 by omega]]
        | rw [show w1.setCell ⟨n, 29 + m.frm.toNat, none⟩ (.int .i64 (mt + 1)) = w4 by rw [HW4.out, show max (mt + 1) (nx - 1) = mt + 1 by omega]]
      refine (send_any _ B n _ lv sv m.frm HC4.out (by omega)).mono ?_
      rintro e w5 ⟨ea5, ec5, da5, dc5, rfl, he5, hd5, hk5⟩
      have HP : Hid (CallPost B n lv (appendedD c m) w (.returned (.slice (some ⟨w5.heap.size, 0, none⟩) 1 1)) (w5.alloc (.cells #[.int .i64 (sendD (appNo c m) m.frm).kind, .int .i64 (sendD (appNo c m) m.frm).frm, .int .i64 (sendD (appNo c m) m.frm).to, .int .i64 (sendD (appNo c m) m.frm).term, .int .i64 (sendD (appNo c m) m.frm).a, .int .i64 (sendD (appNo c m) m.frm).b, .int .i64 (sendD (appNo c m) m.frm).c, .bool (sendD (appNo c m) m.frm).ok, .slice ea5 (sendD (appNo c m) m.frm).entries.length ec5, .slice da5 (sendD (appNo c m) m.frm).data.length dc5] 40))) := by
        rw [HR.out]
        exact CallPost.tells HC4.out HK4.out (msgs_one hk5 he5 hd5)
      clear he5 hd5 hk5
      unfold msgV
      go_wp2_with fail
      go_ret
      exact HP.out

set_option maxRecDepth 100000 in
set_option maxHeartbeats 3200000 in
theorem appended_yes (w : World) (B n : Nat) (c : CoreD) (lv sv : Value) (m : MsgD) (ea da : Option Addr) (ec dc : Nat) (h : CoreAt w B n c lv sv) (g1 : m.term = c.term) (g2 : c.role = 2) (g3 : m.ok = true) (hf : 1 ≤ m.frm ∧ m.frm ≤ 7) (ha : 0 ≤ m.a ∧ m.a ≤ lastD c) :
    Calls Try.prog 56 #[.pointer (some ⟨n, 0, none⟩), msgV m (.slice ea m.entries.length ec) (.slice da m.data.length dc)] w (CallPost B n lv (appendedD c m) w) := by
  have h10 : w.cell? ⟨n, 10, none⟩ = some (.int .i64 c.term) := h.blk.cell 10
  have h12 : w.cell? ⟨n, 12, none⟩ = some (.int .i64 c.role) := h.blk.cell 12
  have f8n : m.frm.toNat < 8 := by omega
  have h37 := matc_cell h.blk h.ok.votes h.ok.next h.ok.matc m.frm.toNat f8n
  have hfz : w.frozen? ⟨n, 37 + m.frm.toNat, none⟩ = false := h.blk.free _
  have hnx : 0 ≤ c.next.getD m.frm.toNat 0 ∧ c.next.getD m.frm.toNat 0 ≤ 2199023255553 := getD_bd (p := fun x => 0 ≤ x ∧ x ≤ 2199023255553) h.ok.nexts (by omega)
  have hmt : 0 ≤ c.matc.getD m.frm.toNat 0 ∧ c.matc.getD m.frm.toNat 0 ≤ 2199023255552 := getD_bd (p := fun x => 0 ≤ x ∧ x ≤ 2199023255552) h.ok.matcs (by omega)
  have hlt := h.blk.lt
  have hla : lastD c ≤ 2199023255552 := (lastD_bd h).2
  have HR : Hid (appendedD c m = (agreesD (appYes c m), [])) := by
    show _ = _
    unfold appendedD
    rw [if_neg (by rw [g1, g2, g3]; simp; omega), if_neg (by rw [g3]; simp)]
  obtain ⟨v1, hv1⟩ : ∃ x, max (c.matc.getD m.frm.toNat 0) m.a = x := ⟨_, rfl⟩
  obtain ⟨v2, hv2⟩ : ∃ x, max (c.next.getD m.frm.toNat 0) (v1 + 1) = x := ⟨_, rfl⟩
  have HY0 : Hid (appYes0 c m = { c with matc := c.matc.set m.frm.toNat v1 }) := by show _ = _; unfold appYes0; rw [hv1]
  have hgm : (c.matc.set m.frm.toNat v1).getD m.frm.toNat 0 = v1 := by
    have := h.ok.matc
    simp [List.getD, show m.frm.toNat < c.matc.length by omega]
  have HY1 : Hid (appYes c m = { appYes0 c m with next := c.next.set m.frm.toNat v2 }) := by
    show _ = _
    unfold appYes
    rw [show (appYes0 c m).matc.getD m.frm.toNat 0 = v1 by rw [HY0.out]; exact hgm, hv2]
  have hok0 : CoreOk (appYes0 c m) := by
    rw [HY0.out]
    exact matcT_ok h.ok (by simp [h.ok.matc]) (mem_set_bd (p := fun x => 0 ≤ x ∧ x ≤ 2199023255552) h.ok.matcs (by omega))
  have hok1 : CoreOk (appYes c m) := by
    rw [HY1.out]
    exact nextT_ok hok0 (by simp [h.ok.next]) (mem_set_bd (p := fun x => 0 ≤ x ∧ x ≤ 2199023255553) h.ok.nexts (by omega))
  have H := hid h
  have hb1 : (m.term != c.term) = false := by simpa using g1
  have hb2 : (c.role != 2) = false := by simpa using g2
  have hd : decide (lastD c < m.a) = false := by simp; omega
  have HA : Hid (∀ wx, Keeps [] w wx → ∃ w4, w4 = wx.setCell ⟨n, 37 + m.frm.toNat, none⟩ (.int .i64 v1) ∧ CoreAt w4 B n (appYes0 c m) lv sv ∧ Keeps [n] w w4) := fun wx k0 => by
    have k1 : Keeps [n] wx (wx.setCell ⟨n, 37 + m.frm.toNat, none⟩ (.int .i64 v1)) := (Keeps.refl _ _).setCell (.inl (by simp)) _
    have hok := hok0
    rw [HY0.out] at hok ⊢
    refine ⟨_, rfl, (H.out.k k0).wrote k1 ((H.out.k k0).blk.set _ _ ?_) rfl rfl hok, (k0.mono (G := [n]) (fun _ _ h => by cases h)).trans k1 (fun _ _ h => h)⟩
    rw [show 37 + m.frm.toNat = 21 + (16 + m.frm.toNat) by omega, set21, tail_matc c H.out.ok.votes H.out.ok.next H.out.ok.matc _ f8n]
    rfl
  have HB : Hid (∀ w4 wx, CoreAt w4 B n (appYes0 c m) lv sv → Keeps [n] w w4 → Keeps [] w4 wx → ∃ w6, w6 = wx.setCell ⟨n, 29 + m.frm.toNat, none⟩ (.int .i64 v2) ∧ CoreAt w6 B n (appYes c m) lv sv ∧ Keeps [n] w w6) := fun w4 wx h4 k4 k0 => by
    have k1 : Keeps [n] wx (wx.setCell ⟨n, 29 + m.frm.toNat, none⟩ (.int .i64 v2)) := (Keeps.refl _ _).setCell (.inl (by simp)) _
    have hok := hok1
    rw [HY1.out] at hok ⊢
    refine ⟨_, rfl, (h4.k k0).wrote k1 ((h4.k k0).blk.set _ _ ?_) rfl rfl hok, (k4.trans k0 (fun _ _ h => by cases h)).trans k1 (fun _ _ h => h)⟩
    rw [show 29 + m.frm.toNat = 21 + (8 + m.frm.toNat) by omega, set21, tail_next (appYes0 c m) h4.ok.votes h4.ok.next _ f8n]
    rfl
  have HC0 : Hid (∀ w4, CoreAt w4 B n (appYes0 c m) lv sv → w4.cell? ⟨n, 29 + m.frm.toNat, none⟩ = some (.int .i64 (c.next.getD m.frm.toNat 0)) ∧ w4.cell? ⟨n, 37 + m.frm.toNat, none⟩ = some (.int .i64 v1)) := fun w4 h4 => by
    have e1 := next_cell h4.blk h4.ok.votes h4.ok.next m.frm.toNat f8n
    have e2 := matc_cell h4.blk h4.ok.votes h4.ok.next h4.ok.matc m.frm.toNat f8n
    rw [show (appYes0 c m).next = c.next by rw [HY0.out]] at e1
    rw [show (appYes0 c m).matc.getD m.frm.toNat 0 = v1 by rw [HY0.out]; exact hgm] at e2
    exact ⟨e1, e2⟩
  obtain ⟨nx, hnxe⟩ : ∃ x, c.next.getD m.frm.toNat 0 = x := ⟨_, rfl⟩
  obtain ⟨mt, hmte⟩ : ∃ x, c.matc.getD m.frm.toNat 0 = x := ⟨_, rfl⟩
  rw [hnxe] at hnx HC0 hv2
  rw [hmte] at h37 hmt hv1
  obtain ⟨f1, f7⟩ := hf
  have f0 : 0 ≤ m.frm := by omega
  have f8 : m.frm < 8 := by omega
  obtain ⟨a0, a1⟩ := ha
  obtain ⟨x0, x1⟩ := hnx
  obtain ⟨z0, z1⟩ := hmt
  have u0 : 0 ≤ v1 := by omega
  have u1 : v1 ≤ 2199023255552 := by omega
  have wr4 : IntKind.i64.wrap (v1 + 1) = v1 + 1 := IntWalk.i64_in _ (by omega)
  have HV1 := hid hv1
  have HV2 := hid hv2
  unfold msgV
  rw [g3]
  clear h g1 g2 g3 hnxe hmte hv1 hv2 hgm hok0 hok1
  go_enter Try.func56, Try.ntmps56
  go_wp2_with fail
  refine Plan.wp_region_plan (fun wx => (wx.cell? ⟨w.heap.size, 0, none⟩ = some (.int .i64 m.kind) ∧ wx.cell? ⟨w.heap.size, 1, none⟩ = some (.int .i64 m.frm) ∧ wx.cell? ⟨w.heap.size, 2, none⟩ = some (.int .i64 m.to) ∧ wx.cell? ⟨w.heap.size, 3, none⟩ = some (.int .i64 m.term) ∧ wx.cell? ⟨w.heap.size, 4, none⟩ = some (.int .i64 m.a) ∧ wx.cell? ⟨w.heap.size, 5, none⟩ = some (.int .i64 m.b) ∧ wx.cell? ⟨w.heap.size, 6, none⟩ = some (.int .i64 m.c) ∧ wx.cell? ⟨w.heap.size, 7, none⟩ = some (.bool true) ∧ wx.cell? ⟨w.heap.size, 8, none⟩ = some (.slice ea m.entries.length ec) ∧ wx.cell? ⟨w.heap.size, 9, none⟩ = some (.slice da m.data.length dc)) ∧ wx.cell? ⟨n, 10, none⟩ = some (.int .i64 c.term) ∧ wx.cell? ⟨n, 12, none⟩ = some (.int .i64 c.role)) 25 [(true, 0), (true, 1), (true, 2), (true, 3), (true, 4), (true, 5), (true, 6), (true, 7), (true, 8), (true, 9), (true, 10), (true, 11), (true, 12), (true, 13), (true, 14), (true, 15), (true, 16), (true, 17), (true, 18), (true, 19), (true, 20), (false, 21), (true, 22), (true, 23), (true, 24)] (by kernel_rfl) (by as_aux_lemma => kernel_rfl) (by kernel_rfl) (fun _ _ _ _ _ h => h) ?_ (fun hS => ?_)
  (· go_simp)
  simp only [Plan.pick, List.append_eq, List.cons_append, List.nil_append, Plan.g1, Plan.g2, Option.getD_some, List.drop_succ_cons, List.drop_zero]
  iterate 21 (first | refine Plan.tA ?_ | refine Plan.tY ?_ | refine Plan.pN ?_ | refine Plan.pU ?_ | fail)
  refine Plan.step ?_
  go_wp2_with fail
  refine (cLast_any _ B n c lv sv (H.out.k ?_)).mono ?_
  (· exact Keeps.K)
  rintro e w' ⟨rfl, k3, rfl⟩
  go_wp2_with fail
  refine ⟨?_, ?_⟩
  (· go_simp)
  iterate 3 (first | refine Plan.tA ?_ | refine Plan.tY ?_ | refine Plan.pN ?_ | refine Plan.pU ?_ | fail)
  refine Plan.fin ?_
  go_wp2_with fail
  refine Plan.wp_region_plan (fun wx => wx.cell? ⟨n, 37 + m.frm.toNat, none⟩ = some (.int .i64 mt) ∧ wx.cell? ⟨w.heap.size, 4, none⟩ = some (.int .i64 m.a)) 13 [(true, 0), (true, 1), (true, 2), (true, 3), (true, 4), (true, 5), (true, 6), (true, 7), (true, 8), (true, 9), (true, 10), (true, 11), (true, 12)] (by kernel_rfl) (by as_aux_lemma => kernel_rfl) (by kernel_rfl) (fun _ _ _ _ _ h => h) ?_ (fun hS => ?_)
  (· go_simp)
  simp only [Plan.pick, List.append_eq, List.cons_append, List.nil_append, Plan.g1, Plan.g2, Option.getD_some, List.drop_succ_cons, List.drop_zero]
  iterate 13 (first | refine Plan.tA ?_ | refine Plan.tY ?_ | refine Plan.pN ?_ | refine Plan.pU ?_ | fail)
  refine Plan.fin ?_
  refine wpl_fold (fun wx => Keeps [] w wx) (by exact Keeps.K) ?_
  intro w1 hk1
  have zb := hk1.cellSome h37 (by simp)
  have zf : w1.frozen? ⟨n, 37 + m.frm.toNat, none⟩ = false := (hk1.frozen (a := ⟨n, 37 + m.frm.toNat, none⟩) hlt (by simp)).trans hfz
  obtain ⟨w4, hw4, hc4, hk4⟩ := HA.out w1 hk1
  have HC4 := hid hc4
  have HK4 := hid hk4
  have HW4 := hid hw4
  have hcc := HC0.out w4 hc4
  have y29 := hcc.1
  have y37 := hcc.2
  have yf : w4.frozen? ⟨n, 29 + m.frm.toNat, none⟩ = false := hc4.blk.free _
  have yl := hc4.blk.lt
  clear hk1 hw4 hc4 hk4 hcc
  go_wp2_with fail
  all_goals
    first
      | rw [show w1.setCell ⟨n, 37 + m.frm.toNat, none⟩ (.int .i64 m.a) = w4 by have := HV1.out; rw [HW4.out, show v1 = m.a by omega]]
      | rw [show w1.setCell ⟨n, 37 + m.frm.toNat, none⟩ (.int .i64 mt) = w4 by have := HV1.out; rw [HW4.out, show v1 = mt by omega]]
    clear zb zf
    refine Plan.wp_region_plan (fun wx => wx.cell? ⟨n, 37 + m.frm.toNat, none⟩ = some (.int .i64 v1) ∧ wx.cell? ⟨n, 29 + m.frm.toNat, none⟩ = some (.int .i64 nx)) 18 [(true, 0), (true, 1), (true, 2), (true, 3), (true, 4), (true, 5), (true, 6), (true, 7), (true, 8), (true, 9), (true, 10), (true, 11), (true, 12), (true, 13), (true, 14), (true, 15), (true, 16), (true, 17)] (by kernel_rfl) (by as_aux_lemma => kernel_rfl) (by kernel_rfl) (fun _ _ _ _ _ h => h) ?_ (fun hS => ?_)
    (· go_simp)
    simp only [Plan.pick, List.append_eq, List.cons_append, List.nil_append, Plan.g1, Plan.g2, Option.getD_some, List.drop_succ_cons, List.drop_zero]
    iterate 18 (first | refine Plan.tA ?_ | refine Plan.tY ?_ | refine Plan.pN ?_ | refine Plan.pU ?_ | fail)
    refine Plan.fin ?_
    refine wpl_fold (fun wx => Keeps [] w4 wx) (by exact Keeps.K) ?_
    intro w5 hk5
    have zb := hk5.cellSome y29 (by simp)
    have zf : w5.frozen? ⟨n, 29 + m.frm.toNat, none⟩ = false := (hk5.frozen (a := ⟨n, 29 + m.frm.toNat, none⟩) yl (by simp)).trans yf
    obtain ⟨w6, hw6, hc6, hk6⟩ := HB.out w4 w5 HC4.out HK4.out hk5
    have HC6 := hid hc6
    have HK6 := hid hk6
    have HW6 := hid hw6
    clear hk5 hw6 hc6 hk6
    go_wp2_with fail
    all_goals
      first
        | rw [show w5.setCell ⟨n, 29 + m.frm.toNat, none⟩ (.int .i64 (v1 + 1)) = w6 by have := HV2.out; rw [HW6.out, show v2 = v1 + 1 by omega]]
        | rw [show w5.setCell ⟨n, 29 + m.frm.toNat, none⟩ (.int .i64 nx) = w6 by have := HV2.out; rw [HW6.out, show v2 = nx by omega]]
      refine (agrees_any _ B n _ lv sv HC6.out).mono ?_
      rintro e w7 ⟨rfl, hc7, hk7⟩
      have HP : Hid (CallPost B n lv (appendedD c m) w (.returned (.slice none 0 0)) w7) := by
        rw [HR.out]
        exact CallPost.silent rfl hc7 ((HK6.out.trans hk7 (fun _ _ h => h)).mono (fun _ _ h => by simp at h; simp [h]))
      clear hc7 hk7
      go_wp2_with fail
      go_ret
      exact HP.out

theorem appended_any (w : World) (B n : Nat) (c : CoreD) (lv sv : Value) (m : MsgD) (ea da : Option Addr) (ec dc : Nat) (h : CoreAt w B n c lv sv) (hf : 1 ≤ m.frm ∧ m.frm ≤ 7) (ha : 0 ≤ m.a ∧ m.a ≤ 1099511627776) :
    Calls Try.prog 56 #[.pointer (some ⟨n, 0, none⟩), msgV m (.slice ea m.entries.length ec) (.slice da m.data.length dc)] w (CallPost B n lv (appendedD c m) w) := by
  by_cases hn : m.term ≠ c.term ∨ c.role ≠ 2 ∨ (m.ok = true ∧ lastD c < m.a)
  · exact appended_no w B n c lv sv m ea da ec dc h hn
  · have g1 : m.term = c.term := Classical.byContradiction fun h => hn (.inl h)
    have g2 : c.role = 2 := Classical.byContradiction fun h => hn (.inr (.inl h))
    by_cases g3 : m.ok = true
    · exact appended_yes w B n c lv sv m ea da ec dc h g1 g2 g3 hf ⟨ha.1, by rcases Int.lt_or_le (lastD c) m.a with h1 | h1; · exact absurd (.inr (.inr ⟨g3, h1⟩)) hn
                                                                             · exact h1⟩
    · exact appended_send w B n c lv sv m ea da ec dc h g1 g2 (by simpa using g3) hf ha

end Go.Proofs.Ytpppoajnbhipeaa

/- append: what does not fit; what has been here. -/
namespace Go.Proofs.Ytpppoajnbhipeaa
open Go Go.RowKit

theorem appendD_no {c : CoreD} {m : MsgD} (hb : c.base ≤ m.a) (hf : fitD c m.a m.b false = false) : appendD c m = (c, answerD c m false (max c.commit (min (lastD c) (m.a - 1)))) := by
  unfold appendD
  rw [if_pos hb]
  unfold appendAt
  rw [hf]
  rfl

theorem answer_is (w : World) (B n : Nat) (c : CoreD) (lv sv : Value) (m : MsgD) (ea da : Option Addr) (ec dc : Nat) (ok : Bool) (a b : Int) (hab : a = b) (h : CoreAt w B n c lv sv) :
    Calls Try.prog 57 #[.pointer (some ⟨n, 0, none⟩), msgV m (.slice ea m.entries.length ec) (.slice da m.data.length dc), .bool ok, .int .i64 a] w (MsgsPost (answerD c m ok b) w) := by
  subst hab
  exact answer_any w B n c lv sv m ea da ec dc ok a h

set_option maxRecDepth 100000 in
set_option maxHeartbeats 3200000 in
theorem append_no (w : World) (B n : Nat) (c : CoreD) (lv sv : Value) (m : MsgD) (ea da : Option Addr) (ec dc : Nat) (h : CoreAt w B n c lv sv) (hb : c.base ≤ m.a) (ha : m.a ≤ 1099511627776) (hf : fitD c m.a m.b false = false) :
    Calls Try.prog 59 #[.pointer (some ⟨n, 0, none⟩), msgV m (.slice ea m.entries.length ec) (.slice da m.data.length dc)] w (CallPost B n lv (appendD c m) w) := by
  rw [appendD_no hb hf]
  have h14 : w.cell? ⟨n, 14, none⟩ = some (.int .i64 c.commit) := h.blk.cell 14
  have h15 : w.cell? ⟨n, 15, none⟩ = some (.int .i64 c.base) := h.blk.cell 15
  have hlt := h.blk.lt
  have hbs := h.ok.base
  have hbd := lastD_bd h
  have H := hid h
  have ib1 : -4611686018427387904 ≤ m.a := by omega
  have ib2 : m.a ≤ 4611686018427387904 := by omega
  have d1 : decide (m.a < c.base) = false := by simp; omega
  have wr1 : IntKind.i64.wrap (m.a - 1) = m.a - 1 := IntWalk.i64_in _ (by omega)
  obtain ⟨T, okT, hT⟩ : ∃ t o, atD c m.a = (t, o) := ⟨_, _, rfl⟩
  have HT := hid hT
  obtain ⟨L, hL⟩ : ∃ L, lastD c = L := ⟨_, rfl⟩
  have HLL := hid hL
  obtain ⟨V, hV⟩ : ∃ V, max c.commit (min L (m.a - 1)) = V := ⟨_, rfl⟩
  have HV := hid hV
  rw [hL, hV]
  unfold fitD at hf
  rw [hT] at hf
  unfold msgV
  clear h hb hT hL hV hbs hbd
  have hc : okT = false ∨ (okT = true ∧ (T != m.b) = true) := by
    cases okT
    · exact .inl rfl
    · refine .inr ⟨rfl, ?_⟩
      simpa using hf
  clear hf
  rcases hc with rfl | ⟨rfl, hne⟩
  all_goals
    go_enter Try.func59, Try.ntmps59
    go_wp2_with fail
    go_step3
    go_wp2_with fail
    go_quiet (fail)
    go_wp2_with fail
    first
      | (refine (cAt_is _ B n c lv sv (H.out.k (by exact Keeps.K)) m.a T false ib1 ib2 HT.out).mono ?_)
      | (refine (cAt_is _ B n c lv sv (H.out.k (by exact Keeps.K)) m.a T true ib1 ib2 HT.out).mono ?_)
    rintro e w' ⟨rfl, kk, rfl⟩
    go_wp2_with fail
    refine Plan.wp_region_plan (fun wx => (wx.cell? ⟨w.heap.size, 0, none⟩ = some (.int .i64 m.kind) ∧ wx.cell? ⟨w.heap.size, 1, none⟩ = some (.int .i64 m.frm) ∧ wx.cell? ⟨w.heap.size, 2, none⟩ = some (.int .i64 m.to) ∧ wx.cell? ⟨w.heap.size, 3, none⟩ = some (.int .i64 m.term) ∧ wx.cell? ⟨w.heap.size, 4, none⟩ = some (.int .i64 m.a) ∧ wx.cell? ⟨w.heap.size, 5, none⟩ = some (.int .i64 m.b) ∧ wx.cell? ⟨w.heap.size, 6, none⟩ = some (.int .i64 m.c) ∧ wx.cell? ⟨w.heap.size, 7, none⟩ = some (.bool m.ok) ∧ wx.cell? ⟨w.heap.size, 8, none⟩ = some (.slice ea m.entries.length ec) ∧ wx.cell? ⟨w.heap.size, 9, none⟩ = some (.slice da m.data.length dc)) ∧ wx.cell? ⟨n, 14, none⟩ = some (.int .i64 c.commit)) 12 [(true, 0), (true, 1), (true, 2), (true, 3), (true, 4), (true, 5), (true, 6), (true, 8), (true, 9), (false, 7), (true, 10), (true, 11)] (by kernel_rfl) (by as_aux_lemma => kernel_rfl) (by kernel_rfl) (fun _ _ _ _ _ h => h) ?_ (fun hS => ?_)
    (· go_simp)
    simp only [Plan.pick, List.append_eq, List.cons_append, List.nil_append, Plan.g1, Plan.g2, Option.getD_some, List.drop_succ_cons, List.drop_zero]
    iterate 9 (first | refine Plan.tA ?_ | refine Plan.tY ?_ | refine Plan.pN ?_ | refine Plan.pU ?_ | fail)
    refine Plan.step ?_
    go_wp2_with fail
    refine (cLast_is _ B n c lv sv (H.out.k ?_) L HLL.out).mono ?_
    (· exact Keeps.K)
    rintro e w' ⟨rfl, kl, rfl⟩
    go_wp2_with fail
    refine ⟨?_, ?_⟩
    (· go_simp)
    iterate 2 (first | refine Plan.tA ?_ | refine Plan.tY ?_ | refine Plan.pN ?_ | refine Plan.pU ?_ | fail)
    refine Plan.fin ?_
    go_wp2_with fail
    all_goals
      refine (answer_is _ B n c lv sv m ea da ec dc false _ V (by have := HV.out; omega) (H.out.k ?_)).mono ?_
      (· exact Keeps.K)
      rintro e w4 hp
      obtain ⟨a, q, lv', sv', rfl, hp2⟩ : CallPost B n lv (c, answerD c m false V) w e w4 := CallPost.tells (H.out.k (by exact Keeps.K)) (Keeps.mono (F := []) (by exact Keeps.K) (fun _ _ h => by cases h)) hp
      have HP := hid hp2
      clear hp hp2
      go_wp2_with fail
      rw [Exit.noGoto_ret]
      go_ret
      exact ⟨a, q, lv', sv', rfl, HP.out⟩

end Go.Proofs.Ytpppoajnbhipeaa
