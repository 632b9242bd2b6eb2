/- from, put: an entry behind the log. -/
import Derived.Test.YtpppoajnbhipeaaCoreL
namespace Go.Proofs.Ytpppoajnbhipeaa
open Go Go.RowKit

theorem turnD_ok {c : CoreD} (h : CoreOk c) {i : Int} (hi : 0 ≤ i ∧ i ≤ 2199023255553) : CoreOk (turnD c i) :=
  { may := h.may, id := h.id, term := h.term, base := h.base, baseTerm := h.baseTerm, len := h.len, last := h.last, commit := h.commit, draw := h.draw, votes := h.votes, next := h.next, matc := h.matc, nexts := h.nexts, matcs := h.matcs, ents := h.ents, frm := by
      unfold turnD
      show 0 ≤ (if c.frm = 0 ∨ i < c.frm then i else c.frm) ∧ _ ≤ _
      split
      · exact hi
      · exact h.frm
    data := h.data, snap := h.snap }

set_option maxRecDepth 100000 in
set_option maxHeartbeats 1600000 in
theorem from_any (w : World) (B n : Nat) (c : CoreD) (lv sv : Value) (i : Int) (h : CoreAt w B n c lv sv) (hi : 0 ≤ i ∧ i ≤ 2199023255553) :
    Calls Try.prog 77 #[.pointer (some ⟨n, 0, none⟩), .int .i64 i] w fun e w' => e = .returned (.tuple #[]) ∧ CoreAt w' B n (turnD c i) lv sv ∧ Keeps [n] w w' := by
  obtain ⟨_, t25, _⟩ := tail_get c h.ok.votes h.ok.next h.ok.matc
  have h46 : w.cell? ⟨n, 46, none⟩ = some (.int .i64 c.frm) := (h.blk.cell 46).trans ((get21 c lv sv 25).trans t25)
  have f46 : w.frozen? ⟨n, 46, none⟩ = false := h.blk.free 46
  have HD : Hid (CoreAt (w.setCell ⟨n, 46, none⟩ (.int .i64 i)) B n { c with frm := i } lv sv ∧ Keeps [n] w (w.setCell ⟨n, 46, none⟩ (.int .i64 i))) := by
    have k : Keeps [n] w (w.setCell ⟨n, 46, none⟩ (.int .i64 i)) := (Keeps.refl _ _).setCell (.inl (by simp)) _
    have b1 : CoreBlk (w.setCell ⟨n, 46, none⟩ (.int .i64 i)) n { c with frm := i } lv sv := h.blk.set 46 _ (by rw [show 46 = 21 + 25 from rfl, set21, tail_frm c h.ok.votes h.ok.next h.ok.matc]; rfl)
    have ho : CoreOk { c with frm := i } := { may := h.ok.may, id := h.ok.id, term := h.ok.term, base := h.ok.base, baseTerm := h.ok.baseTerm, len := h.ok.len, last := h.ok.last, commit := h.ok.commit, draw := h.ok.draw, votes := h.ok.votes, next := h.ok.next, matc := h.ok.matc, nexts := h.ok.nexts, matcs := h.ok.matcs, ents := h.ok.ents, frm := hi, data := h.ok.data, snap := h.ok.snap }
    exact ⟨h.wrote k b1 rfl rfl ho, k⟩
  have H := hid h
  clear h t25
  by_cases g1 : c.frm = 0
  · have HE : Hid (turnD c i = { c with frm := i }) := by show _ = _; unfold turnD; rw [if_pos (.inl g1)]
    have b1 : (c.frm == 0) = true := by simpa using g1
    clear g1
    go_enter Try.func77, Try.ntmps77
    go_wp2
    exact bodyPost_end (by simp [results, Try.results77, go_sem]) rfl ⟨rfl, by rw [HE.out]; exact HD.out⟩
  · have b1 : (c.frm == 0) = false := by simpa using g1
    by_cases g2 : i < c.frm
    · have HE : Hid (turnD c i = { c with frm := i }) := by show _ = _; unfold turnD; rw [if_pos (.inr g2)]
      have b2 : decide (i < c.frm) = true := by simpa using g2
      clear g1 g2
      go_enter Try.func77, Try.ntmps77
      go_wp2
      exact bodyPost_end (by simp [results, Try.results77, go_sem]) rfl ⟨rfl, by rw [HE.out]; exact HD.out⟩
    · have HE : Hid (turnD c i = c) := by show _ = _; unfold turnD; rw [if_neg (by omega)]
      have b2 : decide (i < c.frm) = false := by simpa using g2
      clear g1 g2
      go_enter Try.func77, Try.ntmps77
      go_wp2
      exact bodyPost_end (by simp [results, Try.results77, go_sem]) rfl ⟨rfl, by rw [HE.out]; exact ⟨H.out, (Keeps.refl [n] w)⟩⟩

theorem putL_ok {c : CoreD} {e : Ent} (h : CoreOk c) (hlen : c.l.length < 5096) (hlast : lastD c + 1 ≤ 2199023255552) (ht : 0 ≤ e.term ∧ e.term ≤ 1099511627776) (hd : e.data.length ≤ 1000000) : CoreOk { c with l := c.l ++ [e] } := by
  unfold lastD at hlast
  exact { may := h.may, id := h.id, term := h.term, base := h.base, baseTerm := h.baseTerm, len := by simp; omega, last := by simp; omega, commit := by have := h.commit; simp; omega, draw := h.draw, votes := h.votes, next := h.next, matc := h.matc, nexts := h.nexts, matcs := h.matcs, ents := fun x hx => by
            rcases List.mem_append.1 hx with hx | hx
            · exact h.ents x hx
            · simp at hx; rw [hx]; exact ht
          frm := h.frm, data := fun x hx => by
            rcases List.mem_append.1 hx with hx | hx
            · exact h.data x hx
            · simp at hx; rw [hx]; exact hd
          snap := h.snap }

def PutPost (B n : Nat) (c : CoreD) (lv sv : Value) (w : World) (x : Ending) (w' : World) : Prop :=
  ∃ lv', x = .returned (.tuple #[]) ∧ CoreAt w' B n c lv' sv ∧ Keeps (n :: ownB lv) w w' ∧ ∀ b ∈ ownB lv', b ∈ ownB lv ∨ w.heap.size ≤ b

set_option maxRecDepth 100000 in
set_option maxHeartbeats 3200000 in
theorem put_any (w : World) (B n : Nat) (c : CoreD) (lv sv : Value) (e : Ent) (ea : Option Addr) (ec : Nat) (h : CoreAt w B n c lv sv) (hb : BytesAt w (fun b => Off n lv b ∧ ¬ c.ban b) (.slice ea e.data.length ec) e.data) (hlen : c.l.length < 5096) (hlast : lastD c + 1 ≤ 2199023255552) (ht : 0 ≤ e.term ∧ e.term ≤ 1099511627776) (hd : e.data.length ≤ 1000000) :
    Calls Try.prog 66 #[.pointer (some ⟨n, 0, none⟩), entV e (.slice ea e.data.length ec)] w (PutPost B n (putD c e) lv sv w) := by
  obtain ⟨it, hi0, hz0, hz1, hz2⟩ := info_parts Try.infoEnt
  obtain ⟨q, cq, rfl⟩ := h.form
  unfold entV
  have h17 : w.cell? ⟨n, 17, none⟩ = some (.slice q c.l.length cq) := h.blk.cell 17
  have f17 : w.frozen? ⟨n, 17, none⟩ = false := h.blk.free 17
  have hlt := h.blk.lt
  have H := hid h
  have HBt := hid hb
  have HOK := hid (putL_ok h.ok hlen hlast ht hd)
  have hls : 0 ≤ lastD c + 1 := by have := h.ok.base; unfold lastD; omega
  have HLS : Hid (0 ≤ lastD c + 1 ∧ lastD c + 1 ≤ 2199023255553) := ⟨hls, by omega⟩
  have HEL : Hid (∀ wx, Keeps [] w wx → entL.at_ wx (fun b => (Off n (.slice q c.l.length cq) b ∧ ¬ c.ban b) ∧ b < w.heap.size) [.int .i64 e.term, .bool e.cmd, .slice ea e.data.length ec] e) := fun wx kx => ⟨_, rfl, (BytesAt.mono (P' := fun b => (Off n (.slice q c.l.length cq) b ∧ ¬ c.ban b) ∧ b < w.heap.size) hb (fun b h1 h2 => ⟨h2, h1⟩)).k kx⟩
  have HB0 : Hid (B ≤ w.heap.size) := Nat.le_trans h.base (Nat.le_of_lt hlt)
  clear h hb hls hlast
  go_enter Try.func66, Try.ntmps66
  go_wp2_with fail
  refine Plan.wp_region_plan (fun wx => wx.cell? ⟨n, 17, none⟩ = some (.slice q c.l.length cq) ∧ wx.cell? ⟨w.heap.size, 0, none⟩ = some (.int .i64 e.term) ∧ wx.cell? ⟨w.heap.size, 1, none⟩ = some (.bool e.cmd) ∧ wx.cell? ⟨w.heap.size, 2, none⟩ = some (.slice ea e.data.length ec)) 8 [(true, 0), (true, 1), (true, 2), (true, 3), (true, 4), (true, 5), (false, 6), (false, 7)] (by kernel_rfl) (by as_aux_lemma => kernel_rfl) (by kernel_rfl) (fun _ _ _ _ _ h => h) ?_ (fun hS => ?_)
  (· go_simp)
  simp only [Plan.pick, List.append_eq, List.cons_append, List.nil_append, List.getElem?_cons_zero, List.getElem?_cons_succ, Option.getD_some, List.drop_succ_cons, List.drop_zero]
  iterate 6 (first | (refine Plan.take (v := ?_) (a' := ?_) (Plan.want_all (by rfl)) ?_ ?_ ?_; rotate_left 2; (· (intro w' hS'; (try dsimp only at hS'); go_simp; try with_reducible rfl)); (· (simp only [Act.put, List.setIfInBounds_toArray, List.set_cons_zero, List.set_cons_succ]; try with_reducible rfl))) | (refine Plan.take (v := ?_) (a' := ?_) (Plan.want_yes (by rfl) (by rfl) (by rfl) (by rfl)) ?_ ?_ ?_; rotate_left 2; (· (intro w' hS'; (try dsimp only at hS'); go_simp; try with_reducible rfl)); (· (simp only [Act.put, List.setIfInBounds_toArray, List.set_cons_zero, List.set_cons_succ]; try with_reducible rfl))) | (refine Plan.pass (a' := ?_) (Plan.want_no (by rfl) (by rfl) (by rfl) (by rfl)) ?_ ?_; rotate_left 1; (· (simp only [Act.put, List.setIfInBounds_toArray, List.set_cons_zero, List.set_cons_succ]; try with_reducible rfl))) | (refine Plan.pass (a' := ?_) (Plan.want_un (by rfl) (by rfl) (by rfl) (by rfl)) ?_ ?_; rotate_left 1; (· (simp only [Act.put, List.setIfInBounds_toArray, List.set_cons_zero, List.set_cons_succ]; try with_reducible rfl))) | fail)
  refine Plan.step ?_
  go_wp2_with fail
  refine ⟨?_, ?_⟩
  (· go_simp)
  refine Plan.step ?_
  have HX : Hid (∃ w1, w1 = ((w.alloc (.cells #[.int .i64 e.term, .bool e.cmd, .slice ea e.data.length ec] 59)).alloc (.cells #[.int .i64 e.term, .bool e.cmd, .slice ea e.data.length ec] 59)).drew ∧ Keeps [] w w1 ∧ w1.heap[w.heap.size + 1]? = some (.cells #[.int .i64 e.term, .bool e.cmd, .slice ea e.data.length ec] 59 (0, 0)) ∧ w1.heap[w.heap.size]? = some (.cells #[.int .i64 e.term, .bool e.cmd, .slice ea e.data.length ec] 59 (0, 0))) := by
    have e1 := heap_alloc_new w (.cells #[.int .i64 e.term, .bool e.cmd, .slice ea e.data.length ec] 59)
    have e2 := heap_alloc_new (w.alloc (.cells #[.int .i64 e.term, .bool e.cmd, .slice ea e.data.length ec] 59)) (.cells #[.int .i64 e.term, .bool e.cmd, .slice ea e.data.length ec] 59)
    have k2 : Keeps [] (w.alloc (.cells #[.int .i64 e.term, .bool e.cmd, .slice ea e.data.length ec] 59)) ((w.alloc (.cells #[.int .i64 e.term, .bool e.cmd, .slice ea e.data.length ec] 59)).alloc (.cells #[.int .i64 e.term, .bool e.cmd, .slice ea e.data.length ec] 59)).drew := by (repeat (first | (with_reducible exact Keeps.refl _ _) | (with_reducible assumption) | ((with_reducible refine Keeps.setCell ?_ ?_ _); rotate_left 1; (· first | (refine .inl ?_; simp; done) | (refine .inr ?_; first | exact Nat.le_refl _ | (simp; done) | (simp; omega) | omega))) | (with_reducible refine Keeps.alloc ?_ _) | (with_reducible refine Keeps.drewN ?_ _) | (with_reducible refine Keeps.drew ?_)))
    refine ⟨_, rfl, by (repeat (first | (with_reducible exact Keeps.refl _ _) | (with_reducible assumption) | ((with_reducible refine Keeps.setCell ?_ ?_ _); rotate_left 1; (· first | (refine .inl ?_; simp; done) | (refine .inr ?_; first | exact Nat.le_refl _ | (simp; done) | (simp; omega) | omega))) | (with_reducible refine Keeps.alloc ?_ _) | (with_reducible refine Keeps.drewN ?_ _) | (with_reducible refine Keeps.drew ?_))), ?_, (k2.block w.heap.size (by simp) (by simp)).trans e1⟩
    rw [show (w.alloc (.cells #[.int .i64 e.term, .bool e.cmd, .slice ea e.data.length ec] 59)).heap.size = w.heap.size + 1 by simp] at e2
    exact e2
  obtain ⟨w1, hw1, k1, b1, b0⟩ := HX.out
  rw [← hw1]
  obtain ⟨⟨x0, x1, x2⟩, _⟩ := blk3 b0
  have K1 := hid k1
  have HB1 := hid b1
  have z1 : w.heap.size + 1 < w1.heap.size := (Array.getElem?_eq_some_iff.1 b1).1
  have HOW : Hid (OwnAt entL 59 w1 B (fun b => (b ≠ n ∧ ¬ c.ban b) ∧ b ∉ ownB (.slice q c.l.length cq)) (.slice q c.l.length cq) c.l) := (OwnAt.k H.out.own k1).mono (fun _ _ h => ⟨⟨h.1.1, h.2⟩, h.1.2⟩)
  have hap : n ∉ ownB (.slice q c.l.length cq) := H.out.apart
  have hap2 : w.heap.size ∉ ownB (.slice q c.l.length cq) := fun hb => by have := (H.out.own.ge _ hb).2; omega
  have a17 := k1.cellSome h17 (by simp)
  have g17 : w1.frozen? ⟨n, 17, none⟩ = false := (k1.frozen (a := ⟨n, 17, none⟩) hlt (by simp)).trans f17
  have HB2 : Hid (B ≤ w1.heap.size) := Nat.le_trans HB0.out k1.size
  clear hw1 k1 b1 b0 HX h17 f17
  go_wp2_with (at_builtin; go_must (refine wpList_append_off (L := entL) (PB := fun b => (Off n (.slice q c.l.length cq) b ∧ ¬ c.ban b) ∧ b < w.heap.size) _ (by rfl) _ _ _ (by rfl) B 59 it _ 40 Try.underlying35 hi0 hz0 hz1 hz2 rfl (R := fun b => b ≠ n ∧ ¬ c.ban b) (.slice q c.l.length cq) (by rfl) c.l [e] c.l.length rfl [[.int .i64 e.term, .bool e.cmd, .slice ea e.data.length ec]] HOW.out (.slice (some ⟨w.heap.size + 1, 0, none⟩) 1 1) (by rfl) 1 rfl (ElemsAt.one1 (HEL.out _ K1.out)) (Reads.one1 HB1.out rfl) (by omega) (le_maxLen (by omega)) HB2.out (fun b _ hb => ⟨⟨hb.1.1.1, hb.1.2⟩, hb.1.1.2⟩) ?_; intro a4 q4 w4 ho4 hk4 hv4))
  have e17 := hk4.out.cellSome a17 hap
  have e0 := hk4.out.cellSome x0 hap2
  have e1 := hk4.out.cellSome x1 hap2
  have e2 := hk4.out.cellSome x2 hap2
  have hfz : w4.frozen? ⟨n, 17, none⟩ = false := (hk4.out.frozen (a := ⟨n, 17, none⟩) (by show n < w1.heap.size; omega) hap).trans g17
  refine ⟨⟨e17, e0, e1, e2⟩, ?_⟩
  refine Plan.fin ?_
  have HG : Hid (∃ w5, w5 = w4.setCell ⟨n, 17, none⟩ (.slice a4 (c.l.length + 1) q4) ∧ CoreAt w5 B n { c with l := c.l ++ [e] } (.slice a4 (c.l.length + 1) q4) sv ∧ Keeps (n :: ownB (.slice q c.l.length cq)) w w5) :=
    ⟨_, rfl, H.out.grow K1.out ho4.out hk4.out hv4.out rfl HOK.out⟩
  have HV : Hid (∀ b ∈ ownB (.slice a4 (c.l.length + 1) q4), b ∈ ownB (.slice q c.l.length cq) ∨ w.heap.size ≤ b) := fun b hb => (hv4.out b hb).imp (fun h => h) (fun h => Nat.le_trans K1.out.size h)
  clear a17 g17 x0 x1 x2
  go_wp2_with fail
  obtain ⟨w5, hw5, hc5, hk5⟩ := HG.out
  rw [← hw5]
  have C5 := hid hc5
  have K5 := hid hk5
  clear hw5 hc5 hk5 HG e17 e0 e1 e2 hfz
  refine (cLast_is _ B n _ _ sv C5.out (lastD c + 1) (by unfold lastD; simp; omega)).mono ?_
  rintro z w' ⟨rfl, k, rfl⟩
  go_wp2_with fail
  refine (from_any _ B n _ _ sv (lastD c + 1) (C5.out.k ((Keeps.refl [] _).drewN _)) HLS.out).mono ?_
  rintro z w6 ⟨rfl, hc6, hk6⟩
  have HF : Hid (CoreAt w6 B n (putD c e) (.slice a4 (c.l.length + 1) q4) sv ∧ Keeps (n :: ownB (.slice q c.l.length cq)) w w6) := ⟨hc6, (K5.out.drewN _).trans hk6 (fun b _ h => by simp at h; simp [h])⟩
  clear hc6 hk6
  go_wp2_with fail
  exact bodyPost_end (by simp [results, Try.results66, go_sem]) rfl ⟨_, rfl, HF.out.1, HF.out.2, HV.out⟩

end Go.Proofs.Ytpppoajnbhipeaa
