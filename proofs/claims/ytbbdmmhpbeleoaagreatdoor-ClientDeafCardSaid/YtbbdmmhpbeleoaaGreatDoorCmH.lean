/- A command that is read, as the document reads it. (Printed by gen_cmh.py.) -/
import Derived.Test.YtbbdmmhpbeleoaaGreatDoorCmG

set_option linter.unusedSimpArgs false
set_option linter.unusedVariables false
namespace Go.Proofs.YtbbdmmhpbeleoaaGreatDoor
open Go Go.RowKit

set_option maxRecDepth 100000 in
theorem r3REnd_any (n : Nat) (a : Option Addr) (c : Nat) (bs : List UInt8) (p : Nat) (bad : Bool) (w : World) (h : RdAt 95 w n a c bs p bad) :
    Calls Tryz.prog 63 #[.pointer (some ⟨n, 0, none⟩)] w fun e w' => e = .returned (.bool (!bad && p == bs.length)) ∧ Keeps [] w w' := by
  have y0 : w.cell? ⟨n, 0, none⟩ = some (.slice a bs.length c) := cell_of_block h.row 0
  have y1 : w.cell? ⟨n, 1, none⟩ = some (.int .i64 p) := cell_of_block h.row 1
  have y2 : w.cell? ⟨n, 2, none⟩ = some (.bool bad) := cell_of_block h.row 2
  have hp : ((p : Int) == (bs.length : Int)) = (p == bs.length) := by
    by_cases e : p = bs.length
    · subst e; simp
    · rw [beq_eq_false_iff_ne.2 e, beq_eq_false_iff_ne.2 (by omega)]
  have HP := hid hp
  clear h hp
  rcases bad with _ | _
  · go_enter Tryz.func63, Tryz.ntmps63
    go_wp2_with fail
    go_quiet (fail)
    go_wp2_with fail
    go_ret
    exact ⟨by first | rw [HP.out]; rfl | (have := HP.out; simp_all), Keeps.K⟩
  · go_enter Tryz.func63, Tryz.ntmps63
    go_wp2_with fail
    go_quiet (fail)
    go_wp2_with fail
    go_ret
    exact ⟨rfl, Keeps.K⟩

theorem new2nd (w : World) (o o2 : Obj) : ((w.alloc o).alloc o2).heap[w.heap.size + 1]? = some o2 := by
  have h := heap_alloc_new (w.alloc o) o2
  rw [show (w.alloc o).heap.size = w.heap.size + 1 by simp] at h
  exact h
/-- The command under way, the document's reader: both in the call's own blocks; the bytes are the caller's. -/
structure GetSd (a : Option Addr) (q : Nat) (bs : List UInt8) (w wr : World) (c : CmdD) (p : Nat) (b : Bool) : Prop where
  row : wr.heap[w.heap.size + 1 + 1]? = some (.cells #[.int .i64 c.kind, .int .i64 c.session, .int .i64 c.seq, .string c.field, .int .i64 c.version, .int .i64 c.value.kind, .int .i64 c.value.n, .string c.value.s] 25 (0, 0))
  res : wr.heap[w.heap.size]? = some (.cells #[.int .i64 0, .int .i64 0, .int .i64 0, .string ⟨#[]⟩, .int .i64 0, .int .i64 0, .int .i64 0, .string ⟨#[]⟩] 25 (0, 0))
  rd : RdAt 95 wr (w.heap.size + 1) a q bs p b
  keeps : Keeps [] w wr
  base : Reads w 1 (.slice a bs.length q) bs.length (u8s bs)
theorem GetSd.step {a : Option Addr} {q : Nat} {bs : List UInt8} {w wr w' : World} {c : CmdD} {p p' : Nat} {b b' : Bool} (H : GetSd a q bs w wr c p b) (k : Keeps [w.heap.size + 1] wr w') (h : RdAt 95 w' (w.heap.size + 1) a q bs p' b') : GetSd a q bs w w' c p' b' :=
  ⟨(k.block _ (Array.getElem?_eq_some_iff.1 H.row).1 (by simp)).trans H.row, (k.block _ (Array.getElem?_eq_some_iff.1 H.res).1 (by simp)).trans H.res, h, H.keeps.trans k (fun x hx hx' => by simp at hx'; omega), H.base⟩
theorem GetSd.k {a : Option Addr} {q : Nat} {bs : List UInt8} {w wr w' : World} {c : CmdD} {p : Nat} {b : Bool} (H : GetSd a q bs w wr c p b) (k : Keeps [] wr w') : GetSd a q bs w w' c p b :=
  ⟨(k.block _ (Array.getElem?_eq_some_iff.1 H.row).1 (by simp)).trans H.row, (k.block _ (Array.getElem?_eq_some_iff.1 H.res).1 (by simp)).trans H.res, H.rd.k k, H.keeps.trans k (fun _ _ h => h), H.base⟩
theorem GetSd.set {a : Option Addr} {q : Nat} {bs : List UInt8} {w wr w' : World} {c c' : CmdD} {p : Nat} {b : Bool} (H : GetSd a q bs w wr c p b) (k : Keeps [w.heap.size + 1 + 1] wr w') (h : w'.heap[w.heap.size + 1 + 1]? = some (.cells #[.int .i64 c'.kind, .int .i64 c'.session, .int .i64 c'.seq, .string c'.field, .int .i64 c'.version, .int .i64 c'.value.kind, .int .i64 c'.value.n, .string c'.value.s] 25 (0, 0))) : GetSd a q bs w w' c' p b :=
  ⟨h, (k.block _ (Array.getElem?_eq_some_iff.1 H.res).1 (by simp; omega)).trans H.res, ⟨(k.block _ (Array.getElem?_eq_some_iff.1 H.rd.row).1 (by simp)).trans H.rd.row, H.rd.bytes.keepsL (P := fun b => b < w.heap.size) (fun hz b hb => H.base.lt hz b hb) k (fun b hb hm => by simp at hm; omega), H.rd.apart, H.rd.place, H.rd.short⟩, H.keeps.trans k (fun x hx hx' => by simp at hx'; omega), H.base⟩

set_option maxRecDepth 100000 in
set_option maxHeartbeats 8000000 in
theorem r14Get_any (a : Option Addr) (q : Nat) (bs : List UInt8) (w : World) (hT : Tabs w) (hr : Reads w 1 (.slice a bs.length q) bs.length (u8s bs)) (hb : bs.length ≤ 140737488355328) :
    Calls Tryz.prog 25 #[.slice a bs.length q] w fun e w' => e = .returned (.tuple #[cmdV (getC bs).1, .bool (getC bs).2]) ∧ Keeps [] w w' := by
  have HT := hid hT
  have HR := hid hr
  have HS00 : Hid (∀ wx, Keeps [] w wx → wx.heap[w.heap.size]? = some (.cells #[.int .i64 0, .int .i64 0, .int .i64 0, .string ⟨#[]⟩, .int .i64 0, .int .i64 0, .int .i64 0, .string ⟨#[]⟩] 25 (0, 0)) → wx.heap[w.heap.size + 1]? = some (.cells #[.slice a bs.length q, .int .i64 0, .bool false] 95 (0, 0)) → wx.heap[w.heap.size + 1 + 1]? = some (.cells #[.int .i64 0, .int .i64 0, .int .i64 0, .string ⟨#[]⟩, .int .i64 0, .int .i64 0, .int .i64 0, .string ⟨#[]⟩] 25 (0, 0)) → GetSd a q bs w wx ⟨0, 0, 0, ⟨#[]⟩, 0, ⟨0, 0, ⟨#[]⟩⟩⟩ 0 false) := fun wx g h0 h1 h2 =>
    ⟨h2, h0, ⟨h1, hr.keeps g (fun _ _ h => by cases h), fun hz b hb e => by have := hr.lt hz b hb; omega, by omega, hb⟩, g, hr⟩
  clear hT hr
  go_enter Tryz.func25, Tryz.ntmps25
  go_wp2_with fail
  have HS0 : Hid (GetSd a q bs w (((w.alloc (.cells #[.int .i64 0, .int .i64 0, .int .i64 0, .string ⟨#[]⟩, .int .i64 0, .int .i64 0, .int .i64 0, .string ⟨#[]⟩] 25)).alloc (.cells #[.slice a bs.length q, .int .i64 0, .bool false] 95)).alloc (.cells #[.int .i64 0, .int .i64 0, .int .i64 0, .string ⟨#[]⟩, .int .i64 0, .int .i64 0, .int .i64 0, .string ⟨#[]⟩] 25)) ⟨0, 0, 0, ⟨#[]⟩, 0, ⟨0, 0, ⟨#[]⟩⟩⟩ 0 false) := by
    refine HS00.out _ (by exact Keeps.K) ?_ ?_ ?_
    · exact (Keeps.block (F := []) (w := w.alloc (.cells #[.int .i64 0, .int .i64 0, .int .i64 0, .string ⟨#[]⟩, .int .i64 0, .int .i64 0, .int .i64 0, .string ⟨#[]⟩] 25)) (by exact Keeps.K) w.heap.size (by simp) (by simp)).trans (heap_alloc_new w (.cells #[.int .i64 0, .int .i64 0, .int .i64 0, .string ⟨#[]⟩, .int .i64 0, .int .i64 0, .int .i64 0, .string ⟨#[]⟩] 25))
    · exact (Keeps.block (F := []) (w := (w.alloc (.cells #[.int .i64 0, .int .i64 0, .int .i64 0, .string ⟨#[]⟩, .int .i64 0, .int .i64 0, .int .i64 0, .string ⟨#[]⟩] 25)).alloc (.cells #[.slice a bs.length q, .int .i64 0, .bool false] 95)) (by exact Keeps.K) (w.heap.size + 1) (by simp) (by simp)).trans (new2nd w _ _)
    · have h := new2nd (w.alloc (.cells #[.int .i64 0, .int .i64 0, .int .i64 0, .string ⟨#[]⟩, .int .i64 0, .int .i64 0, .int .i64 0, .string ⟨#[]⟩] 25)) (.cells #[.slice a bs.length q, .int .i64 0, .bool false] 95) (.cells #[.int .i64 0, .int .i64 0, .int .i64 0, .string ⟨#[]⟩, .int .i64 0, .int .i64 0, .int .i64 0, .string ⟨#[]⟩] 25)
      rw [show (w.alloc (.cells #[.int .i64 0, .int .i64 0, .int .i64 0, .string ⟨#[]⟩, .int .i64 0, .int .i64 0, .int .i64 0, .string ⟨#[]⟩] 25)).heap.size = w.heap.size + 1 by simp] at h
      exact h
  refine (r3RInt_any _ a q bs 0 false _ HS0.out.rd).mono ?_
  obtain ⟨⟨k, p, b⟩, hr⟩ : ∃ r, rdD bs 0 false = r := ⟨_, rfl⟩
  rw [hr]
  have HRk := hid hr
  rintro e wk ⟨rfl, hrd, hk⟩
  dsimp only at hrd ⊢
  have HSz := hid (HS0.out.step hk hrd)
  clear hrd hk hr HS00
  obtain ⟨⟨x0, x1, x2, x3, x4, x5, x6, x7⟩, f0⟩ := blk8 HSz.out.row
  by_cases k1 : k = 1
  · subst k1
    have HRAW : Hid (rawC bs = (⟨1, 0, 0, ⟨#[]⟩, 0, ⟨0, 0, ⟨#[]⟩⟩⟩, p, b)) := by
      show _ = _
      unfold rawC
      rw [HRk.out]
      dsimp only
      unfold raw1 raw2 raw3
      simp
      try rfl
    go_wp2_with fail
    have HSk : Hid (GetSd a q bs w (wk.setCell ⟨w.heap.size + 1 + 1, 0, none⟩ (.int .i64 1)) ⟨1, 0, 0, ⟨#[]⟩, 0, ⟨0, 0, ⟨#[]⟩⟩⟩ p b) := HSz.out.set (by exact Keeps.K) (heap_setCell_same _ _ 0 _ _ _ (HSz.out.row))
    clear x0 x1 x2 x3 x4 x5 x6 x7 f0
    have HS := HSk
    refine (r3REnd_any _ a q bs p b _ (HS.out.rd.k (by exact Keeps.K))).mono ?_
    rintro e w5 ⟨rfl, hk⟩
    have HS5 := hid (HS.out.k (Keeps.trans (G := []) (by exact Keeps.K) hk (fun _ _ h => h)))
    clear hk
    obtain ⟨⟨x0, x1, x2, x3, x4, x5, x6, x7⟩, f0⟩ := blk8 HS5.out.row
    obtain ⟨⟨y0, y1, y2, y3, y4, y5, y6, y7⟩, g0⟩ := blk8 HS5.out.res
    by_cases hok : b = false ∧ p = bs.length
    · have hb1 : (!b && p == bs.length) = true := by rw [hok.1, hok.2]; simp
      rw [hb1]
      have HG : Hid (getC bs = if checkC ⟨1, 0, 0, ⟨#[]⟩, 0, ⟨0, 0, ⟨#[]⟩⟩⟩ = true then (⟨1, 0, 0, ⟨#[]⟩, 0, ⟨0, 0, ⟨#[]⟩⟩⟩, true) else (zeroC, false)) := by
        show _ = _
        unfold getC
        rw [HRAW.out]
        dsimp only
        by_cases hc : checkC ⟨1, 0, 0, ⟨#[]⟩, 0, ⟨0, 0, ⟨#[]⟩⟩⟩ = true
        · rw [if_pos ⟨hok.1, hok.2, hc⟩, if_pos hc]
        · rw [if_neg (fun h => hc h.2.2), if_neg hc]
      clear hb1 hok
      go_wp2_with fail
      refine (r14Check_any ⟨1, 0, 0, ⟨#[]⟩, 0, ⟨0, 0, ⟨#[]⟩⟩⟩ w5 (HT.out.k HS5.out.keeps)).mono ?_
      rintro e w6 ⟨rfl, hk⟩
      have HS6 := hid (HS5.out.k hk)
      clear hk x0 x1 x2 x3 x4 x5 x6 x7 f0 y0 y1 y2 y3 y4 y5 y6 y7 g0
      obtain ⟨⟨x0, x1, x2, x3, x4, x5, x6, x7⟩, f0⟩ := blk8 HS6.out.row
      obtain ⟨⟨y0, y1, y2, y3, y4, y5, y6, y7⟩, g0⟩ := blk8 HS6.out.res
      obtain ⟨cc, hcc⟩ : ∃ cc, checkC ⟨1, 0, 0, ⟨#[]⟩, 0, ⟨0, 0, ⟨#[]⟩⟩⟩ = cc := ⟨_, rfl⟩
      rw [hcc] at HG ⊢
      clear hcc
      rcases cc with _ | _
      · go_wp2_with fail
        refine bodyPost_ret (v := .tuple #[cmdV zeroC, .bool false]) (by simp [results, Tryz.results25, go_sem, cmdV, zeroC, y0, y1, y2, y3, y4, y5, y6, y7]) rfl ?_
        rw [HG.out]
        exact ⟨rfl, HS6.out.keeps.trans (G := [w.heap.size]) (by exact Keeps.K) (fun x hx hx' => by simp at hx'; omega)⟩
      · go_wp2_with fail
        refine bodyPost_ret (v := .tuple #[cmdV ⟨1, 0, 0, ⟨#[]⟩, 0, ⟨0, 0, ⟨#[]⟩⟩⟩, .bool true]) (by simp [results, Tryz.results25, go_sem, cmdV, zeroC, y0, y1, y2, y3, y4, y5, y6, y7]) rfl ?_
        rw [HG.out]
        exact ⟨rfl, HS6.out.keeps.trans (G := [w.heap.size]) (by exact Keeps.K) (fun x hx hx' => by simp at hx'; omega)⟩
    · have hb1 : (!b && p == bs.length) = false := by
        rcases hb : b with _ | _
        · have : p ≠ bs.length := fun h => hok ⟨hb, h⟩
          simp [this]
        · simp
      rw [hb1]
      have HG : Hid (getC bs = (zeroC, false)) := by
        show _ = _
        unfold getC
        rw [HRAW.out]
        exact if_neg (fun h => hok ⟨h.1, h.2.1⟩)
      clear hb1 hok
      go_wp2_with fail
      refine bodyPost_ret (v := .tuple #[cmdV zeroC, .bool false]) (by simp [results, Tryz.results25, go_sem, cmdV, zeroC, y0, y1, y2, y3, y4, y5, y6, y7]) rfl ?_
      rw [HG.out]
      exact ⟨rfl, HS5.out.keeps.trans (G := [w.heap.size]) (by exact Keeps.K) (fun x hx hx' => by simp at hx'; omega)⟩
  · have n1 : (k == 1) = false := by simp; exact k1
    have n1' : (k != 1) = true := by simp; exact k1
    by_cases k2 : k = 2
    · subst k2
      clear k1 n1 n1'
      go_wp2_with fail
      have HSk : Hid (GetSd a q bs w (wk.setCell ⟨w.heap.size + 1 + 1, 0, none⟩ (.int .i64 2)) ⟨2, 0, 0, ⟨#[]⟩, 0, ⟨0, 0, ⟨#[]⟩⟩⟩ p b) := HSz.out.set (by exact Keeps.K) (heap_setCell_same _ _ 0 _ _ _ (HSz.out.row))
      clear x0 x1 x2 x3 x4 x5 x6 x7 f0
      refine (r3RInt_any _ a q bs p b _ (HSk.out.rd.k (by exact Keeps.K))).mono ?_
      obtain ⟨⟨se, p1, b1⟩, hr⟩ : ∃ r, rdD bs p b = r := ⟨_, rfl⟩
      rw [hr]
      have HRse := hid hr
      rintro e wse ⟨rfl, hrd, hk⟩
      dsimp only at hrd ⊢
      have HSb := hid (HSk.out.step (Keeps.trans (G := [w.heap.size + 1]) (by exact Keeps.K) hk (fun _ _ h => h)) hrd)
      clear hrd hk hr
      obtain ⟨⟨x0, x1, x2, x3, x4, x5, x6, x7⟩, f0⟩ := blk8 HSb.out.row
      go_wp2_with fail
      have HSc : Hid (GetSd a q bs w (wse.setCell ⟨w.heap.size + 1 + 1, 1, none⟩ (.int .i64 se)) ⟨2, se, 0, ⟨#[]⟩, 0, ⟨0, 0, ⟨#[]⟩⟩⟩ p1 b1) := HSb.out.set (by exact Keeps.K) (heap_setCell_same _ _ 1 _ _ _ (HSb.out.row))
      clear x0 x1 x2 x3 x4 x5 x6 x7 f0
      refine (r3RInt_any _ a q bs p1 b1 _ (HSc.out.rd.k (by exact Keeps.K))).mono ?_
      obtain ⟨⟨sq, p2, b2⟩, hr⟩ : ∃ r, rdD bs p1 b1 = r := ⟨_, rfl⟩
      rw [hr]
      have HRsq := hid hr
      rintro e wsq ⟨rfl, hrd, hk⟩
      dsimp only at hrd ⊢
      have HSd := hid (HSc.out.step (Keeps.trans (G := [w.heap.size + 1]) (by exact Keeps.K) hk (fun _ _ h => h)) hrd)
      clear hrd hk hr
      obtain ⟨⟨x0, x1, x2, x3, x4, x5, x6, x7⟩, f0⟩ := blk8 HSd.out.row
      go_wp2_with fail
      have HSe : Hid (GetSd a q bs w (wsq.setCell ⟨w.heap.size + 1 + 1, 2, none⟩ (.int .i64 sq)) ⟨2, se, sq, ⟨#[]⟩, 0, ⟨0, 0, ⟨#[]⟩⟩⟩ p2 b2) := HSd.out.set (by exact Keeps.K) (heap_setCell_same _ _ 2 _ _ _ (HSd.out.row))
      clear x0 x1 x2 x3 x4 x5 x6 x7 f0
      refine (r3RText_any _ a q bs p2 b2 24 _ (HSe.out.rd.k (by exact Keeps.K)) (by decide)).mono ?_
      obtain ⟨⟨fd, p3, b3⟩, hr⟩ : ∃ r, rtextD bs p2 b2 24 = r := ⟨_, rfl⟩
      rw [hr]
      have HRfd := hid hr
      rintro e wfd ⟨rfl, hrd, hk⟩
      dsimp only at hrd ⊢
      have HSf := hid (HSe.out.step (Keeps.trans (G := [w.heap.size + 1]) (by exact Keeps.K) hk (fun _ _ h => h)) hrd)
      clear hrd hk hr
      obtain ⟨⟨x0, x1, x2, x3, x4, x5, x6, x7⟩, f0⟩ := blk8 HSf.out.row
      go_wp2_with fail
      have HSg : Hid (GetSd a q bs w (wfd.setCell ⟨w.heap.size + 1 + 1, 3, none⟩ (.string (str fd))) ⟨2, se, sq, (str fd), 0, ⟨0, 0, ⟨#[]⟩⟩⟩ p3 b3) := HSf.out.set (by exact Keeps.K) (heap_setCell_same _ _ 3 _ _ _ (HSf.out.row))
      clear x0 x1 x2 x3 x4 x5 x6 x7 f0
      refine (r3RInt_any _ a q bs p3 b3 _ (HSg.out.rd.k (by exact Keeps.K))).mono ?_
      obtain ⟨⟨vr, p4, b4⟩, hr⟩ : ∃ r, rdD bs p3 b3 = r := ⟨_, rfl⟩
      rw [hr]
      have HRvr := hid hr
      rintro e wvr ⟨rfl, hrd, hk⟩
      dsimp only at hrd ⊢
      have HSh := hid (HSg.out.step (Keeps.trans (G := [w.heap.size + 1]) (by exact Keeps.K) hk (fun _ _ h => h)) hrd)
      clear hrd hk hr
      obtain ⟨⟨x0, x1, x2, x3, x4, x5, x6, x7⟩, f0⟩ := blk8 HSh.out.row
      go_wp2_with fail
      have HSi : Hid (GetSd a q bs w (wvr.setCell ⟨w.heap.size + 1 + 1, 4, none⟩ (.int .i64 vr)) ⟨2, se, sq, (str fd), vr, ⟨0, 0, ⟨#[]⟩⟩⟩ p4 b4) := HSh.out.set (by exact Keeps.K) (heap_setCell_same _ _ 4 _ _ _ (HSh.out.row))
      clear x0 x1 x2 x3 x4 x5 x6 x7 f0
      refine (r5Get_any _ a q bs p4 b4 _ (HSi.out.rd.k (by exact Keeps.K)) (fun w' g => HT.out.k (HSi.out.keeps.trans (Keeps.trans (G := [w.heap.size + 1]) (by exact Keeps.K) g (fun _ _ h => h)) (fun x hx hx' => by simp at hx'; omega)))).mono ?_
      obtain ⟨⟨⟨vk, vn, vs⟩, p5, b5⟩, hr⟩ : ∃ r, getD bs p4 b4 = r := ⟨_, rfl⟩
      rw [hr]
      have HRv := hid hr
      rintro e wv ⟨rfl, hrd, hk⟩
      dsimp only at hrd ⊢
      unfold valV
      dsimp only
      have HSj := hid (HSi.out.step (Keeps.trans (G := [w.heap.size + 1]) (by exact Keeps.K) hk (fun _ _ h => h)) hrd)
      clear hrd hk hr
      obtain ⟨⟨x0, x1, x2, x3, x4, x5, x6, x7⟩, f0⟩ := blk8 HSj.out.row
      go_wp2_with fail
      have HS : Hid (GetSd a q bs w (((wv.setCell ⟨w.heap.size + 1 + 1, 5, none⟩ (.int .i64 vk)).setCell ⟨w.heap.size + 1 + 1, 6, none⟩ (.int .i64 vn)).setCell ⟨w.heap.size + 1 + 1, 7, none⟩ (.string vs)) ⟨2, se, sq, (str fd), vr, ⟨vk, vn, vs⟩⟩ p5 b5) := HSj.out.set (by exact Keeps.K) (heap_setCell_same _ _ 7 _ _ _ (heap_setCell_same _ _ 6 _ _ _ (heap_setCell_same _ _ 5 _ _ _ (HSj.out.row))))
      clear x0 x1 x2 x3 x4 x5 x6 x7 f0
      have HRAW : Hid (rawC bs = (⟨2, se, sq, (str fd), vr, ⟨vk, vn, vs⟩⟩, p5, b5)) := by
        show _ = _
        unfold rawC
        rw [HRk.out]
        dsimp only
        unfold raw1 raw2 raw3
        simp [HRse.out, HRsq.out, HRfd.out, HRvr.out, HRv.out]
        try rfl
      refine (r3REnd_any _ a q bs p5 b5 _ (HS.out.rd.k (by exact Keeps.K))).mono ?_
      rintro e w5 ⟨rfl, hk⟩
      have HS5 := hid (HS.out.k (Keeps.trans (G := []) (by exact Keeps.K) hk (fun _ _ h => h)))
      clear hk
      obtain ⟨⟨x0, x1, x2, x3, x4, x5, x6, x7⟩, f0⟩ := blk8 HS5.out.row
      obtain ⟨⟨y0, y1, y2, y3, y4, y5, y6, y7⟩, g0⟩ := blk8 HS5.out.res
      by_cases hok : b5 = false ∧ p5 = bs.length
      · have hb1 : (!b5 && p5 == bs.length) = true := by rw [hok.1, hok.2]; simp
        rw [hb1]
        have HG : Hid (getC bs = if checkC ⟨2, se, sq, (str fd), vr, ⟨vk, vn, vs⟩⟩ = true then (⟨2, se, sq, (str fd), vr, ⟨vk, vn, vs⟩⟩, true) else (zeroC, false)) := by
          show _ = _
          unfold getC
          rw [HRAW.out]
          dsimp only
          by_cases hc : checkC ⟨2, se, sq, (str fd), vr, ⟨vk, vn, vs⟩⟩ = true
          · rw [if_pos ⟨hok.1, hok.2, hc⟩, if_pos hc]
          · rw [if_neg (fun h => hc h.2.2), if_neg hc]
        clear hb1 hok
        go_wp2_with fail
        refine (r14Check_any ⟨2, se, sq, (str fd), vr, ⟨vk, vn, vs⟩⟩ w5 (HT.out.k HS5.out.keeps)).mono ?_
        rintro e w6 ⟨rfl, hk⟩
        have HS6 := hid (HS5.out.k hk)
        clear hk x0 x1 x2 x3 x4 x5 x6 x7 f0 y0 y1 y2 y3 y4 y5 y6 y7 g0
        obtain ⟨⟨x0, x1, x2, x3, x4, x5, x6, x7⟩, f0⟩ := blk8 HS6.out.row
        obtain ⟨⟨y0, y1, y2, y3, y4, y5, y6, y7⟩, g0⟩ := blk8 HS6.out.res
        obtain ⟨cc, hcc⟩ : ∃ cc, checkC ⟨2, se, sq, (str fd), vr, ⟨vk, vn, vs⟩⟩ = cc := ⟨_, rfl⟩
        rw [hcc] at HG ⊢
        clear hcc
        rcases cc with _ | _
        · go_wp2_with fail
          refine bodyPost_ret (v := .tuple #[cmdV zeroC, .bool false]) (by simp [results, Tryz.results25, go_sem, cmdV, zeroC, y0, y1, y2, y3, y4, y5, y6, y7]) rfl ?_
          rw [HG.out]
          exact ⟨rfl, HS6.out.keeps.trans (G := [w.heap.size]) (by exact Keeps.K) (fun x hx hx' => by simp at hx'; omega)⟩
        · go_wp2_with fail
          refine bodyPost_ret (v := .tuple #[cmdV ⟨2, se, sq, (str fd), vr, ⟨vk, vn, vs⟩⟩, .bool true]) (by simp [results, Tryz.results25, go_sem, cmdV, zeroC, y0, y1, y2, y3, y4, y5, y6, y7]) rfl ?_
          rw [HG.out]
          exact ⟨rfl, HS6.out.keeps.trans (G := [w.heap.size]) (by exact Keeps.K) (fun x hx hx' => by simp at hx'; omega)⟩
      · have hb1 : (!b5 && p5 == bs.length) = false := by
          rcases hb : b5 with _ | _
          · have : p5 ≠ bs.length := fun h => hok ⟨hb, h⟩
            simp [this]
          · simp
        rw [hb1]
        have HG : Hid (getC bs = (zeroC, false)) := by
          show _ = _
          unfold getC
          rw [HRAW.out]
          exact if_neg (fun h => hok ⟨h.1, h.2.1⟩)
        clear hb1 hok
        go_wp2_with fail
        refine bodyPost_ret (v := .tuple #[cmdV zeroC, .bool false]) (by simp [results, Tryz.results25, go_sem, cmdV, zeroC, y0, y1, y2, y3, y4, y5, y6, y7]) rfl ?_
        rw [HG.out]
        exact ⟨rfl, HS5.out.keeps.trans (G := [w.heap.size]) (by exact Keeps.K) (fun x hx hx' => by simp at hx'; omega)⟩
    · by_cases k4 : k = 4
      · subst k4
        clear k1 n1 n1' k2
        go_wp2_with fail
        have HSk : Hid (GetSd a q bs w (wk.setCell ⟨w.heap.size + 1 + 1, 0, none⟩ (.int .i64 4)) ⟨4, 0, 0, ⟨#[]⟩, 0, ⟨0, 0, ⟨#[]⟩⟩⟩ p b) := HSz.out.set (by exact Keeps.K) (heap_setCell_same _ _ 0 _ _ _ (HSz.out.row))
        clear x0 x1 x2 x3 x4 x5 x6 x7 f0
        refine (r3RInt_any _ a q bs p b _ (HSk.out.rd.k (by exact Keeps.K))).mono ?_
        obtain ⟨⟨se, p1, b1⟩, hr⟩ : ∃ r, rdD bs p b = r := ⟨_, rfl⟩
        rw [hr]
        have HRse := hid hr
        rintro e wse ⟨rfl, hrd, hk⟩
        dsimp only at hrd ⊢
        have HSb := hid (HSk.out.step (Keeps.trans (G := [w.heap.size + 1]) (by exact Keeps.K) hk (fun _ _ h => h)) hrd)
        clear hrd hk hr
        obtain ⟨⟨x0, x1, x2, x3, x4, x5, x6, x7⟩, f0⟩ := blk8 HSb.out.row
        go_wp2_with fail
        have HSc : Hid (GetSd a q bs w (wse.setCell ⟨w.heap.size + 1 + 1, 1, none⟩ (.int .i64 se)) ⟨4, se, 0, ⟨#[]⟩, 0, ⟨0, 0, ⟨#[]⟩⟩⟩ p1 b1) := HSb.out.set (by exact Keeps.K) (heap_setCell_same _ _ 1 _ _ _ (HSb.out.row))
        clear x0 x1 x2 x3 x4 x5 x6 x7 f0
        refine (r3RInt_any _ a q bs p1 b1 _ (HSc.out.rd.k (by exact Keeps.K))).mono ?_
        obtain ⟨⟨sq, p2, b2⟩, hr⟩ : ∃ r, rdD bs p1 b1 = r := ⟨_, rfl⟩
        rw [hr]
        have HRsq := hid hr
        rintro e wsq ⟨rfl, hrd, hk⟩
        dsimp only at hrd ⊢
        have HSd := hid (HSc.out.step (Keeps.trans (G := [w.heap.size + 1]) (by exact Keeps.K) hk (fun _ _ h => h)) hrd)
        clear hrd hk hr
        obtain ⟨⟨x0, x1, x2, x3, x4, x5, x6, x7⟩, f0⟩ := blk8 HSd.out.row
        go_wp2_with fail
        have HSe : Hid (GetSd a q bs w (wsq.setCell ⟨w.heap.size + 1 + 1, 2, none⟩ (.int .i64 sq)) ⟨4, se, sq, ⟨#[]⟩, 0, ⟨0, 0, ⟨#[]⟩⟩⟩ p2 b2) := HSd.out.set (by exact Keeps.K) (heap_setCell_same _ _ 2 _ _ _ (HSd.out.row))
        clear x0 x1 x2 x3 x4 x5 x6 x7 f0
        refine (r3RText_any _ a q bs p2 b2 24 _ (HSe.out.rd.k (by exact Keeps.K)) (by decide)).mono ?_
        obtain ⟨⟨fd, p3, b3⟩, hr⟩ : ∃ r, rtextD bs p2 b2 24 = r := ⟨_, rfl⟩
        rw [hr]
        have HRfd := hid hr
        rintro e wfd ⟨rfl, hrd, hk⟩
        dsimp only at hrd ⊢
        have HSf := hid (HSe.out.step (Keeps.trans (G := [w.heap.size + 1]) (by exact Keeps.K) hk (fun _ _ h => h)) hrd)
        clear hrd hk hr
        obtain ⟨⟨x0, x1, x2, x3, x4, x5, x6, x7⟩, f0⟩ := blk8 HSf.out.row
        go_wp2_with fail
        have HS : Hid (GetSd a q bs w (wfd.setCell ⟨w.heap.size + 1 + 1, 3, none⟩ (.string (str fd))) ⟨4, se, sq, (str fd), 0, ⟨0, 0, ⟨#[]⟩⟩⟩ p3 b3) := HSf.out.set (by exact Keeps.K) (heap_setCell_same _ _ 3 _ _ _ (HSf.out.row))
        clear x0 x1 x2 x3 x4 x5 x6 x7 f0
        have HRAW : Hid (rawC bs = (⟨4, se, sq, (str fd), 0, ⟨0, 0, ⟨#[]⟩⟩⟩, p3, b3)) := by
          show _ = _
          unfold rawC
          rw [HRk.out]
          dsimp only
          unfold raw1 raw2 raw3
          simp [HRse.out, HRsq.out, HRfd.out]
          try rfl
        refine (r3REnd_any _ a q bs p3 b3 _ (HS.out.rd.k (by exact Keeps.K))).mono ?_
        rintro e w5 ⟨rfl, hk⟩
        have HS5 := hid (HS.out.k (Keeps.trans (G := []) (by exact Keeps.K) hk (fun _ _ h => h)))
        clear hk
        obtain ⟨⟨x0, x1, x2, x3, x4, x5, x6, x7⟩, f0⟩ := blk8 HS5.out.row
        obtain ⟨⟨y0, y1, y2, y3, y4, y5, y6, y7⟩, g0⟩ := blk8 HS5.out.res
        by_cases hok : b3 = false ∧ p3 = bs.length
        · have hb1 : (!b3 && p3 == bs.length) = true := by rw [hok.1, hok.2]; simp
          rw [hb1]
          have HG : Hid (getC bs = if checkC ⟨4, se, sq, (str fd), 0, ⟨0, 0, ⟨#[]⟩⟩⟩ = true then (⟨4, se, sq, (str fd), 0, ⟨0, 0, ⟨#[]⟩⟩⟩, true) else (zeroC, false)) := by
            show _ = _
            unfold getC
            rw [HRAW.out]
            dsimp only
            by_cases hc : checkC ⟨4, se, sq, (str fd), 0, ⟨0, 0, ⟨#[]⟩⟩⟩ = true
            · rw [if_pos ⟨hok.1, hok.2, hc⟩, if_pos hc]
            · rw [if_neg (fun h => hc h.2.2), if_neg hc]
          clear hb1 hok
          go_wp2_with fail
          refine (r14Check_any ⟨4, se, sq, (str fd), 0, ⟨0, 0, ⟨#[]⟩⟩⟩ w5 (HT.out.k HS5.out.keeps)).mono ?_
          rintro e w6 ⟨rfl, hk⟩
          have HS6 := hid (HS5.out.k hk)
          clear hk x0 x1 x2 x3 x4 x5 x6 x7 f0 y0 y1 y2 y3 y4 y5 y6 y7 g0
          obtain ⟨⟨x0, x1, x2, x3, x4, x5, x6, x7⟩, f0⟩ := blk8 HS6.out.row
          obtain ⟨⟨y0, y1, y2, y3, y4, y5, y6, y7⟩, g0⟩ := blk8 HS6.out.res
          obtain ⟨cc, hcc⟩ : ∃ cc, checkC ⟨4, se, sq, (str fd), 0, ⟨0, 0, ⟨#[]⟩⟩⟩ = cc := ⟨_, rfl⟩
          rw [hcc] at HG ⊢
          clear hcc
          rcases cc with _ | _
          · go_wp2_with fail
            refine bodyPost_ret (v := .tuple #[cmdV zeroC, .bool false]) (by simp [results, Tryz.results25, go_sem, cmdV, zeroC, y0, y1, y2, y3, y4, y5, y6, y7]) rfl ?_
            rw [HG.out]
            exact ⟨rfl, HS6.out.keeps.trans (G := [w.heap.size]) (by exact Keeps.K) (fun x hx hx' => by simp at hx'; omega)⟩
          · go_wp2_with fail
            refine bodyPost_ret (v := .tuple #[cmdV ⟨4, se, sq, (str fd), 0, ⟨0, 0, ⟨#[]⟩⟩⟩, .bool true]) (by simp [results, Tryz.results25, go_sem, cmdV, zeroC, y0, y1, y2, y3, y4, y5, y6, y7]) rfl ?_
            rw [HG.out]
            exact ⟨rfl, HS6.out.keeps.trans (G := [w.heap.size]) (by exact Keeps.K) (fun x hx hx' => by simp at hx'; omega)⟩
        · have hb1 : (!b3 && p3 == bs.length) = false := by
            rcases hb : b3 with _ | _
            · have : p3 ≠ bs.length := fun h => hok ⟨hb, h⟩
              simp [this]
            · simp
          rw [hb1]
          have HG : Hid (getC bs = (zeroC, false)) := by
            show _ = _
            unfold getC
            rw [HRAW.out]
            exact if_neg (fun h => hok ⟨h.1, h.2.1⟩)
          clear hb1 hok
          go_wp2_with fail
          refine bodyPost_ret (v := .tuple #[cmdV zeroC, .bool false]) (by simp [results, Tryz.results25, go_sem, cmdV, zeroC, y0, y1, y2, y3, y4, y5, y6, y7]) rfl ?_
          rw [HG.out]
          exact ⟨rfl, HS5.out.keeps.trans (G := [w.heap.size]) (by exact Keeps.K) (fun x hx hx' => by simp at hx'; omega)⟩
      · have n2 : (k == 2) = false := by simp; exact k2
        have n4 : (k == 4) = false := by simp; exact k4
        have HK := hid (And.intro k1 (And.intro k2 k4))
        clear k1 k2 k4
        go_wp2_with fail
        have HSk : Hid (GetSd a q bs w (wk.setCell ⟨w.heap.size + 1 + 1, 0, none⟩ (.int .i64 k)) ⟨k, 0, 0, ⟨#[]⟩, 0, ⟨0, 0, ⟨#[]⟩⟩⟩ p b) := HSz.out.set (by exact Keeps.K) (heap_setCell_same _ _ 0 _ _ _ (HSz.out.row))
        clear x0 x1 x2 x3 x4 x5 x6 x7 f0
        refine (r3RInt_any _ a q bs p b _ (HSk.out.rd.k (by exact Keeps.K))).mono ?_
        obtain ⟨⟨se, p1, b1⟩, hr⟩ : ∃ r, rdD bs p b = r := ⟨_, rfl⟩
        rw [hr]
        have HRse := hid hr
        rintro e wse ⟨rfl, hrd, hk⟩
        dsimp only at hrd ⊢
        have HSb := hid (HSk.out.step (Keeps.trans (G := [w.heap.size + 1]) (by exact Keeps.K) hk (fun _ _ h => h)) hrd)
        clear hrd hk hr
        obtain ⟨⟨x0, x1, x2, x3, x4, x5, x6, x7⟩, f0⟩ := blk8 HSb.out.row
        go_wp2_with fail
        have HSc : Hid (GetSd a q bs w (wse.setCell ⟨w.heap.size + 1 + 1, 1, none⟩ (.int .i64 se)) ⟨k, se, 0, ⟨#[]⟩, 0, ⟨0, 0, ⟨#[]⟩⟩⟩ p1 b1) := HSb.out.set (by exact Keeps.K) (heap_setCell_same _ _ 1 _ _ _ (HSb.out.row))
        clear x0 x1 x2 x3 x4 x5 x6 x7 f0
        refine (r3RInt_any _ a q bs p1 b1 _ (HSc.out.rd.k (by exact Keeps.K))).mono ?_
        obtain ⟨⟨sq, p2, b2⟩, hr⟩ : ∃ r, rdD bs p1 b1 = r := ⟨_, rfl⟩
        rw [hr]
        have HRsq := hid hr
        rintro e wsq ⟨rfl, hrd, hk⟩
        dsimp only at hrd ⊢
        have HSd := hid (HSc.out.step (Keeps.trans (G := [w.heap.size + 1]) (by exact Keeps.K) hk (fun _ _ h => h)) hrd)
        clear hrd hk hr
        obtain ⟨⟨x0, x1, x2, x3, x4, x5, x6, x7⟩, f0⟩ := blk8 HSd.out.row
        go_wp2_with fail
        have HSe : Hid (GetSd a q bs w (wsq.setCell ⟨w.heap.size + 1 + 1, 2, none⟩ (.int .i64 sq)) ⟨k, se, sq, ⟨#[]⟩, 0, ⟨0, 0, ⟨#[]⟩⟩⟩ p2 b2) := HSd.out.set (by exact Keeps.K) (heap_setCell_same _ _ 2 _ _ _ (HSd.out.row))
        clear x0 x1 x2 x3 x4 x5 x6 x7 f0
        have HS := HSe
        have HRAW : Hid (rawC bs = (⟨k, se, sq, ⟨#[]⟩, 0, ⟨0, 0, ⟨#[]⟩⟩⟩, p2, b2)) := by
          show _ = _
          unfold rawC
          rw [HRk.out]
          dsimp only
          unfold raw1 raw2 raw3
          simp [HRse.out, HRsq.out, HK.out.1, HK.out.2.1, HK.out.2.2]
          try rfl
        refine (r3REnd_any _ a q bs p2 b2 _ (HS.out.rd.k (by exact Keeps.K))).mono ?_
        rintro e w5 ⟨rfl, hk⟩
        have HS5 := hid (HS.out.k (Keeps.trans (G := []) (by exact Keeps.K) hk (fun _ _ h => h)))
        clear hk
        obtain ⟨⟨x0, x1, x2, x3, x4, x5, x6, x7⟩, f0⟩ := blk8 HS5.out.row
        obtain ⟨⟨y0, y1, y2, y3, y4, y5, y6, y7⟩, g0⟩ := blk8 HS5.out.res
        by_cases hok : b2 = false ∧ p2 = bs.length
        · have hb1 : (!b2 && p2 == bs.length) = true := by rw [hok.1, hok.2]; simp
          rw [hb1]
          have HG : Hid (getC bs = if checkC ⟨k, se, sq, ⟨#[]⟩, 0, ⟨0, 0, ⟨#[]⟩⟩⟩ = true then (⟨k, se, sq, ⟨#[]⟩, 0, ⟨0, 0, ⟨#[]⟩⟩⟩, true) else (zeroC, false)) := by
            show _ = _
            unfold getC
            rw [HRAW.out]
            dsimp only
            by_cases hc : checkC ⟨k, se, sq, ⟨#[]⟩, 0, ⟨0, 0, ⟨#[]⟩⟩⟩ = true
            · rw [if_pos ⟨hok.1, hok.2, hc⟩, if_pos hc]
            · rw [if_neg (fun h => hc h.2.2), if_neg hc]
          clear hb1 hok
          go_wp2_with fail
          refine (r14Check_any ⟨k, se, sq, ⟨#[]⟩, 0, ⟨0, 0, ⟨#[]⟩⟩⟩ w5 (HT.out.k HS5.out.keeps)).mono ?_
          rintro e w6 ⟨rfl, hk⟩
          have HS6 := hid (HS5.out.k hk)
          clear hk x0 x1 x2 x3 x4 x5 x6 x7 f0 y0 y1 y2 y3 y4 y5 y6 y7 g0
          obtain ⟨⟨x0, x1, x2, x3, x4, x5, x6, x7⟩, f0⟩ := blk8 HS6.out.row
          obtain ⟨⟨y0, y1, y2, y3, y4, y5, y6, y7⟩, g0⟩ := blk8 HS6.out.res
          obtain ⟨cc, hcc⟩ : ∃ cc, checkC ⟨k, se, sq, ⟨#[]⟩, 0, ⟨0, 0, ⟨#[]⟩⟩⟩ = cc := ⟨_, rfl⟩
          rw [hcc] at HG ⊢
          clear hcc
          rcases cc with _ | _
          · go_wp2_with fail
            refine bodyPost_ret (v := .tuple #[cmdV zeroC, .bool false]) (by simp [results, Tryz.results25, go_sem, cmdV, zeroC, y0, y1, y2, y3, y4, y5, y6, y7]) rfl ?_
            rw [HG.out]
            exact ⟨rfl, HS6.out.keeps.trans (G := [w.heap.size]) (by exact Keeps.K) (fun x hx hx' => by simp at hx'; omega)⟩
          · go_wp2_with fail
            refine bodyPost_ret (v := .tuple #[cmdV ⟨k, se, sq, ⟨#[]⟩, 0, ⟨0, 0, ⟨#[]⟩⟩⟩, .bool true]) (by simp [results, Tryz.results25, go_sem, cmdV, zeroC, y0, y1, y2, y3, y4, y5, y6, y7]) rfl ?_
            rw [HG.out]
            exact ⟨rfl, HS6.out.keeps.trans (G := [w.heap.size]) (by exact Keeps.K) (fun x hx hx' => by simp at hx'; omega)⟩
        · have hb1 : (!b2 && p2 == bs.length) = false := by
            rcases hb : b2 with _ | _
            · have : p2 ≠ bs.length := fun h => hok ⟨hb, h⟩
              simp [this]
            · simp
          rw [hb1]
          have HG : Hid (getC bs = (zeroC, false)) := by
            show _ = _
            unfold getC
            rw [HRAW.out]
            exact if_neg (fun h => hok ⟨h.1, h.2.1⟩)
          clear hb1 hok
          go_wp2_with fail
          refine bodyPost_ret (v := .tuple #[cmdV zeroC, .bool false]) (by simp [results, Tryz.results25, go_sem, cmdV, zeroC, y0, y1, y2, y3, y4, y5, y6, y7]) rfl ?_
          rw [HG.out]
          exact ⟨rfl, HS5.out.keeps.trans (G := [w.heap.size]) (by exact Keeps.K) (fun x hx hx' => by simp at hx'; omega)⟩

end Go.Proofs.YtbbdmmhpbeleoaaGreatDoor
