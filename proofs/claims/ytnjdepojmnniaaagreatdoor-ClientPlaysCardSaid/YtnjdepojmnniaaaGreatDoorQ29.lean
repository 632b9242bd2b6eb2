/- Joined of CmI, CmJ, CmK, CmL, CoreD. -/
import Derived.Test.YtnjdepojmnniaaaGreatDoorQ25
import Derived.Test.YtnjdepojmnniaaaGreatDoorCmP
import Derived.WalkKit

set_option linter.unusedSimpArgs false
set_option linter.unusedVariables false

/- A reply that is read: both. (Printed by gen_cmi.py.) -/
namespace Go.Proofs.YtnjdepojmnniaaaGreatDoor
open Go Go.RowKit

/-- The reply under way at block m, a reader (of either kind) at block n. -/
structure RpSt (t : TypeId) (n m : Nat) (a : Option Addr) (q : Nat) (bs : List UInt8) (w wr : World) (c : ReplyD) (p : Nat) (b : Bool) : Prop where
  row : wr.heap[m]? = some (.cells #[.int .i64 c.err, .int .i64 c.n, .int .i64 c.value.kind, .int .i64 c.value.n, .string c.value.s] 40 (0, 0))
  res : wr.heap[w.heap.size]? = some (.cells #[.int .i64 0, .int .i64 0, .int .i64 0, .int .i64 0, .string ⟨#[]⟩] 40 (0, 0))
  rd : RdAt t wr n a q bs p b
  keeps : Keeps [] w wr
  apart : w.heap.size < n ∧ n < m
  lies : Lies (fun b => b ≠ m) (.slice a bs.length q) bs.length
theorem RpSt.step {t : TypeId} {n m : Nat} {a : Option Addr} {q : Nat} {bs : List UInt8} {w wr w' : World} {c : ReplyD} {p p' : Nat} {b b' : Bool} (H : RpSt t n m a q bs w wr c p b) (k : Keeps [n] wr w') (h : RdAt t w' n a q bs p' b') : RpSt t n m a q bs w w' c p' b' :=
  ⟨(k.block _ (Array.getElem?_eq_some_iff.1 H.row).1 (by have := H.apart; simp; omega)).trans H.row, (k.block _ (Array.getElem?_eq_some_iff.1 H.res).1 (by have := H.apart; simp; omega)).trans H.res, h, H.keeps.trans k (fun x hx hx' => by have := H.apart; simp at hx'; omega), H.apart, H.lies⟩
theorem RpSt.k {t : TypeId} {n m : Nat} {a : Option Addr} {q : Nat} {bs : List UInt8} {w wr w' : World} {c : ReplyD} {p : Nat} {b : Bool} (H : RpSt t n m a q bs w wr c p b) (k : Keeps [] wr w') : RpSt t n m a q bs w w' c p b :=
  ⟨(k.block _ (Array.getElem?_eq_some_iff.1 H.row).1 (by simp)).trans H.row, (k.block _ (Array.getElem?_eq_some_iff.1 H.res).1 (by simp)).trans H.res, H.rd.k k, H.keeps.trans k (fun _ _ h => h), H.apart, H.lies⟩
theorem RpSt.set {t : TypeId} {n m : Nat} {a : Option Addr} {q : Nat} {bs : List UInt8} {w wr w' : World} {c c' : ReplyD} {p : Nat} {b : Bool} (H : RpSt t n m a q bs w wr c p b) (k : Keeps [m] wr w') (h : w'.heap[m]? = some (.cells #[.int .i64 c'.err, .int .i64 c'.n, .int .i64 c'.value.kind, .int .i64 c'.value.n, .string c'.value.s] 40 (0, 0))) : RpSt t n m a q bs w w' c' p b :=
  ⟨h, (k.block _ (Array.getElem?_eq_some_iff.1 H.res).1 (by have := H.apart; simp; omega)).trans H.res, ⟨(k.block _ (Array.getElem?_eq_some_iff.1 H.rd.row).1 (by have := H.apart; simp; omega)).trans H.rd.row, H.rd.bytes.keepsL H.lies k (fun b hb => by simpa using hb), H.rd.apart, H.rd.place, H.rd.short⟩, H.keeps.trans k (fun x hx hx' => by have := H.apart; simp at hx'; omega), H.apart, H.lies⟩

set_option maxRecDepth 100000 in
set_option maxHeartbeats 8000000 in
theorem cmGetR_any (v0 : Value) (bs : List UInt8) (w : World) (hT : Tabs w) (hr : Reads w 1 v0 bs.length (u8s bs)) (hb : bs.length ≤ 140737488355328) :
    Calls Tryz.prog 25 #[v0] w fun e w' => e = .returned (.tuple #[replyV (getR bs).1, .bool (getR bs).2]) ∧ Keeps [] w w' := by
  have HT := hid hT
  have HR := hid hr
  clear hT hr
  go_enter Tryz.func25, Tryz.ntmps25
  go_wp2_with fail
  refine (wNew_any v0 bs _ (Reads.k0 HR.out (by exact Keeps.K)) hb).mono ?_
  rintro e w1 ⟨n, a, q, rfl, hn, hrd, hk, hown⟩
  have K1 : Hid (Keeps [] w w1) := Keeps.trans (G := []) (by exact Keeps.K) hk (fun _ _ h => h)
  have HRES : Hid (w1.heap[w.heap.size]? = some (.cells #[.int .i64 0, .int .i64 0, .int .i64 0, .int .i64 0, .string ⟨#[]⟩] 40 (0, 0))) := (hk.block _ (by simp) (by simp)).trans (heap_alloc_new _ _)
  have hn' : w.heap.size + 1 ≤ n := by simpa using hn
  have hn2 : n < w1.heap.size := hrd.lt
  obtain ⟨m, hm⟩ : ∃ m, w1.heap.size = m := ⟨_, rfl⟩
  have HS0 : Hid (RpSt 98 n m a q bs w (w1.alloc (.cells #[.int .i64 0, .int .i64 0, .int .i64 0, .int .i64 0, .string ⟨#[]⟩] 40)) ⟨0, 0, ⟨0, 0, ⟨#[]⟩⟩⟩ 0 false) :=
    ⟨by rw [← hm]; exact heap_alloc_new _ _, (Keeps.block (F := []) (w := w1) (by exact Keeps.K) _ (Array.getElem?_eq_some_iff.1 HRES.out).1 (by simp)).trans HRES.out, hrd.k (by exact Keeps.K), K1.out.trans (G := []) (by exact Keeps.K) (fun _ _ h => h), ⟨by omega, by omega⟩, fun _ b hb e => by have := (hown b hb).2; omega⟩
  have hmn : w.heap.size ≠ m := by omega
  clear hk hrd hown hn
  go_wp2_with fail
  refine (rdInt_any _ a q bs 0 false _ (HS0.out.rd.k (by exact Keeps.K))).mono ?_
  obtain ⟨⟨er, p, b⟩, hr⟩ : ∃ r, rdD bs 0 false = r := ⟨_, rfl⟩
  rw [hr]
  have HRer := hid hr
  rintro e wer ⟨rfl, hrd, hk⟩
  dsimp only at hrd ⊢
  have HSa := hid (HS0.out.step (Keeps.trans (G := [n]) (by exact Keeps.K) hk (fun _ _ h => h)) hrd)
  clear hrd hk hr
  obtain ⟨⟨x0, x1, x2, x3, x4⟩, f0⟩ := blk5 HSa.out.row
  go_wp2_with fail
  have HSb : Hid (RpSt 98 n m a q bs w (wer.setCell ⟨m, 0, none⟩ (.int .i64 er)) ⟨er, 0, ⟨0, 0, ⟨#[]⟩⟩⟩ p b) := HSa.out.set (by exact Keeps.K) (heap_setCell_same _ _ 0 _ _ _ (HSa.out.row))
  clear x0 x1 x2 x3 x4 f0
  refine (rdInt_any _ a q bs p b _ (HSb.out.rd.k (by exact Keeps.K))).mono ?_
  obtain ⟨⟨nn, p1, b1⟩, hr⟩ : ∃ r, rdD bs p b = r := ⟨_, rfl⟩
  rw [hr]
  have HRnn := hid hr
  rintro e wnn ⟨rfl, hrd, hk⟩
  dsimp only at hrd ⊢
  have HSc := hid (HSb.out.step (Keeps.trans (G := [n]) (by exact Keeps.K) hk (fun _ _ h => h)) hrd)
  clear hrd hk hr
  obtain ⟨⟨x0, x1, x2, x3, x4⟩, f0⟩ := blk5 HSc.out.row
  go_wp2_with fail
  have HSd : Hid (RpSt 98 n m a q bs w (wnn.setCell ⟨m, 1, none⟩ (.int .i64 nn)) ⟨er, nn, ⟨0, 0, ⟨#[]⟩⟩⟩ p1 b1) := HSc.out.set (by exact Keeps.K) (heap_setCell_same _ _ 1 _ _ _ (HSc.out.row))
  clear x0 x1 x2 x3 x4 f0
  refine (vGet_any _ a q bs p1 b1 _ (HSd.out.rd.k (by exact Keeps.K)) (fun w' g => HT.out.k (HSd.out.keeps.trans (Keeps.trans (G := [n]) (by exact Keeps.K) g (fun _ _ h => h)) (fun x hx hx' => by have := HSd.out.apart; simp at hx'; omega)))).mono ?_
  have hsv := getD_short bs p1 b1
  obtain ⟨⟨⟨vk, vn, vs⟩, p2, b2⟩, hr⟩ : ∃ r, getD bs p1 b1 = r := ⟨_, rfl⟩
  rw [hr] at hsv ⊢
  have HRv := hid hr
  rintro e wv ⟨rfl, hrd, hk⟩
  dsimp only at hrd hsv ⊢
  unfold valV
  dsimp only
  have HSV := hid hsv
  have HSe := hid (HSd.out.step (Keeps.trans (G := [n]) (by exact Keeps.K) hk (fun _ _ h => h)) hrd)
  clear hrd hk hr hsv
  obtain ⟨⟨x0, x1, x2, x3, x4⟩, f0⟩ := blk5 HSe.out.row
  go_wp2_with fail
  have HS : Hid (RpSt 98 n m a q bs w (((wv.setCell ⟨m, 2, none⟩ (.int .i64 vk)).setCell ⟨m, 3, none⟩ (.int .i64 vn)).setCell ⟨m, 4, none⟩ (.string vs)) ⟨er, nn, ⟨vk, vn, vs⟩⟩ p2 b2) := HSe.out.set (by exact Keeps.K) (heap_setCell_same _ _ 4 _ _ _ (heap_setCell_same _ _ 3 _ _ _ (heap_setCell_same _ _ 2 _ _ _ (HSe.out.row))))
  clear x0 x1 x2 x3 x4 f0
  have HRAW : Hid (rawR bs = (⟨er, nn, ⟨vk, vn, vs⟩⟩, p2, b2)) := by
    show _ = _
    unfold rawR
    rw [HRer.out]
    dsimp only
    rw [HRnn.out]
    dsimp only
    rw [HRv.out]
  refine (wEnd_any _ a q bs p2 b2 _ (HS.out.rd.k (by exact Keeps.K))).mono ?_
  rintro e w5 ⟨rfl, hk⟩
  have HS5 := hid (HS.out.k (Keeps.trans (G := []) (by exact Keeps.K) hk (fun _ _ h => h)))
  clear hk
  obtain ⟨⟨x0, x1, x2, x3, x4⟩, f0⟩ := blk5 HS5.out.row
  obtain ⟨⟨y0, y1, y2, y3, y4⟩, g0⟩ := blk5 HS5.out.res
  by_cases hok : b2 = false ∧ p2 = bs.length
  · have hb1 : (!b2 && p2 == bs.length) = true := by rw [hok.1, hok.2]; simp
    rw [hb1]
    have HG : Hid (getR bs = if checkR ⟨er, nn, ⟨vk, vn, vs⟩⟩ = true then (⟨er, nn, ⟨vk, vn, vs⟩⟩, true) else (zeroR, false)) := by
      show _ = _
      unfold getR
      rw [HRAW.out]
      dsimp only
      by_cases hc : checkR ⟨er, nn, ⟨vk, vn, vs⟩⟩ = true
      · rw [if_pos ⟨hok.1, hok.2, hc⟩, if_pos hc]
      · rw [if_neg (fun h => hc h.2.2), if_neg hc]
    clear hb1 hok
    go_wp2_with fail
    refine (cmCheckR_any ⟨er, nn, ⟨vk, vn, vs⟩⟩ w5 (HT.out.k HS5.out.keeps) (Nat.le_trans HSV.out (by decide))).mono ?_
    rintro e w6 ⟨rfl, hk⟩
    have HS6 := hid (HS5.out.k hk)
    clear hk x0 x1 x2 x3 x4 f0 y0 y1 y2 y3 y4 g0
    obtain ⟨⟨x0, x1, x2, x3, x4⟩, f0⟩ := blk5 HS6.out.row
    obtain ⟨⟨y0, y1, y2, y3, y4⟩, g0⟩ := blk5 HS6.out.res
    obtain ⟨cc, hcc⟩ : ∃ cc, checkR ⟨er, nn, ⟨vk, vn, vs⟩⟩ = cc := ⟨_, rfl⟩
    rw [hcc] at HG ⊢
    clear hcc
    rcases cc with _ | _
    · go_wp2_with fail
      refine bodyPost_ret (v := .tuple #[replyV zeroR, .bool false]) (by simp [results, Tryz.results25, go_sem, replyV, zeroR, y0, y1, y2, y3, y4]) rfl ?_
      rw [HG.out]
      exact ⟨rfl, HS6.out.keeps.trans (G := [w.heap.size]) (by exact Keeps.K) (fun x hx hx' => by simp at hx'; omega)⟩
    · go_wp2_with fail
      refine bodyPost_ret (v := .tuple #[replyV ⟨er, nn, ⟨vk, vn, vs⟩⟩, .bool true]) (by simp [results, Tryz.results25, go_sem, replyV, zeroR, y0, y1, y2, y3, y4]) rfl ?_
      rw [HG.out]
      exact ⟨rfl, HS6.out.keeps.trans (G := [w.heap.size]) (by exact Keeps.K) (fun x hx hx' => by simp at hx'; omega)⟩
  · have hb1 : (!b2 && p2 == bs.length) = false := by
      rcases hb : b2 with _ | _
      · have : p2 ≠ bs.length := fun h => hok ⟨hb, h⟩
        simp [this]
      · simp
    rw [hb1]
    have HG : Hid (getR bs = (zeroR, false)) := by
      show _ = _
      unfold getR
      rw [HRAW.out]
      exact if_neg (fun h => hok ⟨h.1, h.2.1⟩)
    clear hb1 hok
    go_wp2_with fail
    refine bodyPost_ret (v := .tuple #[replyV zeroR, .bool false]) (by simp [results, Tryz.results25, go_sem, replyV, zeroR, y0, y1, y2, y3, y4]) rfl ?_
    rw [HG.out]
    exact ⟨rfl, HS5.out.keeps.trans (G := [w.heap.size]) (by exact Keeps.K) (fun x hx hx' => by simp at hx'; omega)⟩

set_option maxRecDepth 100000 in
set_option maxHeartbeats 8000000 in
theorem r14GetR_any (a : Option Addr) (q : Nat) (bs : List UInt8) (w : World) (hT : Tabs w) (hr : Reads w 1 (.slice a bs.length q) bs.length (u8s bs)) (hb : bs.length ≤ 140737488355328) :
    Calls Tryz.prog 57 #[.slice a bs.length q] w fun e w' => e = .returned (.tuple #[replyV (getR bs).1, .bool (getR bs).2]) ∧ Keeps [] w w' := by
  have HT := hid hT
  have HS0 : Hid (RpSt 112 (w.heap.size + 1) (w.heap.size + 1 + 1) a q bs w (((w.alloc (.cells #[.int .i64 0, .int .i64 0, .int .i64 0, .int .i64 0, .string ⟨#[]⟩] 40)).alloc (.cells #[.slice a bs.length q, .int .i64 0, .bool false] 112)).alloc (.cells #[.int .i64 0, .int .i64 0, .int .i64 0, .int .i64 0, .string ⟨#[]⟩] 40)) ⟨0, 0, ⟨0, 0, ⟨#[]⟩⟩⟩ 0 false) := by
    have kk : Keeps [] w (((w.alloc (.cells #[.int .i64 0, .int .i64 0, .int .i64 0, .int .i64 0, .string ⟨#[]⟩] 40)).alloc (.cells #[.slice a bs.length q, .int .i64 0, .bool false] 112)).alloc (.cells #[.int .i64 0, .int .i64 0, .int .i64 0, .int .i64 0, .string ⟨#[]⟩] 40)) := by exact Keeps.K
    refine ⟨?_, ?_, ⟨?_, hr.keeps kk (fun _ _ h => by cases h), fun hz b hb e => by have := hr.lt hz b hb; omega, by omega, hb⟩, kk, ⟨by omega, by omega⟩, fun hz b hb e => by have := hr.lt hz b hb; omega⟩
    · have h := new2nd (w.alloc (.cells #[.int .i64 0, .int .i64 0, .int .i64 0, .int .i64 0, .string ⟨#[]⟩] 40)) (.cells #[.slice a bs.length q, .int .i64 0, .bool false] 112) (.cells #[.int .i64 0, .int .i64 0, .int .i64 0, .int .i64 0, .string ⟨#[]⟩] 40)
      rw [show (w.alloc (.cells #[.int .i64 0, .int .i64 0, .int .i64 0, .int .i64 0, .string ⟨#[]⟩] 40)).heap.size = w.heap.size + 1 by simp] at h
      exact h
    · exact (Keeps.block (F := []) (w := w.alloc (.cells #[.int .i64 0, .int .i64 0, .int .i64 0, .int .i64 0, .string ⟨#[]⟩] 40)) (by exact Keeps.K) w.heap.size (by simp) (by simp)).trans (heap_alloc_new w (.cells #[.int .i64 0, .int .i64 0, .int .i64 0, .int .i64 0, .string ⟨#[]⟩] 40))
    · exact (Keeps.block (F := []) (w := (w.alloc (.cells #[.int .i64 0, .int .i64 0, .int .i64 0, .int .i64 0, .string ⟨#[]⟩] 40)).alloc (.cells #[.slice a bs.length q, .int .i64 0, .bool false] 112)) (by exact Keeps.K) (w.heap.size + 1) (by simp) (by simp)).trans (new2nd w _ _)
  clear hT hr
  go_enter Tryz.func57, Tryz.ntmps57
  go_wp2_with fail
  refine (r3RInt_any _ a q bs 0 false _ (HS0.out.rd.k (by exact Keeps.K))).mono ?_
  obtain ⟨⟨er, p, b⟩, hr⟩ : ∃ r, rdD bs 0 false = r := ⟨_, rfl⟩
  rw [hr]
  have HRer := hid hr
  rintro e wer ⟨rfl, hrd, hk⟩
  dsimp only at hrd ⊢
  have HSa := hid (HS0.out.step (Keeps.trans (G := [w.heap.size + 1]) (by exact Keeps.K) hk (fun _ _ h => h)) hrd)
  clear hrd hk hr
  obtain ⟨⟨x0, x1, x2, x3, x4⟩, f0⟩ := blk5 HSa.out.row
  go_wp2_with fail
  have HSb : Hid (RpSt 112 (w.heap.size + 1) (w.heap.size + 1 + 1) a q bs w (wer.setCell ⟨w.heap.size + 1 + 1, 0, none⟩ (.int .i64 er)) ⟨er, 0, ⟨0, 0, ⟨#[]⟩⟩⟩ p b) := HSa.out.set (by exact Keeps.K) (heap_setCell_same _ _ 0 _ _ _ (HSa.out.row))
  clear x0 x1 x2 x3 x4 f0
  refine (r3RInt_any _ a q bs p b _ (HSb.out.rd.k (by exact Keeps.K))).mono ?_
  obtain ⟨⟨nn, p1, b1⟩, hr⟩ : ∃ r, rdD bs p b = r := ⟨_, rfl⟩
  rw [hr]
  have HRnn := hid hr
  rintro e wnn ⟨rfl, hrd, hk⟩
  dsimp only at hrd ⊢
  have HSc := hid (HSb.out.step (Keeps.trans (G := [w.heap.size + 1]) (by exact Keeps.K) hk (fun _ _ h => h)) hrd)
  clear hrd hk hr
  obtain ⟨⟨x0, x1, x2, x3, x4⟩, f0⟩ := blk5 HSc.out.row
  go_wp2_with fail
  have HSd : Hid (RpSt 112 (w.heap.size + 1) (w.heap.size + 1 + 1) a q bs w (wnn.setCell ⟨w.heap.size + 1 + 1, 1, none⟩ (.int .i64 nn)) ⟨er, nn, ⟨0, 0, ⟨#[]⟩⟩⟩ p1 b1) := HSc.out.set (by exact Keeps.K) (heap_setCell_same _ _ 1 _ _ _ (HSc.out.row))
  clear x0 x1 x2 x3 x4 f0
  refine (r5Get_any _ a q bs p1 b1 _ (HSd.out.rd.k (by exact Keeps.K)) (fun w' g => HT.out.k (HSd.out.keeps.trans (Keeps.trans (G := [w.heap.size + 1]) (by exact Keeps.K) g (fun _ _ h => h)) (fun x hx hx' => by have := HSd.out.apart; simp at hx'; omega)))).mono ?_
  have hsv := getD_short bs p1 b1
  obtain ⟨⟨⟨vk, vn, vs⟩, p2, b2⟩, hr⟩ : ∃ r, getD bs p1 b1 = r := ⟨_, rfl⟩
  rw [hr] at hsv ⊢
  have HRv := hid hr
  rintro e wv ⟨rfl, hrd, hk⟩
  dsimp only at hrd hsv ⊢
  unfold valV
  dsimp only
  have HSV := hid hsv
  have HSe := hid (HSd.out.step (Keeps.trans (G := [w.heap.size + 1]) (by exact Keeps.K) hk (fun _ _ h => h)) hrd)
  clear hrd hk hr hsv
  obtain ⟨⟨x0, x1, x2, x3, x4⟩, f0⟩ := blk5 HSe.out.row
  go_wp2_with fail
  have HS : Hid (RpSt 112 (w.heap.size + 1) (w.heap.size + 1 + 1) a q bs w (((wv.setCell ⟨w.heap.size + 1 + 1, 2, none⟩ (.int .i64 vk)).setCell ⟨w.heap.size + 1 + 1, 3, none⟩ (.int .i64 vn)).setCell ⟨w.heap.size + 1 + 1, 4, none⟩ (.string vs)) ⟨er, nn, ⟨vk, vn, vs⟩⟩ p2 b2) := HSe.out.set (by exact Keeps.K) (heap_setCell_same _ _ 4 _ _ _ (heap_setCell_same _ _ 3 _ _ _ (heap_setCell_same _ _ 2 _ _ _ (HSe.out.row))))
  clear x0 x1 x2 x3 x4 f0
  have HRAW : Hid (rawR bs = (⟨er, nn, ⟨vk, vn, vs⟩⟩, p2, b2)) := by
    show _ = _
    unfold rawR
    rw [HRer.out]
    dsimp only
    rw [HRnn.out]
    dsimp only
    rw [HRv.out]
  refine (r3REnd_any _ a q bs p2 b2 _ (HS.out.rd.k (by exact Keeps.K))).mono ?_
  rintro e w5 ⟨rfl, hk⟩
  have HS5 := hid (HS.out.k (Keeps.trans (G := []) (by exact Keeps.K) hk (fun _ _ h => h)))
  clear hk
  obtain ⟨⟨x0, x1, x2, x3, x4⟩, f0⟩ := blk5 HS5.out.row
  obtain ⟨⟨y0, y1, y2, y3, y4⟩, g0⟩ := blk5 HS5.out.res
  by_cases hok : b2 = false ∧ p2 = bs.length
  · have hb1 : (!b2 && p2 == bs.length) = true := by rw [hok.1, hok.2]; simp
    rw [hb1]
    have HG : Hid (getR bs = if checkR ⟨er, nn, ⟨vk, vn, vs⟩⟩ = true then (⟨er, nn, ⟨vk, vn, vs⟩⟩, true) else (zeroR, false)) := by
      show _ = _
      unfold getR
      rw [HRAW.out]
      dsimp only
      by_cases hc : checkR ⟨er, nn, ⟨vk, vn, vs⟩⟩ = true
      · rw [if_pos ⟨hok.1, hok.2, hc⟩, if_pos hc]
      · rw [if_neg (fun h => hc h.2.2), if_neg hc]
    clear hb1 hok
    go_wp2_with fail
    refine (r14CheckR_any ⟨er, nn, ⟨vk, vn, vs⟩⟩ w5 (HT.out.k HS5.out.keeps)).mono ?_
    rintro e w6 ⟨rfl, hk⟩
    have HS6 := hid (HS5.out.k hk)
    clear hk x0 x1 x2 x3 x4 f0 y0 y1 y2 y3 y4 g0
    obtain ⟨⟨x0, x1, x2, x3, x4⟩, f0⟩ := blk5 HS6.out.row
    obtain ⟨⟨y0, y1, y2, y3, y4⟩, g0⟩ := blk5 HS6.out.res
    obtain ⟨cc, hcc⟩ : ∃ cc, checkR ⟨er, nn, ⟨vk, vn, vs⟩⟩ = cc := ⟨_, rfl⟩
    rw [hcc] at HG ⊢
    clear hcc
    rcases cc with _ | _
    · go_wp2_with fail
      refine bodyPost_ret (v := .tuple #[replyV zeroR, .bool false]) (by simp [results, Tryz.results57, go_sem, replyV, zeroR, y0, y1, y2, y3, y4]) rfl ?_
      rw [HG.out]
      exact ⟨rfl, HS6.out.keeps.trans (G := [w.heap.size]) (by exact Keeps.K) (fun x hx hx' => by simp at hx'; omega)⟩
    · go_wp2_with fail
      refine bodyPost_ret (v := .tuple #[replyV ⟨er, nn, ⟨vk, vn, vs⟩⟩, .bool true]) (by simp [results, Tryz.results57, go_sem, replyV, zeroR, y0, y1, y2, y3, y4]) rfl ?_
      rw [HG.out]
      exact ⟨rfl, HS6.out.keeps.trans (G := [w.heap.size]) (by exact Keeps.K) (fun x hx hx' => by simp at hx'; omega)⟩
  · have hb1 : (!b2 && p2 == bs.length) = false := by
      rcases hb : b2 with _ | _
      · have : p2 ≠ bs.length := fun h => hok ⟨hb, h⟩
        simp [this]
      · simp
    rw [hb1]
    have HG : Hid (getR bs = (zeroR, false)) := by
      show _ = _
      unfold getR
      rw [HRAW.out]
      exact if_neg (fun h => hok ⟨h.1, h.2.1⟩)
    clear hb1 hok
    go_wp2_with fail
    refine bodyPost_ret (v := .tuple #[replyV zeroR, .bool false]) (by simp [results, Tryz.results57, go_sem, replyV, zeroR, y0, y1, y2, y3, y4]) rfl ?_
    rw [HG.out]
    exact ⟨rfl, HS5.out.keeps.trans (G := [w.heap.size]) (by exact Keeps.K) (fun x hx hx' => by simp at hx'; omega)⟩

end Go.Proofs.YtnjdepojmnniaaaGreatDoor

/- The laws of commands: short, awake. -/
namespace Go.Proofs.YtnjdepojmnniaaaGreatDoor
open Go Go.RowKit

def oneC : CmdD := ⟨1, 0, 0, ⟨#[]⟩, 0, ⟨0, 0, ⟨#[]⟩⟩⟩
theorem put2 : putC oneC = [2] := by
  unfold putC oneC
  dsimp only
  rw [if_pos rfl, List.append_nil]
  show Lib.uvarint (Lib.zigzag 1) = [2]
  rw [show Lib.zigzag 1 = 2 from rfl, Lib.uvarint_small (by decide)]
  rfl
theorem check2 : checkC oneC = true := by simp [checkC, oneC, noneV, emptyB]
theorem get2 : getC [2] = (oneC, true) := by
  have h := getC_put oneC check2 (by constructor <;> decide) (by constructor <;> decide)
  rw [put2] at h
  exact h
theorem wide1 : CmdW oneC := ⟨by constructor <;> decide, by constructor <;> decide, by constructor <;> decide, by constructor <;> decide, by constructor <;> decide, by constructor <;> decide, by show (0 : Nat) ≤ _; decide, by show (0 : Nat) ≤ _; decide⟩
def shortC (c : CmdD) : Bool := decide (c.field.size ≤ 1000) && decide (c.value.s.size ≤ 1000)

end Go.Proofs.YtnjdepojmnniaaaGreatDoor

/- CmdChecks, walked. -/
namespace Go.Proofs.YtnjdepojmnniaaaGreatDoor
open Go Go.RowKit

def shortR (r : ReplyD) : Bool := decide (r.value.s.size ≤ 1000)
def rowC (c : CmdD) : Obj := .cells #[.int .i64 c.kind, .int .i64 c.session, .int .i64 c.seq, .string c.field, .int .i64 c.version, .int .i64 c.value.kind, .int .i64 c.value.n, .string c.value.s] 34 (0, 0)
def rowR (r : ReplyD) : Obj := .cells #[.int .i64 r.err, .int .i64 r.n, .int .i64 r.value.kind, .int .i64 r.value.n, .string r.value.s] 40 (0, 0)

end Go.Proofs.YtnjdepojmnniaaaGreatDoor

/- CmdBytes, walked. -/
namespace Go.Proofs.YtnjdepojmnniaaaGreatDoor
open Go Go.RowKit

structure CmdI (c : CmdD) : Prop where
  kind : I64 c.kind
  session : I64 c.session
  seq : I64 c.seq
  version : I64 c.version
  vkind : I64 c.value.kind
  vn : I64 c.value.n
theorem CmdI.w {c : CmdD} (h : CmdI c) (hs : shortC c = true) : CmdW c := by
  unfold shortC at hs
  simp at hs
  exact ⟨h.kind, h.session, h.seq, h.version, h.vkind, h.vn, by omega, by omega⟩
theorem textL_len (s : ByteArray) (h : s.size ≤ 1000000) : (textL s).length ≤ 10 + s.size := by
  have := intL_len (show I64 (s.size : Int) from ⟨by omega, by omega⟩)
  have e : s.data.toList.length = s.size := by rw [Array.length_toList]; rfl
  unfold textL
  rw [List.length_append, e]
  omega
theorem putL_most (v : ValD) (hk : I64 v.kind) (hn : I64 v.n) (hs : v.s.size ≤ 1000000) : (putL v).length ≤ 30 + v.s.size := by
  have h1 := intL_len hk
  have h2 := intL_len hn
  have h3 := textL_len v.s hs
  unfold putL
  rw [List.length_append, List.length_append]
  omega
theorem putC_len (c : CmdD) (h : CmdW c) : (putC c).length ≤ 2000080 := by
  have h1 := intL_len h.kind
  have h2 := intL_len h.session
  have h3 := intL_len h.seq
  have h4 := intL_len h.version
  have h5 := textL_len c.field h.field
  have h6 := putL_most c.value h.vkind h.vn h.vs
  have h7 := h.field
  have h8 := h.vs
  unfold putC
  split
  · simp; omega
  · split
    · simp only [List.length_append]; omega
    · split
      · simp only [List.length_append]; omega
      · simp; omega
theorem putC_pos (c : CmdD) : 0 < (putC c).length := by
  have := Lib.uvarint_pos (Lib.zigzag c.kind)
  unfold putC intL
  rw [List.length_append]
  omega
theorem putR_most (r : ReplyD) (h : ReplyW r) : (putR r).length ≤ 1000080 := by
  have h1 := intL_len h.err
  have h2 := intL_len h.n
  have h6 := putL_most r.value h.vkind h.vn h.vs
  have h8 := h.vs
  unfold putR
  rw [List.length_append, List.length_append]
  omega
/-- What a command's bytes were put as is turned «to» a text. -/
theorem cv_str {w : World} {a : Option Addr} {n q : Nat} {l : List UInt8} (h : Reads w 1 (.slice a n q) n (u8s l)) (hn : n = l.length) : (convert 36 9 (.slice a n q)).run Tryz.prog w = .ok (.string (str l)) w := by
  subst hn
  exact run_convert_str w 36 9 5 _ _ Tryz.underlying36 Tryz.underlying5 Tryz.underlying9 h

end Go.Proofs.YtnjdepojmnniaaaGreatDoor

/- WHAT A CORE IS AND DOES, in plain words: no memory, no program. -/
namespace Go.Proofs.YtnjdepojmnniaaaGreatDoor
open Go Go.RowKit

structure Ent where
  term : Int
  cmd : Bool
  data : List UInt8

structure MsgD where
  kind : Int
  frm : Int
  «to» : Int
  term : Int
  a : Int
  b : Int
  c : Int
  ok : Bool
  entries : List Ent
  data : List UInt8

structure ConfD where
  nodes : Int
  clients : Int
  heart : Int
  lo : Int
  range : Int
  sessions : Int
  snap : Int
  room : Int
  retry : Int

structure CoreD where
  conf : ConfD
  id : Int
  term : Int
  vote : Int
  role : Int
  leader : Int
  commit : Int
  base : Int
  baseTerm : Int
  l : List Ent
  snap : List UInt8
  draw : Int
  patience : Int
  votes : List Bool
  next : List Int
  matc : List Int
  hard : Bool
  frm : Int
  tsnap : Bool
  /-- Blocks that it never reads nor writes: others write there. (No part of the core: a word of the proofs.) -/
  ban : Nat → Prop := fun _ => False

def inD (v a b : Int) : Bool := decide (a ≤ v) && decide (v ≤ b)
def ConfD.row (c : ConfD) : Nat → Int × Int × Int
  | 0 => (c.nodes, 3, 7)
  | 1 => (c.clients, 0, 8)
  | 2 => (c.heart, 1, 100)
  | 3 => (c.lo, c.heart + 1, 1000)
  | 4 => (c.range, 0, 1000)
  | 5 => (c.sessions, 1, 16)
  | 6 => (c.snap, 1, 1000)
  | 7 => (c.room, 0, 512)
  | _ => (c.retry, 1, 1000)
def ConfD.ok (c : ConfD) (k : Nat) : Bool := inD (c.row k).1 (c.row k).2.1 (c.row k).2.2
def ConfD.mayTo (c : ConfD) : Nat → Bool
  | 0 => true
  | k + 1 => c.mayTo k && c.ok k
def ConfD.may (c : ConfD) : Bool := c.mayTo 9

theorem ConfD.may_iff (c : ConfD) : c.may = true ↔ (3 ≤ c.nodes ∧ c.nodes ≤ 7) ∧ (0 ≤ c.clients ∧ c.clients ≤ 8) ∧ (1 ≤ c.heart ∧ c.heart ≤ 100) ∧ (c.heart + 1 ≤ c.lo ∧ c.lo ≤ 1000) ∧ (0 ≤ c.range ∧ c.range ≤ 1000) ∧ (1 ≤ c.sessions ∧ c.sessions ≤ 16) ∧ (1 ≤ c.snap ∧ c.snap ≤ 1000) ∧ (0 ≤ c.room ∧ c.room ≤ 512) ∧ (1 ≤ c.retry ∧ c.retry ≤ 1000) := by
  simp [ConfD.may, ConfD.mayTo, ConfD.ok, ConfD.row, inD, and_assoc]
theorem ConfD.mayTo_mono (c : ConfD) (k : Nat) : ∀ j, c.mayTo (k + j) = true → c.mayTo k = true
  | 0, h => h
  | j + 1, h => by
    simp only [ConfD.mayTo, Bool.and_eq_true] at h
    exact c.mayTo_mono k j h.1
theorem ConfD.not_may {c : ConfD} {k : Nat} (hk : k < 9) (h : c.ok k = false) : c.may = false := by
  cases hm : c.may with
  | false => rfl
  | true =>
    have := c.mayTo_mono (k + 1) (9 - (k + 1)) (by rw [show k + 1 + (9 - (k + 1)) = 9 by omega]; exact hm)
    simp [ConfD.mayTo, h] at this

/-! The log. -/
def lastD (c : CoreD) : Int := c.base + c.l.length
def atD (c : CoreD) (i : Int) : Int × Bool :=
  if i = c.base then (c.baseTerm, true) else if i < c.base ∨ lastD c < i then (0, false) else (((c.l[(i - c.base - 1).toNat]?).map (·.term)).getD 0, true)
def entD (c : CoreD) (i : Int) : Option Ent := if i ≤ c.base ∨ lastD c < i then none else c.l[(i - c.base - 1).toNat]?
def fromD (c : CoreD) (i : Int) : List Ent := c.l.drop (max i (c.base + 1) - c.base - 1).toNat

def newD (cf : ConfD) (id term vote base baseTerm : Int) (l : List Ent) : CoreD :=
  { conf := cf, id := id, term := term, vote := vote, role := 0, leader := 0, commit := base, base := base, baseTerm := baseTerm, l := l, snap := [], draw := min ((id - 1) * (cf.heart + 6)) cf.range, patience := 0,
    votes := List.replicate 8 false, next := List.replicate 8 0, matc := List.replicate 8 0, hard := false, frm := 0, tsnap := false }
def mayNewD (cf : ConfD) (id term vote base baseTerm : Int) (l : List Ent) : Bool :=
  cf.may && inD id 1 cf.nodes && inD term 0 1099511627776 && inD vote 0 cf.nodes && inD base 0 1099511622680 && inD baseTerm 0 1099511627776 && decide (l.length ≤ 5096) && l.all fun e => inD e.term 1 1099511627776

def drawD (c : CoreD) (v : Int) : CoreD := { c with draw := max 0 (min v c.conf.range) }
def risesD (c : CoreD) (term vote : Int) : CoreD := { c with hard := c.hard || term != c.term || vote != c.vote, term := term, vote := vote }
def turnD (c : CoreD) (i : Int) : CoreD := { c with frm := if c.frm = 0 ∨ i < c.frm then i else c.frm }
def putD (c : CoreD) (e : Ent) : CoreD := turnD { c with l := c.l ++ [e] } (lastD c + 1)
def saysD (c : CoreD) (m : MsgD) («to» : Int) : MsgD := { m with frm := c.id, «to» := «to», term := c.term }
def msg0 : MsgD := { kind := 0, frm := 0, «to» := 0, term := 0, a := 0, b := 0, c := 0, ok := false, entries := [], data := [] }
def sendD (c : CoreD) («to» : Int) : MsgD :=
  let next := c.next.getD «to».toNat 0
  if next ≤ c.base then saysD c { msg0 with kind := 5, a := c.base, b := c.baseTerm, data := c.snap } «to»
  else saysD c { msg0 with kind := 3, a := next - 1, b := (atD c (next - 1)).1, c := c.commit, entries := (fromD c next).take 8 } «to»
/-- The other nodes' numbers. -/
def othersTo (id : Int) : Nat → List Int
  | 0 => []
  | k + 1 => if ((k + 1 : Nat) : Int) = id then othersTo id k else othersTo id k ++ [((k + 1 : Nat) : Int)]
def othersD (c : CoreD) (f : Int → MsgD) : List MsgD := (othersTo c.id c.conf.nodes.toNat).map f
def voteMsg (c : CoreD) («to» : Int) : MsgD := saysD c { msg0 with kind := 1, a := lastD c, b := (atD c (lastD c)).1 } «to»
def runD (c : CoreD) : CoreD := { risesD c (c.term + 1) c.id with role := 1, leader := 0, patience := 0, votes := (List.replicate 8 false).set c.id.toNat true }
def tickD (c0 : CoreD) : CoreD × List MsgD :=
  let c := { c0 with patience := c0.patience + 1 }
  if c.role = 2 then
    if c.patience < c.conf.heart then (c, [])
    else
      let c := { c with patience := 0 }
      (c, othersD c (sendD c))
  else if c.patience < c.conf.lo + c.draw ∨ 1099511627776 ≤ c.term then (c, [])
  else (runD c, othersD (runD c) (voteMsg (runD c)))

/-- What holds of every core: no number is too great. -/
structure CoreOk (c : CoreD) : Prop where
  may : c.conf.may = true
  id : 1 ≤ c.id ∧ c.id ≤ c.conf.nodes
  term : 0 ≤ c.term ∧ c.term ≤ 1099511627776
  base : 0 ≤ c.base ∧ c.base ≤ c.commit
  baseTerm : 0 ≤ c.baseTerm ∧ c.baseTerm ≤ 1099511627776
  len : c.l.length ≤ 5096
  last : c.base + c.l.length ≤ 2199023255552
  commit : c.commit ≤ c.base + c.l.length
  draw : 0 ≤ c.draw ∧ c.draw ≤ 1000
  votes : c.votes.length = 8
  next : c.next.length = 8
  matc : c.matc.length = 8
  nexts : ∀ x ∈ c.next, 0 ≤ x ∧ x ≤ 2199023255553
  matcs : ∀ x ∈ c.matc, 0 ≤ x ∧ x ≤ 2199023255552
  ents : ∀ e ∈ c.l, 0 ≤ e.term ∧ e.term ≤ 1099511627776
  frm : 0 ≤ c.frm ∧ c.frm ≤ 2199023255553
  data : ∀ e ∈ c.l, e.data.length ≤ 1000000
  snap : c.snap.length ≤ 1000000

theorem newD_ok {cf : ConfD} {id term vote base baseTerm : Int} {l : List Ent} (h : mayNewD cf id term vote base baseTerm l = true) (hd : ∀ e ∈ l, e.data.length ≤ 1000000) : CoreOk (newD cf id term vote base baseTerm l) := by
  simp only [mayNewD, inD, Bool.and_eq_true, decide_eq_true_eq, List.all_eq_true] at h
  obtain ⟨⟨⟨⟨⟨⟨⟨h1, h2⟩, h3⟩, h4⟩, h5⟩, h6⟩, h7⟩, h8⟩ := h
  have hm := (ConfD.may_iff cf).1 h1
  have h9 : 0 ≤ (id - 1) * (cf.heart + 6) := Int.mul_nonneg (by omega) (by omega)
  exact { may := h1, id := h2, term := h3, base := ⟨h5.1, Int.le_refl _⟩, baseTerm := h6, len := h7, last := by show base + (l.length : Int) ≤ _; omega, commit := by show base ≤ base + _; omega,
          draw := ⟨by show 0 ≤ min _ _; omega, by show min _ _ ≤ _; omega⟩, votes := rfl, next := rfl, matc := rfl, nexts := by simp [newD], matcs := by simp [newD], ents := fun e he => by have := h8 e he; omega, frm := by simp [newD], data := hd, snap := by simp [newD] }

end Go.Proofs.YtnjdepojmnniaaaGreatDoor
