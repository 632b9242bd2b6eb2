/- Joined of CmI, CmJ, Law, LawL, OpenV. -/
import Derived.Test.YtbbdmmhpbeleoaaGreatDoorCmH
import Derived.Test.YtbbdmmhpbeleoaaGreatDoorCmP
import Derived.Test.YtbbdmmhpbeleoaaGreatDoorRows
import Derived.Test.YtbbdmmhpbeleoaaGreatDoorQ00
import Derived.ProofKit
import Derived.Test.YtbbdmmhpbeleoaaGreatDoorTie
import Derived.Test.YtbbdmmhpbeleoaaGreatDoorCards
import Derived.Lib.LaidU8
import Derived.OpenShut
import Derived.LaidMore
import Derived.Lay
import Derived.SevenTiedAt
import Derived.Stop.Joined

set_option linter.unusedSimpArgs false
set_option linter.unusedVariables false

/- A reply that is read: both. (Printed by gen_cmi.py.) -/
namespace Go.Proofs.YtbbdmmhpbeleoaaGreatDoor
open Go Go.RowKit

/-- The reply under way at block m, a reader (of either kind) at block n. -/
structure RpSt (t : TypeId) (n m : Nat) (a : Option Addr) (q : Nat) (bs : List UInt8) (w wr : World) (c : ReplyD) (p : Nat) (b : Bool) : Prop where
  row : wr.heap[m]? = some (.cells #[.int .i64 c.err, .int .i64 c.n, .int .i64 c.value.kind, .int .i64 c.value.n, .string c.value.s] 37 (0, 0))
  res : wr.heap[w.heap.size]? = some (.cells #[.int .i64 0, .int .i64 0, .int .i64 0, .int .i64 0, .string ⟨#[]⟩] 37 (0, 0))
  rd : RdAt t wr n a q bs p b
  keeps : Keeps [] w wr
  apart : w.heap.size < n ∧ n < m
  lies : Lies (fun b => b ≠ m) (.slice a bs.length q) bs.length
theorem RpSt.step {t : TypeId} {n m : Nat} {a : Option Addr} {q : Nat} {bs : List UInt8} {w wr w' : World} {c : ReplyD} {p p' : Nat} {b b' : Bool} (H : RpSt t n m a q bs w wr c p b) (k : Keeps [n] wr w') (h : RdAt t w' n a q bs p' b') : RpSt t n m a q bs w w' c p' b' :=
  ⟨(k.block _ (Array.getElem?_eq_some_iff.1 H.row).1 (by have := H.apart; simp; omega)).trans H.row, (k.block _ (Array.getElem?_eq_some_iff.1 H.res).1 (by have := H.apart; simp; omega)).trans H.res, h, H.keeps.trans k (fun x hx hx' => by have := H.apart; simp at hx'; omega), H.apart, H.lies⟩
theorem RpSt.k {t : TypeId} {n m : Nat} {a : Option Addr} {q : Nat} {bs : List UInt8} {w wr w' : World} {c : ReplyD} {p : Nat} {b : Bool} (H : RpSt t n m a q bs w wr c p b) (k : Keeps [] wr w') : RpSt t n m a q bs w w' c p b :=
  ⟨(k.block _ (Array.getElem?_eq_some_iff.1 H.row).1 (by simp)).trans H.row, (k.block _ (Array.getElem?_eq_some_iff.1 H.res).1 (by simp)).trans H.res, H.rd.k k, H.keeps.trans k (fun _ _ h => h), H.apart, H.lies⟩
theorem RpSt.set {t : TypeId} {n m : Nat} {a : Option Addr} {q : Nat} {bs : List UInt8} {w wr w' : World} {c c' : ReplyD} {p : Nat} {b : Bool} (H : RpSt t n m a q bs w wr c p b) (k : Keeps [m] wr w') (h : w'.heap[m]? = some (.cells #[.int .i64 c'.err, .int .i64 c'.n, .int .i64 c'.value.kind, .int .i64 c'.value.n, .string c'.value.s] 37 (0, 0))) : RpSt t n m a q bs w w' c' p b :=
  ⟨h, (k.block _ (Array.getElem?_eq_some_iff.1 H.res).1 (by have := H.apart; simp; omega)).trans H.res, ⟨(k.block _ (Array.getElem?_eq_some_iff.1 H.rd.row).1 (by have := H.apart; simp; omega)).trans H.rd.row, H.rd.bytes.keepsL H.lies k (fun b hb => by simpa using hb), H.rd.apart, H.rd.place, H.rd.short⟩, H.keeps.trans k (fun x hx hx' => by have := H.apart; simp at hx'; omega), H.apart, H.lies⟩

set_option maxRecDepth 100000 in
set_option maxHeartbeats 8000000 in
theorem cmGetR_any (v0 : Value) (bs : List UInt8) (w : World) (hT : Tabs w) (hr : Reads w 1 v0 bs.length (u8s bs)) (hb : bs.length ≤ 140737488355328) :
    Calls Tryz.prog 26 #[v0] w fun e w' => e = .returned (.tuple #[replyV (getR bs).1, .bool (getR bs).2]) ∧ Keeps [] w w' := by
  have HT := hid hT
  have HR := hid hr
  clear hT hr
  go_enter Tryz.func26, Tryz.ntmps26
  go_wp2_with fail
  refine (wNew_any v0 bs _ (Reads.k0 HR.out (by exact Keeps.K)) hb).mono ?_
  rintro e w1 ⟨n, a, q, rfl, hn, hrd, hk, hown⟩
  have K1 : Hid (Keeps [] w w1) := Keeps.trans (G := []) (by exact Keeps.K) hk (fun _ _ h => h)
  have HRES : Hid (w1.heap[w.heap.size]? = some (.cells #[.int .i64 0, .int .i64 0, .int .i64 0, .int .i64 0, .string ⟨#[]⟩] 37 (0, 0))) := (hk.block _ (by simp) (by simp)).trans (heap_alloc_new _ _)
  have hn' : w.heap.size + 1 ≤ n := by simpa using hn
  have hn2 : n < w1.heap.size := hrd.lt
  obtain ⟨m, hm⟩ : ∃ m, w1.heap.size = m := ⟨_, rfl⟩
  have HS0 : Hid (RpSt 115 n m a q bs w (w1.alloc (.cells #[.int .i64 0, .int .i64 0, .int .i64 0, .int .i64 0, .string ⟨#[]⟩] 37)) ⟨0, 0, ⟨0, 0, ⟨#[]⟩⟩⟩ 0 false) :=
    ⟨by rw [← hm]; exact heap_alloc_new _ _, (Keeps.block (F := []) (w := w1) (by exact Keeps.K) _ (Array.getElem?_eq_some_iff.1 HRES.out).1 (by simp)).trans HRES.out, hrd.k (by exact Keeps.K), K1.out.trans (G := []) (by exact Keeps.K) (fun _ _ h => h), ⟨by omega, by omega⟩, fun _ b hb e => by have := (hown b hb).2; omega⟩
  have hmn : w.heap.size ≠ m := by omega
  clear hk hrd hown hn
  go_wp2_with fail
  refine (rdInt_any _ a q bs 0 false _ (HS0.out.rd.k (by exact Keeps.K))).mono ?_
  obtain ⟨⟨er, p, b⟩, hr⟩ : ∃ r, rdD bs 0 false = r := ⟨_, rfl⟩
  rw [hr]
  have HRer := hid hr
  rintro e wer ⟨rfl, hrd, hk⟩
  dsimp only at hrd ⊢
  have HSa := hid (HS0.out.step (Keeps.trans (G := [n]) (by exact Keeps.K) hk (fun _ _ h => h)) hrd)
  clear hrd hk hr
  obtain ⟨⟨x0, x1, x2, x3, x4⟩, f0⟩ := blk5 HSa.out.row
  go_wp2_with fail
  have HSb : Hid (RpSt 115 n m a q bs w (wer.setCell ⟨m, 0, none⟩ (.int .i64 er)) ⟨er, 0, ⟨0, 0, ⟨#[]⟩⟩⟩ p b) := HSa.out.set (by exact Keeps.K) (heap_setCell_same _ _ 0 _ _ _ (HSa.out.row))
  clear x0 x1 x2 x3 x4 f0
  refine (rdInt_any _ a q bs p b _ (HSb.out.rd.k (by exact Keeps.K))).mono ?_
  obtain ⟨⟨nn, p1, b1⟩, hr⟩ : ∃ r, rdD bs p b = r := ⟨_, rfl⟩
  rw [hr]
  have HRnn := hid hr
  rintro e wnn ⟨rfl, hrd, hk⟩
  dsimp only at hrd ⊢
  have HSc := hid (HSb.out.step (Keeps.trans (G := [n]) (by exact Keeps.K) hk (fun _ _ h => h)) hrd)
  clear hrd hk hr
  obtain ⟨⟨x0, x1, x2, x3, x4⟩, f0⟩ := blk5 HSc.out.row
  go_wp2_with fail
  have HSd : Hid (RpSt 115 n m a q bs w (wnn.setCell ⟨m, 1, none⟩ (.int .i64 nn)) ⟨er, nn, ⟨0, 0, ⟨#[]⟩⟩⟩ p1 b1) := HSc.out.set (by exact Keeps.K) (heap_setCell_same _ _ 1 _ _ _ (HSc.out.row))
  clear x0 x1 x2 x3 x4 f0
  refine (vGet_any _ a q bs p1 b1 _ (HSd.out.rd.k (by exact Keeps.K)) (fun w' g => HT.out.k (HSd.out.keeps.trans (Keeps.trans (G := [n]) (by exact Keeps.K) g (fun _ _ h => h)) (fun x hx hx' => by have := HSd.out.apart; simp at hx'; omega)))).mono ?_
  have hsv := getD_short bs p1 b1
  obtain ⟨⟨⟨vk, vn, vs⟩, p2, b2⟩, hr⟩ : ∃ r, getD bs p1 b1 = r := ⟨_, rfl⟩
  rw [hr] at hsv ⊢
  have HRv := hid hr
  rintro e wv ⟨rfl, hrd, hk⟩
  dsimp only at hrd hsv ⊢
  unfold valV
  dsimp only
  have HSV := hid hsv
  have HSe := hid (HSd.out.step (Keeps.trans (G := [n]) (by exact Keeps.K) hk (fun _ _ h => h)) hrd)
  clear hrd hk hr hsv
  obtain ⟨⟨x0, x1, x2, x3, x4⟩, f0⟩ := blk5 HSe.out.row
  go_wp2_with fail
  have HS : Hid (RpSt 115 n m a q bs w (((wv.setCell ⟨m, 2, none⟩ (.int .i64 vk)).setCell ⟨m, 3, none⟩ (.int .i64 vn)).setCell ⟨m, 4, none⟩ (.string vs)) ⟨er, nn, ⟨vk, vn, vs⟩⟩ p2 b2) := HSe.out.set (by exact Keeps.K) (heap_setCell_same _ _ 4 _ _ _ (heap_setCell_same _ _ 3 _ _ _ (heap_setCell_same _ _ 2 _ _ _ (HSe.out.row))))
  clear x0 x1 x2 x3 x4 f0
  have HRAW : Hid (rawR bs = (⟨er, nn, ⟨vk, vn, vs⟩⟩, p2, b2)) := by
    show _ = _
    unfold rawR
    rw [HRer.out]
    dsimp only
    rw [HRnn.out]
    dsimp only
    rw [HRv.out]
  refine (wEnd_any _ a q bs p2 b2 _ (HS.out.rd.k (by exact Keeps.K))).mono ?_
  rintro e w5 ⟨rfl, hk⟩
  have HS5 := hid (HS.out.k (Keeps.trans (G := []) (by exact Keeps.K) hk (fun _ _ h => h)))
  clear hk
  obtain ⟨⟨x0, x1, x2, x3, x4⟩, f0⟩ := blk5 HS5.out.row
  obtain ⟨⟨y0, y1, y2, y3, y4⟩, g0⟩ := blk5 HS5.out.res
  by_cases hok : b2 = false ∧ p2 = bs.length
  · have hb1 : (!b2 && p2 == bs.length) = true := by rw [hok.1, hok.2]; simp
    rw [hb1]
    have HG : Hid (getR bs = if checkR ⟨er, nn, ⟨vk, vn, vs⟩⟩ = true then (⟨er, nn, ⟨vk, vn, vs⟩⟩, true) else (zeroR, false)) := by
      show _ = _
      unfold getR
      rw [HRAW.out]
      dsimp only
      by_cases hc : checkR ⟨er, nn, ⟨vk, vn, vs⟩⟩ = true
      · rw [if_pos ⟨hok.1, hok.2, hc⟩, if_pos hc]
      · rw [if_neg (fun h => hc h.2.2), if_neg hc]
    clear hb1 hok
    go_wp2_with fail
    refine (cmCheckR_any ⟨er, nn, ⟨vk, vn, vs⟩⟩ w5 (HT.out.k HS5.out.keeps) (Nat.le_trans HSV.out (by decide))).mono ?_
    rintro e w6 ⟨rfl, hk⟩
    have HS6 := hid (HS5.out.k hk)
    clear hk x0 x1 x2 x3 x4 f0 y0 y1 y2 y3 y4 g0
    obtain ⟨⟨x0, x1, x2, x3, x4⟩, f0⟩ := blk5 HS6.out.row
    obtain ⟨⟨y0, y1, y2, y3, y4⟩, g0⟩ := blk5 HS6.out.res
    obtain ⟨cc, hcc⟩ : ∃ cc, checkR ⟨er, nn, ⟨vk, vn, vs⟩⟩ = cc := ⟨_, rfl⟩
    rw [hcc] at HG ⊢
    clear hcc
    rcases cc with _ | _
    · go_wp2_with fail
      refine bodyPost_ret (v := .tuple #[replyV zeroR, .bool false]) (by simp [results, Tryz.results26, go_sem, replyV, zeroR, y0, y1, y2, y3, y4]) rfl ?_
      rw [HG.out]
      exact ⟨rfl, HS6.out.keeps.trans (G := [w.heap.size]) (by exact Keeps.K) (fun x hx hx' => by simp at hx'; omega)⟩
    · go_wp2_with fail
      refine bodyPost_ret (v := .tuple #[replyV ⟨er, nn, ⟨vk, vn, vs⟩⟩, .bool true]) (by simp [results, Tryz.results26, go_sem, replyV, zeroR, y0, y1, y2, y3, y4]) rfl ?_
      rw [HG.out]
      exact ⟨rfl, HS6.out.keeps.trans (G := [w.heap.size]) (by exact Keeps.K) (fun x hx hx' => by simp at hx'; omega)⟩
  · have hb1 : (!b2 && p2 == bs.length) = false := by
      rcases hb : b2 with _ | _
      · have : p2 ≠ bs.length := fun h => hok ⟨hb, h⟩
        simp [this]
      · simp
    rw [hb1]
    have HG : Hid (getR bs = (zeroR, false)) := by
      show _ = _
      unfold getR
      rw [HRAW.out]
      exact if_neg (fun h => hok ⟨h.1, h.2.1⟩)
    clear hb1 hok
    go_wp2_with fail
    refine bodyPost_ret (v := .tuple #[replyV zeroR, .bool false]) (by simp [results, Tryz.results26, go_sem, replyV, zeroR, y0, y1, y2, y3, y4]) rfl ?_
    rw [HG.out]
    exact ⟨rfl, HS5.out.keeps.trans (G := [w.heap.size]) (by exact Keeps.K) (fun x hx hx' => by simp at hx'; omega)⟩

set_option maxRecDepth 100000 in
set_option maxHeartbeats 8000000 in
theorem r14GetR_any (a : Option Addr) (q : Nat) (bs : List UInt8) (w : World) (hT : Tabs w) (hr : Reads w 1 (.slice a bs.length q) bs.length (u8s bs)) (hb : bs.length ≤ 140737488355328) :
    Calls Tryz.prog 27 #[.slice a bs.length q] w fun e w' => e = .returned (.tuple #[replyV (getR bs).1, .bool (getR bs).2]) ∧ Keeps [] w w' := by
  have HT := hid hT
  have HS0 : Hid (RpSt 95 (w.heap.size + 1) (w.heap.size + 1 + 1) a q bs w (((w.alloc (.cells #[.int .i64 0, .int .i64 0, .int .i64 0, .int .i64 0, .string ⟨#[]⟩] 37)).alloc (.cells #[.slice a bs.length q, .int .i64 0, .bool false] 95)).alloc (.cells #[.int .i64 0, .int .i64 0, .int .i64 0, .int .i64 0, .string ⟨#[]⟩] 37)) ⟨0, 0, ⟨0, 0, ⟨#[]⟩⟩⟩ 0 false) := by
    have kk : Keeps [] w (((w.alloc (.cells #[.int .i64 0, .int .i64 0, .int .i64 0, .int .i64 0, .string ⟨#[]⟩] 37)).alloc (.cells #[.slice a bs.length q, .int .i64 0, .bool false] 95)).alloc (.cells #[.int .i64 0, .int .i64 0, .int .i64 0, .int .i64 0, .string ⟨#[]⟩] 37)) := by exact Keeps.K
    refine ⟨?_, ?_, ⟨?_, hr.keeps kk (fun _ _ h => by cases h), fun hz b hb e => by have := hr.lt hz b hb; omega, by omega, hb⟩, kk, ⟨by omega, by omega⟩, fun hz b hb e => by have := hr.lt hz b hb; omega⟩
    · have h := new2nd (w.alloc (.cells #[.int .i64 0, .int .i64 0, .int .i64 0, .int .i64 0, .string ⟨#[]⟩] 37)) (.cells #[.slice a bs.length q, .int .i64 0, .bool false] 95) (.cells #[.int .i64 0, .int .i64 0, .int .i64 0, .int .i64 0, .string ⟨#[]⟩] 37)
      rw [show (w.alloc (.cells #[.int .i64 0, .int .i64 0, .int .i64 0, .int .i64 0, .string ⟨#[]⟩] 37)).heap.size = w.heap.size + 1 by simp] at h
      exact h
    · exact (Keeps.block (F := []) (w := w.alloc (.cells #[.int .i64 0, .int .i64 0, .int .i64 0, .int .i64 0, .string ⟨#[]⟩] 37)) (by exact Keeps.K) w.heap.size (by simp) (by simp)).trans (heap_alloc_new w (.cells #[.int .i64 0, .int .i64 0, .int .i64 0, .int .i64 0, .string ⟨#[]⟩] 37))
    · exact (Keeps.block (F := []) (w := (w.alloc (.cells #[.int .i64 0, .int .i64 0, .int .i64 0, .int .i64 0, .string ⟨#[]⟩] 37)).alloc (.cells #[.slice a bs.length q, .int .i64 0, .bool false] 95)) (by exact Keeps.K) (w.heap.size + 1) (by simp) (by simp)).trans (new2nd w _ _)
  clear hT hr
  go_enter Tryz.func27, Tryz.ntmps27
  go_wp2_with fail
  refine (r3RInt_any _ a q bs 0 false _ (HS0.out.rd.k (by exact Keeps.K))).mono ?_
  obtain ⟨⟨er, p, b⟩, hr⟩ : ∃ r, rdD bs 0 false = r := ⟨_, rfl⟩
  rw [hr]
  have HRer := hid hr
  rintro e wer ⟨rfl, hrd, hk⟩
  dsimp only at hrd ⊢
  have HSa := hid (HS0.out.step (Keeps.trans (G := [w.heap.size + 1]) (by exact Keeps.K) hk (fun _ _ h => h)) hrd)
  clear hrd hk hr
  obtain ⟨⟨x0, x1, x2, x3, x4⟩, f0⟩ := blk5 HSa.out.row
  go_wp2_with fail
  have HSb : Hid (RpSt 95 (w.heap.size + 1) (w.heap.size + 1 + 1) a q bs w (wer.setCell ⟨w.heap.size + 1 + 1, 0, none⟩ (.int .i64 er)) ⟨er, 0, ⟨0, 0, ⟨#[]⟩⟩⟩ p b) := HSa.out.set (by exact Keeps.K) (heap_setCell_same _ _ 0 _ _ _ (HSa.out.row))
  clear x0 x1 x2 x3 x4 f0
  refine (r3RInt_any _ a q bs p b _ (HSb.out.rd.k (by exact Keeps.K))).mono ?_
  obtain ⟨⟨nn, p1, b1⟩, hr⟩ : ∃ r, rdD bs p b = r := ⟨_, rfl⟩
  rw [hr]
  have HRnn := hid hr
  rintro e wnn ⟨rfl, hrd, hk⟩
  dsimp only at hrd ⊢
  have HSc := hid (HSb.out.step (Keeps.trans (G := [w.heap.size + 1]) (by exact Keeps.K) hk (fun _ _ h => h)) hrd)
  clear hrd hk hr
  obtain ⟨⟨x0, x1, x2, x3, x4⟩, f0⟩ := blk5 HSc.out.row
  go_wp2_with fail
  have HSd : Hid (RpSt 95 (w.heap.size + 1) (w.heap.size + 1 + 1) a q bs w (wnn.setCell ⟨w.heap.size + 1 + 1, 1, none⟩ (.int .i64 nn)) ⟨er, nn, ⟨0, 0, ⟨#[]⟩⟩⟩ p1 b1) := HSc.out.set (by exact Keeps.K) (heap_setCell_same _ _ 1 _ _ _ (HSc.out.row))
  clear x0 x1 x2 x3 x4 f0
  refine (r5Get_any _ a q bs p1 b1 _ (HSd.out.rd.k (by exact Keeps.K)) (fun w' g => HT.out.k (HSd.out.keeps.trans (Keeps.trans (G := [w.heap.size + 1]) (by exact Keeps.K) g (fun _ _ h => h)) (fun x hx hx' => by have := HSd.out.apart; simp at hx'; omega)))).mono ?_
  have hsv := getD_short bs p1 b1
  obtain ⟨⟨⟨vk, vn, vs⟩, p2, b2⟩, hr⟩ : ∃ r, getD bs p1 b1 = r := ⟨_, rfl⟩
  rw [hr] at hsv ⊢
  have HRv := hid hr
  rintro e wv ⟨rfl, hrd, hk⟩
  dsimp only at hrd hsv ⊢
  unfold valV
  dsimp only
  have HSV := hid hsv
  have HSe := hid (HSd.out.step (Keeps.trans (G := [w.heap.size + 1]) (by exact Keeps.K) hk (fun _ _ h => h)) hrd)
  clear hrd hk hr hsv
  obtain ⟨⟨x0, x1, x2, x3, x4⟩, f0⟩ := blk5 HSe.out.row
  go_wp2_with fail
  have HS : Hid (RpSt 95 (w.heap.size + 1) (w.heap.size + 1 + 1) a q bs w (((wv.setCell ⟨w.heap.size + 1 + 1, 2, none⟩ (.int .i64 vk)).setCell ⟨w.heap.size + 1 + 1, 3, none⟩ (.int .i64 vn)).setCell ⟨w.heap.size + 1 + 1, 4, none⟩ (.string vs)) ⟨er, nn, ⟨vk, vn, vs⟩⟩ p2 b2) := HSe.out.set (by exact Keeps.K) (heap_setCell_same _ _ 4 _ _ _ (heap_setCell_same _ _ 3 _ _ _ (heap_setCell_same _ _ 2 _ _ _ (HSe.out.row))))
  clear x0 x1 x2 x3 x4 f0
  have HRAW : Hid (rawR bs = (⟨er, nn, ⟨vk, vn, vs⟩⟩, p2, b2)) := by
    show _ = _
    unfold rawR
    rw [HRer.out]
    dsimp only
    rw [HRnn.out]
    dsimp only
    rw [HRv.out]
  refine (r3REnd_any _ a q bs p2 b2 _ (HS.out.rd.k (by exact Keeps.K))).mono ?_
  rintro e w5 ⟨rfl, hk⟩
  have HS5 := hid (HS.out.k (Keeps.trans (G := []) (by exact Keeps.K) hk (fun _ _ h => h)))
  clear hk
  obtain ⟨⟨x0, x1, x2, x3, x4⟩, f0⟩ := blk5 HS5.out.row
  obtain ⟨⟨y0, y1, y2, y3, y4⟩, g0⟩ := blk5 HS5.out.res
  by_cases hok : b2 = false ∧ p2 = bs.length
  · have hb1 : (!b2 && p2 == bs.length) = true := by rw [hok.1, hok.2]; simp
    rw [hb1]
    have HG : Hid (getR bs = if checkR ⟨er, nn, ⟨vk, vn, vs⟩⟩ = true then (⟨er, nn, ⟨vk, vn, vs⟩⟩, true) else (zeroR, false)) := by
      show _ = _
      unfold getR
      rw [HRAW.out]
      dsimp only
      by_cases hc : checkR ⟨er, nn, ⟨vk, vn, vs⟩⟩ = true
      · rw [if_pos ⟨hok.1, hok.2, hc⟩, if_pos hc]
      · rw [if_neg (fun h => hc h.2.2), if_neg hc]
    clear hb1 hok
    go_wp2_with fail
    refine (r14CheckR_any ⟨er, nn, ⟨vk, vn, vs⟩⟩ w5 (HT.out.k HS5.out.keeps)).mono ?_
    rintro e w6 ⟨rfl, hk⟩
    have HS6 := hid (HS5.out.k hk)
    clear hk x0 x1 x2 x3 x4 f0 y0 y1 y2 y3 y4 g0
    obtain ⟨⟨x0, x1, x2, x3, x4⟩, f0⟩ := blk5 HS6.out.row
    obtain ⟨⟨y0, y1, y2, y3, y4⟩, g0⟩ := blk5 HS6.out.res
    obtain ⟨cc, hcc⟩ : ∃ cc, checkR ⟨er, nn, ⟨vk, vn, vs⟩⟩ = cc := ⟨_, rfl⟩
    rw [hcc] at HG ⊢
    clear hcc
    rcases cc with _ | _
    · go_wp2_with fail
      refine bodyPost_ret (v := .tuple #[replyV zeroR, .bool false]) (by simp [results, Tryz.results27, go_sem, replyV, zeroR, y0, y1, y2, y3, y4]) rfl ?_
      rw [HG.out]
      exact ⟨rfl, HS6.out.keeps.trans (G := [w.heap.size]) (by exact Keeps.K) (fun x hx hx' => by simp at hx'; omega)⟩
    · go_wp2_with fail
      refine bodyPost_ret (v := .tuple #[replyV ⟨er, nn, ⟨vk, vn, vs⟩⟩, .bool true]) (by simp [results, Tryz.results27, go_sem, replyV, zeroR, y0, y1, y2, y3, y4]) rfl ?_
      rw [HG.out]
      exact ⟨rfl, HS6.out.keeps.trans (G := [w.heap.size]) (by exact Keeps.K) (fun x hx hx' => by simp at hx'; omega)⟩
  · have hb1 : (!b2 && p2 == bs.length) = false := by
      rcases hb : b2 with _ | _
      · have : p2 ≠ bs.length := fun h => hok ⟨hb, h⟩
        simp [this]
      · simp
    rw [hb1]
    have HG : Hid (getR bs = (zeroR, false)) := by
      show _ = _
      unfold getR
      rw [HRAW.out]
      exact if_neg (fun h => hok ⟨h.1, h.2.1⟩)
    clear hb1 hok
    go_wp2_with fail
    refine bodyPost_ret (v := .tuple #[replyV zeroR, .bool false]) (by simp [results, Tryz.results27, go_sem, replyV, zeroR, y0, y1, y2, y3, y4]) rfl ?_
    rw [HG.out]
    exact ⟨rfl, HS5.out.keeps.trans (G := [w.heap.size]) (by exact Keeps.K) (fun x hx hx' => by simp at hx'; omega)⟩

end Go.Proofs.YtbbdmmhpbeleoaaGreatDoor

/- The laws of commands: short, awake. -/
namespace Go.Proofs.YtbbdmmhpbeleoaaGreatDoor
open Go Go.RowKit

def oneC : CmdD := ⟨1, 0, 0, ⟨#[]⟩, 0, ⟨0, 0, ⟨#[]⟩⟩⟩
theorem put2 : putC oneC = [2] := by
  unfold putC oneC
  dsimp only
  rw [if_pos rfl, List.append_nil]
  show Lib.uvarint (Lib.zigzag 1) = [2]
  rw [show Lib.zigzag 1 = 2 from rfl, Lib.uvarint_small (by decide)]
  rfl
theorem check2 : checkC oneC = true := by simp [checkC, oneC, noneV, emptyB]
theorem get2 : getC [2] = (oneC, true) := by
  have h := getC_put oneC check2 (by constructor <;> decide) (by constructor <;> decide)
  rw [put2] at h
  exact h
theorem wide1 : CmdW oneC := ⟨by constructor <;> decide, by constructor <;> decide, by constructor <;> decide, by constructor <;> decide, by constructor <;> decide, by constructor <;> decide, by show (0 : Nat) ≤ _; decide, by show (0 : Nat) ≤ _; decide⟩
def shortC (c : CmdD) : Bool := decide (c.field.size ≤ 1000) && decide (c.value.s.size ≤ 1000)

set_option maxRecDepth 100000 in
theorem short14_any (c : CmdD) (w : World) : Calls Tryz.prog 13 #[cmdV c] w fun e w' => e = .returned (.bool (shortC c)) ∧ Keeps [] w w' := by
  obtain ⟨kd, se, sq, fd, vr, vk, vn, vs⟩ := c
  have HS : Hid (∀ b, b = shortC ⟨kd, se, sq, fd, vr, vk, vn, vs⟩ → Ending.returned (.bool b) = .returned (.bool (shortC ⟨kd, se, sq, fd, vr, vk, vn, vs⟩))) := fun b h => by rw [h]
  unfold cmdV
  dsimp only
  go_enter Tryz.func13, Tryz.ntmps13
  go_wp2_with fail
  all_goals
    go_ret
    refine ⟨HS.out _ ?_, by exact Keeps.K⟩
    clear HS
    unfold shortC
    dsimp only
    by_cases a1 : fd.size ≤ 1000 <;> by_cases a2 : vs.size ≤ 1000 <;> simp_all <;> omega

set_option maxRecDepth 100000 in
set_option maxHeartbeats 4000000 in
theorem awake14_any (w : World) (hT : Tabs w) (hE : Errs w) : Calls Tryz.prog 15 #[] w fun e w' => e = .returned (.bool true) ∧ Keeps [] w w' := by
  have HT := hid hT
  have HE := hid hE
  clear hT hE
  go_enter Tryz.func15, Tryz.ntmps15
  go_wp2_with fail
  refine (cmGet_any (.slice (some ⟨w.heap.size, 0, none⟩) 1 1) [2] _ (HT.out.k (by exact Keeps.K)) (HE.out.k (by exact Keeps.K)) (Reads.one1 (heap_alloc_new _ _) rfl) (by decide)).mono ?_
  rintro e w1 ⟨rfl, hk⟩
  rw [get2]
  have K1 : Hid (Keeps [] w w1) := Keeps.trans (by exact Keeps.K) hk (fun _ _ h => h)
  clear hk
  unfold cmdV oneC
  dsimp only
  go_wp2_with fail
  refine (cmPut_any oneC wide1 _).mono ?_
  rintro e w2 ⟨a, q, rfl, h1, hk⟩
  rw [List.nil_append, put2] at h1 ⊢
  have cv : (convert 28 9 (.slice a 1 q)).run Tryz.prog w2 = .ok (.string ⟨#[2]⟩) w2 := run_convert_str w2 28 9 5 _ _ Tryz.underlying28 Tryz.underlying5 Tryz.underlying9 (Reads.ofOwn h1)
  have x0 : w2.cell? ⟨w1.heap.size, 0, none⟩ = some (.int .i64 1) := hk.cellSome (by go_simp) (by simp)
  have x1 : w2.cell? ⟨w1.heap.size, 1, none⟩ = some (.int .i64 0) := hk.cellSome (by go_simp) (by simp)
  have x2 : w2.cell? ⟨w1.heap.size, 2, none⟩ = some (.int .i64 0) := hk.cellSome (by go_simp) (by simp)
  have x3 : w2.cell? ⟨w1.heap.size, 3, none⟩ = some (.string ⟨#[]⟩) := hk.cellSome (by go_simp) (by simp)
  have x4 : w2.cell? ⟨w1.heap.size, 4, none⟩ = some (.int .i64 0) := hk.cellSome (by go_simp) (by simp)
  have x5 : w2.cell? ⟨w1.heap.size, 5, none⟩ = some (.int .i64 0) := hk.cellSome (by go_simp) (by simp)
  have x6 : w2.cell? ⟨w1.heap.size, 6, none⟩ = some (.int .i64 0) := hk.cellSome (by go_simp) (by simp)
  have x7 : w2.cell? ⟨w1.heap.size, 7, none⟩ = some (.string ⟨#[]⟩) := hk.cellSome (by go_simp) (by simp)
  have K2 : Hid (Keeps [] w w2) := K1.out.trans (Keeps.trans (G := []) (by exact Keeps.K) hk (fun _ _ h => h)) (fun _ _ h => h)
  clear hk h1
  go_wp2_with fail
  refine (cmCheck_any oneC _ (HT.out.k K2.out) (HE.out.k K2.out) (by show (0 : Nat) ≤ _; decide)).mono ?_
  rintro e w3 ⟨rfl, hk⟩
  rw [check2]
  have K3 : Hid (Keeps [] w w3) := K2.out.trans hk (fun _ _ h => h)
  clear hk
  go_wp2_with fail
  go_ret
  exact ⟨rfl, K3.out⟩

end Go.Proofs.YtbbdmmhpbeleoaaGreatDoor

/- THE FRAME OF A LAW: a call that answers true and leaves all that was there as it was makes the row. No function is named here. -/
namespace Go.Proofs.YtbbdmmhpbeleoaaGreatDoor
open Go Go.RowKit Go.WideShapes Go.ChangeShapes Go.ChangeAt

theorem Tryz.own : ownKnob Tryz.prog.godebug = none := by kernel_rfl
theorem Tryz.laidOut : laidOutB Tryz.prog = true := by kernel_rfl

section
variable {H : Type} {enc : TypeId × Value → H} {P : Program}

/-- The arguments read as they did: below the heap's old size nothing has turned. -/
theorem below_trodAll (hl : laidOutB P = true) {W W' : World} (hb : Below W.heap.size W W') (sp : Nat → Bool) : ∀ (ts : List TypeId) (vs : List Value) (ds : List (DataW H)) (ps : List MemPlace),
    (ts.all fun t => P.readableRec t && decide (t < P.types.size)) = true → DataW.TrodAll enc P W 0 (fun _ => true) true ts vs ds ps → (∀ p ∈ ps, p.block < W.heap.size) → (∀ p ∈ ps, sp p.block = true) → DataW.TrodAll enc P W' 0 sp true ts vs ds ps
  | [], [], [], _, _, h, _, _ => h
  | t :: ts, v :: vs, d :: ds, ps, hr, h, hlt, hsp => by
    obtain ⟨p, q, h1, h2, rfl⟩ := h
    simp only [List.all_cons, Bool.and_eq_true, decide_eq_true_eq] at hr
    exact ⟨p, q, WideElems.Trod_stays hl hr.1.1 hr.1.2 h1 (fun x hx => hb.same (hlt x (List.mem_append_left _ hx))) (fun x hx => hsp x (List.mem_append_left _ hx)),
      below_trodAll hl hb sp ts vs ds q hr.2 h2 (fun x hx => hlt x (List.mem_append_right _ hx)) (fun x hx => hsp x (List.mem_append_right _ hx)), rfl⟩
  | [], [], _ :: _, _, _, h, _, _ => h.elim
  | [], _ :: _, _, _, _, h, _, _ => h.elim
  | _ :: _, [], _, _, _, h, _, _ => h.elim
  | _ :: _, _ :: _, [], _, _, h, _, _ => h.elim

theorem trodAll_length {W : World} {sp : Nat → Bool} {b : Nat} {hd : Bool} : ∀ (ts : List TypeId) (vs : List Value) (ds : List (DataW H)) (ps : List MemPlace), DataW.TrodAll enc P W b sp hd ts vs ds ps → ds.length = ts.length
  | [], [], [], _, _ => rfl
  | t :: ts, v :: vs, d :: ds, ps, h => by
    obtain ⟨p, q, _, h2, _⟩ := h
    simp [trodAll_length ts vs ds q h2]
  | [], [], _ :: _, _, h => h.elim
  | [], _ :: _, _, _, h => h.elim
  | _ :: _, [], _, _, h => h.elim
  | _ :: _, _ :: _, [], _, h => h.elim

/-- The post of a law. -/
theorem law_post {f : Func} {s : ChangeSpec} {tb : TypeId} {fresh handsOn : Bool} {W W' : World} {args : Array Value} {ds gs : List (DataW H)} {before : List MemPlace} (hl : laidOutB P = true) (htb : P.underlying tb = some .bool) (hres : f.resultTypes = #[tb])
    (hvars : s.vars = []) (hall : (f.params.toList.all fun t => P.readableRec t && decide (t < P.types.size)) = true) (hspec : ∀ ds : List (DataW H), ds.length = f.params.size → s.fn H ds = { results := [.lit (.bool true)], args := ds })
    (hW : DataW.Whole enc P f.params.toList s.vars false W args.toList ds gs before) (hb : Below W.heap.size W W') : s.post enc P f false fresh handsOn false W args (.bool true) W' := by
  have hlt : ∀ p ∈ before, p.block < W.heap.size := fun p hp => hW.lt p hp
  have hold : ∀ p ∈ before, (fun b => decide (b < W.heap.size)) p.block = true := fun p hp => by simpa using hlt p hp
  have hW' := hW
  obtain ⟨p, q, hA, hV, rfl, hz, hn⟩ := hW
  rw [hvars] at hV
  obtain ⟨rfl, rfl⟩ := trodVars_none hV
  have hln : ds.length = f.params.size := by rw [trodAll_length _ _ _ _ hA]; simp
  have hsp : s.fn H (ds ++ []) = { results := [.lit (.bool true)], args := ds } := by rw [List.append_nil]; exact hspec ds hln
  rw [List.append_nil] at hlt hold hW'
  refine ⟨ds, [], p, [], p, [], hW', ?_, ?_, ?_, World.keptBut_mono (fun x hx => ⟨hx, by simpa using hx⟩) (hb.frame (· ∈ p)), fun h => by cases h⟩
  · rw [hsp, hres]
    exact trodAll_mk1 (shut_bool htb true)
  · rw [hsp]
    exact below_trodAll hl hb _ _ _ _ _ hall hA hlt hold
  · rw [hvars]
    have e : (s.fn H (ds ++ [])).vars = [] := by rw [hsp]
    rw [e]
    rfl
end

set_option maxRecDepth 100000 in
/-- From the contract to the row's premise. -/
theorem law_lifted {k : FuncId} {fn : Func} {s : ChangeSpec} {fresh handsOn : Bool} (os : Os) (started : os.Started) (H : Type) (enc : TypeId × Value → H)
    (noInit : Tryz.checked.prog.inits.idxOf? k = none) (hfn : Tryz.checked.prog.funcs[k]? = some fn) (hres : fn.resultTypes = #[4]) (hvars : s.vars = []) (hall : (fn.params.toList.all fun t => Tryz.prog.readableRec t && decide (t < Tryz.prog.types.size)) = true)
    (hspec : ∀ ds : List (DataW H), ds.length = fn.params.size → s.fn H ds = { results := [.lit (.bool true)], args := ds })
    (witness : ∃ (w : World) (tape : Tape) (i : Input), w.os = os ∧ (w.forCall tape i).Shaped Tryz.checked.prog ∧ i.vars = [] ∧ Input.okWide Tryz.checked.prog (w.forCall tape i) .any w.heap.size k i ∧
      s.pre6 enc Tryz.checked.prog fn [] false (w.forCall tape i).memory i.args ∧ ({} : Assume).holds Tryz.checked.prog (lone (Frame.enter Tryz.checked.prog k i.args .normal) [] (w.forCall tape i)))
    (contract : ∀ (W : World) (base : Nat) (args : Array Value) (ds : List (DataW H)) (p : List MemPlace), (∀ (j : Nat) t v, fn.params[j]? = some t → args[j]? = some v → Value.okWide Tryz.prog W .any base t v) →
      DataW.TrodAll enc Tryz.prog W 0 (fun _ => true) true fn.params.toList args.toList ds p → (∀ x ∈ p, x.block < W.heap.size) → Calls Tryz.prog k args W fun e W' => e = .returned (.bool true) ∧ Below W.heap.size W W') :
    ReturnsInHanded {} Tryz.checked os k .any (s.pre6 enc Tryz.prog fn [] false) (s.post enc Tryz.prog fn false fresh handsOn false) := by
  refine returnsInHanded_of_change (C := Tryz.checked) Tryz.own started noInit hfn witness ?_
  intro W base args ds gs before hval0 hW _ _
  have hlt : ∀ x ∈ before, x.block < W.heap.size := fun x hx => hW.lt x hx
  have hW' := hW
  obtain ⟨p, q, hA, hV, rfl, hz, hn⟩ := hW
  refine (contract W base args ds p hval0 hA (fun x hx => hlt x (List.mem_append_left _ hx))).mono fun e W' ⟨he, hb⟩ => ?_
  subst he
  exact ⟨_, rfl, law_post Tryz.laidOut Tryz.underlying4 hres hvars hall hspec hW' hb⟩

end Go.Proofs.YtbbdmmhpbeleoaaGreatDoor

/- THE FRAME OF A LAW whose row lists the library's tables: a call that answers true and leaves all that was there as it was makes the row. No function is named here. -/
namespace Go.Proofs.YtbbdmmhpbeleoaaGreatDoor
open Go Go.RowKit Go.WideShapes Go.ChangeShapes Go.ChangeAt

theorem Tryz.u8Extra : U8Extra Tryz.prog Tryz.lays260_ren := { n3 := by kernel_rfl, n4 := by kernel_rfl, y3 := by kernel_rfl, y4 := by kernel_rfl, c5 := by kernel_rfl, c119 := by kernel_rfl, c138 := by kernel_rfl }
theorem first_data : Rows.laid_unicode_utf8_first = Lib.firstData := by kernel_rfl
theorem accept_data : (Rows.laid_unicode_utf8_acceptRanges : DataW Unit) = Lib.acceptData := by kernel_rfl
theorem pow_data : (Rows.laid_internal_strconv_uint64pow10 : DataW Unit) = Lib.tabData .u64 Lib.pow10Tab := by kernel_rfl
theorem tabs_of_laid {l : List (String × DataW Unit)} {W : World} (h : laidMet Tryz.prog l W) (h1 : ("unicode/utf8.first", Rows.laid_unicode_utf8_first) ∈ l) (h2 : ("unicode/utf8.acceptRanges", Rows.laid_unicode_utf8_acceptRanges) ∈ l) (h3 : ("internal/strconv.uint64pow10", Rows.laid_internal_strconv_uint64pow10) ∈ l) : Tabs W := by
  rw [first_data] at h1
  rw [accept_data] at h2
  rw [pow_data] at h3
  refine ⟨utf8Tabs_of_reads Tryz.lays260 Tryz.u8Extra (Lib.laidMet.reads h h1) (Lib.laidMet.reads h h2), ?_⟩
  obtain ⟨g, t, cs, fuel, p, hg, hty, hvar, hd⟩ := Lib.laidMet.reads h h3
  obtain rfl := Option.some.inj ((show Tryz.prog.globalNamed "internal/strconv.uint64pow10" = some 5 by kernel_rfl).symm.trans hg)
  obtain rfl := Option.some.inj ((show (Tryz.prog.globals[5]?).map (·.type) = some 194 by kernel_rfl).symm.trans hty)
  unfold Lib.TabIs
  rw [hvar, ← Lib.cells_of_tab Tryz.underlying194 Tryz.underlying112 (by kernel_rfl) (by kernel_rfl) hd]

set_option maxRecDepth 100000 in
/-- From the contract to the row's premise, where variables are listed. -/
theorem laid_lifted {k : FuncId} {fn : Func} {s : ChangeSpec} {fresh handsOn : Bool} {l : List (String × DataW Unit)} (os : Os) (started : os.Started) (H : Type) (enc : TypeId × Value → H)
    (noInit : Tryz.checked.prog.inits.idxOf? k = none) (hfn : Tryz.checked.prog.funcs[k]? = some fn) (hres : fn.resultTypes = #[4]) (hvars : s.vars = []) (hall : (fn.params.toList.all fun t => Tryz.prog.readableRec t && decide (t < Tryz.prog.types.size)) = true)
    (hspec : ∀ ds : List (DataW H), ds.length = fn.params.size → s.fn H ds = { results := [.lit (.bool true)], args := ds })
    (witness : ∃ (w : World) (tape : Tape) (i : Input), w.os = os ∧ (w.forCall tape i).Shaped Tryz.checked.prog ∧ i.vars = [] ∧ Input.okWide Tryz.checked.prog (w.forCall tape i) .any w.heap.size k i ∧
      ((s.pre enc Tryz.checked.prog fn [] false (w.forCall tape i).memory i.args ∧ laidMetH Tryz.prog l (w.forCall tape i).memory) ∧ sizedMet enc Tryz.checked.prog fn (OpenSpec.ofChange s) false (w.forCall tape i).memory i.args) ∧ ({} : Assume).holds Tryz.checked.prog (lone (Frame.enter Tryz.checked.prog k i.args .normal) [] (w.forCall tape i)))
    (contract : ∀ (W : World) (base : Nat) (args : Array Value) (ds : List (DataW H)) (p : List MemPlace), (∀ (j : Nat) t v, fn.params[j]? = some t → args[j]? = some v → Value.okWide Tryz.prog W .any base t v) →
      DataW.TrodAll enc Tryz.prog W 0 (fun _ => true) true fn.params.toList args.toList ds p → (∀ x ∈ p, x.block < W.heap.size) → laidMetH Tryz.prog l W → Calls Tryz.prog k args W fun e W' => e = .returned (.bool true) ∧ Below W.heap.size W W') :
    ReturnsInHanded {} Tryz.checked os k .any (fun w args => (s.pre enc Tryz.prog fn [] false w args ∧ laidMetH Tryz.prog l w) ∧ sizedMet enc Tryz.prog fn (OpenSpec.ofChange s) false w args) (s.post enc Tryz.prog fn false fresh handsOn false) := by
  refine returnsInHanded_of_change_and (C := Tryz.checked) (X := fun w _ => laidMetH Tryz.prog l w) (fun _ _ _ hh h => h.of_heap hh) Tryz.own started noInit hfn witness ?_
  intro W base args ds gs before hval0 hW hc _ hL _
  have hlt : ∀ x ∈ before, x.block < W.heap.size := fun x hx => hW.lt x hx
  have hW' := hW
  obtain ⟨p, q, hA, hV, rfl, hz, hn⟩ := hW
  refine (contract W base args ds p hval0 hA (fun x hx => hlt x (List.mem_append_left _ hx)) hL).mono fun e W' ⟨he, hb⟩ => ?_
  subst he
  exact ⟨_, rfl, law_post Tryz.laidOut Tryz.underlying4 hres hvars hall hspec hW' hb⟩

end Go.Proofs.YtbbdmmhpbeleoaaGreatDoor

/- A value that comes in, opened. No function is named here. -/
namespace Go.Proofs.YtbbdmmhpbeleoaaGreatDoor
open Go Go.RowKit Go.WideShapes Go.ChangeShapes Go.ChangeAt

theorem i64_of_wf {n : Int} (h : (Lit.int .i64 n).wf = true) : I64 n := by
  have e1 : IntKind.i64.min = -9223372036854775808 := by rfl
  have e2 : IntKind.i64.max = 9223372036854775807 := by rfl
  simp [Lit.wf, e1, e2] at h
  exact ⟨by omega, by omega⟩
theorem maxLen_le {n : Nat} (h : n ≤ maxLen) : n ≤ 9223372036854775807 := by unfold maxLen at h; omega

section
variable {H : Type} {enc : TypeId × Value → H}
set_option maxRecDepth 100000 in
theorem open_val_arg {w : World} {r : Reach} {b0 : Nat} {v : Value} {d : DataW H} {p : List MemPlace} (hv : Value.okWide Tryz.prog w r b0 23 v) (h : DataW.Trod enc Tryz.prog w 0 (fun _ => true) true 23 v d p) :
    ∃ x : ValD, v = valV x ∧ I64 x.kind ∧ I64 x.n ∧ x.s.size ≤ 9223372036854775807 := by
  obtain ⟨v0, v1, v2, y0, y1, y2, n, rfl, _, _, h0, h1, h2⟩ := Joins.open_agg3 Tryz.underlying23 (by kernel_rfl) (by kernel_rfl) hv h
  obtain ⟨a, e0, x0, w0⟩ := DataW.trod_int Tryz.underlying3 h0
  obtain ⟨b, e1, x1, w1⟩ := DataW.trod_int Tryz.underlying2 h1
  obtain ⟨s, e2, x2, w2⟩ := DataW.trod_string Tryz.underlying9 h2
  simp at e0 e1 e2
  subst e0 e1 e2
  exact ⟨⟨a, b, s⟩, rfl, i64_of_wf w0, i64_of_wf w1, maxLen_le w2⟩
end

end Go.Proofs.YtbbdmmhpbeleoaaGreatDoor
