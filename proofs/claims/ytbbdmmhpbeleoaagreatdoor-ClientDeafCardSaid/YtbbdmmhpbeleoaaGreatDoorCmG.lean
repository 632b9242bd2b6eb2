/- A command that is read: plain; as the program reads it. -/
import Derived.Test.YtbbdmmhpbeleoaaGreatDoorQ21
import Derived.Test.YtbbdmmhpbeleoaaGreatDoorRdE

set_option linter.unusedSimpArgs false
set_option linter.unusedVariables false
namespace Go.Proofs.YtbbdmmhpbeleoaaGreatDoor
open Go Go.RowKit

def zeroC : CmdD := ⟨0, 0, 0, ⟨#[]⟩, 0, ⟨0, 0, ⟨#[]⟩⟩⟩
/-- What stands behind the kind: session, number. -/
def raw1 (bs : List UInt8) (k : Int) (p : Nat) (b : Bool) : Int × Int × Nat × Bool :=
  if k = 1 then (0, 0, p, b) else
    match rdD bs p b with
    | (se, p1, b1) => match rdD bs p1 b1 with
      | (sq, p2, b2) => (se, sq, p2, b2)
/-- The field's name. -/
def raw2 (bs : List UInt8) (k : Int) (p : Nat) (b : Bool) : List UInt8 × Nat × Bool :=
  if k = 2 ∨ k = 4 then rtextD bs p b 24 else ([], p, b)
/-- The version, the value. -/
def raw3 (bs : List UInt8) (k : Int) (p : Nat) (b : Bool) : Int × ValD × Nat × Bool :=
  if k = 2 then
    match rdD bs p b with
    | (vr, p1, b1) => match getD bs p1 b1 with
      | (v, p2, b2) => (vr, v, p2, b2)
  else (0, ⟨0, 0, ⟨#[]⟩⟩, p, b)
def rawC (bs : List UInt8) : CmdD × Nat × Bool :=
  match rdD bs 0 false with
  | (k, p, b) => match raw1 bs k p b with
    | (se, sq, p1, b1) => match raw2 bs k p1 b1 with
      | (fd, p2, b2) => match raw3 bs k p2 b2 with
        | (vr, v, p3, b3) => (⟨k, se, sq, str fd, vr, v⟩, p3, b3)
/-- The command that bytes are, and whether they are one. -/
def getC (bs : List UInt8) : CmdD × Bool := if (rawC bs).2.2 = false ∧ (rawC bs).2.1 = bs.length ∧ checkC (rawC bs).1 = true then ((rawC bs).1, true) else (zeroC, false)
/-- The command under way at block m, the reader at block n. -/
structure GetSt (m n : Nat) (a : Option Addr) (q : Nat) (bs : List UInt8) (w wr : World) (c : CmdD) (p : Nat) (b : Bool) : Prop where
  row : wr.heap[m]? = some (.cells #[.int .i64 c.kind, .int .i64 c.session, .int .i64 c.seq, .string c.field, .int .i64 c.version, .int .i64 c.value.kind, .int .i64 c.value.n, .string c.value.s] 25 (0, 0))
  res : wr.heap[w.heap.size]? = some (.cells #[.int .i64 0, .int .i64 0, .int .i64 0, .string ⟨#[]⟩, .int .i64 0, .int .i64 0, .int .i64 0, .string ⟨#[]⟩] 25 (0, 0))
  rd : RdAt 115 wr n a q bs p b
  keeps : Keeps [] w wr
  apart : w.heap.size < n ∧ n < m ∧ ∀ x ∈ ownB (.slice a bs.length q), w.heap.size < x ∧ x < m

theorem getD_short (bs : List UInt8) (p : Nat) (b : Bool) : (getD bs p b).1.s.size ≤ 400 := by
  unfold getD
  obtain ⟨⟨k, q, b1⟩, h1⟩ : ∃ r, rdD bs p b = r := ⟨_, rfl⟩
  rw [h1]
  dsimp only
  obtain ⟨⟨n, q2, b2⟩, h2⟩ : ∃ r, rdD bs q b1 = r := ⟨_, rfl⟩
  rw [h2]
  dsimp only
  obtain ⟨⟨s, q3, b3⟩, h3⟩ : ∃ r, rtextD bs q2 b2 400 = r := ⟨_, rfl⟩
  rw [h3]
  dsimp only
  split
  · show (⟨#[]⟩ : ByteArray).size ≤ 400
    decide
  · have := rtextD_len bs q2 b2 (by decide) h3
    show s.length ≤ 400
    omega
theorem GetSt.step {m n : Nat} {a : Option Addr} {q : Nat} {bs : List UInt8} {w wr w' : World} {c : CmdD} {p p' : Nat} {b b' : Bool} (H : GetSt m n a q bs w wr c p b) (k : Keeps [n] wr w') (h : RdAt 115 w' n a q bs p' b') : GetSt m n a q bs w w' c p' b' :=
  ⟨(k.block _ (Array.getElem?_eq_some_iff.1 H.row).1 (by have := H.apart; simp; omega)).trans H.row, (k.block _ (Array.getElem?_eq_some_iff.1 H.res).1 (by have := H.apart; simp; omega)).trans H.res, h, H.keeps.trans k (fun x hx hx' => by have := H.apart; simp at hx'; omega), H.apart⟩
theorem GetSt.k {m n : Nat} {a : Option Addr} {q : Nat} {bs : List UInt8} {w wr w' : World} {c : CmdD} {p : Nat} {b : Bool} (H : GetSt m n a q bs w wr c p b) (k : Keeps [] wr w') : GetSt m n a q bs w w' c p b :=
  ⟨(k.block _ (Array.getElem?_eq_some_iff.1 H.row).1 (by simp)).trans H.row, (k.block _ (Array.getElem?_eq_some_iff.1 H.res).1 (by simp)).trans H.res, H.rd.k k, H.keeps.trans k (fun _ _ h => h), H.apart⟩
theorem GetSt.set {m n : Nat} {a : Option Addr} {q : Nat} {bs : List UInt8} {w wr w' : World} {c c' : CmdD} {p : Nat} {b : Bool} (H : GetSt m n a q bs w wr c p b) (k : Keeps [m] wr w') (h : w'.heap[m]? = some (.cells #[.int .i64 c'.kind, .int .i64 c'.session, .int .i64 c'.seq, .string c'.field, .int .i64 c'.version, .int .i64 c'.value.kind, .int .i64 c'.value.n, .string c'.value.s] 25 (0, 0))) : GetSt m n a q bs w w' c' p b :=
  ⟨h, (k.block _ (Array.getElem?_eq_some_iff.1 H.res).1 (by have := H.apart; simp; omega)).trans H.res, H.rd.kk k (by have := H.apart; simp; omega) (fun x hx => by have := H.apart.2.2 x hx; simp; omega), H.keeps.trans k (fun x hx hx' => by have := H.apart; simp at hx'; omega), H.apart⟩

set_option maxRecDepth 100000 in
set_option maxHeartbeats 8000000 in
theorem cmGet_any (v0 : Value) (bs : List UInt8) (w : World) (hT : Tabs w) (hE : Errs w) (hr : Reads w 1 v0 bs.length (u8s bs)) (hb : bs.length ≤ 140737488355328) :
    Calls Tryz.prog 17 #[v0] w fun e w' => e = .returned (.tuple #[cmdV (getC bs).1, .bool (getC bs).2]) ∧ Keeps [] w w' := by
  have HT := hid hT
  have HE := hid hE
  have HR := hid hr
  clear hT hE hr
  go_enter Tryz.func17, Tryz.ntmps17
  go_wp2_with fail
  refine (wNew_any v0 bs _ (Reads.k0 HR.out (by exact Keeps.K)) hb).mono ?_
  rintro e w1 ⟨n, a, q, rfl, hn, hrd, hk, hown⟩
  have K1 : Hid (Keeps [] w w1) := Keeps.trans (G := []) (by exact Keeps.K) hk (fun _ _ h => h)
  have HRD := hid hrd
  have HOWN := hid hown
  have HRES : Hid (w1.heap[w.heap.size]? = some (.cells #[.int .i64 0, .int .i64 0, .int .i64 0, .string ⟨#[]⟩, .int .i64 0, .int .i64 0, .int .i64 0, .string ⟨#[]⟩] 25 (0, 0))) := (hk.block _ (by simp) (by simp)).trans (heap_alloc_new _ _)
  have hn' : w.heap.size + 1 ≤ n := by simpa using hn
  clear hk hrd hown hn
  go_wp2_with fail
  refine (rdInt_any n a q bs 0 false _ (HRD.out.k (by exact Keeps.K))).mono ?_
  obtain ⟨⟨k, p, b⟩, hr1⟩ : ∃ r, rdD bs 0 false = r := ⟨_, rfl⟩
  rw [hr1]
  rintro e w2 ⟨rfl, hrd, hk⟩
  dsimp only at hrd ⊢
  have hn2 : n < w2.heap.size := hrd.lt
  have HRES2 : Hid (w2.heap[w.heap.size]? = some (.cells #[.int .i64 0, .int .i64 0, .int .i64 0, .string ⟨#[]⟩, .int .i64 0, .int .i64 0, .int .i64 0, .string ⟨#[]⟩] 25 (0, 0))) := (hk.block _ (Array.getElem?_eq_some_iff.1 HRES.out).1 (by simp; omega)).trans HRES.out
  have K2 : Hid (Keeps [] w w2) := K1.out.trans hk (fun x hx hx' => by simp at hx'; omega)
  have HR1 := hid hr1
  obtain ⟨m, hm⟩ : ∃ m, w2.heap.size = m := ⟨_, rfl⟩
  have HM := hid hm
  have HS0 : Hid (∀ wx, Keeps [] w2 wx → wx.heap[m]? = some (.cells #[.int .i64 k, .int .i64 0, .int .i64 0, .string ⟨#[]⟩, .int .i64 0, .int .i64 0, .int .i64 0, .string ⟨#[]⟩] 25 (0, 0)) → GetSt m n a q bs w wx ⟨k, 0, 0, ⟨#[]⟩, 0, ⟨0, 0, ⟨#[]⟩⟩⟩ p b) := fun wx g hrow =>
    ⟨hrow, (g.block _ (Array.getElem?_eq_some_iff.1 HRES2.out).1 (by simp)).trans HRES2.out, hrd.k g, K2.out.trans g (fun _ _ h => h), by omega, by omega, fun x hx => by have h1 := HOWN.out x hx; have h2 := hk.size; simp at h1; omega⟩
  clear hk hrd hr1
  by_cases k1 : k = 1
  · subst k1
    have HRAW : Hid (rawC bs = (⟨1, 0, 0, ⟨#[]⟩, 0, ⟨0, 0, ⟨#[]⟩⟩⟩, p, b)) := by
      show _ = _
      unfold rawC
      rw [HR1.out]
      rfl
    go_wp2_with fail
    have HS : Hid (GetSt m n a q bs w (w2.alloc (.cells #[.int .i64 1, .int .i64 0, .int .i64 0, .string ⟨#[]⟩, .int .i64 0, .int .i64 0, .int .i64 0, .string ⟨#[]⟩] 25)) ⟨1, 0, 0, ⟨#[]⟩, 0, ⟨0, 0, ⟨#[]⟩⟩⟩ p b) := HS0.out _ (by exact Keeps.K) (by rw [← HM.out]; exact heap_alloc_new _ _)
    refine (wEnd_any n a q bs p b _ (HS.out.rd.k (by exact Keeps.K))).mono ?_
    rintro e w5 ⟨rfl, hk⟩
    have HS5 := hid (HS.out.k (Keeps.trans (G := []) (by exact Keeps.K) hk (fun _ _ h => h)))
    clear hk
    obtain ⟨⟨x0, x1, x2, x3, x4, x5, x6, x7⟩, f0⟩ := blk8 HS5.out.row
    obtain ⟨⟨y0, y1, y2, y3, y4, y5, y6, y7⟩, g0⟩ := blk8 HS5.out.res
    have hmn : w.heap.size ≠ m := by have := HS5.out.apart; omega
    by_cases hok : b = false ∧ p = bs.length
    · have hb1 : (!b && p == bs.length) = true := by rw [hok.1, hok.2]; simp
      rw [hb1]
      have HG : Hid (getC bs = if checkC ⟨1, 0, 0, ⟨#[]⟩, 0, ⟨0, 0, ⟨#[]⟩⟩⟩ = true then (⟨1, 0, 0, ⟨#[]⟩, 0, ⟨0, 0, ⟨#[]⟩⟩⟩, true) else (zeroC, false)) := by
        show _ = _
        unfold getC
        rw [HRAW.out]
        dsimp only
        by_cases hc : checkC ⟨1, 0, 0, ⟨#[]⟩, 0, ⟨0, 0, ⟨#[]⟩⟩⟩ = true
        · rw [if_pos ⟨hok.1, hok.2, hc⟩, if_pos hc]
        · rw [if_neg (fun h => hc h.2.2), if_neg hc]
      clear hb1 hok
      go_wp2_with fail
      refine (cmCheck_any ⟨1, 0, 0, ⟨#[]⟩, 0, ⟨0, 0, ⟨#[]⟩⟩⟩ w5 (HT.out.k HS5.out.keeps) (HE.out.k HS5.out.keeps) (by show (⟨#[]⟩ : ByteArray).size ≤ _; decide)).mono ?_
      rintro e w6 ⟨rfl, hk⟩
      have HS6 := hid (HS5.out.k hk)
      clear hk x0 x1 x2 x3 x4 x5 x6 x7 f0 y0 y1 y2 y3 y4 y5 y6 y7 g0
      obtain ⟨⟨x0, x1, x2, x3, x4, x5, x6, x7⟩, f0⟩ := blk8 HS6.out.row
      obtain ⟨⟨y0, y1, y2, y3, y4, y5, y6, y7⟩, g0⟩ := blk8 HS6.out.res
      obtain ⟨cc, hcc⟩ : ∃ cc, checkC ⟨1, 0, 0, ⟨#[]⟩, 0, ⟨0, 0, ⟨#[]⟩⟩⟩ = cc := ⟨_, rfl⟩
      rw [hcc] at HG ⊢
      clear hcc
      rcases cc with _ | _
      · go_wp2_with fail
        refine bodyPost_ret (v := .tuple #[cmdV zeroC, .bool false]) (by simp [results, Tryz.results17, go_sem, cmdV, zeroC, y0, y1, y2, y3, y4, y5, y6, y7]) rfl ?_
        rw [HG.out]
        exact ⟨rfl, HS6.out.keeps.trans (G := [w.heap.size]) (by exact Keeps.K) (fun x hx hx' => by simp at hx'; omega)⟩
      · go_wp2_with fail
        refine bodyPost_ret (v := .tuple #[cmdV ⟨1, 0, 0, ⟨#[]⟩, 0, ⟨0, 0, ⟨#[]⟩⟩⟩, .bool true]) (by simp [results, Tryz.results17, go_sem, cmdV, y0, y1, y2, y3, y4, y5, y6, y7]) rfl ?_
        rw [HG.out]
        exact ⟨rfl, HS6.out.keeps.trans (G := [w.heap.size]) (by exact Keeps.K) (fun x hx hx' => by simp at hx'; omega)⟩
    · have hb1 : (!b && p == bs.length) = false := by
        rcases hb : b with _ | _
        · have : p ≠ bs.length := fun h => hok ⟨hb, h⟩
          simp [this]
        · simp
      rw [hb1]
      have HG : Hid (getC bs = (zeroC, false)) := by
        show _ = _
        unfold getC
        rw [HRAW.out]
        exact if_neg (fun h => hok ⟨h.1, h.2.1⟩)
      clear hb1 hok
      go_wp2_with fail
      refine bodyPost_ret (v := .tuple #[cmdV zeroC, .bool false]) (by simp [results, Tryz.results17, go_sem, cmdV, zeroC, y0, y1, y2, y3, y4, y5, y6, y7]) rfl ?_
      rw [HG.out]
      exact ⟨rfl, HS5.out.keeps.trans (G := [w.heap.size]) (by exact Keeps.K) (fun x hx hx' => by simp at hx'; omega)⟩
  · have n1 : (k == 1) = false := by simp; exact k1
    have n1' : (k != 1) = true := by simp; exact k1
    by_cases k2 : k = 2
    · subst k2
      clear k1 n1 n1'
      go_wp2_with fail
      have HSa : Hid (GetSt m n a q bs w (w2.alloc (.cells #[.int .i64 2, .int .i64 0, .int .i64 0, .string ⟨#[]⟩, .int .i64 0, .int .i64 0, .int .i64 0, .string ⟨#[]⟩] 25)) ⟨2, 0, 0, ⟨#[]⟩, 0, ⟨0, 0, ⟨#[]⟩⟩⟩ p b) := HS0.out _ (by exact Keeps.K) (by rw [← HM.out]; exact heap_alloc_new _ _)
      refine (rdInt_any n a q bs p b _ (HSa.out.rd.k (by exact Keeps.K))).mono ?_
      obtain ⟨⟨se, p1, b1⟩, hr⟩ : ∃ r, rdD bs p b = r := ⟨_, rfl⟩
      rw [hr]
      have HRse := hid hr
      rintro e wse ⟨rfl, hrd, hk⟩
      dsimp only at hrd ⊢
      have HSb := hid (HSa.out.step (Keeps.trans (G := [n]) (by exact Keeps.K) hk (fun _ _ h => h)) hrd)
      clear hrd hk hr
      obtain ⟨⟨x0, x1, x2, x3, x4, x5, x6, x7⟩, f0⟩ := blk8 HSb.out.row
      go_wp2_with fail
      have HSc : Hid (GetSt m n a q bs w (wse.setCell ⟨m, 1, none⟩ (.int .i64 se)) ⟨2, se, 0, ⟨#[]⟩, 0, ⟨0, 0, ⟨#[]⟩⟩⟩ p1 b1) := HSb.out.set (by exact Keeps.K) (heap_setCell_same _ m 1 _ _ _ (HSb.out.row))
      clear x0 x1 x2 x3 x4 x5 x6 x7 f0
      refine (rdInt_any n a q bs p1 b1 _ (HSc.out.rd.k (by exact Keeps.K))).mono ?_
      obtain ⟨⟨sq, p2, b2⟩, hr⟩ : ∃ r, rdD bs p1 b1 = r := ⟨_, rfl⟩
      rw [hr]
      have HRsq := hid hr
      rintro e wsq ⟨rfl, hrd, hk⟩
      dsimp only at hrd ⊢
      have HSd := hid (HSc.out.step (Keeps.trans (G := [n]) (by exact Keeps.K) hk (fun _ _ h => h)) hrd)
      clear hrd hk hr
      obtain ⟨⟨x0, x1, x2, x3, x4, x5, x6, x7⟩, f0⟩ := blk8 HSd.out.row
      go_wp2_with fail
      have HSe : Hid (GetSt m n a q bs w (wsq.setCell ⟨m, 2, none⟩ (.int .i64 sq)) ⟨2, se, sq, ⟨#[]⟩, 0, ⟨0, 0, ⟨#[]⟩⟩⟩ p2 b2) := HSd.out.set (by exact Keeps.K) (heap_setCell_same _ m 2 _ _ _ (HSd.out.row))
      clear x0 x1 x2 x3 x4 x5 x6 x7 f0
      refine (wText_any n a q bs p2 b2 24 _ (HSe.out.rd.k (by exact Keeps.K)) (by decide)).mono ?_
      obtain ⟨⟨fd, p3, b3⟩, hr⟩ : ∃ r, rtextD bs p2 b2 24 = r := ⟨_, rfl⟩
      rw [hr]
      have HRfd := hid hr
      rintro e wfd ⟨rfl, hrd, hk⟩
      dsimp only at hrd ⊢
      have HSf := hid (HSe.out.step (Keeps.trans (G := [n]) (by exact Keeps.K) hk (fun _ _ h => h)) hrd)
      clear hrd hk hr
      obtain ⟨⟨x0, x1, x2, x3, x4, x5, x6, x7⟩, f0⟩ := blk8 HSf.out.row
      go_wp2_with fail
      have HSg : Hid (GetSt m n a q bs w (wfd.setCell ⟨m, 3, none⟩ (.string (str fd))) ⟨2, se, sq, str fd, 0, ⟨0, 0, ⟨#[]⟩⟩⟩ p3 b3) := HSf.out.set (by exact Keeps.K) (heap_setCell_same _ m 3 _ _ _ (HSf.out.row))
      clear x0 x1 x2 x3 x4 x5 x6 x7 f0
      refine (rdInt_any n a q bs p3 b3 _ (HSg.out.rd.k (by exact Keeps.K))).mono ?_
      obtain ⟨⟨vr, p4, b4⟩, hr⟩ : ∃ r, rdD bs p3 b3 = r := ⟨_, rfl⟩
      rw [hr]
      have HRvr := hid hr
      rintro e wvr ⟨rfl, hrd, hk⟩
      dsimp only at hrd ⊢
      have HSh := hid (HSg.out.step (Keeps.trans (G := [n]) (by exact Keeps.K) hk (fun _ _ h => h)) hrd)
      clear hrd hk hr
      obtain ⟨⟨x0, x1, x2, x3, x4, x5, x6, x7⟩, f0⟩ := blk8 HSh.out.row
      go_wp2_with fail
      have HSi : Hid (GetSt m n a q bs w (wvr.setCell ⟨m, 4, none⟩ (.int .i64 vr)) ⟨2, se, sq, str fd, vr, ⟨0, 0, ⟨#[]⟩⟩⟩ p4 b4) := HSh.out.set (by exact Keeps.K) (heap_setCell_same _ m 4 _ _ _ (HSh.out.row))
      clear x0 x1 x2 x3 x4 x5 x6 x7 f0
      refine (vGet_any n a q bs p4 b4 _ (HSi.out.rd.k (by exact Keeps.K)) (fun w' g => HT.out.k (HSi.out.keeps.trans (Keeps.trans (G := [n]) (by exact Keeps.K) g (fun _ _ h => h)) (fun x hx hx' => by have := HSi.out.apart; simp at hx'; omega)))).mono ?_
      have hsv := getD_short bs p4 b4
      obtain ⟨⟨⟨vk, vn, vs⟩, p5, b5⟩, hr⟩ : ∃ r, getD bs p4 b4 = r := ⟨_, rfl⟩
      rw [hr] at hsv ⊢
      have HRv := hid hr
      rintro e wv ⟨rfl, hrd, hk⟩
      dsimp only at hrd hsv ⊢
      unfold valV
      dsimp only
      have HSV := hid hsv
      have HSj := hid (HSi.out.step (Keeps.trans (G := [n]) (by exact Keeps.K) hk (fun _ _ h => h)) hrd)
      clear hrd hk hr hsv
      obtain ⟨⟨x0, x1, x2, x3, x4, x5, x6, x7⟩, f0⟩ := blk8 HSj.out.row
      go_wp2_with fail
      have HS : Hid (GetSt m n a q bs w (((wv.setCell ⟨m, 5, none⟩ (.int .i64 vk)).setCell ⟨m, 6, none⟩ (.int .i64 vn)).setCell ⟨m, 7, none⟩ (.string vs)) ⟨2, se, sq, str fd, vr, ⟨vk, vn, vs⟩⟩ p5 b5) := HSj.out.set (by exact Keeps.K) (heap_setCell_same _ m 7 _ _ _ (heap_setCell_same _ m 6 _ _ _ (heap_setCell_same _ m 5 _ _ _ (HSj.out.row))))
      clear x0 x1 x2 x3 x4 x5 x6 x7 f0
      have HRAW : Hid (rawC bs = (⟨2, se, sq, str fd, vr, ⟨vk, vn, vs⟩⟩, p5, b5)) := by
        show _ = _
        unfold rawC
        rw [HR1.out]
        dsimp only
        unfold raw1 raw2 raw3
        simp [HRse.out, HRsq.out, HRfd.out, HRvr.out, HRv.out]
        try rfl
      refine (wEnd_any n a q bs p5 b5 _ (HS.out.rd.k (by exact Keeps.K))).mono ?_
      rintro e w5 ⟨rfl, hk⟩
      have HS5 := hid (HS.out.k (Keeps.trans (G := []) (by exact Keeps.K) hk (fun _ _ h => h)))
      clear hk
      obtain ⟨⟨x0, x1, x2, x3, x4, x5, x6, x7⟩, f0⟩ := blk8 HS5.out.row
      obtain ⟨⟨y0, y1, y2, y3, y4, y5, y6, y7⟩, g0⟩ := blk8 HS5.out.res
      have hmn : w.heap.size ≠ m := by have := HS5.out.apart; omega
      by_cases hok : b5 = false ∧ p5 = bs.length
      · have hb1 : (!b5 && p5 == bs.length) = true := by rw [hok.1, hok.2]; simp
        rw [hb1]
        have HG : Hid (getC bs = if checkC ⟨2, se, sq, str fd, vr, ⟨vk, vn, vs⟩⟩ = true then (⟨2, se, sq, str fd, vr, ⟨vk, vn, vs⟩⟩, true) else (zeroC, false)) := by
          show _ = _
          unfold getC
          rw [HRAW.out]
          dsimp only
          by_cases hc : checkC ⟨2, se, sq, str fd, vr, ⟨vk, vn, vs⟩⟩ = true
          · rw [if_pos ⟨hok.1, hok.2, hc⟩, if_pos hc]
          · rw [if_neg (fun h => hc h.2.2), if_neg hc]
        clear hb1 hok
        go_wp2_with fail
        refine (cmCheck_any ⟨2, se, sq, str fd, vr, ⟨vk, vn, vs⟩⟩ w5 (HT.out.k HS5.out.keeps) (HE.out.k HS5.out.keeps) (Nat.le_trans HSV.out (by decide))).mono ?_
        rintro e w6 ⟨rfl, hk⟩
        have HS6 := hid (HS5.out.k hk)
        clear hk x0 x1 x2 x3 x4 x5 x6 x7 f0 y0 y1 y2 y3 y4 y5 y6 y7 g0
        obtain ⟨⟨x0, x1, x2, x3, x4, x5, x6, x7⟩, f0⟩ := blk8 HS6.out.row
        obtain ⟨⟨y0, y1, y2, y3, y4, y5, y6, y7⟩, g0⟩ := blk8 HS6.out.res
        obtain ⟨cc, hcc⟩ : ∃ cc, checkC ⟨2, se, sq, str fd, vr, ⟨vk, vn, vs⟩⟩ = cc := ⟨_, rfl⟩
        rw [hcc] at HG ⊢
        clear hcc
        rcases cc with _ | _
        · go_wp2_with fail
          refine bodyPost_ret (v := .tuple #[cmdV zeroC, .bool false]) (by simp [results, Tryz.results17, go_sem, cmdV, zeroC, y0, y1, y2, y3, y4, y5, y6, y7]) rfl ?_
          rw [HG.out]
          exact ⟨rfl, HS6.out.keeps.trans (G := [w.heap.size]) (by exact Keeps.K) (fun x hx hx' => by simp at hx'; omega)⟩
        · go_wp2_with fail
          refine bodyPost_ret (v := .tuple #[cmdV ⟨2, se, sq, str fd, vr, ⟨vk, vn, vs⟩⟩, .bool true]) (by simp [results, Tryz.results17, go_sem, cmdV, y0, y1, y2, y3, y4, y5, y6, y7]) rfl ?_
          rw [HG.out]
          exact ⟨rfl, HS6.out.keeps.trans (G := [w.heap.size]) (by exact Keeps.K) (fun x hx hx' => by simp at hx'; omega)⟩
      · have hb1 : (!b5 && p5 == bs.length) = false := by
          rcases hb : b5 with _ | _
          · have : p5 ≠ bs.length := fun h => hok ⟨hb, h⟩
            simp [this]
          · simp
        rw [hb1]
        have HG : Hid (getC bs = (zeroC, false)) := by
          show _ = _
          unfold getC
          rw [HRAW.out]
          exact if_neg (fun h => hok ⟨h.1, h.2.1⟩)
        clear hb1 hok
        go_wp2_with fail
        refine bodyPost_ret (v := .tuple #[cmdV zeroC, .bool false]) (by simp [results, Tryz.results17, go_sem, cmdV, zeroC, y0, y1, y2, y3, y4, y5, y6, y7]) rfl ?_
        rw [HG.out]
        exact ⟨rfl, HS5.out.keeps.trans (G := [w.heap.size]) (by exact Keeps.K) (fun x hx hx' => by simp at hx'; omega)⟩
    · by_cases k4 : k = 4
      · subst k4
        clear k1 n1 n1' k2
        go_wp2_with fail
        have HSa : Hid (GetSt m n a q bs w (w2.alloc (.cells #[.int .i64 4, .int .i64 0, .int .i64 0, .string ⟨#[]⟩, .int .i64 0, .int .i64 0, .int .i64 0, .string ⟨#[]⟩] 25)) ⟨4, 0, 0, ⟨#[]⟩, 0, ⟨0, 0, ⟨#[]⟩⟩⟩ p b) := HS0.out _ (by exact Keeps.K) (by rw [← HM.out]; exact heap_alloc_new _ _)
        refine (rdInt_any n a q bs p b _ (HSa.out.rd.k (by exact Keeps.K))).mono ?_
        obtain ⟨⟨se, p1, b1⟩, hr⟩ : ∃ r, rdD bs p b = r := ⟨_, rfl⟩
        rw [hr]
        have HRse := hid hr
        rintro e wse ⟨rfl, hrd, hk⟩
        dsimp only at hrd ⊢
        have HSb := hid (HSa.out.step (Keeps.trans (G := [n]) (by exact Keeps.K) hk (fun _ _ h => h)) hrd)
        clear hrd hk hr
        obtain ⟨⟨x0, x1, x2, x3, x4, x5, x6, x7⟩, f0⟩ := blk8 HSb.out.row
        go_wp2_with fail
        have HSc : Hid (GetSt m n a q bs w (wse.setCell ⟨m, 1, none⟩ (.int .i64 se)) ⟨4, se, 0, ⟨#[]⟩, 0, ⟨0, 0, ⟨#[]⟩⟩⟩ p1 b1) := HSb.out.set (by exact Keeps.K) (heap_setCell_same _ m 1 _ _ _ (HSb.out.row))
        clear x0 x1 x2 x3 x4 x5 x6 x7 f0
        refine (rdInt_any n a q bs p1 b1 _ (HSc.out.rd.k (by exact Keeps.K))).mono ?_
        obtain ⟨⟨sq, p2, b2⟩, hr⟩ : ∃ r, rdD bs p1 b1 = r := ⟨_, rfl⟩
        rw [hr]
        have HRsq := hid hr
        rintro e wsq ⟨rfl, hrd, hk⟩
        dsimp only at hrd ⊢
        have HSd := hid (HSc.out.step (Keeps.trans (G := [n]) (by exact Keeps.K) hk (fun _ _ h => h)) hrd)
        clear hrd hk hr
        obtain ⟨⟨x0, x1, x2, x3, x4, x5, x6, x7⟩, f0⟩ := blk8 HSd.out.row
        go_wp2_with fail
        have HSe : Hid (GetSt m n a q bs w (wsq.setCell ⟨m, 2, none⟩ (.int .i64 sq)) ⟨4, se, sq, ⟨#[]⟩, 0, ⟨0, 0, ⟨#[]⟩⟩⟩ p2 b2) := HSd.out.set (by exact Keeps.K) (heap_setCell_same _ m 2 _ _ _ (HSd.out.row))
        clear x0 x1 x2 x3 x4 x5 x6 x7 f0
        refine (wText_any n a q bs p2 b2 24 _ (HSe.out.rd.k (by exact Keeps.K)) (by decide)).mono ?_
        obtain ⟨⟨fd, p3, b3⟩, hr⟩ : ∃ r, rtextD bs p2 b2 24 = r := ⟨_, rfl⟩
        rw [hr]
        have HRfd := hid hr
        rintro e wfd ⟨rfl, hrd, hk⟩
        dsimp only at hrd ⊢
        have HSf := hid (HSe.out.step (Keeps.trans (G := [n]) (by exact Keeps.K) hk (fun _ _ h => h)) hrd)
        clear hrd hk hr
        obtain ⟨⟨x0, x1, x2, x3, x4, x5, x6, x7⟩, f0⟩ := blk8 HSf.out.row
        go_wp2_with fail
        have HS : Hid (GetSt m n a q bs w (wfd.setCell ⟨m, 3, none⟩ (.string (str fd))) ⟨4, se, sq, str fd, 0, ⟨0, 0, ⟨#[]⟩⟩⟩ p3 b3) := HSf.out.set (by exact Keeps.K) (heap_setCell_same _ m 3 _ _ _ (HSf.out.row))
        clear x0 x1 x2 x3 x4 x5 x6 x7 f0
        have HRAW : Hid (rawC bs = (⟨4, se, sq, str fd, 0, ⟨0, 0, ⟨#[]⟩⟩⟩, p3, b3)) := by
          show _ = _
          unfold rawC
          rw [HR1.out]
          dsimp only
          unfold raw1 raw2 raw3
          simp [HRse.out, HRsq.out, HRfd.out]
          try rfl
        refine (wEnd_any n a q bs p3 b3 _ (HS.out.rd.k (by exact Keeps.K))).mono ?_
        rintro e w5 ⟨rfl, hk⟩
        have HS5 := hid (HS.out.k (Keeps.trans (G := []) (by exact Keeps.K) hk (fun _ _ h => h)))
        clear hk
        obtain ⟨⟨x0, x1, x2, x3, x4, x5, x6, x7⟩, f0⟩ := blk8 HS5.out.row
        obtain ⟨⟨y0, y1, y2, y3, y4, y5, y6, y7⟩, g0⟩ := blk8 HS5.out.res
        have hmn : w.heap.size ≠ m := by have := HS5.out.apart; omega
        by_cases hok : b3 = false ∧ p3 = bs.length
        · have hb1 : (!b3 && p3 == bs.length) = true := by rw [hok.1, hok.2]; simp
          rw [hb1]
          have HG : Hid (getC bs = if checkC ⟨4, se, sq, str fd, 0, ⟨0, 0, ⟨#[]⟩⟩⟩ = true then (⟨4, se, sq, str fd, 0, ⟨0, 0, ⟨#[]⟩⟩⟩, true) else (zeroC, false)) := by
            show _ = _
            unfold getC
            rw [HRAW.out]
            dsimp only
            by_cases hc : checkC ⟨4, se, sq, str fd, 0, ⟨0, 0, ⟨#[]⟩⟩⟩ = true
            · rw [if_pos ⟨hok.1, hok.2, hc⟩, if_pos hc]
            · rw [if_neg (fun h => hc h.2.2), if_neg hc]
          clear hb1 hok
          go_wp2_with fail
          refine (cmCheck_any ⟨4, se, sq, str fd, 0, ⟨0, 0, ⟨#[]⟩⟩⟩ w5 (HT.out.k HS5.out.keeps) (HE.out.k HS5.out.keeps) (by show (⟨#[]⟩ : ByteArray).size ≤ _; decide)).mono ?_
          rintro e w6 ⟨rfl, hk⟩
          have HS6 := hid (HS5.out.k hk)
          clear hk x0 x1 x2 x3 x4 x5 x6 x7 f0 y0 y1 y2 y3 y4 y5 y6 y7 g0
          obtain ⟨⟨x0, x1, x2, x3, x4, x5, x6, x7⟩, f0⟩ := blk8 HS6.out.row
          obtain ⟨⟨y0, y1, y2, y3, y4, y5, y6, y7⟩, g0⟩ := blk8 HS6.out.res
          obtain ⟨cc, hcc⟩ : ∃ cc, checkC ⟨4, se, sq, str fd, 0, ⟨0, 0, ⟨#[]⟩⟩⟩ = cc := ⟨_, rfl⟩
          rw [hcc] at HG ⊢
          clear hcc
          rcases cc with _ | _
          · go_wp2_with fail
            refine bodyPost_ret (v := .tuple #[cmdV zeroC, .bool false]) (by simp [results, Tryz.results17, go_sem, cmdV, zeroC, y0, y1, y2, y3, y4, y5, y6, y7]) rfl ?_
            rw [HG.out]
            exact ⟨rfl, HS6.out.keeps.trans (G := [w.heap.size]) (by exact Keeps.K) (fun x hx hx' => by simp at hx'; omega)⟩
          · go_wp2_with fail
            refine bodyPost_ret (v := .tuple #[cmdV ⟨4, se, sq, str fd, 0, ⟨0, 0, ⟨#[]⟩⟩⟩, .bool true]) (by simp [results, Tryz.results17, go_sem, cmdV, y0, y1, y2, y3, y4, y5, y6, y7]) rfl ?_
            rw [HG.out]
            exact ⟨rfl, HS6.out.keeps.trans (G := [w.heap.size]) (by exact Keeps.K) (fun x hx hx' => by simp at hx'; omega)⟩
        · have hb1 : (!b3 && p3 == bs.length) = false := by
            rcases hb : b3 with _ | _
            · have : p3 ≠ bs.length := fun h => hok ⟨hb, h⟩
              simp [this]
            · simp
          rw [hb1]
          have HG : Hid (getC bs = (zeroC, false)) := by
            show _ = _
            unfold getC
            rw [HRAW.out]
            exact if_neg (fun h => hok ⟨h.1, h.2.1⟩)
          clear hb1 hok
          go_wp2_with fail
          refine bodyPost_ret (v := .tuple #[cmdV zeroC, .bool false]) (by simp [results, Tryz.results17, go_sem, cmdV, zeroC, y0, y1, y2, y3, y4, y5, y6, y7]) rfl ?_
          rw [HG.out]
          exact ⟨rfl, HS5.out.keeps.trans (G := [w.heap.size]) (by exact Keeps.K) (fun x hx hx' => by simp at hx'; omega)⟩
      · have n2 : (k == 2) = false := by simp; exact k2
        have n4 : (k == 4) = false := by simp; exact k4
        have HK := hid (And.intro k1 (And.intro k2 k4))
        clear k1 k2 k4
        go_wp2_with fail
        have HSa : Hid (GetSt m n a q bs w (w2.alloc (.cells #[.int .i64 k, .int .i64 0, .int .i64 0, .string ⟨#[]⟩, .int .i64 0, .int .i64 0, .int .i64 0, .string ⟨#[]⟩] 25)) ⟨k, 0, 0, ⟨#[]⟩, 0, ⟨0, 0, ⟨#[]⟩⟩⟩ p b) := HS0.out _ (by exact Keeps.K) (by rw [← HM.out]; exact heap_alloc_new _ _)
        refine (rdInt_any n a q bs p b _ (HSa.out.rd.k (by exact Keeps.K))).mono ?_
        obtain ⟨⟨se, p1, b1⟩, hr⟩ : ∃ r, rdD bs p b = r := ⟨_, rfl⟩
        rw [hr]
        have HRse := hid hr
        rintro e wse ⟨rfl, hrd, hk⟩
        dsimp only at hrd ⊢
        have HSb := hid (HSa.out.step (Keeps.trans (G := [n]) (by exact Keeps.K) hk (fun _ _ h => h)) hrd)
        clear hrd hk hr
        obtain ⟨⟨x0, x1, x2, x3, x4, x5, x6, x7⟩, f0⟩ := blk8 HSb.out.row
        go_wp2_with fail
        have HSc : Hid (GetSt m n a q bs w (wse.setCell ⟨m, 1, none⟩ (.int .i64 se)) ⟨k, se, 0, ⟨#[]⟩, 0, ⟨0, 0, ⟨#[]⟩⟩⟩ p1 b1) := HSb.out.set (by exact Keeps.K) (heap_setCell_same _ m 1 _ _ _ (HSb.out.row))
        clear x0 x1 x2 x3 x4 x5 x6 x7 f0
        refine (rdInt_any n a q bs p1 b1 _ (HSc.out.rd.k (by exact Keeps.K))).mono ?_
        obtain ⟨⟨sq, p2, b2⟩, hr⟩ : ∃ r, rdD bs p1 b1 = r := ⟨_, rfl⟩
        rw [hr]
        have HRsq := hid hr
        rintro e wsq ⟨rfl, hrd, hk⟩
        dsimp only at hrd ⊢
        have HSd := hid (HSc.out.step (Keeps.trans (G := [n]) (by exact Keeps.K) hk (fun _ _ h => h)) hrd)
        clear hrd hk hr
        obtain ⟨⟨x0, x1, x2, x3, x4, x5, x6, x7⟩, f0⟩ := blk8 HSd.out.row
        go_wp2_with fail
        have HSe : Hid (GetSt m n a q bs w (wsq.setCell ⟨m, 2, none⟩ (.int .i64 sq)) ⟨k, se, sq, ⟨#[]⟩, 0, ⟨0, 0, ⟨#[]⟩⟩⟩ p2 b2) := HSd.out.set (by exact Keeps.K) (heap_setCell_same _ m 2 _ _ _ (HSd.out.row))
        clear x0 x1 x2 x3 x4 x5 x6 x7 f0
        have HS := HSe
        have HRAW : Hid (rawC bs = (⟨k, se, sq, ⟨#[]⟩, 0, ⟨0, 0, ⟨#[]⟩⟩⟩, p2, b2)) := by
          show _ = _
          unfold rawC
          rw [HR1.out]
          dsimp only
          unfold raw1 raw2 raw3
          simp [HRse.out, HRsq.out, HK.out.1, HK.out.2.1, HK.out.2.2]
          try rfl
        refine (wEnd_any n a q bs p2 b2 _ (HS.out.rd.k (by exact Keeps.K))).mono ?_
        rintro e w5 ⟨rfl, hk⟩
        have HS5 := hid (HS.out.k (Keeps.trans (G := []) (by exact Keeps.K) hk (fun _ _ h => h)))
        clear hk
        obtain ⟨⟨x0, x1, x2, x3, x4, x5, x6, x7⟩, f0⟩ := blk8 HS5.out.row
        obtain ⟨⟨y0, y1, y2, y3, y4, y5, y6, y7⟩, g0⟩ := blk8 HS5.out.res
        have hmn : w.heap.size ≠ m := by have := HS5.out.apart; omega
        by_cases hok : b2 = false ∧ p2 = bs.length
        · have hb1 : (!b2 && p2 == bs.length) = true := by rw [hok.1, hok.2]; simp
          rw [hb1]
          have HG : Hid (getC bs = if checkC ⟨k, se, sq, ⟨#[]⟩, 0, ⟨0, 0, ⟨#[]⟩⟩⟩ = true then (⟨k, se, sq, ⟨#[]⟩, 0, ⟨0, 0, ⟨#[]⟩⟩⟩, true) else (zeroC, false)) := by
            show _ = _
            unfold getC
            rw [HRAW.out]
            dsimp only
            by_cases hc : checkC ⟨k, se, sq, ⟨#[]⟩, 0, ⟨0, 0, ⟨#[]⟩⟩⟩ = true
            · rw [if_pos ⟨hok.1, hok.2, hc⟩, if_pos hc]
            · rw [if_neg (fun h => hc h.2.2), if_neg hc]
          clear hb1 hok
          go_wp2_with fail
          refine (cmCheck_any ⟨k, se, sq, ⟨#[]⟩, 0, ⟨0, 0, ⟨#[]⟩⟩⟩ w5 (HT.out.k HS5.out.keeps) (HE.out.k HS5.out.keeps) (by show (⟨#[]⟩ : ByteArray).size ≤ _; decide)).mono ?_
          rintro e w6 ⟨rfl, hk⟩
          have HS6 := hid (HS5.out.k hk)
          clear hk x0 x1 x2 x3 x4 x5 x6 x7 f0 y0 y1 y2 y3 y4 y5 y6 y7 g0
          obtain ⟨⟨x0, x1, x2, x3, x4, x5, x6, x7⟩, f0⟩ := blk8 HS6.out.row
          obtain ⟨⟨y0, y1, y2, y3, y4, y5, y6, y7⟩, g0⟩ := blk8 HS6.out.res
          obtain ⟨cc, hcc⟩ : ∃ cc, checkC ⟨k, se, sq, ⟨#[]⟩, 0, ⟨0, 0, ⟨#[]⟩⟩⟩ = cc := ⟨_, rfl⟩
          rw [hcc] at HG ⊢
          clear hcc
          rcases cc with _ | _
          · go_wp2_with fail
            refine bodyPost_ret (v := .tuple #[cmdV zeroC, .bool false]) (by simp [results, Tryz.results17, go_sem, cmdV, zeroC, y0, y1, y2, y3, y4, y5, y6, y7]) rfl ?_
            rw [HG.out]
            exact ⟨rfl, HS6.out.keeps.trans (G := [w.heap.size]) (by exact Keeps.K) (fun x hx hx' => by simp at hx'; omega)⟩
          · go_wp2_with fail
            refine bodyPost_ret (v := .tuple #[cmdV ⟨k, se, sq, ⟨#[]⟩, 0, ⟨0, 0, ⟨#[]⟩⟩⟩, .bool true]) (by simp [results, Tryz.results17, go_sem, cmdV, y0, y1, y2, y3, y4, y5, y6, y7]) rfl ?_
            rw [HG.out]
            exact ⟨rfl, HS6.out.keeps.trans (G := [w.heap.size]) (by exact Keeps.K) (fun x hx hx' => by simp at hx'; omega)⟩
        · have hb1 : (!b2 && p2 == bs.length) = false := by
            rcases hb : b2 with _ | _
            · have : p2 ≠ bs.length := fun h => hok ⟨hb, h⟩
              simp [this]
            · simp
          rw [hb1]
          have HG : Hid (getC bs = (zeroC, false)) := by
            show _ = _
            unfold getC
            rw [HRAW.out]
            exact if_neg (fun h => hok ⟨h.1, h.2.1⟩)
          clear hb1 hok
          go_wp2_with fail
          refine bodyPost_ret (v := .tuple #[cmdV zeroC, .bool false]) (by simp [results, Tryz.results17, go_sem, cmdV, zeroC, y0, y1, y2, y3, y4, y5, y6, y7]) rfl ?_
          rw [HG.out]
          exact ⟨rfl, HS5.out.keeps.trans (G := [w.heap.size]) (by exact Keeps.K) (fun x hx hx' => by simp at hx'; omega)⟩

end Go.Proofs.YtbbdmmhpbeleoaaGreatDoor
