/- Joined of CmG, CmH, CmE, CmC, CmF. -/
import Derived.Test.YtbbdmmhpbeleoaaDoorQ08
import Derived.Test.YtbbdmmhpbeleoaaDoorQ09

/- A command that is read: plain; as the program reads it. -/
namespace Go.Proofs.YtbbdmmhpbeleoaaDoor
open Go Go.RowKit

def zeroC : CmdD := ⟨0, 0, 0, ⟨#[]⟩, 0, ⟨0, 0, ⟨#[]⟩⟩⟩
/-- What stands behind the kind: session, number. -/
def raw1 (bs : List UInt8) (k : Int) (p : Nat) (b : Bool) : Int × Int × Nat × Bool :=
  if k = 1 then (0, 0, p, b) else
    match rdD bs p b with
    | (se, p1, b1) => match rdD bs p1 b1 with
      | (sq, p2, b2) => (se, sq, p2, b2)
/-- The field's name. -/
def raw2 (bs : List UInt8) (k : Int) (p : Nat) (b : Bool) : List UInt8 × Nat × Bool :=
  if k = 2 ∨ k = 4 then rtextD bs p b 24 else ([], p, b)
/-- The version, the value. -/
def raw3 (bs : List UInt8) (k : Int) (p : Nat) (b : Bool) : Int × ValD × Nat × Bool :=
  if k = 2 then
    match rdD bs p b with
    | (vr, p1, b1) => match getD bs p1 b1 with
      | (v, p2, b2) => (vr, v, p2, b2)
  else (0, ⟨0, 0, ⟨#[]⟩⟩, p, b)
def rawC (bs : List UInt8) : CmdD × Nat × Bool :=
  match rdD bs 0 false with
  | (k, p, b) => match raw1 bs k p b with
    | (se, sq, p1, b1) => match raw2 bs k p1 b1 with
      | (fd, p2, b2) => match raw3 bs k p2 b2 with
        | (vr, v, p3, b3) => (⟨k, se, sq, str fd, vr, v⟩, p3, b3)
/-- The command that bytes are, and whether they are one. -/
def getC (bs : List UInt8) : CmdD × Bool := if (rawC bs).2.2 = false ∧ (rawC bs).2.1 = bs.length ∧ checkC (rawC bs).1 = true then ((rawC bs).1, true) else (zeroC, false)
/-- The command under way at block m, the reader at block n. -/
structure GetSt (m n : Nat) (a : Option Addr) (q : Nat) (bs : List UInt8) (w wr : World) (c : CmdD) (p : Nat) (b : Bool) : Prop where
  row : wr.heap[m]? = some (.cells #[.int .i64 c.kind, .int .i64 c.session, .int .i64 c.seq, .string c.field, .int .i64 c.version, .int .i64 c.value.kind, .int .i64 c.value.n, .string c.value.s] 34 (0, 0))
  res : wr.heap[w.heap.size]? = some (.cells #[.int .i64 0, .int .i64 0, .int .i64 0, .string ⟨#[]⟩, .int .i64 0, .int .i64 0, .int .i64 0, .string ⟨#[]⟩] 34 (0, 0))
  rd : RdAt 78 wr n a q bs p b
  keeps : Keeps [] w wr
  apart : w.heap.size < n ∧ n < m ∧ ∀ x ∈ ownB (.slice a bs.length q), w.heap.size < x ∧ x < m

theorem getD_short (bs : List UInt8) (p : Nat) (b : Bool) : (getD bs p b).1.s.size ≤ 400 := by
  unfold getD
  obtain ⟨⟨k, q, b1⟩, h1⟩ : ∃ r, rdD bs p b = r := ⟨_, rfl⟩
  rw [h1]
  dsimp only
  obtain ⟨⟨n, q2, b2⟩, h2⟩ : ∃ r, rdD bs q b1 = r := ⟨_, rfl⟩
  rw [h2]
  dsimp only
  obtain ⟨⟨s, q3, b3⟩, h3⟩ : ∃ r, rtextD bs q2 b2 400 = r := ⟨_, rfl⟩
  rw [h3]
  dsimp only
  split
  · show (⟨#[]⟩ : ByteArray).size ≤ 400
    decide
  · have := rtextD_len bs q2 b2 (by decide) h3
    show s.length ≤ 400
    omega
theorem GetSt.step {m n : Nat} {a : Option Addr} {q : Nat} {bs : List UInt8} {w wr w' : World} {c : CmdD} {p p' : Nat} {b b' : Bool} (H : GetSt m n a q bs w wr c p b) (k : Keeps [n] wr w') (h : RdAt 78 w' n a q bs p' b') : GetSt m n a q bs w w' c p' b' :=
  ⟨(k.block _ (Array.getElem?_eq_some_iff.1 H.row).1 (by have := H.apart; simp; omega)).trans H.row, (k.block _ (Array.getElem?_eq_some_iff.1 H.res).1 (by have := H.apart; simp; omega)).trans H.res, h, H.keeps.trans k (fun x hx hx' => by have := H.apart; simp at hx'; omega), H.apart⟩
theorem GetSt.k {m n : Nat} {a : Option Addr} {q : Nat} {bs : List UInt8} {w wr w' : World} {c : CmdD} {p : Nat} {b : Bool} (H : GetSt m n a q bs w wr c p b) (k : Keeps [] wr w') : GetSt m n a q bs w w' c p b :=
  ⟨(k.block _ (Array.getElem?_eq_some_iff.1 H.row).1 (by simp)).trans H.row, (k.block _ (Array.getElem?_eq_some_iff.1 H.res).1 (by simp)).trans H.res, H.rd.k k, H.keeps.trans k (fun _ _ h => h), H.apart⟩
theorem GetSt.set {m n : Nat} {a : Option Addr} {q : Nat} {bs : List UInt8} {w wr w' : World} {c c' : CmdD} {p : Nat} {b : Bool} (H : GetSt m n a q bs w wr c p b) (k : Keeps [m] wr w') (h : w'.heap[m]? = some (.cells #[.int .i64 c'.kind, .int .i64 c'.session, .int .i64 c'.seq, .string c'.field, .int .i64 c'.version, .int .i64 c'.value.kind, .int .i64 c'.value.n, .string c'.value.s] 34 (0, 0))) : GetSt m n a q bs w w' c' p b :=
  ⟨h, (k.block _ (Array.getElem?_eq_some_iff.1 H.res).1 (by have := H.apart; simp; omega)).trans H.res, H.rd.kk k (by have := H.apart; simp; omega) (fun x hx => by have := H.apart.2.2 x hx; simp; omega), H.keeps.trans k (fun x hx hx' => by have := H.apart; simp at hx'; omega), H.apart⟩

set_option maxRecDepth 100000 in
set_option maxHeartbeats 8000000 in
theorem cmGet_any (v0 : Value) (bs : List UInt8) (w : World) (hT : Tabs w) (hE : Errs w) (hr : Reads w 1 v0 bs.length (u8s bs)) (hb : bs.length ≤ 140737488355328) :
    Calls Tryd.prog 17 #[v0] w fun e w' => e = .returned (.tuple #[cmdV (getC bs).1, .bool (getC bs).2]) ∧ Keeps [] w w' := by
  have HT := hid hT
  have HE := hid hE
  have HR := hid hr
  clear hT hE hr
  go_enter Tryd.func17, Tryd.ntmps17
  go_wp2_with fail
  refine (wNew_any v0 bs _ (Reads.k0 HR.out (by exact Keeps.K)) hb).mono ?_
  rintro e w1 ⟨n, a, q, rfl, hn, hrd, hk, hown⟩
  have K1 : Hid (Keeps [] w w1) := Keeps.trans (G := []) (by exact Keeps.K) hk (fun _ _ h => h)
  have HRD := hid hrd
  have HOWN := hid hown
  have HRES : Hid (w1.heap[w.heap.size]? = some (.cells #[.int .i64 0, .int .i64 0, .int .i64 0, .string ⟨#[]⟩, .int .i64 0, .int .i64 0, .int .i64 0, .string ⟨#[]⟩] 34 (0, 0))) := (hk.block _ (by simp) (by simp)).trans (heap_alloc_new _ _)
  have hn' : w.heap.size + 1 ≤ n := by simpa using hn
  clear hk hrd hown hn
  go_wp2_with fail
  refine (rdInt_any n a q bs 0 false _ (HRD.out.k (by exact Keeps.K))).mono ?_
  obtain ⟨⟨k, p, b⟩, hr1⟩ : ∃ r, rdD bs 0 false = r := ⟨_, rfl⟩
  rw [hr1]
  rintro e w2 ⟨rfl, hrd, hk⟩
  dsimp only at hrd ⊢
  have hn2 : n < w2.heap.size := hrd.lt
  have HRES2 : Hid (w2.heap[w.heap.size]? = some (.cells #[.int .i64 0, .int .i64 0, .int .i64 0, .string ⟨#[]⟩, .int .i64 0, .int .i64 0, .int .i64 0, .string ⟨#[]⟩] 34 (0, 0))) := (hk.block _ (Array.getElem?_eq_some_iff.1 HRES.out).1 (by simp; omega)).trans HRES.out
  have K2 : Hid (Keeps [] w w2) := K1.out.trans hk (fun x hx hx' => by simp at hx'; omega)
  have HR1 := hid hr1
  obtain ⟨m, hm⟩ : ∃ m, w2.heap.size = m := ⟨_, rfl⟩
  have HM := hid hm
  have HS0 : Hid (∀ wx, Keeps [] w2 wx → wx.heap[m]? = some (.cells #[.int .i64 k, .int .i64 0, .int .i64 0, .string ⟨#[]⟩, .int .i64 0, .int .i64 0, .int .i64 0, .string ⟨#[]⟩] 34 (0, 0)) → GetSt m n a q bs w wx ⟨k, 0, 0, ⟨#[]⟩, 0, ⟨0, 0, ⟨#[]⟩⟩⟩ p b) := fun wx g hrow =>
    ⟨hrow, (g.block _ (Array.getElem?_eq_some_iff.1 HRES2.out).1 (by simp)).trans HRES2.out, hrd.k g, K2.out.trans g (fun _ _ h => h), by omega, by omega, fun x hx => by have h1 := HOWN.out x hx; have h2 := hk.size; simp at h1; omega⟩
  clear hk hrd hr1
  by_cases k1 : k = 1
  · subst k1
    have HRAW : Hid (rawC bs = (⟨1, 0, 0, ⟨#[]⟩, 0, ⟨0, 0, ⟨#[]⟩⟩⟩, p, b)) := by
      show _ = _
      unfold rawC
      rw [HR1.out]
      rfl
    go_wp2_with fail
    have HS : Hid (GetSt m n a q bs w (w2.alloc (.cells #[.int .i64 1, .int .i64 0, .int .i64 0, .string ⟨#[]⟩, .int .i64 0, .int .i64 0, .int .i64 0, .string ⟨#[]⟩] 34)) ⟨1, 0, 0, ⟨#[]⟩, 0, ⟨0, 0, ⟨#[]⟩⟩⟩ p b) := HS0.out _ (by exact Keeps.K) (by rw [← HM.out]; exact heap_alloc_new _ _)
    refine (wEnd_any n a q bs p b _ (HS.out.rd.k (by exact Keeps.K))).mono ?_
    rintro e w5 ⟨rfl, hk⟩
    have HS5 := hid (HS.out.k (Keeps.trans (G := []) (by exact Keeps.K) hk (fun _ _ h => h)))
    clear hk
    obtain ⟨⟨x0, x1, x2, x3, x4, x5, x6, x7⟩, f0⟩ := blk8 HS5.out.row
    obtain ⟨⟨y0, y1, y2, y3, y4, y5, y6, y7⟩, g0⟩ := blk8 HS5.out.res
    have hmn : w.heap.size ≠ m := by have := HS5.out.apart; omega
    by_cases hok : b = false ∧ p = bs.length
    · have hb1 : (!b && p == bs.length) = true := by rw [hok.1, hok.2]; simp
      rw [hb1]
      have HG : Hid (getC bs = if checkC ⟨1, 0, 0, ⟨#[]⟩, 0, ⟨0, 0, ⟨#[]⟩⟩⟩ = true then (⟨1, 0, 0, ⟨#[]⟩, 0, ⟨0, 0, ⟨#[]⟩⟩⟩, true) else (zeroC, false)) := by
        show _ = _
        unfold getC
        rw [HRAW.out]
        dsimp only
        by_cases hc : checkC ⟨1, 0, 0, ⟨#[]⟩, 0, ⟨0, 0, ⟨#[]⟩⟩⟩ = true
        · rw [if_pos ⟨hok.1, hok.2, hc⟩, if_pos hc]
        · rw [if_neg (fun h => hc h.2.2), if_neg hc]
      clear hb1 hok
      go_wp2_with fail
      refine (cmCheck_any ⟨1, 0, 0, ⟨#[]⟩, 0, ⟨0, 0, ⟨#[]⟩⟩⟩ w5 (HT.out.k HS5.out.keeps) (HE.out.k HS5.out.keeps) (by show (⟨#[]⟩ : ByteArray).size ≤ _; decide)).mono ?_
      rintro e w6 ⟨rfl, hk⟩
      have HS6 := hid (HS5.out.k hk)
      clear hk x0 x1 x2 x3 x4 x5 x6 x7 f0 y0 y1 y2 y3 y4 y5 y6 y7 g0
      obtain ⟨⟨x0, x1, x2, x3, x4, x5, x6, x7⟩, f0⟩ := blk8 HS6.out.row
      obtain ⟨⟨y0, y1, y2, y3, y4, y5, y6, y7⟩, g0⟩ := blk8 HS6.out.res
      obtain ⟨cc, hcc⟩ : ∃ cc, checkC ⟨1, 0, 0, ⟨#[]⟩, 0, ⟨0, 0, ⟨#[]⟩⟩⟩ = cc := ⟨_, rfl⟩
      rw [hcc] at HG ⊢
      clear hcc
      rcases cc with _ | _
      · go_wp2_with fail
        refine bodyPost_ret (v := .tuple #[cmdV zeroC, .bool false]) (by simp [results, Tryd.results17, go_sem, cmdV, zeroC, y0, y1, y2, y3, y4, y5, y6, y7]) rfl ?_
        rw [HG.out]
        exact ⟨rfl, HS6.out.keeps.trans (G := [w.heap.size]) (by exact Keeps.K) (fun x hx hx' => by simp at hx'; omega)⟩
      · go_wp2_with fail
        refine bodyPost_ret (v := .tuple #[cmdV ⟨1, 0, 0, ⟨#[]⟩, 0, ⟨0, 0, ⟨#[]⟩⟩⟩, .bool true]) (by simp [results, Tryd.results17, go_sem, cmdV, y0, y1, y2, y3, y4, y5, y6, y7]) rfl ?_
        rw [HG.out]
        exact ⟨rfl, HS6.out.keeps.trans (G := [w.heap.size]) (by exact Keeps.K) (fun x hx hx' => by simp at hx'; omega)⟩
    · have hb1 : (!b && p == bs.length) = false := by
        rcases hb : b with _ | _
        · have : p ≠ bs.length := fun h => hok ⟨hb, h⟩
          simp [this]
        · simp
      rw [hb1]
      have HG : Hid (getC bs = (zeroC, false)) := by
        show _ = _
        unfold getC
        rw [HRAW.out]
        exact if_neg (fun h => hok ⟨h.1, h.2.1⟩)
      clear hb1 hok
      go_wp2_with fail
      refine bodyPost_ret (v := .tuple #[cmdV zeroC, .bool false]) (by simp [results, Tryd.results17, go_sem, cmdV, zeroC, y0, y1, y2, y3, y4, y5, y6, y7]) rfl ?_
      rw [HG.out]
      exact ⟨rfl, HS5.out.keeps.trans (G := [w.heap.size]) (by exact Keeps.K) (fun x hx hx' => by simp at hx'; omega)⟩
  · have n1 : (k == 1) = false := by simp; exact k1
    have n1' : (k != 1) = true := by simp; exact k1
    by_cases k2 : k = 2
    · subst k2
      clear k1 n1 n1'
      go_wp2_with fail
      have HSa : Hid (GetSt m n a q bs w (w2.alloc (.cells #[.int .i64 2, .int .i64 0, .int .i64 0, .string ⟨#[]⟩, .int .i64 0, .int .i64 0, .int .i64 0, .string ⟨#[]⟩] 34)) ⟨2, 0, 0, ⟨#[]⟩, 0, ⟨0, 0, ⟨#[]⟩⟩⟩ p b) := HS0.out _ (by exact Keeps.K) (by rw [← HM.out]; exact heap_alloc_new _ _)
      refine (rdInt_any n a q bs p b _ (HSa.out.rd.k (by exact Keeps.K))).mono ?_
      obtain ⟨⟨se, p1, b1⟩, hr⟩ : ∃ r, rdD bs p b = r := ⟨_, rfl⟩
      rw [hr]
      have HRse := hid hr
      rintro e wse ⟨rfl, hrd, hk⟩
      dsimp only at hrd ⊢
      have HSb := hid (HSa.out.step (Keeps.trans (G := [n]) (by exact Keeps.K) hk (fun _ _ h => h)) hrd)
      clear hrd hk hr
      obtain ⟨⟨x0, x1, x2, x3, x4, x5, x6, x7⟩, f0⟩ := blk8 HSb.out.row
      go_wp2_with fail
      have HSc : Hid (GetSt m n a q bs w (wse.setCell ⟨m, 1, none⟩ (.int .i64 se)) ⟨2, se, 0, ⟨#[]⟩, 0, ⟨0, 0, ⟨#[]⟩⟩⟩ p1 b1) := HSb.out.set (by exact Keeps.K) (heap_setCell_same _ m 1 _ _ _ (HSb.out.row))
      clear x0 x1 x2 x3 x4 x5 x6 x7 f0
      refine (rdInt_any n a q bs p1 b1 _ (HSc.out.rd.k (by exact Keeps.K))).mono ?_
      obtain ⟨⟨sq, p2, b2⟩, hr⟩ : ∃ r, rdD bs p1 b1 = r := ⟨_, rfl⟩
      rw [hr]
      have HRsq := hid hr
      rintro e wsq ⟨rfl, hrd, hk⟩
      dsimp only at hrd ⊢
      have HSd := hid (HSc.out.step (Keeps.trans (G := [n]) (by exact Keeps.K) hk (fun _ _ h => h)) hrd)
      clear hrd hk hr
      obtain ⟨⟨x0, x1, x2, x3, x4, x5, x6, x7⟩, f0⟩ := blk8 HSd.out.row
      go_wp2_with fail
      have HSe : Hid (GetSt m n a q bs w (wsq.setCell ⟨m, 2, none⟩ (.int .i64 sq)) ⟨2, se, sq, ⟨#[]⟩, 0, ⟨0, 0, ⟨#[]⟩⟩⟩ p2 b2) := HSd.out.set (by exact Keeps.K) (heap_setCell_same _ m 2 _ _ _ (HSd.out.row))
      clear x0 x1 x2 x3 x4 x5 x6 x7 f0
      refine (wText_any n a q bs p2 b2 24 _ (HSe.out.rd.k (by exact Keeps.K)) (by decide)).mono ?_
      obtain ⟨⟨fd, p3, b3⟩, hr⟩ : ∃ r, rtextD bs p2 b2 24 = r := ⟨_, rfl⟩
      rw [hr]
      have HRfd := hid hr
      rintro e wfd ⟨rfl, hrd, hk⟩
      dsimp only at hrd ⊢
      have HSf := hid (HSe.out.step (Keeps.trans (G := [n]) (by exact Keeps.K) hk (fun _ _ h => h)) hrd)
      clear hrd hk hr
      obtain ⟨⟨x0, x1, x2, x3, x4, x5, x6, x7⟩, f0⟩ := blk8 HSf.out.row
      go_wp2_with fail
      have HSg : Hid (GetSt m n a q bs w (wfd.setCell ⟨m, 3, none⟩ (.string (str fd))) ⟨2, se, sq, str fd, 0, ⟨0, 0, ⟨#[]⟩⟩⟩ p3 b3) := HSf.out.set (by exact Keeps.K) (heap_setCell_same _ m 3 _ _ _ (HSf.out.row))
      clear x0 x1 x2 x3 x4 x5 x6 x7 f0
      refine (rdInt_any n a q bs p3 b3 _ (HSg.out.rd.k (by exact Keeps.K))).mono ?_
      obtain ⟨⟨vr, p4, b4⟩, hr⟩ : ∃ r, rdD bs p3 b3 = r := ⟨_, rfl⟩
      rw [hr]
      have HRvr := hid hr
      rintro e wvr ⟨rfl, hrd, hk⟩
      dsimp only at hrd ⊢
      have HSh := hid (HSg.out.step (Keeps.trans (G := [n]) (by exact Keeps.K) hk (fun _ _ h => h)) hrd)
      clear hrd hk hr
      obtain ⟨⟨x0, x1, x2, x3, x4, x5, x6, x7⟩, f0⟩ := blk8 HSh.out.row
      go_wp2_with fail
      have HSi : Hid (GetSt m n a q bs w (wvr.setCell ⟨m, 4, none⟩ (.int .i64 vr)) ⟨2, se, sq, str fd, vr, ⟨0, 0, ⟨#[]⟩⟩⟩ p4 b4) := HSh.out.set (by exact Keeps.K) (heap_setCell_same _ m 4 _ _ _ (HSh.out.row))
      clear x0 x1 x2 x3 x4 x5 x6 x7 f0
      refine (vGet_any n a q bs p4 b4 _ (HSi.out.rd.k (by exact Keeps.K)) (fun w' g => HT.out.k (HSi.out.keeps.trans (Keeps.trans (G := [n]) (by exact Keeps.K) g (fun _ _ h => h)) (fun x hx hx' => by have := HSi.out.apart; simp at hx'; omega)))).mono ?_
      have hsv := getD_short bs p4 b4
      obtain ⟨⟨⟨vk, vn, vs⟩, p5, b5⟩, hr⟩ : ∃ r, getD bs p4 b4 = r := ⟨_, rfl⟩
      rw [hr] at hsv ⊢
      have HRv := hid hr
      rintro e wv ⟨rfl, hrd, hk⟩
      dsimp only at hrd hsv ⊢
      unfold valV
      dsimp only
      have HSV := hid hsv
      have HSj := hid (HSi.out.step (Keeps.trans (G := [n]) (by exact Keeps.K) hk (fun _ _ h => h)) hrd)
      clear hrd hk hr hsv
      obtain ⟨⟨x0, x1, x2, x3, x4, x5, x6, x7⟩, f0⟩ := blk8 HSj.out.row
      go_wp2_with fail
      have HS : Hid (GetSt m n a q bs w (((wv.setCell ⟨m, 5, none⟩ (.int .i64 vk)).setCell ⟨m, 6, none⟩ (.int .i64 vn)).setCell ⟨m, 7, none⟩ (.string vs)) ⟨2, se, sq, str fd, vr, ⟨vk, vn, vs⟩⟩ p5 b5) := HSj.out.set (by exact Keeps.K) (heap_setCell_same _ m 7 _ _ _ (heap_setCell_same _ m 6 _ _ _ (heap_setCell_same _ m 5 _ _ _ (HSj.out.row))))
      clear x0 x1 x2 x3 x4 x5 x6 x7 f0
      have HRAW : Hid (rawC bs = (⟨2, se, sq, str fd, vr, ⟨vk, vn, vs⟩⟩, p5, b5)) := by
        show _ = _
        unfold rawC
        rw [HR1.out]
        dsimp only
        unfold raw1 raw2 raw3
        simp [HRse.out, HRsq.out, HRfd.out, HRvr.out, HRv.out]
        try rfl
      refine (wEnd_any n a q bs p5 b5 _ (HS.out.rd.k (by exact Keeps.K))).mono ?_
      rintro e w5 ⟨rfl, hk⟩
      have HS5 := hid (HS.out.k (Keeps.trans (G := []) (by exact Keeps.K) hk (fun _ _ h => h)))
      clear hk
      obtain ⟨⟨x0, x1, x2, x3, x4, x5, x6, x7⟩, f0⟩ := blk8 HS5.out.row
      obtain ⟨⟨y0, y1, y2, y3, y4, y5, y6, y7⟩, g0⟩ := blk8 HS5.out.res
      have hmn : w.heap.size ≠ m := by have := HS5.out.apart; omega
      by_cases hok : b5 = false ∧ p5 = bs.length
      · have hb1 : (!b5 && p5 == bs.length) = true := by rw [hok.1, hok.2]; simp
        rw [hb1]
        have HG : Hid (getC bs = if checkC ⟨2, se, sq, str fd, vr, ⟨vk, vn, vs⟩⟩ = true then (⟨2, se, sq, str fd, vr, ⟨vk, vn, vs⟩⟩, true) else (zeroC, false)) := by
          show _ = _
          unfold getC
          rw [HRAW.out]
          dsimp only
          by_cases hc : checkC ⟨2, se, sq, str fd, vr, ⟨vk, vn, vs⟩⟩ = true
          · rw [if_pos ⟨hok.1, hok.2, hc⟩, if_pos hc]
          · rw [if_neg (fun h => hc h.2.2), if_neg hc]
        clear hb1 hok
        go_wp2_with fail
        refine (cmCheck_any ⟨2, se, sq, str fd, vr, ⟨vk, vn, vs⟩⟩ w5 (HT.out.k HS5.out.keeps) (HE.out.k HS5.out.keeps) (Nat.le_trans HSV.out (by decide))).mono ?_
        rintro e w6 ⟨rfl, hk⟩
        have HS6 := hid (HS5.out.k hk)
        clear hk x0 x1 x2 x3 x4 x5 x6 x7 f0 y0 y1 y2 y3 y4 y5 y6 y7 g0
        obtain ⟨⟨x0, x1, x2, x3, x4, x5, x6, x7⟩, f0⟩ := blk8 HS6.out.row
        obtain ⟨⟨y0, y1, y2, y3, y4, y5, y6, y7⟩, g0⟩ := blk8 HS6.out.res
        obtain ⟨cc, hcc⟩ : ∃ cc, checkC ⟨2, se, sq, str fd, vr, ⟨vk, vn, vs⟩⟩ = cc := ⟨_, rfl⟩
        rw [hcc] at HG ⊢
        clear hcc
        rcases cc with _ | _
        · go_wp2_with fail
          refine bodyPost_ret (v := .tuple #[cmdV zeroC, .bool false]) (by simp [results, Tryd.results17, go_sem, cmdV, zeroC, y0, y1, y2, y3, y4, y5, y6, y7]) rfl ?_
          rw [HG.out]
          exact ⟨rfl, HS6.out.keeps.trans (G := [w.heap.size]) (by exact Keeps.K) (fun x hx hx' => by simp at hx'; omega)⟩
        · go_wp2_with fail
          refine bodyPost_ret (v := .tuple #[cmdV ⟨2, se, sq, str fd, vr, ⟨vk, vn, vs⟩⟩, .bool true]) (by simp [results, Tryd.results17, go_sem, cmdV, y0, y1, y2, y3, y4, y5, y6, y7]) rfl ?_
          rw [HG.out]
          exact ⟨rfl, HS6.out.keeps.trans (G := [w.heap.size]) (by exact Keeps.K) (fun x hx hx' => by simp at hx'; omega)⟩
      · have hb1 : (!b5 && p5 == bs.length) = false := by
          rcases hb : b5 with _ | _
          · have : p5 ≠ bs.length := fun h => hok ⟨hb, h⟩
            simp [this]
          · simp
        rw [hb1]
        have HG : Hid (getC bs = (zeroC, false)) := by
          show _ = _
          unfold getC
          rw [HRAW.out]
          exact if_neg (fun h => hok ⟨h.1, h.2.1⟩)
        clear hb1 hok
        go_wp2_with fail
        refine bodyPost_ret (v := .tuple #[cmdV zeroC, .bool false]) (by simp [results, Tryd.results17, go_sem, cmdV, zeroC, y0, y1, y2, y3, y4, y5, y6, y7]) rfl ?_
        rw [HG.out]
        exact ⟨rfl, HS5.out.keeps.trans (G := [w.heap.size]) (by exact Keeps.K) (fun x hx hx' => by simp at hx'; omega)⟩
    · by_cases k4 : k = 4
      · subst k4
        clear k1 n1 n1' k2
        go_wp2_with fail
        have HSa : Hid (GetSt m n a q bs w (w2.alloc (.cells #[.int .i64 4, .int .i64 0, .int .i64 0, .string ⟨#[]⟩, .int .i64 0, .int .i64 0, .int .i64 0, .string ⟨#[]⟩] 34)) ⟨4, 0, 0, ⟨#[]⟩, 0, ⟨0, 0, ⟨#[]⟩⟩⟩ p b) := HS0.out _ (by exact Keeps.K) (by rw [← HM.out]; exact heap_alloc_new _ _)
        refine (rdInt_any n a q bs p b _ (HSa.out.rd.k (by exact Keeps.K))).mono ?_
        obtain ⟨⟨se, p1, b1⟩, hr⟩ : ∃ r, rdD bs p b = r := ⟨_, rfl⟩
        rw [hr]
        have HRse := hid hr
        rintro e wse ⟨rfl, hrd, hk⟩
        dsimp only at hrd ⊢
        have HSb := hid (HSa.out.step (Keeps.trans (G := [n]) (by exact Keeps.K) hk (fun _ _ h => h)) hrd)
        clear hrd hk hr
        obtain ⟨⟨x0, x1, x2, x3, x4, x5, x6, x7⟩, f0⟩ := blk8 HSb.out.row
        go_wp2_with fail
        have HSc : Hid (GetSt m n a q bs w (wse.setCell ⟨m, 1, none⟩ (.int .i64 se)) ⟨4, se, 0, ⟨#[]⟩, 0, ⟨0, 0, ⟨#[]⟩⟩⟩ p1 b1) := HSb.out.set (by exact Keeps.K) (heap_setCell_same _ m 1 _ _ _ (HSb.out.row))
        clear x0 x1 x2 x3 x4 x5 x6 x7 f0
        refine (rdInt_any n a q bs p1 b1 _ (HSc.out.rd.k (by exact Keeps.K))).mono ?_
        obtain ⟨⟨sq, p2, b2⟩, hr⟩ : ∃ r, rdD bs p1 b1 = r := ⟨_, rfl⟩
        rw [hr]
        have HRsq := hid hr
        rintro e wsq ⟨rfl, hrd, hk⟩
        dsimp only at hrd ⊢
        have HSd := hid (HSc.out.step (Keeps.trans (G := [n]) (by exact Keeps.K) hk (fun _ _ h => h)) hrd)
        clear hrd hk hr
        obtain ⟨⟨x0, x1, x2, x3, x4, x5, x6, x7⟩, f0⟩ := blk8 HSd.out.row
        go_wp2_with fail
        have HSe : Hid (GetSt m n a q bs w (wsq.setCell ⟨m, 2, none⟩ (.int .i64 sq)) ⟨4, se, sq, ⟨#[]⟩, 0, ⟨0, 0, ⟨#[]⟩⟩⟩ p2 b2) := HSd.out.set (by exact Keeps.K) (heap_setCell_same _ m 2 _ _ _ (HSd.out.row))
        clear x0 x1 x2 x3 x4 x5 x6 x7 f0
        refine (wText_any n a q bs p2 b2 24 _ (HSe.out.rd.k (by exact Keeps.K)) (by decide)).mono ?_
        obtain ⟨⟨fd, p3, b3⟩, hr⟩ : ∃ r, rtextD bs p2 b2 24 = r := ⟨_, rfl⟩
        rw [hr]
        have HRfd := hid hr
        rintro e wfd ⟨rfl, hrd, hk⟩
        dsimp only at hrd ⊢
        have HSf := hid (HSe.out.step (Keeps.trans (G := [n]) (by exact Keeps.K) hk (fun _ _ h => h)) hrd)
        clear hrd hk hr
        obtain ⟨⟨x0, x1, x2, x3, x4, x5, x6, x7⟩, f0⟩ := blk8 HSf.out.row
        go_wp2_with fail
        have HS : Hid (GetSt m n a q bs w (wfd.setCell ⟨m, 3, none⟩ (.string (str fd))) ⟨4, se, sq, str fd, 0, ⟨0, 0, ⟨#[]⟩⟩⟩ p3 b3) := HSf.out.set (by exact Keeps.K) (heap_setCell_same _ m 3 _ _ _ (HSf.out.row))
        clear x0 x1 x2 x3 x4 x5 x6 x7 f0
        have HRAW : Hid (rawC bs = (⟨4, se, sq, str fd, 0, ⟨0, 0, ⟨#[]⟩⟩⟩, p3, b3)) := by
          show _ = _
          unfold rawC
          rw [HR1.out]
          dsimp only
          unfold raw1 raw2 raw3
          simp [HRse.out, HRsq.out, HRfd.out]
          try rfl
        refine (wEnd_any n a q bs p3 b3 _ (HS.out.rd.k (by exact Keeps.K))).mono ?_
        rintro e w5 ⟨rfl, hk⟩
        have HS5 := hid (HS.out.k (Keeps.trans (G := []) (by exact Keeps.K) hk (fun _ _ h => h)))
        clear hk
        obtain ⟨⟨x0, x1, x2, x3, x4, x5, x6, x7⟩, f0⟩ := blk8 HS5.out.row
        obtain ⟨⟨y0, y1, y2, y3, y4, y5, y6, y7⟩, g0⟩ := blk8 HS5.out.res
        have hmn : w.heap.size ≠ m := by have := HS5.out.apart; omega
        by_cases hok : b3 = false ∧ p3 = bs.length
        · have hb1 : (!b3 && p3 == bs.length) = true := by rw [hok.1, hok.2]; simp
          rw [hb1]
          have HG : Hid (getC bs = if checkC ⟨4, se, sq, str fd, 0, ⟨0, 0, ⟨#[]⟩⟩⟩ = true then (⟨4, se, sq, str fd, 0, ⟨0, 0, ⟨#[]⟩⟩⟩, true) else (zeroC, false)) := by
            show _ = _
            unfold getC
            rw [HRAW.out]
            dsimp only
            by_cases hc : checkC ⟨4, se, sq, str fd, 0, ⟨0, 0, ⟨#[]⟩⟩⟩ = true
            · rw [if_pos ⟨hok.1, hok.2, hc⟩, if_pos hc]
            · rw [if_neg (fun h => hc h.2.2), if_neg hc]
          clear hb1 hok
          go_wp2_with fail
          refine (cmCheck_any ⟨4, se, sq, str fd, 0, ⟨0, 0, ⟨#[]⟩⟩⟩ w5 (HT.out.k HS5.out.keeps) (HE.out.k HS5.out.keeps) (by show (⟨#[]⟩ : ByteArray).size ≤ _; decide)).mono ?_
          rintro e w6 ⟨rfl, hk⟩
          have HS6 := hid (HS5.out.k hk)
          clear hk x0 x1 x2 x3 x4 x5 x6 x7 f0 y0 y1 y2 y3 y4 y5 y6 y7 g0
          obtain ⟨⟨x0, x1, x2, x3, x4, x5, x6, x7⟩, f0⟩ := blk8 HS6.out.row
          obtain ⟨⟨y0, y1, y2, y3, y4, y5, y6, y7⟩, g0⟩ := blk8 HS6.out.res
          obtain ⟨cc, hcc⟩ : ∃ cc, checkC ⟨4, se, sq, str fd, 0, ⟨0, 0, ⟨#[]⟩⟩⟩ = cc := ⟨_, rfl⟩
          rw [hcc] at HG ⊢
          clear hcc
          rcases cc with _ | _
          · go_wp2_with fail
            refine bodyPost_ret (v := .tuple #[cmdV zeroC, .bool false]) (by simp [results, Tryd.results17, go_sem, cmdV, zeroC, y0, y1, y2, y3, y4, y5, y6, y7]) rfl ?_
            rw [HG.out]
            exact ⟨rfl, HS6.out.keeps.trans (G := [w.heap.size]) (by exact Keeps.K) (fun x hx hx' => by simp at hx'; omega)⟩
          · go_wp2_with fail
            refine bodyPost_ret (v := .tuple #[cmdV ⟨4, se, sq, str fd, 0, ⟨0, 0, ⟨#[]⟩⟩⟩, .bool true]) (by simp [results, Tryd.results17, go_sem, cmdV, y0, y1, y2, y3, y4, y5, y6, y7]) rfl ?_
            rw [HG.out]
            exact ⟨rfl, HS6.out.keeps.trans (G := [w.heap.size]) (by exact Keeps.K) (fun x hx hx' => by simp at hx'; omega)⟩
        · have hb1 : (!b3 && p3 == bs.length) = false := by
            rcases hb : b3 with _ | _
            · have : p3 ≠ bs.length := fun h => hok ⟨hb, h⟩
              simp [this]
            · simp
          rw [hb1]
          have HG : Hid (getC bs = (zeroC, false)) := by
            show _ = _
            unfold getC
            rw [HRAW.out]
            exact if_neg (fun h => hok ⟨h.1, h.2.1⟩)
          clear hb1 hok
          go_wp2_with fail
          refine bodyPost_ret (v := .tuple #[cmdV zeroC, .bool false]) (by simp [results, Tryd.results17, go_sem, cmdV, zeroC, y0, y1, y2, y3, y4, y5, y6, y7]) rfl ?_
          rw [HG.out]
          exact ⟨rfl, HS5.out.keeps.trans (G := [w.heap.size]) (by exact Keeps.K) (fun x hx hx' => by simp at hx'; omega)⟩
      · have n2 : (k == 2) = false := by simp; exact k2
        have n4 : (k == 4) = false := by simp; exact k4
        have HK := hid (And.intro k1 (And.intro k2 k4))
        clear k1 k2 k4
        go_wp2_with fail
        have HSa : Hid (GetSt m n a q bs w (w2.alloc (.cells #[.int .i64 k, .int .i64 0, .int .i64 0, .string ⟨#[]⟩, .int .i64 0, .int .i64 0, .int .i64 0, .string ⟨#[]⟩] 34)) ⟨k, 0, 0, ⟨#[]⟩, 0, ⟨0, 0, ⟨#[]⟩⟩⟩ p b) := HS0.out _ (by exact Keeps.K) (by rw [← HM.out]; exact heap_alloc_new _ _)
        refine (rdInt_any n a q bs p b _ (HSa.out.rd.k (by exact Keeps.K))).mono ?_
        obtain ⟨⟨se, p1, b1⟩, hr⟩ : ∃ r, rdD bs p b = r := ⟨_, rfl⟩
        rw [hr]
        have HRse := hid hr
        rintro e wse ⟨rfl, hrd, hk⟩
        dsimp only at hrd ⊢
        have HSb := hid (HSa.out.step (Keeps.trans (G := [n]) (by exact Keeps.K) hk (fun _ _ h => h)) hrd)
        clear hrd hk hr
        obtain ⟨⟨x0, x1, x2, x3, x4, x5, x6, x7⟩, f0⟩ := blk8 HSb.out.row
        go_wp2_with fail
        have HSc : Hid (GetSt m n a q bs w (wse.setCell ⟨m, 1, none⟩ (.int .i64 se)) ⟨k, se, 0, ⟨#[]⟩, 0, ⟨0, 0, ⟨#[]⟩⟩⟩ p1 b1) := HSb.out.set (by exact Keeps.K) (heap_setCell_same _ m 1 _ _ _ (HSb.out.row))
        clear x0 x1 x2 x3 x4 x5 x6 x7 f0
        refine (rdInt_any n a q bs p1 b1 _ (HSc.out.rd.k (by exact Keeps.K))).mono ?_
        obtain ⟨⟨sq, p2, b2⟩, hr⟩ : ∃ r, rdD bs p1 b1 = r := ⟨_, rfl⟩
        rw [hr]
        have HRsq := hid hr
        rintro e wsq ⟨rfl, hrd, hk⟩
        dsimp only at hrd ⊢
        have HSd := hid (HSc.out.step (Keeps.trans (G := [n]) (by exact Keeps.K) hk (fun _ _ h => h)) hrd)
        clear hrd hk hr
        obtain ⟨⟨x0, x1, x2, x3, x4, x5, x6, x7⟩, f0⟩ := blk8 HSd.out.row
        go_wp2_with fail
        have HSe : Hid (GetSt m n a q bs w (wsq.setCell ⟨m, 2, none⟩ (.int .i64 sq)) ⟨k, se, sq, ⟨#[]⟩, 0, ⟨0, 0, ⟨#[]⟩⟩⟩ p2 b2) := HSd.out.set (by exact Keeps.K) (heap_setCell_same _ m 2 _ _ _ (HSd.out.row))
        clear x0 x1 x2 x3 x4 x5 x6 x7 f0
        have HS := HSe
        have HRAW : Hid (rawC bs = (⟨k, se, sq, ⟨#[]⟩, 0, ⟨0, 0, ⟨#[]⟩⟩⟩, p2, b2)) := by
          show _ = _
          unfold rawC
          rw [HR1.out]
          dsimp only
          unfold raw1 raw2 raw3
          simp [HRse.out, HRsq.out, HK.out.1, HK.out.2.1, HK.out.2.2]
          try rfl
        refine (wEnd_any n a q bs p2 b2 _ (HS.out.rd.k (by exact Keeps.K))).mono ?_
        rintro e w5 ⟨rfl, hk⟩
        have HS5 := hid (HS.out.k (Keeps.trans (G := []) (by exact Keeps.K) hk (fun _ _ h => h)))
        clear hk
        obtain ⟨⟨x0, x1, x2, x3, x4, x5, x6, x7⟩, f0⟩ := blk8 HS5.out.row
        obtain ⟨⟨y0, y1, y2, y3, y4, y5, y6, y7⟩, g0⟩ := blk8 HS5.out.res
        have hmn : w.heap.size ≠ m := by have := HS5.out.apart; omega
        by_cases hok : b2 = false ∧ p2 = bs.length
        · have hb1 : (!b2 && p2 == bs.length) = true := by rw [hok.1, hok.2]; simp
          rw [hb1]
          have HG : Hid (getC bs = if checkC ⟨k, se, sq, ⟨#[]⟩, 0, ⟨0, 0, ⟨#[]⟩⟩⟩ = true then (⟨k, se, sq, ⟨#[]⟩, 0, ⟨0, 0, ⟨#[]⟩⟩⟩, true) else (zeroC, false)) := by
            show _ = _
            unfold getC
            rw [HRAW.out]
            dsimp only
            by_cases hc : checkC ⟨k, se, sq, ⟨#[]⟩, 0, ⟨0, 0, ⟨#[]⟩⟩⟩ = true
            · rw [if_pos ⟨hok.1, hok.2, hc⟩, if_pos hc]
            · rw [if_neg (fun h => hc h.2.2), if_neg hc]
          clear hb1 hok
          go_wp2_with fail
          refine (cmCheck_any ⟨k, se, sq, ⟨#[]⟩, 0, ⟨0, 0, ⟨#[]⟩⟩⟩ w5 (HT.out.k HS5.out.keeps) (HE.out.k HS5.out.keeps) (by show (⟨#[]⟩ : ByteArray).size ≤ _; decide)).mono ?_
          rintro e w6 ⟨rfl, hk⟩
          have HS6 := hid (HS5.out.k hk)
          clear hk x0 x1 x2 x3 x4 x5 x6 x7 f0 y0 y1 y2 y3 y4 y5 y6 y7 g0
          obtain ⟨⟨x0, x1, x2, x3, x4, x5, x6, x7⟩, f0⟩ := blk8 HS6.out.row
          obtain ⟨⟨y0, y1, y2, y3, y4, y5, y6, y7⟩, g0⟩ := blk8 HS6.out.res
          obtain ⟨cc, hcc⟩ : ∃ cc, checkC ⟨k, se, sq, ⟨#[]⟩, 0, ⟨0, 0, ⟨#[]⟩⟩⟩ = cc := ⟨_, rfl⟩
          rw [hcc] at HG ⊢
          clear hcc
          rcases cc with _ | _
          · go_wp2_with fail
            refine bodyPost_ret (v := .tuple #[cmdV zeroC, .bool false]) (by simp [results, Tryd.results17, go_sem, cmdV, zeroC, y0, y1, y2, y3, y4, y5, y6, y7]) rfl ?_
            rw [HG.out]
            exact ⟨rfl, HS6.out.keeps.trans (G := [w.heap.size]) (by exact Keeps.K) (fun x hx hx' => by simp at hx'; omega)⟩
          · go_wp2_with fail
            refine bodyPost_ret (v := .tuple #[cmdV ⟨k, se, sq, ⟨#[]⟩, 0, ⟨0, 0, ⟨#[]⟩⟩⟩, .bool true]) (by simp [results, Tryd.results17, go_sem, cmdV, y0, y1, y2, y3, y4, y5, y6, y7]) rfl ?_
            rw [HG.out]
            exact ⟨rfl, HS6.out.keeps.trans (G := [w.heap.size]) (by exact Keeps.K) (fun x hx hx' => by simp at hx'; omega)⟩
        · have hb1 : (!b2 && p2 == bs.length) = false := by
            rcases hb : b2 with _ | _
            · have : p2 ≠ bs.length := fun h => hok ⟨hb, h⟩
              simp [this]
            · simp
          rw [hb1]
          have HG : Hid (getC bs = (zeroC, false)) := by
            show _ = _
            unfold getC
            rw [HRAW.out]
            exact if_neg (fun h => hok ⟨h.1, h.2.1⟩)
          clear hb1 hok
          go_wp2_with fail
          refine bodyPost_ret (v := .tuple #[cmdV zeroC, .bool false]) (by simp [results, Tryd.results17, go_sem, cmdV, zeroC, y0, y1, y2, y3, y4, y5, y6, y7]) rfl ?_
          rw [HG.out]
          exact ⟨rfl, HS5.out.keeps.trans (G := [w.heap.size]) (by exact Keeps.K) (fun x hx hx' => by simp at hx'; omega)⟩

end Go.Proofs.YtbbdmmhpbeleoaaDoor

/- A command that is read, as the document reads it. (Printed by gen_cmh.py.) -/
namespace Go.Proofs.YtbbdmmhpbeleoaaDoor
open Go Go.RowKit

theorem new2nd (w : World) (o o2 : Obj) : ((w.alloc o).alloc o2).heap[w.heap.size + 1]? = some o2 := by
  have h := heap_alloc_new (w.alloc o) o2
  rw [show (w.alloc o).heap.size = w.heap.size + 1 by simp] at h
  exact h
end Go.Proofs.YtbbdmmhpbeleoaaDoor

/- A command's bytes, as the document puts them. (Printed by gen_cme.py.) -/
namespace Go.Proofs.YtbbdmmhpbeleoaaDoor
open Go Go.RowKit

end Go.Proofs.YtbbdmmhpbeleoaaDoor

/- May a reply be: both. -/
namespace Go.Proofs.YtbbdmmhpbeleoaaDoor
open Go Go.RowKit

theorem blk5 {w : World} {b : Nat} {x0 x1 x2 x3 x4 : Value} {t : TypeId} (h : w.heap[b]? = some (.cells #[x0, x1, x2, x3, x4] t (0, 0))) :
    (w.cell? ⟨b, 0, none⟩ = some x0 ∧ w.cell? ⟨b, 1, none⟩ = some x1 ∧ w.cell? ⟨b, 2, none⟩ = some x2 ∧ w.cell? ⟨b, 3, none⟩ = some x3 ∧ w.cell? ⟨b, 4, none⟩ = some x4) ∧ ∀ i, w.frozen? ⟨b, i, none⟩ = false :=
  ⟨⟨cell_of_block h 0, cell_of_block h 1, cell_of_block h 2, cell_of_block h 3, cell_of_block h 4⟩, fun i => frozen_of_row w b i _ _ h⟩

set_option maxRecDepth 100000 in
set_option maxHeartbeats 8000000 in
theorem cmCheckR_any (r : ReplyD) (w : World) (hT : Tabs w) (hs : r.value.s.size ≤ 9223372036854775806) : Calls Tryd.prog 26 #[replyV r] w fun e w' => e = .returned (.bool (checkR r)) ∧ Keeps [] w w' := by
  obtain ⟨er, n, vk, vn, vs⟩ := r
  have HC5 := hid (fun w1 hT1 => vCheck_any ⟨vk, vn, vs⟩ w1 hT1 hs)
  unfold valV at HC5
  have HD : Hid (checkR ⟨er, n, ⟨vk, vn, vs⟩⟩ = (decide (0 ≤ er) && decide (er ≤ 24) && countsD n 0 && checkD ⟨vk, vn, vs⟩)) := rfl
  obtain ⟨b5, hb5⟩ : ∃ b5, checkD ⟨vk, vn, vs⟩ = b5 := ⟨_, rfl⟩
  have HT := hid hT
  rw [hb5] at HC5 HD
  dsimp only at HC5
  have hcs : (checkR ⟨er, n, ⟨vk, vn, vs⟩⟩ = false ∧ (er < 0 ∨ (0 ≤ er ∧ 24 < er) ∨ (0 ≤ er ∧ er ≤ 24 ∧ n < 0) ∨ (0 ≤ er ∧ er ≤ 24 ∧ 0 ≤ n ∧ 1099511627776 < n))) ∨ (checkR ⟨er, n, ⟨vk, vn, vs⟩⟩ = b5 ∧ 0 ≤ er ∧ er ≤ 24 ∧ 0 ≤ n ∧ n ≤ 1099511627776) := by
    by_cases h : 0 ≤ er ∧ er ≤ 24 ∧ 0 ≤ n ∧ n ≤ 1099511627776
    · obtain ⟨h1, h2, h3, h4⟩ := h
      exact .inr ⟨by rw [HD.out]; simp [countsD, h1, h2, h3, h4], h1, h2, h3, h4⟩
    · refine .inl ⟨?_, by omega⟩
      rw [HD.out]
      rcases b5 with _ | _
      · simp
      · simp [countsD]
        omega
  unfold replyV
  clear hT hs hb5
  dsimp only
  rcases hcs with ⟨hf, hc⟩ | ⟨hf, q1, q2, q3, q4⟩
  · have HF := hid hf
    clear hf
    rcases hc with q1 | ⟨q1, q2⟩ | ⟨q1, q2, q3⟩ | ⟨q1, q2, q3, q4⟩
    all_goals
      go_enter Tryd.func26, Tryd.ntmps26
      go_wp2_with fail
      go_ret
      exact ⟨by rw [HF.out]; rfl, by exact Keeps.K⟩
  · have HF := hid hf
    clear hf
    go_enter Tryd.func26, Tryd.ntmps26
    go_wp2_with fail
    refine (HC5.out _ (HT.out.k (by exact Keeps.K))).mono ?_
    rintro e w2 ⟨rfl, hk⟩
    have K : Hid (Keeps [] w w2) := Keeps.trans (G := []) (by exact Keeps.K) hk (fun _ _ h => h)
    clear hk
    go_wp2_with fail
    go_ret
    exact ⟨by rw [HF.out]; rfl, K.out⟩

set_option maxRecDepth 100000 in
set_option maxHeartbeats 8000000 in
theorem r14CheckR_any (r : ReplyD) (w : World) (hT : Tabs w) : Calls Tryd.prog 5 #[replyV r] w fun e w' => e = .returned (.bool (checkR r)) ∧ Keeps [] w w' := by
  obtain ⟨er, n, vk, vn, vs⟩ := r
  obtain ⟨b5, hb5⟩ : ∃ b5, checkD ⟨vk, vn, vs⟩ = b5 := ⟨_, rfl⟩
  obtain ⟨b4, hb4⟩ : ∃ b4, countsD n 0 = b4 := ⟨_, rfl⟩
  have HC5 := hid (fun w1 hT1 => r5check_all ⟨vk, vn, vs⟩ b5 hb5 w1 hT1)
  have HC4 := hid (fun w1 => r14counts_any n 0 w1)
  unfold valV at HC5
  dsimp only at HC5
  have HD : Hid (checkR ⟨er, n, ⟨vk, vn, vs⟩⟩ = (decide (0 ≤ er) && decide (er ≤ 24) && countsD n 0 && checkD ⟨vk, vn, vs⟩)) := rfl
  have HT := hid hT
  rw [hb4] at HC4
  rw [hb4, hb5] at HD
  have hcs : (checkR ⟨er, n, ⟨vk, vn, vs⟩⟩ = false ∧ (er < 0 ∨ (0 ≤ er ∧ 24 < er))) ∨ (checkR ⟨er, n, ⟨vk, vn, vs⟩⟩ = (b4 && b5) ∧ 0 ≤ er ∧ er ≤ 24) := by
    by_cases h : 0 ≤ er ∧ er ≤ 24
    · obtain ⟨h1, h2⟩ := h
      exact .inr ⟨by rw [HD.out]; simp [h1, h2], h1, h2⟩
    · refine .inl ⟨?_, by omega⟩
      rw [HD.out]
      by_cases h0 : 0 ≤ er
      · rw [decide_eq_false (show ¬ er ≤ 24 by omega)]; simp
      · rw [decide_eq_false h0]; simp
  unfold replyV
  clear hT hb4 hb5
  dsimp only
  rcases hcs with ⟨hf, hc⟩ | ⟨hf, q1, q2⟩
  · have HF := hid hf
    clear hf
    rcases hc with q1 | ⟨q1, q2⟩
    all_goals
      go_enter Tryd.func5, Tryd.ntmps5
      go_wp2_with fail
      go_ret
      exact ⟨by rw [HF.out]; rfl, by exact Keeps.K⟩
  · have HF := hid hf
    clear hf
    go_enter Tryd.func5, Tryd.ntmps5
    go_wp2_with fail
    refine (HC4.out _).mono ?_
    rintro e w2 ⟨rfl, hk⟩
    have K2 : Hid (Keeps [] w w2) := Keeps.trans (G := []) (by exact Keeps.K) hk (fun _ _ h => h)
    obtain ⟨⟨x0, x1, x2, x3, x4⟩, f0⟩ := blk5 ((hk.block w.heap.size (by simp) (by simp)).trans (heap_alloc_new _ _))
    clear hk
    rcases b4 with _ | _
    · go_wp2_with fail
      go_ret
      exact ⟨by rw [HF.out]; rfl, K2.out⟩
    · go_wp2_with fail
      refine (HC5.out _ (HT.out.k K2.out)).mono ?_
      rintro e w3 ⟨rfl, hk⟩
      have K := hid (K2.out.trans hk (fun _ _ h => h))
      clear hk
      go_wp2_with fail
      go_ret
      exact ⟨by rw [HF.out]; rfl, K.out⟩

end Go.Proofs.YtbbdmmhpbeleoaaDoor

/- A reply's bytes, as both put them. -/
namespace Go.Proofs.YtbbdmmhpbeleoaaDoor
open Go Go.RowKit

structure ReplyW (r : ReplyD) : Prop where
  err : I64 r.err
  n : I64 r.n
  vkind : I64 r.value.kind
  vn : I64 r.value.n
  vs : r.value.s.size ≤ 1000000

set_option maxRecDepth 100000 in
set_option maxHeartbeats 8000000 in
theorem cmPutR_any (r : ReplyD) (hr : ReplyW r) (w : World) : Calls Tryd.prog 7 #[replyV r] w (PutPost [] (putR r) w) := by
  obtain ⟨er, n, vk, vn, vs⟩ := r
  have HC := hid hr
  clear hr
  have le := intL_len HC.out.err
  have ln := intL_len HC.out.n
  have hvs := HC.out.vs
  dsimp only at le ln hvs
  unfold replyV
  dsimp only
  go_enter Tryd.func7, Tryd.ntmps7
  go_wp2_with fail
  obtain ⟨wA, hwA⟩ : ∃ wA, w.alloc (.cells #[.int .i64 er, .int .i64 n, .int .i64 vk, .int .i64 vn, .string vs] 26) = wA := ⟨_, rfl⟩
  have KA : Hid (Keeps [] w wA) := by rw [← hwA]; exact Keeps.K
  have HA : Hid (wA.heap[w.heap.size]? = some (.cells #[.int .i64 er, .int .i64 n, .int .i64 vk, .int .i64 vn, .string vs] 26 (0, 0))) := by rw [← hwA]; exact heap_alloc_new _ _
  have HROW : Hid (∀ w', Keeps [] wA w' → w'.heap[w.heap.size]? = some (.cells #[.int .i64 er, .int .i64 n, .int .i64 vk, .int .i64 vn, .string vs] 26 (0, 0))) := fun w' g => (g.block _ (Array.getElem?_eq_some_iff.1 HA.out).1 (by simp)).trans HA.out
  rw [hwA]
  clear hwA
  obtain ⟨⟨x0, x1, x2, x3, x4⟩, f0⟩ := blk5 HA.out
  refine Plan.wp_region_plan (fun wx => (wx.cell? ⟨w.heap.size, 0, none⟩ = some (.int .i64 er) ∧ wx.cell? ⟨w.heap.size, 1, none⟩ = some (.int .i64 n)) ∧ wx.cell? ⟨w.heap.size, 2, none⟩ = some (.int .i64 vk) ∧ wx.cell? ⟨w.heap.size, 3, none⟩ = some (.int .i64 vn) ∧ wx.cell? ⟨w.heap.size, 4, none⟩ = some (.string vs)) 8 [(true, 0), (true, 1), (true, 3), (true, 4), (true, 6), (true, 7), (false, 2), (false, 5)] (by kernel_rfl) (by as_aux_lemma => kernel_rfl) (by kernel_rfl) (fun _ _ _ _ _ h => h) ?_ (fun hS => ?_)
  (· go_simp)
  simp only [Plan.pick, List.append_eq, List.cons_append, List.nil_append, Plan.g1, Plan.g2, Option.getD_some, List.drop_succ_cons, List.drop_zero]
  iterate 6 (first | refine Plan.tA ?_ | refine Plan.tY ?_ | refine Plan.pN ?_ | refine Plan.pU ?_ | fail)
  refine Plan.step ?_
  go_wp2_with fail
  refine (putInt_any none [] 0 er HC.out.err _ ⟨rfl, .inl ⟨rfl, none, 0, rfl⟩⟩ (by simp)).mono ?_
  intro e w1 hp
  obtain ⟨a1, q1, rfl, h1, h2⟩ := hp
  rw [List.nil_append] at h1 ⊢
  obtain ⟨l1, hl1⟩ : ∃ l1, Lib.uvarint (Lib.zigzag er) = l1 := ⟨_, rfl⟩
  have HL1 : Hid (intL er = l1) := hl1
  have hz1 : l1.length ≤ 10 := by rw [← hl1]; exact le
  rw [hl1] at h1 ⊢
  have O1 : Hid (w1.ownsRow w.heap.size 5 1 (.slice a1 l1.length q1) l1.length (u8s l1)) := ownsRow_base h1 KA.out.size
  have K1 : Hid (Keeps [] wA w1) := Keeps.trans (G := []) (by exact Keeps.K) h2 (fun _ _ h => h)
  clear h1 h2 hl1 hS x0 x1 x2 x3 x4 f0
  obtain ⟨⟨x0, x1, x2, x3, x4⟩, f0⟩ := blk5 (HROW.out _ K1.out)
  go_wp2_with fail
  refine ⟨?_, ?_⟩
  (· go_simp)
  refine Plan.step ?_
  go_wp2_with fail
  refine (putInt_any a1 l1 q1 n HC.out.n _ (Reads.k0 (Reads.ofOwn O1.out) (by exact Keeps.K)) (by omega)).mono ?_
  intro e w2 hp
  obtain ⟨a2, q2, rfl, h1, h2⟩ := hp
  obtain ⟨l2, hl2⟩ : ∃ l2, l1 ++ Lib.uvarint (Lib.zigzag n) = l2 := ⟨_, rfl⟩
  have HL2 : Hid (intL er ++ intL n = l2) := by show _ = _; rw [HL1.out]; exact hl2
  have hz2 : l2.length ≤ 20 := by rw [← hl2, List.length_append]; unfold intL at ln; omega
  rw [hl2] at h1 ⊢
  have K2 : Hid (Keeps [] wA w2) := K1.out.trans (Keeps.trans (G := []) (by exact Keeps.K) h2 (fun _ _ h => h)) (fun _ _ h => h)
  have O2 : Hid (w2.ownsRow w.heap.size 5 1 (.slice a2 l2.length q2) l2.length (u8s l2)) := ownsRow_base h1 (Nat.le_trans KA.out.size K1.out.size)
  clear h1 h2 hl2 x0 x1 x2 x3 x4 f0
  obtain ⟨⟨x0, x1, x2, x3, x4⟩, f0⟩ := blk5 (HROW.out _ K2.out)
  go_wp2_with fail
  refine ⟨?_, ?_⟩
  (· go_simp)
  refine Plan.fin ?_
  go_wp2_with fail
  refine (vPut_any a2 l2 l2.length rfl q2 ⟨vk, vn, vs⟩ _ (Reads.k0 (Reads.ofOwn O2.out) (by exact Keeps.K)) (by dsimp only; omega) hvs HC.out.vkind HC.out.vn).mono ?_
  intro e w3 hp
  obtain ⟨a3, q3, rfl, h1, h2⟩ := hp
  obtain ⟨l3, hl3⟩ : ∃ l3, l2 ++ putL ⟨vk, vn, vs⟩ = l3 := ⟨_, rfl⟩
  rw [hl3] at h1 ⊢
  have HL3 := hid hl3
  have O3 : Hid (w3.ownsRow w.heap.size 5 1 (.slice a3 l3.length q3) l3.length (u8s l3)) := ownsRow_base h1 (Nat.le_trans KA.out.size K2.out.size)
  have K3 : Hid (Keeps [] w w3) := KA.out.trans (K2.out.trans (Keeps.trans (G := []) (by exact Keeps.K) h2 (fun _ _ h => h)) (fun _ _ h => h)) (fun _ _ h => h)
  clear h1 h2 hl3
  go_wp2_with fail
  go_ret
  exact PutPost.is (by rw [← HL3.out, ← HL2.out]; unfold putR; simp) O3.out K3.out

set_option maxRecDepth 100000 in
set_option maxHeartbeats 8000000 in
theorem r14PutR_any (r : ReplyD) (hr : ReplyW r) (w : World) : Calls Tryd.prog 9 #[replyV r] w (PutPost [] (putR r) w) := by
  obtain ⟨er, n, vk, vn, vs⟩ := r
  have HC := hid hr
  clear hr
  have le := intL_len HC.out.err
  have ln := intL_len HC.out.n
  have hvs := HC.out.vs
  dsimp only at le ln hvs
  unfold replyV
  dsimp only
  go_enter Tryd.func9, Tryd.ntmps9
  go_wp2_with fail
  obtain ⟨wA, hwA⟩ : ∃ wA, w.alloc (.cells #[.int .i64 er, .int .i64 n, .int .i64 vk, .int .i64 vn, .string vs] 26) = wA := ⟨_, rfl⟩
  have KA : Hid (Keeps [] w wA) := by rw [← hwA]; exact Keeps.K
  have HA : Hid (wA.heap[w.heap.size]? = some (.cells #[.int .i64 er, .int .i64 n, .int .i64 vk, .int .i64 vn, .string vs] 26 (0, 0))) := by rw [← hwA]; exact heap_alloc_new _ _
  have HROW : Hid (∀ w', Keeps [] wA w' → w'.heap[w.heap.size]? = some (.cells #[.int .i64 er, .int .i64 n, .int .i64 vk, .int .i64 vn, .string vs] 26 (0, 0))) := fun w' g => (g.block _ (Array.getElem?_eq_some_iff.1 HA.out).1 (by simp)).trans HA.out
  rw [hwA]
  clear hwA
  obtain ⟨⟨x0, x1, x2, x3, x4⟩, f0⟩ := blk5 HA.out
  obtain ⟨ip, hi, hz0, hz1, hz2⟩ := info_parts Tryd.infoU8
  refine Plan.wp_region_plan (fun wx => wx.cell? ⟨w.heap.size, 0, none⟩ = some (.int .i64 er) ∧ wx.cell? ⟨w.heap.size, 1, none⟩ = some (.int .i64 n)) 5 [(true, 0), (true, 1), (true, 3), (true, 4), (false, 2)] (by kernel_rfl) (by as_aux_lemma => kernel_rfl) (by kernel_rfl) (fun _ _ _ _ _ h => h) ?_ (fun hS => ?_)
  (· go_simp)
  simp only [Plan.pick, List.append_eq, List.cons_append, List.nil_append, Plan.g1, Plan.g2, Option.getD_some, List.drop_succ_cons, List.drop_zero]
  iterate 4 (first | refine Plan.tA ?_ | refine Plan.tY ?_ | refine Plan.pN ?_ | refine Plan.pU ?_ | fail)
  clear hS
  refine Plan.step ?_
  go_wp2_with fail
  refine (r3Int_any er HC.out.err _).mono ?_
  intro e w1 hp
  obtain ⟨a1, q1, rfl, h1, h2⟩ := hp
  rw [List.nil_append] at h1 ⊢
  obtain ⟨l1, hl1⟩ : ∃ l1, intL er = l1 := ⟨_, rfl⟩
  have HL1 : Hid (intL er = l1) := hl1
  have hz1' : l1.length ≤ 10 := by rw [← hl1]; exact le
  rw [hl1] at h1 ⊢
  have O1 : Hid (w1.ownsRow wA.heap.size 5 1 (.slice a1 l1.length q1) l1.length (u8s l1)) := h1
  have KD1 : Hid (Keeps [] wA w1) := Keeps.trans (G := []) (by exact Keeps.K) h2 (fun _ _ h => h)
  clear h1 h2 hl1 x0 x1 x2 x3 x4 f0
  obtain ⟨⟨x0, x1, x2, x3, x4⟩, f0⟩ := blk5 (HROW.out _ KD1.out)
  go_wp2_with fail
  refine ⟨?_, ?_⟩
  (· go_simp)
  refine Plan.fin ?_
  go_wp2_with fail
  refine (r3Int_any n HC.out.n _).mono ?_
  intro e wC2 hp
  obtain ⟨b2, c2, rfl, h1, h2⟩ := hp
  rw [List.nil_append] at h1 ⊢
  obtain ⟨m2, hm⟩ : ∃ m2, intL n = m2 := ⟨_, rfl⟩
  have HM2 := hid hm
  have hmz2 : m2.length ≤ 10 := by rw [← hm]; exact ln
  rw [hm] at h1 ⊢
  have KC2 : Hid (Keeps [] wA wC2) := KD1.out.trans (Keeps.trans (G := []) (by exact Keeps.K) h2 (fun _ _ h => h)) (fun _ _ h => h)
  have R2 : Hid (Reads wC2 1 (.slice b2 m2.length c2) m2.length (u8s m2)) := Reads.ofOwn h1
  have O1' : Hid (wC2.ownsRow wA.heap.size 5 1 (.slice a1 l1.length q1) l1.length (u8s l1)) := ownsRow_keeps O1.out (Keeps.trans (G := []) (by exact Keeps.K) h2 (fun _ _ h => h)) (fun _ _ h => by cases h)
  have hwC2M : wA.heap.size ≤ wC2.heap.size := KC2.out.size
  clear h1 h2 hm
  clear x0 x1 x2 x3 x4 f0
  obtain ⟨⟨x0, x1, x2, x3, x4⟩, f0⟩ := blk5 (HROW.out _ KC2.out)
  have HR2 : Hid (∀ wx wD, Keeps [] wC2 wx → Hid (∀ w0 : World, w0.heap.size ≤ wA.heap.size → Keeps [] w0 wx → Keeps [] w0 wD) → wD.heap[w.heap.size]? = some (.cells #[.int .i64 er, .int .i64 n, .int .i64 vk, .int .i64 vn, .string vs] 26 (0, 0))) := fun wx wD g h => HROW.out wD (h.out wA (Nat.le_refl _) (KC2.out.trans g (fun _ _ h => h)))
  go_wp2_with (at_builtin; go_must (refine wpList_putRow _ (by rfl) _ _ (by rfl) wA.heap.size ip hi hz0 hz1 hz2 (.slice a1 l1.length q1) (by rfl) l1 l1.length rfl O1'.out (.slice b2 m2.length c2) (by rfl) m2 R2.out (by omega) (by omega) ?_; intro a2 q2 wD2 ho hk; have xr := blk5 (HR2.out _ _ (by exact Keeps.K) hk); obtain ⟨⟨x0, x1, x2, x3, x4⟩, f0⟩ := xr))
  obtain ⟨l2, hl⟩ : ∃ l2, l1 ++ m2 = l2 := ⟨_, rfl⟩
  have HL2 : Hid (l1 ++ m2 = l2) := hl
  have hln2 : l1.length + m2.length = l2.length := by rw [← hl, List.length_append]
  have O2 : Hid (wD2.ownsRow wA.heap.size 5 1 (.slice a2 l2.length q2) l2.length (u8s l2)) := by
    have h := ho.out
    rw [hl, hln2] at h
    exact h
  have KD2 : Hid (Keeps [] wA wD2) := hk.out wA (Nat.le_refl _) (by have kk := KC2.out; exact Keeps.K)
  rw [hln2]
  clear ho hk hl
  go_wp2_with fail
  refine (r5Put_any ⟨vk, vn, vs⟩ _ hvs HC.out.vkind HC.out.vn).mono ?_
  intro e wC3 hp
  obtain ⟨b3, c3, rfl, h1, h2⟩ := hp
  rw [List.nil_append] at h1 ⊢
  obtain ⟨m3, hm⟩ : ∃ m3, putL ⟨vk, vn, vs⟩ = m3 := ⟨_, rfl⟩
  have HM3 := hid hm
  have hmz3 : m3.length ≤ 1000030 := by rw [← hm]; have := intL_len (show I64 (vs.size : Int) from ⟨by omega, by omega⟩); have := intL_len HC.out.vkind; have := intL_len HC.out.vn; have e : vs.data.toList.length = vs.size := (by rw [Array.length_toList]; rfl); dsimp only at *; unfold putL textL; simp only [List.length_append, e]; omega
  rw [hm] at h1 ⊢
  have KC3 : Hid (Keeps [] wA wC3) := KD2.out.trans (Keeps.trans (G := []) (by exact Keeps.K) h2 (fun _ _ h => h)) (fun _ _ h => h)
  have R3 : Hid (Reads wC3 1 (.slice b3 m3.length c3) m3.length (u8s m3)) := Reads.ofOwn h1
  have O2' : Hid (wC3.ownsRow wA.heap.size 5 1 (.slice a2 l2.length q2) l2.length (u8s l2)) := ownsRow_keeps O2.out (Keeps.trans (G := []) (by exact Keeps.K) h2 (fun _ _ h => h)) (fun _ _ h => by cases h)
  have hwC3M : wA.heap.size ≤ wC3.heap.size := KC3.out.size
  clear h1 h2 hm
  clear x0 x1 x2 x3 x4 f0
  obtain ⟨⟨x0, x1, x2, x3, x4⟩, f0⟩ := blk5 (HROW.out _ KC3.out)
  have HR3 : Hid (∀ wx wD, Keeps [] wC3 wx → Hid (∀ w0 : World, w0.heap.size ≤ wA.heap.size → Keeps [] w0 wx → Keeps [] w0 wD) → wD.heap[w.heap.size]? = some (.cells #[.int .i64 er, .int .i64 n, .int .i64 vk, .int .i64 vn, .string vs] 26 (0, 0))) := fun wx wD g h => HROW.out wD (h.out wA (Nat.le_refl _) (KC3.out.trans g (fun _ _ h => h)))
  go_wp2_with (at_builtin; go_must (refine wpList_putRow _ (by rfl) _ _ (by rfl) wA.heap.size ip hi hz0 hz1 hz2 (.slice a2 l2.length q2) (by rfl) l2 l2.length rfl O2'.out (.slice b3 m3.length c3) (by rfl) m3 R3.out (by omega) (by omega) ?_; intro a3 q3 wD3 ho hk; have xr := blk5 (HR3.out _ _ (by exact Keeps.K) hk); obtain ⟨⟨x0, x1, x2, x3, x4⟩, f0⟩ := xr))
  obtain ⟨l3, hl⟩ : ∃ l3, l2 ++ m3 = l3 := ⟨_, rfl⟩
  have HL3 : Hid (l2 ++ m3 = l3) := hl
  have hln3 : l2.length + m3.length = l3.length := by rw [← hl, List.length_append]
  have O3 : Hid (wD3.ownsRow wA.heap.size 5 1 (.slice a3 l3.length q3) l3.length (u8s l3)) := by
    have h := ho.out
    rw [hl, hln3] at h
    exact h
  have KD3 : Hid (Keeps [] wA wD3) := hk.out wA (Nat.le_refl _) (by have kk := KC3.out; exact Keeps.K)
  rw [hln3]
  clear ho hk hl
  go_ret
  exact PutPost.is (by rw [← HL3.out, ← HL2.out, ← HL1.out, ← HM2.out, ← HM3.out]; unfold putR; simp) (ownsRow_base O3.out KA.out.size) (KA.out.trans KD3.out (fun _ _ h => h))

end Go.Proofs.YtbbdmmhpbeleoaaDoor
