/- Joined of CmI, CmJ, CmK, CmL, CoreD, CoreI, Place. -/
import Derived.Test.YtbbdmmhpbeleoaaDoorQ19
import Derived.Test.YtbbdmmhpbeleoaaDoorCmP
import Derived.WalkKit
import Derived.Test.YtbbdmmhpbeleoaaDoorRows
import Derived.Test.YtbbdmmhpbeleoaaDoorQ04
import Derived.Test.YtbbdmmhpbeleoaaDoorQ14

set_option linter.unusedSimpArgs false
set_option linter.unusedVariables false

/- A reply that is read: both. (Printed by gen_cmi.py.) -/
namespace Go.Proofs.YtbbdmmhpbeleoaaDoor
open Go Go.RowKit

/-- The reply under way at block m, a reader (of either kind) at block n. -/
structure RpSt (t : TypeId) (n m : Nat) (a : Option Addr) (q : Nat) (bs : List UInt8) (w wr : World) (c : ReplyD) (p : Nat) (b : Bool) : Prop where
  row : wr.heap[m]? = some (.cells #[.int .i64 c.err, .int .i64 c.n, .int .i64 c.value.kind, .int .i64 c.value.n, .string c.value.s] 26 (0, 0))
  res : wr.heap[w.heap.size]? = some (.cells #[.int .i64 0, .int .i64 0, .int .i64 0, .int .i64 0, .string ⟨#[]⟩] 26 (0, 0))
  rd : RdAt t wr n a q bs p b
  keeps : Keeps [] w wr
  apart : w.heap.size < n ∧ n < m
  lies : Lies (fun b => b ≠ m) (.slice a bs.length q) bs.length
theorem RpSt.step {t : TypeId} {n m : Nat} {a : Option Addr} {q : Nat} {bs : List UInt8} {w wr w' : World} {c : ReplyD} {p p' : Nat} {b b' : Bool} (H : RpSt t n m a q bs w wr c p b) (k : Keeps [n] wr w') (h : RdAt t w' n a q bs p' b') : RpSt t n m a q bs w w' c p' b' :=
  ⟨(k.block _ (Array.getElem?_eq_some_iff.1 H.row).1 (by have := H.apart; simp; omega)).trans H.row, (k.block _ (Array.getElem?_eq_some_iff.1 H.res).1 (by have := H.apart; simp; omega)).trans H.res, h, H.keeps.trans k (fun x hx hx' => by have := H.apart; simp at hx'; omega), H.apart, H.lies⟩
theorem RpSt.k {t : TypeId} {n m : Nat} {a : Option Addr} {q : Nat} {bs : List UInt8} {w wr w' : World} {c : ReplyD} {p : Nat} {b : Bool} (H : RpSt t n m a q bs w wr c p b) (k : Keeps [] wr w') : RpSt t n m a q bs w w' c p b :=
  ⟨(k.block _ (Array.getElem?_eq_some_iff.1 H.row).1 (by simp)).trans H.row, (k.block _ (Array.getElem?_eq_some_iff.1 H.res).1 (by simp)).trans H.res, H.rd.k k, H.keeps.trans k (fun _ _ h => h), H.apart, H.lies⟩
theorem RpSt.set {t : TypeId} {n m : Nat} {a : Option Addr} {q : Nat} {bs : List UInt8} {w wr w' : World} {c c' : ReplyD} {p : Nat} {b : Bool} (H : RpSt t n m a q bs w wr c p b) (k : Keeps [m] wr w') (h : w'.heap[m]? = some (.cells #[.int .i64 c'.err, .int .i64 c'.n, .int .i64 c'.value.kind, .int .i64 c'.value.n, .string c'.value.s] 26 (0, 0))) : RpSt t n m a q bs w w' c' p b :=
  ⟨h, (k.block _ (Array.getElem?_eq_some_iff.1 H.res).1 (by have := H.apart; simp; omega)).trans H.res, ⟨(k.block _ (Array.getElem?_eq_some_iff.1 H.rd.row).1 (by have := H.apart; simp; omega)).trans H.rd.row, H.rd.bytes.keepsL H.lies k (fun b hb => by simpa using hb), H.rd.apart, H.rd.place, H.rd.short⟩, H.keeps.trans k (fun x hx hx' => by have := H.apart; simp at hx'; omega), H.apart, H.lies⟩

set_option maxRecDepth 100000 in
set_option maxHeartbeats 8000000 in
theorem cmGetR_any (v0 : Value) (bs : List UInt8) (w : World) (hT : Tabs w) (hr : Reads w 1 v0 bs.length (u8s bs)) (hb : bs.length ≤ 140737488355328) :
    Calls Tryd.prog 8 #[v0] w fun e w' => e = .returned (.tuple #[replyV (getR bs).1, .bool (getR bs).2]) ∧ Keeps [] w w' := by
  have HT := hid hT
  have HR := hid hr
  clear hT hr
  go_enter Tryd.func8, Tryd.ntmps8
  go_wp2_with fail
  refine (wNew_any v0 bs _ (Reads.k0 HR.out (by exact Keeps.K)) hb).mono ?_
  rintro e w1 ⟨n, a, q, rfl, hn, hrd, hk, hown⟩
  have K1 : Hid (Keeps [] w w1) := Keeps.trans (G := []) (by exact Keeps.K) hk (fun _ _ h => h)
  have HRES : Hid (w1.heap[w.heap.size]? = some (.cells #[.int .i64 0, .int .i64 0, .int .i64 0, .int .i64 0, .string ⟨#[]⟩] 26 (0, 0))) := (hk.block _ (by simp) (by simp)).trans (heap_alloc_new _ _)
  have hn' : w.heap.size + 1 ≤ n := by simpa using hn
  have hn2 : n < w1.heap.size := hrd.lt
  obtain ⟨m, hm⟩ : ∃ m, w1.heap.size = m := ⟨_, rfl⟩
  have HS0 : Hid (RpSt 78 n m a q bs w (w1.alloc (.cells #[.int .i64 0, .int .i64 0, .int .i64 0, .int .i64 0, .string ⟨#[]⟩] 26)) ⟨0, 0, ⟨0, 0, ⟨#[]⟩⟩⟩ 0 false) :=
    ⟨by rw [← hm]; exact heap_alloc_new _ _, (Keeps.block (F := []) (w := w1) (by exact Keeps.K) _ (Array.getElem?_eq_some_iff.1 HRES.out).1 (by simp)).trans HRES.out, hrd.k (by exact Keeps.K), K1.out.trans (G := []) (by exact Keeps.K) (fun _ _ h => h), ⟨by omega, by omega⟩, fun _ b hb e => by have := (hown b hb).2; omega⟩
  have hmn : w.heap.size ≠ m := by omega
  clear hk hrd hown hn
  go_wp2_with fail
  refine (rdInt_any _ a q bs 0 false _ (HS0.out.rd.k (by exact Keeps.K))).mono ?_
  obtain ⟨⟨er, p, b⟩, hr⟩ : ∃ r, rdD bs 0 false = r := ⟨_, rfl⟩
  rw [hr]
  have HRer := hid hr
  rintro e wer ⟨rfl, hrd, hk⟩
  dsimp only at hrd ⊢
  have HSa := hid (HS0.out.step (Keeps.trans (G := [n]) (by exact Keeps.K) hk (fun _ _ h => h)) hrd)
  clear hrd hk hr
  obtain ⟨⟨x0, x1, x2, x3, x4⟩, f0⟩ := blk5 HSa.out.row
  go_wp2_with fail
  have HSb : Hid (RpSt 78 n m a q bs w (wer.setCell ⟨m, 0, none⟩ (.int .i64 er)) ⟨er, 0, ⟨0, 0, ⟨#[]⟩⟩⟩ p b) := HSa.out.set (by exact Keeps.K) (heap_setCell_same _ _ 0 _ _ _ (HSa.out.row))
  clear x0 x1 x2 x3 x4 f0
  refine (rdInt_any _ a q bs p b _ (HSb.out.rd.k (by exact Keeps.K))).mono ?_
  obtain ⟨⟨nn, p1, b1⟩, hr⟩ : ∃ r, rdD bs p b = r := ⟨_, rfl⟩
  rw [hr]
  have HRnn := hid hr
  rintro e wnn ⟨rfl, hrd, hk⟩
  dsimp only at hrd ⊢
  have HSc := hid (HSb.out.step (Keeps.trans (G := [n]) (by exact Keeps.K) hk (fun _ _ h => h)) hrd)
  clear hrd hk hr
  obtain ⟨⟨x0, x1, x2, x3, x4⟩, f0⟩ := blk5 HSc.out.row
  go_wp2_with fail
  have HSd : Hid (RpSt 78 n m a q bs w (wnn.setCell ⟨m, 1, none⟩ (.int .i64 nn)) ⟨er, nn, ⟨0, 0, ⟨#[]⟩⟩⟩ p1 b1) := HSc.out.set (by exact Keeps.K) (heap_setCell_same _ _ 1 _ _ _ (HSc.out.row))
  clear x0 x1 x2 x3 x4 f0
  refine (vGet_any _ a q bs p1 b1 _ (HSd.out.rd.k (by exact Keeps.K)) (fun w' g => HT.out.k (HSd.out.keeps.trans (Keeps.trans (G := [n]) (by exact Keeps.K) g (fun _ _ h => h)) (fun x hx hx' => by have := HSd.out.apart; simp at hx'; omega)))).mono ?_
  have hsv := getD_short bs p1 b1
  obtain ⟨⟨⟨vk, vn, vs⟩, p2, b2⟩, hr⟩ : ∃ r, getD bs p1 b1 = r := ⟨_, rfl⟩
  rw [hr] at hsv ⊢
  have HRv := hid hr
  rintro e wv ⟨rfl, hrd, hk⟩
  dsimp only at hrd hsv ⊢
  unfold valV
  dsimp only
  have HSV := hid hsv
  have HSe := hid (HSd.out.step (Keeps.trans (G := [n]) (by exact Keeps.K) hk (fun _ _ h => h)) hrd)
  clear hrd hk hr hsv
  obtain ⟨⟨x0, x1, x2, x3, x4⟩, f0⟩ := blk5 HSe.out.row
  go_wp2_with fail
  have HS : Hid (RpSt 78 n m a q bs w (((wv.setCell ⟨m, 2, none⟩ (.int .i64 vk)).setCell ⟨m, 3, none⟩ (.int .i64 vn)).setCell ⟨m, 4, none⟩ (.string vs)) ⟨er, nn, ⟨vk, vn, vs⟩⟩ p2 b2) := HSe.out.set (by exact Keeps.K) (heap_setCell_same _ _ 4 _ _ _ (heap_setCell_same _ _ 3 _ _ _ (heap_setCell_same _ _ 2 _ _ _ (HSe.out.row))))
  clear x0 x1 x2 x3 x4 f0
  have HRAW : Hid (rawR bs = (⟨er, nn, ⟨vk, vn, vs⟩⟩, p2, b2)) := by
    show _ = _
    unfold rawR
    rw [HRer.out]
    dsimp only
    rw [HRnn.out]
    dsimp only
    rw [HRv.out]
  refine (wEnd_any _ a q bs p2 b2 _ (HS.out.rd.k (by exact Keeps.K))).mono ?_
  rintro e w5 ⟨rfl, hk⟩
  have HS5 := hid (HS.out.k (Keeps.trans (G := []) (by exact Keeps.K) hk (fun _ _ h => h)))
  clear hk
  obtain ⟨⟨x0, x1, x2, x3, x4⟩, f0⟩ := blk5 HS5.out.row
  obtain ⟨⟨y0, y1, y2, y3, y4⟩, g0⟩ := blk5 HS5.out.res
  by_cases hok : b2 = false ∧ p2 = bs.length
  · have hb1 : (!b2 && p2 == bs.length) = true := by rw [hok.1, hok.2]; simp
    rw [hb1]
    have HG : Hid (getR bs = if checkR ⟨er, nn, ⟨vk, vn, vs⟩⟩ = true then (⟨er, nn, ⟨vk, vn, vs⟩⟩, true) else (zeroR, false)) := by
      show _ = _
      unfold getR
      rw [HRAW.out]
      dsimp only
      by_cases hc : checkR ⟨er, nn, ⟨vk, vn, vs⟩⟩ = true
      · rw [if_pos ⟨hok.1, hok.2, hc⟩, if_pos hc]
      · rw [if_neg (fun h => hc h.2.2), if_neg hc]
    clear hb1 hok
    go_wp2_with fail
    refine (cmCheckR_any ⟨er, nn, ⟨vk, vn, vs⟩⟩ w5 (HT.out.k HS5.out.keeps) (Nat.le_trans HSV.out (by decide))).mono ?_
    rintro e w6 ⟨rfl, hk⟩
    have HS6 := hid (HS5.out.k hk)
    clear hk x0 x1 x2 x3 x4 f0 y0 y1 y2 y3 y4 g0
    obtain ⟨⟨x0, x1, x2, x3, x4⟩, f0⟩ := blk5 HS6.out.row
    obtain ⟨⟨y0, y1, y2, y3, y4⟩, g0⟩ := blk5 HS6.out.res
    obtain ⟨cc, hcc⟩ : ∃ cc, checkR ⟨er, nn, ⟨vk, vn, vs⟩⟩ = cc := ⟨_, rfl⟩
    rw [hcc] at HG ⊢
    clear hcc
    rcases cc with _ | _
    · go_wp2_with fail
      refine bodyPost_ret (v := .tuple #[replyV zeroR, .bool false]) (by simp [results, Tryd.results8, go_sem, replyV, zeroR, y0, y1, y2, y3, y4]) rfl ?_
      rw [HG.out]
      exact ⟨rfl, HS6.out.keeps.trans (G := [w.heap.size]) (by exact Keeps.K) (fun x hx hx' => by simp at hx'; omega)⟩
    · go_wp2_with fail
      refine bodyPost_ret (v := .tuple #[replyV ⟨er, nn, ⟨vk, vn, vs⟩⟩, .bool true]) (by simp [results, Tryd.results8, go_sem, replyV, zeroR, y0, y1, y2, y3, y4]) rfl ?_
      rw [HG.out]
      exact ⟨rfl, HS6.out.keeps.trans (G := [w.heap.size]) (by exact Keeps.K) (fun x hx hx' => by simp at hx'; omega)⟩
  · have hb1 : (!b2 && p2 == bs.length) = false := by
      rcases hb : b2 with _ | _
      · have : p2 ≠ bs.length := fun h => hok ⟨hb, h⟩
        simp [this]
      · simp
    rw [hb1]
    have HG : Hid (getR bs = (zeroR, false)) := by
      show _ = _
      unfold getR
      rw [HRAW.out]
      exact if_neg (fun h => hok ⟨h.1, h.2.1⟩)
    clear hb1 hok
    go_wp2_with fail
    refine bodyPost_ret (v := .tuple #[replyV zeroR, .bool false]) (by simp [results, Tryd.results8, go_sem, replyV, zeroR, y0, y1, y2, y3, y4]) rfl ?_
    rw [HG.out]
    exact ⟨rfl, HS5.out.keeps.trans (G := [w.heap.size]) (by exact Keeps.K) (fun x hx hx' => by simp at hx'; omega)⟩

end Go.Proofs.YtbbdmmhpbeleoaaDoor

/- The laws of commands: short, awake. -/
namespace Go.Proofs.YtbbdmmhpbeleoaaDoor
open Go Go.RowKit

def oneC : CmdD := ⟨1, 0, 0, ⟨#[]⟩, 0, ⟨0, 0, ⟨#[]⟩⟩⟩
theorem put2 : putC oneC = [2] := by
  unfold putC oneC
  dsimp only
  rw [if_pos rfl, List.append_nil]
  show Lib.uvarint (Lib.zigzag 1) = [2]
  rw [show Lib.zigzag 1 = 2 from rfl, Lib.uvarint_small (by decide)]
  rfl
theorem check2 : checkC oneC = true := by simp [checkC, oneC, noneV, emptyB]
theorem get2 : getC [2] = (oneC, true) := by
  have h := getC_put oneC check2 (by constructor <;> decide) (by constructor <;> decide)
  rw [put2] at h
  exact h
theorem wide1 : CmdW oneC := ⟨by constructor <;> decide, by constructor <;> decide, by constructor <;> decide, by constructor <;> decide, by constructor <;> decide, by constructor <;> decide, by show (0 : Nat) ≤ _; decide, by show (0 : Nat) ≤ _; decide⟩
def shortC (c : CmdD) : Bool := decide (c.field.size ≤ 1000) && decide (c.value.s.size ≤ 1000)

set_option maxRecDepth 100000 in
set_option maxHeartbeats 4000000 in
theorem awake14_any (w : World) (hT : Tabs w) (hE : Errs w) : Calls Tryd.prog 6 #[] w fun e w' => e = .returned (.bool true) ∧ Keeps [] w w' := by
  have HT := hid hT
  have HE := hid hE
  clear hT hE
  go_enter Tryd.func6, Tryd.ntmps6
  go_wp2_with fail
  refine (cmGet_any (.slice (some ⟨w.heap.size, 0, none⟩) 1 1) [2] _ (HT.out.k (by exact Keeps.K)) (HE.out.k (by exact Keeps.K)) (Reads.one1 (heap_alloc_new _ _) rfl) (by decide)).mono ?_
  rintro e w1 ⟨rfl, hk⟩
  rw [get2]
  have K1 : Hid (Keeps [] w w1) := Keeps.trans (by exact Keeps.K) hk (fun _ _ h => h)
  clear hk
  unfold cmdV oneC
  dsimp only
  go_wp2_with fail
  refine (cmPut_any oneC wide1 _).mono ?_
  rintro e w2 ⟨a, q, rfl, h1, hk⟩
  rw [List.nil_append, put2] at h1 ⊢
  have cv : (convert 29 9 (.slice a 1 q)).run Tryd.prog w2 = .ok (.string ⟨#[2]⟩) w2 := run_convert_str w2 29 9 5 _ _ Tryd.underlying29 Tryd.underlying5 Tryd.underlying9 (Reads.ofOwn h1)
  have x0 : w2.cell? ⟨w1.heap.size, 0, none⟩ = some (.int .i64 1) := hk.cellSome (by go_simp) (by simp)
  have x1 : w2.cell? ⟨w1.heap.size, 1, none⟩ = some (.int .i64 0) := hk.cellSome (by go_simp) (by simp)
  have x2 : w2.cell? ⟨w1.heap.size, 2, none⟩ = some (.int .i64 0) := hk.cellSome (by go_simp) (by simp)
  have x3 : w2.cell? ⟨w1.heap.size, 3, none⟩ = some (.string ⟨#[]⟩) := hk.cellSome (by go_simp) (by simp)
  have x4 : w2.cell? ⟨w1.heap.size, 4, none⟩ = some (.int .i64 0) := hk.cellSome (by go_simp) (by simp)
  have x5 : w2.cell? ⟨w1.heap.size, 5, none⟩ = some (.int .i64 0) := hk.cellSome (by go_simp) (by simp)
  have x6 : w2.cell? ⟨w1.heap.size, 6, none⟩ = some (.int .i64 0) := hk.cellSome (by go_simp) (by simp)
  have x7 : w2.cell? ⟨w1.heap.size, 7, none⟩ = some (.string ⟨#[]⟩) := hk.cellSome (by go_simp) (by simp)
  have K2 : Hid (Keeps [] w w2) := K1.out.trans (Keeps.trans (G := []) (by exact Keeps.K) hk (fun _ _ h => h)) (fun _ _ h => h)
  clear hk h1
  go_wp2_with fail
  refine (cmCheck_any oneC _ (HT.out.k K2.out) (HE.out.k K2.out) (by show (0 : Nat) ≤ _; decide)).mono ?_
  rintro e w3 ⟨rfl, hk⟩
  rw [check2]
  have K3 : Hid (Keeps [] w w3) := K2.out.trans hk (fun _ _ h => h)
  clear hk
  go_wp2_with fail
  go_ret
  exact ⟨rfl, K3.out⟩

end Go.Proofs.YtbbdmmhpbeleoaaDoor

/- CmdChecks, walked. -/
namespace Go.Proofs.YtbbdmmhpbeleoaaDoor
open Go Go.RowKit

def shortR (r : ReplyD) : Bool := decide (r.value.s.size ≤ 1000)
def rowC (c : CmdD) : Obj := .cells #[.int .i64 c.kind, .int .i64 c.session, .int .i64 c.seq, .string c.field, .int .i64 c.version, .int .i64 c.value.kind, .int .i64 c.value.n, .string c.value.s] 34 (0, 0)
def rowR (r : ReplyD) : Obj := .cells #[.int .i64 r.err, .int .i64 r.n, .int .i64 r.value.kind, .int .i64 r.value.n, .string r.value.s] 26 (0, 0)

end Go.Proofs.YtbbdmmhpbeleoaaDoor

/- CmdBytes, walked. -/
namespace Go.Proofs.YtbbdmmhpbeleoaaDoor
open Go Go.RowKit

structure CmdI (c : CmdD) : Prop where
  kind : I64 c.kind
  session : I64 c.session
  seq : I64 c.seq
  version : I64 c.version
  vkind : I64 c.value.kind
  vn : I64 c.value.n
theorem CmdI.w {c : CmdD} (h : CmdI c) (hs : shortC c = true) : CmdW c := by
  unfold shortC at hs
  simp at hs
  exact ⟨h.kind, h.session, h.seq, h.version, h.vkind, h.vn, by omega, by omega⟩
theorem textL_len (s : ByteArray) (h : s.size ≤ 1000000) : (textL s).length ≤ 10 + s.size := by
  have := intL_len (show I64 (s.size : Int) from ⟨by omega, by omega⟩)
  have e : s.data.toList.length = s.size := by rw [Array.length_toList]; rfl
  unfold textL
  rw [List.length_append, e]
  omega
theorem putL_most (v : ValD) (hk : I64 v.kind) (hn : I64 v.n) (hs : v.s.size ≤ 1000000) : (putL v).length ≤ 30 + v.s.size := by
  have h1 := intL_len hk
  have h2 := intL_len hn
  have h3 := textL_len v.s hs
  unfold putL
  rw [List.length_append, List.length_append]
  omega
theorem putC_len (c : CmdD) (h : CmdW c) : (putC c).length ≤ 2000080 := by
  have h1 := intL_len h.kind
  have h2 := intL_len h.session
  have h3 := intL_len h.seq
  have h4 := intL_len h.version
  have h5 := textL_len c.field h.field
  have h6 := putL_most c.value h.vkind h.vn h.vs
  have h7 := h.field
  have h8 := h.vs
  unfold putC
  split
  · simp; omega
  · split
    · simp only [List.length_append]; omega
    · split
      · simp only [List.length_append]; omega
      · simp; omega
theorem putC_pos (c : CmdD) : 0 < (putC c).length := by
  have := Lib.uvarint_pos (Lib.zigzag c.kind)
  unfold putC intL
  rw [List.length_append]
  omega
theorem putR_most (r : ReplyD) (h : ReplyW r) : (putR r).length ≤ 1000080 := by
  have h1 := intL_len h.err
  have h2 := intL_len h.n
  have h6 := putL_most r.value h.vkind h.vn h.vs
  have h8 := h.vs
  unfold putR
  rw [List.length_append, List.length_append]
  omega
/-- What a command's bytes were put as is turned «to» a text. -/
theorem cv_str {w : World} {a : Option Addr} {n q : Nat} {l : List UInt8} (h : Reads w 1 (.slice a n q) n (u8s l)) (hn : n = l.length) : (convert 29 9 (.slice a n q)).run Tryd.prog w = .ok (.string (str l)) w := by
  subst hn
  exact run_convert_str w 29 9 5 _ _ Tryd.underlying29 Tryd.underlying5 Tryd.underlying9 h

end Go.Proofs.YtbbdmmhpbeleoaaDoor

/- WHAT A CORE IS AND DOES, in plain words: no memory, no program. -/
namespace Go.Proofs.YtbbdmmhpbeleoaaDoor
open Go Go.RowKit

structure Ent where
  term : Int
  cmd : Bool
  data : List UInt8

structure MsgD where
  kind : Int
  frm : Int
  «to» : Int
  term : Int
  a : Int
  b : Int
  c : Int
  ok : Bool
  entries : List Ent
  data : List UInt8

structure ConfD where
  nodes : Int
  clients : Int
  heart : Int
  lo : Int
  range : Int
  sessions : Int
  snap : Int
  room : Int
  retry : Int

structure CoreD where
  conf : ConfD
  id : Int
  term : Int
  vote : Int
  role : Int
  leader : Int
  commit : Int
  base : Int
  baseTerm : Int
  l : List Ent
  snap : List UInt8
  draw : Int
  patience : Int
  votes : List Bool
  next : List Int
  matc : List Int
  hard : Bool
  frm : Int
  tsnap : Bool
  /-- Blocks that it never reads nor writes: others write there. (No part of the core: a word of the proofs.) -/
  ban : Nat → Prop := fun _ => False

def inD (v a b : Int) : Bool := decide (a ≤ v) && decide (v ≤ b)
def ConfD.row (c : ConfD) : Nat → Int × Int × Int
  | 0 => (c.nodes, 3, 7)
  | 1 => (c.clients, 0, 8)
  | 2 => (c.heart, 1, 100)
  | 3 => (c.lo, c.heart + 1, 1000)
  | 4 => (c.range, 0, 1000)
  | 5 => (c.sessions, 1, 16)
  | 6 => (c.snap, 1, 1000)
  | 7 => (c.room, 0, 512)
  | _ => (c.retry, 1, 1000)
def ConfD.ok (c : ConfD) (k : Nat) : Bool := inD (c.row k).1 (c.row k).2.1 (c.row k).2.2
def ConfD.mayTo (c : ConfD) : Nat → Bool
  | 0 => true
  | k + 1 => c.mayTo k && c.ok k
def ConfD.may (c : ConfD) : Bool := c.mayTo 9

theorem ConfD.may_iff (c : ConfD) : c.may = true ↔ (3 ≤ c.nodes ∧ c.nodes ≤ 7) ∧ (0 ≤ c.clients ∧ c.clients ≤ 8) ∧ (1 ≤ c.heart ∧ c.heart ≤ 100) ∧ (c.heart + 1 ≤ c.lo ∧ c.lo ≤ 1000) ∧ (0 ≤ c.range ∧ c.range ≤ 1000) ∧ (1 ≤ c.sessions ∧ c.sessions ≤ 16) ∧ (1 ≤ c.snap ∧ c.snap ≤ 1000) ∧ (0 ≤ c.room ∧ c.room ≤ 512) ∧ (1 ≤ c.retry ∧ c.retry ≤ 1000) := by
  simp [ConfD.may, ConfD.mayTo, ConfD.ok, ConfD.row, inD, and_assoc]
theorem ConfD.mayTo_mono (c : ConfD) (k : Nat) : ∀ j, c.mayTo (k + j) = true → c.mayTo k = true
  | 0, h => h
  | j + 1, h => by
    simp only [ConfD.mayTo, Bool.and_eq_true] at h
    exact c.mayTo_mono k j h.1
theorem ConfD.not_may {c : ConfD} {k : Nat} (hk : k < 9) (h : c.ok k = false) : c.may = false := by
  cases hm : c.may with
  | false => rfl
  | true =>
    have := c.mayTo_mono (k + 1) (9 - (k + 1)) (by rw [show k + 1 + (9 - (k + 1)) = 9 by omega]; exact hm)
    simp [ConfD.mayTo, h] at this

/-! The log. -/
def lastD (c : CoreD) : Int := c.base + c.l.length
def atD (c : CoreD) (i : Int) : Int × Bool :=
  if i = c.base then (c.baseTerm, true) else if i < c.base ∨ lastD c < i then (0, false) else (((c.l[(i - c.base - 1).toNat]?).map (·.term)).getD 0, true)
def entD (c : CoreD) (i : Int) : Option Ent := if i ≤ c.base ∨ lastD c < i then none else c.l[(i - c.base - 1).toNat]?
def fromD (c : CoreD) (i : Int) : List Ent := c.l.drop (max i (c.base + 1) - c.base - 1).toNat

def newD (cf : ConfD) (id term vote base baseTerm : Int) (l : List Ent) : CoreD :=
  { conf := cf, id := id, term := term, vote := vote, role := 0, leader := 0, commit := base, base := base, baseTerm := baseTerm, l := l, snap := [], draw := min ((id - 1) * (cf.heart + 6)) cf.range, patience := 0,
    votes := List.replicate 8 false, next := List.replicate 8 0, matc := List.replicate 8 0, hard := false, frm := 0, tsnap := false }
def mayNewD (cf : ConfD) (id term vote base baseTerm : Int) (l : List Ent) : Bool :=
  cf.may && inD id 1 cf.nodes && inD term 0 1099511627776 && inD vote 0 cf.nodes && inD base 0 1099511622680 && inD baseTerm 0 1099511627776 && decide (l.length ≤ 5096) && l.all fun e => inD e.term 1 1099511627776

def drawD (c : CoreD) (v : Int) : CoreD := { c with draw := max 0 (min v c.conf.range) }
def risesD (c : CoreD) (term vote : Int) : CoreD := { c with hard := c.hard || term != c.term || vote != c.vote, term := term, vote := vote }
def turnD (c : CoreD) (i : Int) : CoreD := { c with frm := if c.frm = 0 ∨ i < c.frm then i else c.frm }
def putD (c : CoreD) (e : Ent) : CoreD := turnD { c with l := c.l ++ [e] } (lastD c + 1)
def saysD (c : CoreD) (m : MsgD) («to» : Int) : MsgD := { m with frm := c.id, «to» := «to», term := c.term }
def msg0 : MsgD := { kind := 0, frm := 0, «to» := 0, term := 0, a := 0, b := 0, c := 0, ok := false, entries := [], data := [] }
def sendD (c : CoreD) («to» : Int) : MsgD :=
  let next := c.next.getD «to».toNat 0
  if next ≤ c.base then saysD c { msg0 with kind := 5, a := c.base, b := c.baseTerm, data := c.snap } «to»
  else saysD c { msg0 with kind := 3, a := next - 1, b := (atD c (next - 1)).1, c := c.commit, entries := (fromD c next).take 8 } «to»
/-- The other nodes' numbers. -/
def othersTo (id : Int) : Nat → List Int
  | 0 => []
  | k + 1 => if ((k + 1 : Nat) : Int) = id then othersTo id k else othersTo id k ++ [((k + 1 : Nat) : Int)]
def othersD (c : CoreD) (f : Int → MsgD) : List MsgD := (othersTo c.id c.conf.nodes.toNat).map f
def voteMsg (c : CoreD) («to» : Int) : MsgD := saysD c { msg0 with kind := 1, a := lastD c, b := (atD c (lastD c)).1 } «to»
def runD (c : CoreD) : CoreD := { risesD c (c.term + 1) c.id with role := 1, leader := 0, patience := 0, votes := (List.replicate 8 false).set c.id.toNat true }
def tickD (c0 : CoreD) : CoreD × List MsgD :=
  let c := { c0 with patience := c0.patience + 1 }
  if c.role = 2 then
    if c.patience < c.conf.heart then (c, [])
    else
      let c := { c with patience := 0 }
      (c, othersD c (sendD c))
  else if c.patience < c.conf.lo + c.draw ∨ 1099511627776 ≤ c.term then (c, [])
  else (runD c, othersD (runD c) (voteMsg (runD c)))

/-- What holds of every core: no number is too great. -/
structure CoreOk (c : CoreD) : Prop where
  may : c.conf.may = true
  id : 1 ≤ c.id ∧ c.id ≤ c.conf.nodes
  term : 0 ≤ c.term ∧ c.term ≤ 1099511627776
  base : 0 ≤ c.base ∧ c.base ≤ c.commit
  baseTerm : 0 ≤ c.baseTerm ∧ c.baseTerm ≤ 1099511627776
  len : c.l.length ≤ 5096
  last : c.base + c.l.length ≤ 2199023255552
  commit : c.commit ≤ c.base + c.l.length
  draw : 0 ≤ c.draw ∧ c.draw ≤ 1000
  votes : c.votes.length = 8
  next : c.next.length = 8
  matc : c.matc.length = 8
  nexts : ∀ x ∈ c.next, 0 ≤ x ∧ x ≤ 2199023255553
  matcs : ∀ x ∈ c.matc, 0 ≤ x ∧ x ≤ 2199023255552
  ents : ∀ e ∈ c.l, 0 ≤ e.term ∧ e.term ≤ 1099511627776
  frm : 0 ≤ c.frm ∧ c.frm ≤ 2199023255553
  data : ∀ e ∈ c.l, e.data.length ≤ 1000000
  snap : c.snap.length ≤ 1000000

theorem newD_ok {cf : ConfD} {id term vote base baseTerm : Int} {l : List Ent} (h : mayNewD cf id term vote base baseTerm l = true) (hd : ∀ e ∈ l, e.data.length ≤ 1000000) : CoreOk (newD cf id term vote base baseTerm l) := by
  simp only [mayNewD, inD, Bool.and_eq_true, decide_eq_true_eq, List.all_eq_true] at h
  obtain ⟨⟨⟨⟨⟨⟨⟨h1, h2⟩, h3⟩, h4⟩, h5⟩, h6⟩, h7⟩, h8⟩ := h
  have hm := (ConfD.may_iff cf).1 h1
  have h9 : 0 ≤ (id - 1) * (cf.heart + 6) := Int.mul_nonneg (by omega) (by omega)
  exact { may := h1, id := h2, term := h3, base := ⟨h5.1, Int.le_refl _⟩, baseTerm := h6, len := h7, last := by show base + (l.length : Int) ≤ _; omega, commit := by show base ≤ base + _; omega,
          draw := ⟨by show 0 ≤ min _ _; omega, by show min _ _ ≤ _; omega⟩, votes := rfl, next := rfl, matc := rfl, nexts := by simp [newD], matcs := by simp [newD], ents := fun e he => by have := h8 e he; omega, frm := by simp [newD], data := hd, snap := by simp [newD] }

end Go.Proofs.YtbbdmmhpbeleoaaDoor

/- WHAT A CORE DOES WITH A MESSAGE, with a command, with a snapshot, in plain words: no memory, no program. -/
namespace Go.Proofs.YtbbdmmhpbeleoaaDoor
open Go Go.RowKit

/-! Messages. -/
def wrongHead (c : CoreD) (m : MsgD) : Bool :=
  !inD m.kind 1 5 || m.«to» != c.id || !inD m.frm 1 c.conf.nodes || m.frm == c.id || !inD m.term 1 1099511627776 || !inD m.a 0 1099511627776 || !inD m.b 0 1099511627776 || !inD m.c 0 1099511627776 || decide (8 < m.entries.length)
def wrongD (c : CoreD) (m : MsgD) : Bool := wrongHead c m || m.entries.any fun e => !inD e.term 1 m.term
def answerD (c : CoreD) (m : MsgD) (ok : Bool) (a : Int) : List MsgD := [saysD c { msg0 with kind := 4, ok := ok, a := a } m.frm]
def stepD (c : CoreD) (m : MsgD) : CoreD := if c.term < m.term then { risesD c m.term 0 with role := 0, leader := 0 } else c
def lastTerm (c : CoreD) : Int := (atD c (lastD c)).1
def askedOk (c : CoreD) (m : MsgD) : Bool :=
  m.term == c.term && (c.vote == 0 || c.vote == m.frm) && c.role == 0 && (decide (lastTerm c < m.b) || m.b == lastTerm c && decide (lastD c ≤ m.a))
def askedC (c : CoreD) (m : MsgD) : CoreD := if askedOk c m then { risesD c c.term m.frm with patience := 0 } else c
def askedD (c : CoreD) (m : MsgD) : CoreD × List MsgD := (askedC c m, [saysD (askedC c m) { msg0 with kind := 2, ok := askedOk c m } m.frm])
def lead0 (c : CoreD) : CoreD := { c with role := 2, leader := c.id, patience := 0, matc := List.replicate 8 0, next := List.replicate 8 (lastD c + 1) }
def leadD (c : CoreD) : CoreD := if c.l.length < 5096 then putD (lead0 c) { term := c.term, cmd := false, data := [] } else lead0 c
def votedC (c : CoreD) (m : MsgD) : CoreD := { c with votes := c.votes.set m.frm.toNat true }
def votedD (c : CoreD) (m : MsgD) : CoreD × List MsgD :=
  if m.term ≠ c.term ∨ c.role ≠ 1 ∨ m.ok = false then (c, [])
  else if ((votedC c m).votes.count true : Int) ≤ c.conf.nodes / 2 then (votedC c m, [])
  else (leadD (votedC c m), othersD (leadD (votedC c m)) (sendD (leadD (votedC c m))))
/-- How many have an index (but itself): the nodes up «to» k. -/
def haveD (c : CoreD) (i : Int) : Nat → Int
  | 0 => 1
  | k + 1 => haveD c i k + (if ((k + 1 : Nat) : Int) ≠ c.id ∧ i ≤ c.matc.getD (k + 1) 0 then 1 else 0)
def agreesTo (c : CoreD) : Nat → Int
  | 0 => c.commit
  | k + 1 => if (atD c (c.commit + (k + 1 : Nat))).1 = c.term ∧ c.conf.nodes / 2 < haveD c (c.commit + (k + 1 : Nat)) c.conf.nodes.toNat then c.commit + (k + 1 : Nat) else agreesTo c k
def agreesD (c : CoreD) : CoreD := { c with commit := agreesTo c (lastD c - c.commit).toNat }
def appNo (c : CoreD) (m : MsgD) : CoreD :=
  { c with next := c.next.set m.frm.toNat (max (c.matc.getD m.frm.toNat 0 + 1) (if m.a < c.next.getD m.frm.toNat 0 - 1 - 1 then m.a + 1 else c.next.getD m.frm.toNat 0 - 1)) }
def appYes0 (c : CoreD) (m : MsgD) : CoreD := { c with matc := c.matc.set m.frm.toNat (max (c.matc.getD m.frm.toNat 0) m.a) }
def appYes (c : CoreD) (m : MsgD) : CoreD := { appYes0 c m with next := c.next.set m.frm.toNat (max (c.next.getD m.frm.toNat 0) ((appYes0 c m).matc.getD m.frm.toNat 0 + 1)) }
def appendedD (c : CoreD) (m : MsgD) : CoreD × List MsgD :=
  if m.term ≠ c.term ∨ c.role ≠ 2 ∨ (m.ok = true ∧ lastD c < m.a) then (c, [])
  else if m.ok = false then (appNo c m, [sendD (appNo c m) m.frm])
  else (agreesD (appYes c m), [])
/-- Entries behind an index: from the first on that is another one, they take the place of what stands there; none: they may not. -/
def putsD (c : CoreD) (a : Int) : List Ent → Option CoreD
  | [] => some c
  | e :: r =>
    if (atD c (a + 1)).2 = true ∧ (atD c (a + 1)).1 = e.term then putsD c (a + 1) r
    else if a + 1 ≤ c.commit ∨ 5096 < a - c.base + (r.length + 1) then none
    else some ((e :: r).foldl putD { c with l := c.l.take (a - c.base).toNat })
def fitD (c : CoreD) (a b : Int) (passed : Bool) : Bool := (atD c a).2 && (passed || (atD c a).1 == b)
def appendAt (c : CoreD) (m : MsgD) (a : Int) (l : List Ent) (passed : Bool) : CoreD × List MsgD :=
  if fitD c a m.b passed then
    match putsD c a l with
    | none => (c, [])
    | some c' => ({ c' with commit := max c.commit (min m.c (a + l.length)) }, answerD c m true (a + l.length))
  else (c, answerD c m false (max c.commit (min (lastD c) (a - 1))))
def appendD (c : CoreD) (m : MsgD) : CoreD × List MsgD :=
  if c.base ≤ m.a then appendAt c m m.a m.entries false
  else if c.base - m.a < m.entries.length then appendAt c m c.base (m.entries.drop (c.base - m.a).toNat) true
  else (c, answerD c m true c.base)
def standsD (c : CoreD) (i : Int) (data : List UInt8) : CoreD := { c with l := c.l.drop (i - c.base).toNat, base := i, baseTerm := (atD c i).1, snap := data }
def takesD (c : CoreD) (m : MsgD) : CoreD × List MsgD :=
  if m.a ≤ c.commit then (c, answerD c m true c.commit)
  else ({ (if (atD c m.a).2 = true ∧ (atD c m.a).1 = m.b then standsD c m.a m.data else { c with l := [], base := m.a, baseTerm := m.b, snap := m.data }) with commit := m.a, tsnap := true }, answerD c m true m.a)
def followD (c : CoreD) (m : MsgD) : CoreD := { c with role := 0, leader := m.frm, patience := 0 }
def snapNo (m : MsgD) : Bool := m.kind == 5 && (!inD m.a 1 549755813888 || !inD m.b 1 m.term)
def heardD (c : CoreD) (m : MsgD) : CoreD × List MsgD :=
  if m.kind = 1 then askedD c m
  else if m.kind = 2 then votedD c m
  else if m.kind = 4 then appendedD c m
  else if m.term < c.term then (c, answerD c m false (lastD c))
  else if c.role = 2 ∨ snapNo m = true then (c, [])
  else if m.kind = 5 then takesD (followD c m) m
  else appendD (followD c m) m
def hearD (c : CoreD) (m : MsgD) : CoreD × List MsgD := if wrongD c m then (c, []) else heardD (stepD c m) m

/-! The other calls. -/
def askC (c : CoreD) (data : List UInt8) : CoreD := putD c { term := c.term, cmd := true, data := data }
def askD (c : CoreD) (data : List UInt8) : CoreD × Int × List MsgD × Int :=
  if c.role ≠ 2 then (c, 0, [], 24)
  else if 4096 ≤ c.l.length then (c, 0, [], 2)
  else (askC c data, lastD (askC c data), othersD (askC c data) (sendD (askC c data)), 0)
def compactD (c : CoreD) (i : Int) (data : List UInt8) : CoreD × Int := if i ≤ c.base ∨ c.commit < i then (c, 1) else (standsD c i data, 0)
def changesD (c : CoreD) : CoreD × Bool × Int × Bool := ({ c with hard := false, frm := 0, tsnap := false }, c.hard, (if 0 < c.frm then max c.frm (c.base + 1) else c.frm), c.tsnap)

theorem wrongHead_no {c : CoreD} {m : MsgD} (h : wrongHead c m = false) : (1 ≤ m.kind ∧ m.kind ≤ 5) ∧ m.«to» = c.id ∧ (1 ≤ m.frm ∧ m.frm ≤ c.conf.nodes) ∧ m.frm ≠ c.id ∧ (1 ≤ m.term ∧ m.term ≤ 1099511627776) ∧ (0 ≤ m.a ∧ m.a ≤ 1099511627776) ∧ (0 ≤ m.b ∧ m.b ≤ 1099511627776) ∧ (0 ≤ m.c ∧ m.c ≤ 1099511627776) ∧ m.entries.length ≤ 8 := by
  simp only [wrongHead, inD, Bool.or_eq_false_iff, Bool.not_eq_false', Bool.and_eq_true, decide_eq_true_eq, bne_eq_false_iff_eq, beq_eq_false_iff_ne, decide_eq_false_iff_not] at h
  obtain ⟨⟨⟨⟨⟨⟨⟨⟨h1, h2⟩, h3⟩, h4⟩, h5⟩, h6⟩, h7⟩, h8⟩, h9⟩ := h
  exact ⟨h1, h2, h3, h4, h5, h6, h7, h8, by omega⟩

end Go.Proofs.YtbbdmmhpbeleoaaDoor

/- Place and Bytes of the laws; plain.List of bytes. -/
namespace Go.Proofs.YtbbdmmhpbeleoaaDoor
open Go Go.RowKit

/-- Which place a number is. -/
def placeOf (v n : Int) : Int := if v.tmod n < 0 then v.tmod n + n else v.tmod n
theorem placeOf_bd (v n : Int) (h : 0 < n) : 0 ≤ placeOf v n ∧ placeOf v n < n := by
  have a1 : v.tmod n < n := Int.tmod_lt_of_pos v h
  have a2 := Int.lt_tmod_of_pos v h
  unfold placeOf
  split <;> omega

set_option maxHeartbeats 400000 in
theorem place_any (v n : Int) (w : World) (h0 : 0 < n) (h1 : n ≤ 1000000000) (_wv : (Lit.int .i64 v).wf = true) :
    Calls Tryd.prog 30 #[.int .i64 v, .int .i64 n] w fun e w' => e = .returned (.int .i64 (placeOf v n)) ∧ w' = w := by
  have hn : n ≠ 0 := by omega
  have a1 : v.tmod n < n := Int.tmod_lt_of_pos v h0
  have a2 : -n < v.tmod n := by have := Int.lt_tmod_of_pos v h0; omega
  by_cases hc : v.tmod n < 0
  · go_enter Tryd.func30, Tryd.ntmps30
    go_wp2
    go_ret
    exact ⟨by simp [placeOf, hc], rfl⟩
  · go_enter Tryd.func30, Tryd.ntmps30
    go_wp2
    go_ret
    have e : placeOf v n = v.tmod n := by rw [placeOf, if_neg (by omega)]
    exact ⟨by rw [e]; rfl, rfl⟩

theorem place_is (p v n : Int) (w : World) (h0 : 0 < n) (h1 : n ≤ 1000000000) (wv : (Lit.int .i64 v).wf = true) (hp : placeOf v n = p) :
    Calls Tryd.prog 30 #[.int .i64 v, .int .i64 n] w fun e w' => e = .returned (.int .i64 p) ∧ w' = w := by rw [← hp]; exact place_any v n w h0 h1 wv


/-- What a copy of bytes leaves. -/
def Copied (bs : List UInt8) (w : World) (e : Ending) (w' : World) : Prop := ∃ a c, e = .returned (.slice a bs.length c) ∧ w'.ownsRow w.heap.size 5 1 (.slice a bs.length c) bs.length (u8s bs) ∧ Keeps [] w w'
theorem Copied.bytes {bs : List UInt8} {w w' : World} {P : Nat → Prop} {a : Option Addr} {c : Nat} (h : w'.ownsRow w.heap.size 5 1 (.slice a bs.length c) bs.length (u8s bs)) (hP : ∀ b, w.heap.size ≤ b → b < w'.heap.size → P b) : BytesAt w' P (.slice a bs.length c) bs := BytesAt.ofOwn h rfl hP

end Go.Proofs.YtbbdmmhpbeleoaaDoor
