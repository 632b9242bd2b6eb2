/- The parser: an expression of two parts and more. -/
import Derived.Test.YtgjiahilbmeaeaaGreatDoorR10
import Derived.Deep.LoopGhost
set_option maxRecDepth 100000
set_option maxHeartbeats 8000000
set_option linter.unusedSimpArgs false
set_option linter.unusedVariables false
namespace Go.Proofs.YtgjiahilbmeaeaaGreatDoor
open Go Go.RowKit
theorem twoP_cases {f n : Nat} {l : List TokD} {i : Nat} {eD : ExprD} {j : Nat} (h : twoP (f + 1) n l i = some (.ok (eD, j))) :
 (4 < n ∧ oneP f l i = some (.ok (eD, j))) ∨ (n ≤ 4 ∧ ∃ e j2, twoP f (n + 1) l i = some (.ok (e, j2)) ∧ moreP f n l e j2 = some (.ok (eD, j))) := by
 rw [twoP] at h
 split at h
 ·rename_i h1
  exact .inl ⟨h1, h⟩
 ·rename_i h1
  split at h <;> try cases h
  exact .inr ⟨by omega, _, _, by assumption, h⟩
def swapS (s : List UInt8) : Bool := s == [62] || s == [62, 61]
theorem moreP_cases {f n : Nat} {l : List TokD} {e : ExprD} {i : Nat} {eD : ExprD} {j : Nat} (h : moreP (f + 1) n l e i = some (.ok (eD, j))) :
 ((takesP l i (levelS n)).1 = [] ∧ (takesP l i (levelS n)).2 = i ∧ eD = e ∧ j = i) ∨
 ((takesP l i (levelS n)).1 ≠ [] ∧ ∃ k j2, twoP f (n + 1) l (takesP l i (levelS n)).2 = some (.ok (k, j2)) ∧
   ((n = 2 ∧ eD = .mk (opS (takesP l i (levelS n)).1) 0 emptyS (if swapS (takesP l i (levelS n)).1 then [k, e] else [e, k]) ∧ j = j2) ∨
    (n ≠ 2 ∧ moreP f n l (.mk (opS (takesP l i (levelS n)).1) 0 emptyS (if swapS (takesP l i (levelS n)).1 then [k, e] else [e, k])) j2 = some (.ok (eD, j))))) := by
 rw [moreP] at h
 split at h
 ·rename_i h1
  cases h
  refine .inl ⟨h1, ?_, rfl, rfl⟩
  rcases takesP_fst l i (levelS n) with h2 | h2
  ·exact h2.2
  ·exfalso
   have h3 := h2.1
   rw [h1] at h3
   unfold levelS at h3
   repeat' split at h3
   all_goals simp at h3
 ·rename_i h1
  refine .inr ⟨h1, ?_⟩
  split at h <;> try cases h
  refine ⟨_, _, by assumption, ?_⟩
  have hs : (takesP l i (levelS n)).1 == [62] ∨ (takesP l i (levelS n)).1 == [62, 61] ↔ swapS (takesP l i (levelS n)).1 = true := by
   simp [swapS]
  split at h
  ·rename_i h2
   cases h
   refine .inl ⟨h2, ?_, rfl⟩
   simp only [hs]
  ·rename_i h2
   refine .inr ⟨h2, ?_⟩
   simp only [hs] at h
   exact h
theorem levelS_len (n : Nat) : (levelS n).length ≤ 6 := by
 unfold levelS
 repeat' split
 all_goals simp
theorem PaAt.over {w w7 w8 : World} {p : Nat} {a : Option Addr} {c : Nat} {T : Nat → Prop} {l : List TokD} {i j b : Nat} (h : PaAt w p a c T l i) (K : Keeps [p] w w7) (h7 : PaAt w7 p a c T l j) (k : Keeps [b] w7 w8) (hb : w.heap.size ≤ b) : PaAt w8 p a c T l j := by
 have hp := (Array.getElem?_eq_some_iff.1 h.2.2.1).1
 have K8 := K.trans k (fun x hx hm => by simp at hm; omega)
 exact ⟨h.1.keep K8 (fun x hx e => h.2.1 (by simp at e; exact e ▸ hx)), h.2.1, (k.block p (Nat.lt_of_lt_of_le hp K.size) (by simp; omega)).trans h7.2.2.1, h.2.2.2.1, h7.2.2.2.2⟩
theorem ElemsAt.two {w : World} {P : Nat → Prop} {c d : List Value} {x y : ExprD} (h1 : ExprAt w P x c) (h2 : ExprAt w P y d) : ElemsAt exprL w P [c, d] [x, y] := by
 refine ⟨rfl, fun i cs a hc ha => ?_⟩
 match i with
 | 0 => simp at hc ha; subst hc ha; exact h1
 | 1 => simp at hc ha; subst hc ha; exact h2
 | i + 2 => simp at hc
def sets8 (w : World) (b : Nat) (v0 v1 v2 v3 v4 v5 v6 v7 : Value) : World := (((sets4 w b v0 v1 v2 v3).setCell ⟨b, 4, none⟩ v4).setCell ⟨b, 5, none⟩ v5).setCell ⟨b, 6, none⟩ v6 |>.setCell ⟨b, 7, none⟩ v7
theorem sets8_keeps (w : World) (b : Nat) (v0 v1 v2 v3 v4 v5 v6 v7 : Value) : Keeps [b] w (sets8 w b v0 v1 v2 v3 v4 v5 v6 v7) := by
 unfold sets8 sets4
 exact Keeps.K
theorem set8 {w : World} {b : Nat} {u0 u1 u2 u3 u4 u5 u6 u7 : Value} (h : w.heap[b]? = some (.cells #[u0, u1, u2, u3, u4, u5, u6, u7] 76 (0, 0))) (v0 v1 v2 v3 v4 v5 v6 v7 : Value) (hs : b < w.heap.size) :
 (sets8 w b v0 v1 v2 v3 v4 v5 v6 v7).drew.heap[b]? = some (.cells #[v0, v1, v2, v3, v4, v5, v6, v7] 76 (0, 0)) ∧ b < (sets8 w b v0 v1 v2 v3 v4 v5 v6 v7).drew.heap.size := by
 refine ⟨?_, by simp [sets8, sets4]; omega⟩
 have h0 := heap_setCell_same w b 0 _ _ v0 h
 have h1 := heap_setCell_same _ b 1 _ _ v1 h0
 have h2 := heap_setCell_same _ b 2 _ _ v2 h1
 have h3 := heap_setCell_same _ b 3 _ _ v3 h2
 have h4 := heap_setCell_same _ b 4 _ _ v4 h3
 have h5 := heap_setCell_same _ b 5 _ _ v5 h4
 have h6 := heap_setCell_same _ b 6 _ _ v6 h5
 have h7 := heap_setCell_same _ b 7 _ _ v7 h6
 clear h h0 h1 h2 h3 h4 h5 h6
 simp only [List.setIfInBounds_toArray, List.set_cons_zero, List.set_cons_succ] at h7
 unfold sets8 sets4
 revert h7
 generalize (((((((w.setCell ⟨b, 0, none⟩ v0).setCell ⟨b, 1, none⟩ v1).setCell ⟨b, 2, none⟩ v2).setCell ⟨b, 3, none⟩ v3).setCell ⟨b, 4, none⟩ v4).setCell ⟨b, 5, none⟩ v5).setCell ⟨b, 6, none⟩ v6).setCell ⟨b, 7, none⟩ v7 = x
 exact fun h => h
theorem paTwo_step (f : Nat) (HO : OneC f) (HTW : ∀ g, g ≤ f → TwoC g) : TwoC (f + 1) := by
 intro n l i eD j p a c T w hn5 h hp
 have HC := hid (twoP_cases hp)
 have HP := hid h
 have HH := hid (And.intro HO HTW)
 have hpw := (Array.getElem?_eq_some_iff.1 h.2.2.1).1
 clear hp h HO HTW
 unfold ptrV
 rcases HC.out with ⟨h1, h2⟩ | ⟨h1, e1, j1, h2, h3⟩
 ·have hcs := fun wx (kx : Keeps [] w wx) => HH.out.1 _ _ _ _ _ _ _ _ _ (HP.out.k kx) h2
  unfold ptrV at hcs
  have HCS := hid hcs
  have q1 : (4 : Int) < (n : Int) := by omega
  clear hcs h2
  go_enter Tryz.func193, Tryz.ntmps193
  go_wp2_with fail
  refine (HCS.out _ (by exact Keeps.K)).mono ?_
  rintro e w1 ⟨cs, rfl, hx1, hp1, hk1⟩
  have hn := heap_alloc_new w (.cells #[.int .i64 0, .int .i64 0, .string ⟨#[]⟩, .slice none 0 0] 76)
  have HB1 := hid ((hk1.block w.heap.size (Array.getElem?_eq_some_iff.1 hn).1 (by simp; omega)).trans hn)
  have K1 : Hid (Keeps [p] w w1) := Keeps.trans (F := [p]) (G := [p]) (by exact Keeps.K) hk1 (fun _ _ h => h)
  obtain ⟨o0, n0, s0, l0⟩ := eD
  obtain ⟨a9, c9, rfl, hls⟩ := ExprAt.parts hx1
  have HX1 := hid (ExprAt.mono (P' := fun b => w.heap.size + 1 ≤ b) (fun b _ hb => by simpa using hb) hx1)
  have HP1 := hid hp1
  obtain ⟨-, a0, a1, a2, a3, h0, h1, h2, h3⟩ := zexpr HB1.out
  have b1 := (Array.getElem?_eq_some_iff.1 HB1.out).1
  clear hx1 hp1 hk1 hls hn
  go_wp2_with fail
  have h4 := set4 HB1.out (.int .i64 o0) (.int .i64 n0) (.string s0) (.slice a9 l0.length c9)
  refine bodyPost_ret (results_expr Tryz.results193 rfl h4) rfl ?_
  have k4 := sets4_keeps w1 w.heap.size (.int .i64 o0) (.int .i64 n0) (.string s0) (.slice a9 l0.length c9)
  refine paEnd_of HP.out K1.out HP1.out k4 (ExprAt.mono (fun b _ hb => Nat.le_of_succ_le hb) (ExprAt.keep k4 (fun b hb e => ?_) HX1.out))
  simp at e
  omega
 ·have hcs := fun wx (kx : Keeps [] w wx) => HH.out.2 f (Nat.le_refl _) (n + 1) _ _ _ _ _ _ _ _ wx (by omega) (HP.out.k kx) h2
  unfold ptrV at hcs
  have hc1 : ((n + 1 : Nat) : Int) = (n : Int) + 1 := by omega
  rw [hc1] at hcs
  have HCS := hid hcs
  have HM := hid h3
  have q1 : (n : Int) ≤ 4 := by omega
  have q0 : (0 : Int) ≤ (n : Int) := by omega
  have hw1 : IntKind.i64.wrap ((n : Int) + 1) = (n : Int) + 1 := by rw [IntKind.wrap_i64]; omega
  clear hcs h2 hc1 h3
  go_enter Tryz.func193, Tryz.ntmps193
  go_wp2_with fail
  refine (HCS.out _ (by exact Keeps.K)).mono ?_
  rintro e w1 ⟨cs, rfl, hx1, hp1, hk1⟩
  have hn := heap_alloc_new w (.cells #[.int .i64 0, .int .i64 0, .string ⟨#[]⟩, .slice none 0 0] 76)
  have HB1 := hid ((hk1.block w.heap.size (Array.getElem?_eq_some_iff.1 hn).1 (by simp; omega)).trans hn)
  have K1 : Hid (Keeps [p] w w1) := Keeps.trans (F := [p]) (G := [p]) (by exact Keeps.K) hk1 (fun _ _ h => h)
  obtain ⟨o0, n0, s0, l0⟩ := e1
  obtain ⟨a9, c9, rfl, hls⟩ := ExprAt.parts hx1
  have hlt := (Array.getElem?_eq_some_iff.1 HB1.out).1
  have hP1' : p < w1.heap.size := Nat.lt_trans hpw hlt
  have HX1 := hid (ExprAt.mono (P' := fun b => w.heap.size < b ∧ b ≠ w1.heap.size) (fun b hb1 hb => ⟨by rw [World.size_alloc] at hb; omega, Nat.ne_of_lt hb1⟩) hx1)
  have HP1 := hid hp1
  clear hx1 hp1 hk1 hls hn
  go_wp2_with fail
  go_loopg [] f (fun k wr => ∃ (eC : ExprD) (i : Nat) (o n1 : Int) (s : ByteArray) (a9 : Option Addr) (c9 m : Nat), k ≤ f ∧ Hid (moreP k n l eC i = some (.ok (eD, j)) ∧ wr.heap[w1.heap.size]? = some (.cells #[.int .i64 o, .int .i64 n1, .string s, .slice a9 m c9] 76 (0, 0)) ∧ ExprAt wr (fun b => w.heap.size < b ∧ b ≠ w1.heap.size) eC [.int .i64 o, .int .i64 n1, .string s, .slice a9 m c9] ∧ PaAt wr p a c T l i ∧ Keeps [p] w wr ∧ wr.heap[w.heap.size]? = some (.cells #[.int .i64 0, .int .i64 0, .string ⟨#[]⟩, .slice none 0 0] 76 (0, 0))))
  case atStart => exact ⟨_, _, _, _, _, _, _, _, Nat.le_refl _, HM.out, heap_alloc_new w1 _, ExprAt.keep (G := []) (by exact Keeps.K) (fun _ _ => by simp) HX1.out, HP1.out.k (by exact Keeps.K), K1.out.alloc _, alloc_old HB1.out⟩
  case round =>
   clear HM HX1 HP1 HB1 K1
   obtain ⟨eC, i, o, n1, s, a9, c9, m, hk, hW⟩ := hrel
   have HW := hid hW.out
   clear hW
   cases gk with
   | zero =>
     exfalso
     have := HW.out.1
     rw [moreP] at this
     cases this
   | succ k =>
     have HMC := hid (moreP_cases HW.out.1)
     have HLV := hid (fun wx => paLevel_any n wx (by omega))
     go_wp2_with fail
     refine (HLV.out _).mono ?_
     rintro e w2 ⟨a2, c2, rfl, hr2, hk2⟩
     have hta := paTakes_any (levelS n) a2 (levelS n).length c2 p i c a T l w2 hr2 rfl (Nat.le_trans (levelS_len n) (by decide)) (HW.out.2.2.2.1.k hk2)
     unfold ptrV at hta
     have HTA := hid hta
     have K2 := hid hk2
     clear hr2 hk2 hta
     go_wp2_with fail
     refine HTA.out.mono ?_
     rintro e w3 ⟨rfl, hp3, hk3⟩
     have K3 := hid (Keeps.trans (K2.out.mono (G := [p]) (by simp)) hk3 (fun _ _ h => h))
     have HP3 := hid hp3
     have hne1 : w1.heap.size ≠ p := fun e => by have := hP1'; omega
     have HE3 := hid ((K3.out.block w1.heap.size (Array.getElem?_eq_some_iff.1 HW.out.2.1).1 (by simpa using hne1)).trans HW.out.2.1)
     have HB3 := hid ((K3.out.block w.heap.size (Array.getElem?_eq_some_iff.1 HW.out.2.2.2.2.2).1 (by simp; omega)).trans HW.out.2.2.2.2.2)
     have HX3 := hid (ExprAt.keep K3.out (fun b hb e => by simp at e; omega) HW.out.2.2.1)
     obtain ⟨-, y0, y1, y2, y3, g0, g1, g2, g3⟩ := zexpr HE3.out
     obtain ⟨-, z0, z1, z2, z3, h0, h1, h2, h3⟩ := zexpr HB3.out
     have b3 := (Array.getElem?_eq_some_iff.1 HE3.out).1
     have b30 := (Array.getElem?_eq_some_iff.1 HB3.out).1
     clear hp3 hk3 HTA HLV
     rcases HMC.out with ⟨m1, m2, m3, m4⟩ | ⟨m1, k1, j2, m2, m3⟩
     ·rw [m1]
      rw [m2] at HP3
      have HMM := hid (And.intro m3 m4)
      clear m1 m2 m3 m4
      go_wp2_with fail
      have h4 := set4 HB3.out (.int .i64 o) (.int .i64 n1) (.string s) (.slice a9 m c9)
      refine bodyPost_ret (results_expr Tryz.results193 rfl h4) rfl ?_
      have k4 := sets4_keeps w3 w.heap.size (.int .i64 o) (.int .i64 n1) (.string s) (.slice a9 m c9)
      rw [HMM.out.1, HMM.out.2]
      refine paEnd_of HP.out (HW.out.2.2.2.2.1.trans K3.out (fun _ _ h => h)) HP3.out k4 (ExprAt.mono (fun b _ hb => Nat.le_of_lt hb.1) (ExprAt.keep k4 (fun b hb e => ?_) HX3.out))
      simp at e
      omega
     ·obtain ⟨sg, hsg⟩ : ∃ x, (takesP l i (levelS n)).1 = x := ⟨_, rfl⟩
      rw [hsg] at m1 m3 ⊢
      have hcs := fun wx (kx : Keeps [] w3 wx) => HH.out.2 k (by omega) (n + 1) _ _ _ _ _ _ _ _ wx (by omega) (HP3.out.k kx) m2
      unfold ptrV at hcs
      have hc1 : ((n + 1 : Nat) : Int) = (n : Int) + 1 := by omega
      rw [hc1] at hcs
      have HCS := hid hcs
      have q2 : (sg == []) = false := by simpa using m1
      have HM3 := hid m3
      clear hcs hc1 m2 m3 m1 hsg HMC
      go_wp2_with fail
      refine Plan.wp_region_plan (fun wx => wx.cell? ⟨w1.heap.size, 0, none⟩ = some (.int .i64 o) ∧ wx.cell? ⟨w1.heap.size, 1, none⟩ = some (.int .i64 n1) ∧ wx.cell? ⟨w1.heap.size, 2, none⟩ = some (.string s) ∧ wx.cell? ⟨w1.heap.size, 3, none⟩ = some (.slice a9 m c9)) 5 [(true, 0), (true, 1), (true, 2), (true, 3), (false, 4)] (by kernel_rfl) (by as_aux_lemma => kernel_rfl) (by kernel_rfl) (fun _ _ _ _ _ h => h) ?_ (fun hS => ?_)
      (·go_simp)
      simp only [Plan.pick, List.append_eq, List.cons_append, List.nil_append, Plan.g1, Plan.g2, Option.getD_some, List.drop_succ_cons, List.drop_zero]
      iterate 4 (first | refine Plan.tA ?_ | refine Plan.tY ?_ | refine Plan.pN ?_ | refine Plan.pU ?_ | fail)
      refine Plan.step ?_
      go_wp2_with fail
      refine (HCS.out _ (by exact Keeps.K)).mono ?_
      rintro e w5 ⟨cs, rfl, hx5, hp5, hk5⟩
      have k35 := Keeps.trans (F := [p]) (w := w3) ((Keeps.refl [p] w3).drew) hk5 (fun _ _ h => h)
      have HE5 := hid ((k35.block w1.heap.size b3 (by simpa using hne1)).trans HE3.out)
      have HB5 := hid ((k35.block w.heap.size b30 (by simp; omega)).trans HB3.out)
      have HX5 := hid (ExprAt.keep k35 (fun b hb e => by simp at e; omega) HX3.out)
      obtain ⟨o2, n2, s2, l2⟩ := k1
      obtain ⟨aa, ca, rfl, hls⟩ := ExprAt.parts hx5
      have hsz3 : w1.heap.size < w3.heap.size := b3
      have HX6 := hid (ExprAt.mono (P' := fun b => w.heap.size < b ∧ b ≠ w1.heap.size) (fun b _ hb => ⟨by simp at hb; omega, by simp at hb; omega⟩) hx5)
      have HP5 := hid hp5
      have K5 := hid k35
      obtain ⟨b5, y0', y1', y2', y3', g0', g1', g2', g3'⟩ := zexpr HE5.out
      obtain ⟨b50, z0', z1', z2', z3', h0', h1', h2', h3'⟩ := zexpr HB5.out
      clear y0 y1 y2 y3 z0 z1 z2 z3 g0 g1 g2 g3 h0 h1 h2 h3 b3 b30 hx5 hp5 hk5 k35 hls
      go_wp2_with fail
      refine ⟨⟨y0', y1', y2', y3'⟩, ?_⟩
      refine Plan.fin ?_
      clear hS
      have HOP := hid (fun wx => paOp_any sg wx)
      obtain ⟨w6, hw6⟩ : ∃ x, x = w5.alloc (.cells #[.int .i64 o, .int .i64 n1, .string s, .slice a9 m c9, .int .i64 o2, .int .i64 n2, .string s2, .slice aa l2.length ca] 76) := ⟨_, rfl⟩
      have hkb := heap_alloc_new w5 (.cells #[.int .i64 o, .int .i64 n1, .string s, .slice a9 m c9, .int .i64 o2, .int .i64 n2, .string s2, .slice aa l2.length ca] 76)
      have hk56 : Keeps [] w5 (w5.alloc (.cells #[.int .i64 o, .int .i64 n1, .string s, .slice a9 m c9, .int .i64 o2, .int .i64 n2, .string s2, .slice aa l2.length ca] 76)) := by exact Keeps.K
      have hs6 : w5.heap.size < (w5.alloc (.cells #[.int .i64 o, .int .i64 n1, .string s, .slice a9 m c9, .int .i64 o2, .int .i64 n2, .string s2, .slice aa l2.length ca] 76)).heap.size := by simp
      have HE6 := hid (alloc_old (o2 := .cells #[.int .i64 o, .int .i64 n1, .string s, .slice a9 m c9, .int .i64 o2, .int .i64 n2, .string s2, .slice aa l2.length ca] 76) HE5.out)
      have HB6 := hid (alloc_old (o2 := .cells #[.int .i64 o, .int .i64 n1, .string s, .slice a9 m c9, .int .i64 o2, .int .i64 n2, .string s2, .slice aa l2.length ca] 76) HB5.out)
      rw [← hw6] at hkb hk56 hs6 HE6 HB6
      have HKB := hid hkb
      have K56 := hid hk56
      obtain ⟨b6, y0, y1, y2, y3, g0, g1, g2, g3⟩ := zexpr HE6.out
      obtain ⟨b60, z0, z1, z2, z3, h0, h1, h2, h3⟩ := zexpr HB6.out
      have v0 : w6.cell? ⟨w5.heap.size, 0, none⟩ = some (.int .i64 o) := cell_of_block hkb 0
      have v1 : w6.cell? ⟨w5.heap.size, 1, none⟩ = some (.int .i64 n1) := cell_of_block hkb 1
      have v2 : w6.cell? ⟨w5.heap.size, 2, none⟩ = some (.string s) := cell_of_block hkb 2
      have v3 : w6.cell? ⟨w5.heap.size, 3, none⟩ = some (.slice a9 m c9) := cell_of_block hkb 3
      have v4 : w6.cell? ⟨w5.heap.size, 4, none⟩ = some (.int .i64 o2) := cell_of_block hkb 4
      have v5 : w6.cell? ⟨w5.heap.size, 5, none⟩ = some (.int .i64 n2) := cell_of_block hkb 5
      have v6 : w6.cell? ⟨w5.heap.size, 6, none⟩ = some (.string s2) := cell_of_block hkb 6
      have v7 : w6.cell? ⟨w5.heap.size, 7, none⟩ = some (.slice aa l2.length ca) := cell_of_block hkb 7
      have hfr : ∀ x, w6.frozen? ⟨w5.heap.size, x, none⟩ = false := fun x => frozen_of_row w6 _ x _ _ hkb
      have u0 := hfr 0
      have u1 := hfr 1
      have u2 := hfr 2
      have u3 := hfr 3
      have u4 := hfr 4
      have u5 := hfr 5
      have u6 := hfr 6
      have u7 := hfr 7
      clear y0' y1' y2' y3' z0' z1' z2' z3' g0' g1' g2' g3' h0' h1' h2' h3' hkb hk56 hfr
      by_cases q62 : sg = [62]
      ·have hsw : swapS sg = true := by rw [q62]; rfl
       have HSW := hid hsw
       have q3 : (sg == [62]) = true := by simpa using q62
       clear hsw q62
       go_wp2_with fail
       rw [← hw6]
       clear hw6
       refine Plan.wp_region_plan (fun wx => wx.cell? ⟨w5.heap.size, 4, none⟩ = some (.int .i64 o2) ∧ wx.cell? ⟨w5.heap.size, 5, none⟩ = some (.int .i64 n2) ∧ wx.cell? ⟨w5.heap.size, 6, none⟩ = some (.string s2) ∧ wx.cell? ⟨w5.heap.size, 7, none⟩ = some (.slice aa l2.length ca)) 10 [(true, 0), (true, 1), (true, 2), (true, 3), (true, 4), (true, 5), (true, 6), (false, 7), (true, 8), (false, 9)] (by kernel_rfl) (by as_aux_lemma => kernel_rfl) (by kernel_rfl) (fun _ _ _ _ _ h => h) ?_ (fun hS => ?_)
       (·go_simp)
       simp only [Plan.pick, List.append_eq, List.cons_append, List.nil_append, Plan.g1, Plan.g2, Option.getD_some, List.drop_succ_cons, List.drop_zero]
       iterate 7 (first | refine Plan.tA ?_ | refine Plan.tY ?_ | refine Plan.pN ?_ | refine Plan.pU ?_ | fail)
       refine Plan.step ?_
       go_wp2_with fail
       refine ⟨by go_simp, ?_⟩
       iterate 1 (first | refine Plan.tA ?_ | refine Plan.tY ?_ | refine Plan.pN ?_ | refine Plan.pU ?_ | fail)
       refine Plan.step ?_
       go_wp2_with fail
       refine ⟨by go_simp, ?_⟩
       refine Plan.fin ?_
       clear hS
       go_wp2_with fail
       have HKB6 := hid (set8 HKB.out (.int .i64 o2) (.int .i64 n2) (.string s2) (.slice aa l2.length ca) (.int .i64 o) (.int .i64 n1) (.string s) (.slice a9 m c9) hs6)
       have KS : Hid (Keeps [] w5 (sets8 w6 w5.heap.size (.int .i64 o2) (.int .i64 n2) (.string s2) (.slice aa l2.length ca) (.int .i64 o) (.int .i64 n1) (.string s) (.slice a9 m c9)).drew) := (K56.out.trans (sets8_keeps w6 w5.heap.size (.int .i64 o2) (.int .i64 n2) (.string s2) (.slice aa l2.length ca) (.int .i64 o) (.int .i64 n1) (.string s) (.slice a9 m c9)) (fun b hb e => by simp at e; omega)).drew
       clear v0 v1 v2 v3 v4 v5 v6 v7 u0 u1 u2 u3 u4 u5 u6 u7 y0 y1 y2 y3 g0 g1 g2 g3 z0 z1 z2 z3 h0 h1 h2 h3
       refine (HOP.out _).mono ?_
       rintro e w7 ⟨rfl, hk7⟩
       have hkb7 := (hk7.block w5.heap.size (by first | exact HKB6.out.2 | exact hs6) (by simp)).trans HKB6.out.1
       have K57 : Hid (Keeps [] w5 w7) := KS.out.trans hk7 (fun _ _ h => h)
       have HE7 := hid ((K57.out.block w1.heap.size b5 (by simp)).trans HE5.out)
       have HB7 := hid ((K57.out.block w.heap.size b50 (by simp)).trans HB5.out)
       have hsz5 : w1.heap.size < w5.heap.size := b5
       have HXN := hid (ExprAt.of (o := opS sg) (n := 0) (s := emptyS) (kids_block (P := fun b => w.heap.size < b ∧ b ≠ w1.heap.size) (k := 2) (ks := [.mk o2 n2 s2 l2, eC]) (css := [[.int .i64 o2, .int .i64 n2, .string s2, .slice aa l2.length ca], [.int .i64 o, .int .i64 n1, .string s, .slice a9 m c9]]) hkb7 rfl (ElemsAt.two (ExprAt.keep K57.out (fun _ _ => by simp) HX6.out) (ExprAt.keep K57.out (fun _ _ => by simp) HX5.out)) ⟨by omega, by omega⟩ rfl (by decide)))
       obtain ⟨b7, y0, y1, y2, y3, g0, g1, g2, g3⟩ := zexpr HE7.out
       obtain ⟨b70, z0, z1, z2, z3, h0, h1, h2, h3⟩ := zexpr HB7.out
       have HKW7 := hid ((HW.out.2.2.2.2.1.trans (K3.out.trans K5.out (fun _ _ h => h)) (fun _ _ h => h)).trans (K57.out.mono (G := [p]) (by simp)) (fun _ _ h => h))
       have HP7 := hid (HP5.out.k K57.out)
       clear hk7 hkb7
       by_cases hn2 : n = 2
       ·have qn : ((n : Int) == 2) = true := by simp; omega
        rcases HM3.out with ⟨-, m4, m5⟩ | ⟨m4, -⟩
        ·have HQ := hid (And.intro m4 m5)
         clear m4 m5
         go_wp2_with fail
         have h8 := set4 HE7.out (.int .i64 (opS sg)) (.int .i64 0) (.string ⟨#[]⟩) (.slice (some ⟨w5.heap.size, 0, none⟩) 2 2)
         have k8 := sets4_keeps w7 w1.heap.size (.int .i64 (opS sg)) (.int .i64 0) (.string ⟨#[]⟩) (.slice (some ⟨w5.heap.size, 0, none⟩) 2 2)
         have hb8 := (k8.block w.heap.size b70 (by simp; omega)).trans HB7.out
         have h9 := set4 hb8 (.int .i64 (opS sg)) (.int .i64 0) (.string ⟨#[]⟩) (.slice (some ⟨w5.heap.size, 0, none⟩) 2 2)
         have k9 := sets4_keeps (sets4 w7 w1.heap.size (.int .i64 (opS sg)) (.int .i64 0) (.string ⟨#[]⟩) (.slice (some ⟨w5.heap.size, 0, none⟩) 2 2)) w.heap.size (.int .i64 (opS sg)) (.int .i64 0) (.string ⟨#[]⟩) (.slice (some ⟨w5.heap.size, 0, none⟩) 2 2)
         refine bodyPost_ret (results_expr Tryz.results193 rfl h9) rfl ?_
         rw [HQ.out.1, HQ.out.2,  if_pos HSW.out]
         refine paEnd_of HP.out (HKW7.out.trans k8 (fun b hb e => by simp at e; omega)) (HP.out.over HKW7.out HP7.out k8 (by omega)) k9 (ExprAt.mono (fun b _ hb => Nat.le_of_lt hb.1) (ExprAt.keep k9 (fun b hb e => ?_) (ExprAt.keep k8 (fun b hb e => ?_) HXN.out)))
         ·simp at e
          omega
         ·simp at e
          omega
        ·exact absurd hn2 m4
       ·have qn : ((n : Int) == 2) = false := by simp; omega
        rcases HM3.out with ⟨m4, -⟩ | ⟨-, m4⟩
        ·exact absurd m4 hn2
        ·rw [ if_pos HSW.out] at m4
         have HQ := hid m4
         clear m4 HM3
         go_wp2_with fail
         have k8 := sets4_keeps w7 w1.heap.size (.int .i64 (opS sg)) (.int .i64 0) (.string ⟨#[]⟩) (.slice (some ⟨w5.heap.size, 0, none⟩) 2 2)
         go_roundg k
         case measure => exact Nat.lt_succ_self k
         case rel =>
          exact ⟨_, _, _, _, _, _, _, _, by omega, HQ.out, set4 HE7.out _ _ _ _, ExprAt.keep k8 (fun b hb e => by simp at e; omega) HXN.out, HP.out.over HKW7.out HP7.out k8 (by omega), HKW7.out.trans k8 (fun b hb e => by simp at e; omega), (k8.block w.heap.size b70 (by simp; omega)).trans HB7.out⟩
      ·have q3 : (sg == [62]) = false := by simpa using q62
       by_cases q63 : sg = [62, 61]
       ·have hsw : swapS sg = true := by rw [q63]; rfl
        have HSW := hid hsw
        have q4 : (sg == [62, 61]) = true := by simpa using q63
        clear hsw q63 q62
        go_wp2_with fail
        rw [← hw6]
        clear hw6
        refine Plan.wp_region_plan (fun wx => wx.cell? ⟨w5.heap.size, 4, none⟩ = some (.int .i64 o2) ∧ wx.cell? ⟨w5.heap.size, 5, none⟩ = some (.int .i64 n2) ∧ wx.cell? ⟨w5.heap.size, 6, none⟩ = some (.string s2) ∧ wx.cell? ⟨w5.heap.size, 7, none⟩ = some (.slice aa l2.length ca)) 10 [(true, 0), (true, 1), (true, 2), (true, 3), (true, 4), (true, 5), (true, 6), (false, 7), (true, 8), (false, 9)] (by kernel_rfl) (by as_aux_lemma => kernel_rfl) (by kernel_rfl) (fun _ _ _ _ _ h => h) ?_ (fun hS => ?_)
        (·go_simp)
        simp only [Plan.pick, List.append_eq, List.cons_append, List.nil_append, Plan.g1, Plan.g2, Option.getD_some, List.drop_succ_cons, List.drop_zero]
        iterate 7 (first | refine Plan.tA ?_ | refine Plan.tY ?_ | refine Plan.pN ?_ | refine Plan.pU ?_ | fail)
        refine Plan.step ?_
        go_wp2_with fail
        refine ⟨by go_simp, ?_⟩
        iterate 1 (first | refine Plan.tA ?_ | refine Plan.tY ?_ | refine Plan.pN ?_ | refine Plan.pU ?_ | fail)
        refine Plan.step ?_
        go_wp2_with fail
        refine ⟨by go_simp, ?_⟩
        refine Plan.fin ?_
        clear hS
        go_wp2_with fail
        have HKB6 := hid (set8 HKB.out (.int .i64 o2) (.int .i64 n2) (.string s2) (.slice aa l2.length ca) (.int .i64 o) (.int .i64 n1) (.string s) (.slice a9 m c9) hs6)
        have KS : Hid (Keeps [] w5 (sets8 w6 w5.heap.size (.int .i64 o2) (.int .i64 n2) (.string s2) (.slice aa l2.length ca) (.int .i64 o) (.int .i64 n1) (.string s) (.slice a9 m c9)).drew) := (K56.out.trans (sets8_keeps w6 w5.heap.size (.int .i64 o2) (.int .i64 n2) (.string s2) (.slice aa l2.length ca) (.int .i64 o) (.int .i64 n1) (.string s) (.slice a9 m c9)) (fun b hb e => by simp at e; omega)).drew
        clear v0 v1 v2 v3 v4 v5 v6 v7 u0 u1 u2 u3 u4 u5 u6 u7 y0 y1 y2 y3 g0 g1 g2 g3 z0 z1 z2 z3 h0 h1 h2 h3
        refine (HOP.out _).mono ?_
        rintro e w7 ⟨rfl, hk7⟩
        have hkb7 := (hk7.block w5.heap.size (by first | exact HKB6.out.2 | exact hs6) (by simp)).trans HKB6.out.1
        have K57 : Hid (Keeps [] w5 w7) := KS.out.trans hk7 (fun _ _ h => h)
        have HE7 := hid ((K57.out.block w1.heap.size b5 (by simp)).trans HE5.out)
        have HB7 := hid ((K57.out.block w.heap.size b50 (by simp)).trans HB5.out)
        have hsz5 : w1.heap.size < w5.heap.size := b5
        have HXN := hid (ExprAt.of (o := opS sg) (n := 0) (s := emptyS) (kids_block (P := fun b => w.heap.size < b ∧ b ≠ w1.heap.size) (k := 2) (ks := [.mk o2 n2 s2 l2, eC]) (css := [[.int .i64 o2, .int .i64 n2, .string s2, .slice aa l2.length ca], [.int .i64 o, .int .i64 n1, .string s, .slice a9 m c9]]) hkb7 rfl (ElemsAt.two (ExprAt.keep K57.out (fun _ _ => by simp) HX6.out) (ExprAt.keep K57.out (fun _ _ => by simp) HX5.out)) ⟨by omega, by omega⟩ rfl (by decide)))
        obtain ⟨b7, y0, y1, y2, y3, g0, g1, g2, g3⟩ := zexpr HE7.out
        obtain ⟨b70, z0, z1, z2, z3, h0, h1, h2, h3⟩ := zexpr HB7.out
        have HKW7 := hid ((HW.out.2.2.2.2.1.trans (K3.out.trans K5.out (fun _ _ h => h)) (fun _ _ h => h)).trans (K57.out.mono (G := [p]) (by simp)) (fun _ _ h => h))
        have HP7 := hid (HP5.out.k K57.out)
        clear hk7 hkb7
        by_cases hn2 : n = 2
        ·have qn : ((n : Int) == 2) = true := by simp; omega
         rcases HM3.out with ⟨-, m4, m5⟩ | ⟨m4, -⟩
         ·have HQ := hid (And.intro m4 m5)
          clear m4 m5
          go_wp2_with fail
          have h8 := set4 HE7.out (.int .i64 (opS sg)) (.int .i64 0) (.string ⟨#[]⟩) (.slice (some ⟨w5.heap.size, 0, none⟩) 2 2)
          have k8 := sets4_keeps w7 w1.heap.size (.int .i64 (opS sg)) (.int .i64 0) (.string ⟨#[]⟩) (.slice (some ⟨w5.heap.size, 0, none⟩) 2 2)
          have hb8 := (k8.block w.heap.size b70 (by simp; omega)).trans HB7.out
          have h9 := set4 hb8 (.int .i64 (opS sg)) (.int .i64 0) (.string ⟨#[]⟩) (.slice (some ⟨w5.heap.size, 0, none⟩) 2 2)
          have k9 := sets4_keeps (sets4 w7 w1.heap.size (.int .i64 (opS sg)) (.int .i64 0) (.string ⟨#[]⟩) (.slice (some ⟨w5.heap.size, 0, none⟩) 2 2)) w.heap.size (.int .i64 (opS sg)) (.int .i64 0) (.string ⟨#[]⟩) (.slice (some ⟨w5.heap.size, 0, none⟩) 2 2)
          refine bodyPost_ret (results_expr Tryz.results193 rfl h9) rfl ?_
          rw [HQ.out.1, HQ.out.2,  if_pos HSW.out]
          refine paEnd_of HP.out (HKW7.out.trans k8 (fun b hb e => by simp at e; omega)) (HP.out.over HKW7.out HP7.out k8 (by omega)) k9 (ExprAt.mono (fun b _ hb => Nat.le_of_lt hb.1) (ExprAt.keep k9 (fun b hb e => ?_) (ExprAt.keep k8 (fun b hb e => ?_) HXN.out)))
          ·simp at e
           omega
          ·simp at e
           omega
         ·exact absurd hn2 m4
        ·have qn : ((n : Int) == 2) = false := by simp; omega
         rcases HM3.out with ⟨m4, -⟩ | ⟨-, m4⟩
         ·exact absurd m4 hn2
         ·rw [ if_pos HSW.out] at m4
          have HQ := hid m4
          clear m4 HM3
          go_wp2_with fail
          have k8 := sets4_keeps w7 w1.heap.size (.int .i64 (opS sg)) (.int .i64 0) (.string ⟨#[]⟩) (.slice (some ⟨w5.heap.size, 0, none⟩) 2 2)
          go_roundg k
          case measure => exact Nat.lt_succ_self k
          case rel =>
           exact ⟨_, _, _, _, _, _, _, _, by omega, HQ.out, set4 HE7.out _ _ _ _, ExprAt.keep k8 (fun b hb e => by simp at e; omega) HXN.out, HP.out.over HKW7.out HP7.out k8 (by omega), HKW7.out.trans k8 (fun b hb e => by simp at e; omega), (k8.block w.heap.size b70 (by simp; omega)).trans HB7.out⟩
       ·have hsw : ¬ swapS sg = true := by simp [swapS, q62, q63]
        have HSW := hid hsw
        have q4 : (sg == [62, 61]) = false := by simpa using q63
        clear hsw q63 q62
        have KS := K56
        have HKB6 := hid (And.intro HKB.out hs6)
        clear v0 v1 v2 v3 v4 v5 v6 v7 u0 u1 u2 u3 u4 u5 u6 u7 y0 y1 y2 y3 g0 g1 g2 g3 z0 z1 z2 z3 h0 h1 h2 h3
        go_wp2_with fail
        rw [← hw6]
        clear hw6
        refine (HOP.out _).mono ?_
        rintro e w7 ⟨rfl, hk7⟩
        have hkb7 := (hk7.block w5.heap.size (by first | exact HKB6.out.2 | exact hs6) (by simp)).trans HKB6.out.1
        have K57 : Hid (Keeps [] w5 w7) := KS.out.trans hk7 (fun _ _ h => h)
        have HE7 := hid ((K57.out.block w1.heap.size b5 (by simp)).trans HE5.out)
        have HB7 := hid ((K57.out.block w.heap.size b50 (by simp)).trans HB5.out)
        have hsz5 : w1.heap.size < w5.heap.size := b5
        have HXN := hid (ExprAt.of (o := opS sg) (n := 0) (s := emptyS) (kids_block (P := fun b => w.heap.size < b ∧ b ≠ w1.heap.size) (k := 2) (ks := [eC, .mk o2 n2 s2 l2]) (css := [[.int .i64 o, .int .i64 n1, .string s, .slice a9 m c9], [.int .i64 o2, .int .i64 n2, .string s2, .slice aa l2.length ca]]) hkb7 rfl (ElemsAt.two (ExprAt.keep K57.out (fun _ _ => by simp) HX5.out) (ExprAt.keep K57.out (fun _ _ => by simp) HX6.out)) ⟨by omega, by omega⟩ rfl (by decide)))
        obtain ⟨b7, y0, y1, y2, y3, g0, g1, g2, g3⟩ := zexpr HE7.out
        obtain ⟨b70, z0, z1, z2, z3, h0, h1, h2, h3⟩ := zexpr HB7.out
        have HKW7 := hid ((HW.out.2.2.2.2.1.trans (K3.out.trans K5.out (fun _ _ h => h)) (fun _ _ h => h)).trans (K57.out.mono (G := [p]) (by simp)) (fun _ _ h => h))
        have HP7 := hid (HP5.out.k K57.out)
        clear hk7 hkb7
        by_cases hn2 : n = 2
        ·have qn : ((n : Int) == 2) = true := by simp; omega
         rcases HM3.out with ⟨-, m4, m5⟩ | ⟨m4, -⟩
         ·have HQ := hid (And.intro m4 m5)
          clear m4 m5
          go_wp2_with fail
          have h8 := set4 HE7.out (.int .i64 (opS sg)) (.int .i64 0) (.string ⟨#[]⟩) (.slice (some ⟨w5.heap.size, 0, none⟩) 2 2)
          have k8 := sets4_keeps w7 w1.heap.size (.int .i64 (opS sg)) (.int .i64 0) (.string ⟨#[]⟩) (.slice (some ⟨w5.heap.size, 0, none⟩) 2 2)
          have hb8 := (k8.block w.heap.size b70 (by simp; omega)).trans HB7.out
          have h9 := set4 hb8 (.int .i64 (opS sg)) (.int .i64 0) (.string ⟨#[]⟩) (.slice (some ⟨w5.heap.size, 0, none⟩) 2 2)
          have k9 := sets4_keeps (sets4 w7 w1.heap.size (.int .i64 (opS sg)) (.int .i64 0) (.string ⟨#[]⟩) (.slice (some ⟨w5.heap.size, 0, none⟩) 2 2)) w.heap.size (.int .i64 (opS sg)) (.int .i64 0) (.string ⟨#[]⟩) (.slice (some ⟨w5.heap.size, 0, none⟩) 2 2)
          refine bodyPost_ret (results_expr Tryz.results193 rfl h9) rfl ?_
          rw [HQ.out.1, HQ.out.2,  if_neg HSW.out]
          refine paEnd_of HP.out (HKW7.out.trans k8 (fun b hb e => by simp at e; omega)) (HP.out.over HKW7.out HP7.out k8 (by omega)) k9 (ExprAt.mono (fun b _ hb => Nat.le_of_lt hb.1) (ExprAt.keep k9 (fun b hb e => ?_) (ExprAt.keep k8 (fun b hb e => ?_) HXN.out)))
          ·simp at e
           omega
          ·simp at e
           omega
         ·exact absurd hn2 m4
        ·have qn : ((n : Int) == 2) = false := by simp; omega
         rcases HM3.out with ⟨m4, -⟩ | ⟨-, m4⟩
         ·exact absurd m4 hn2
         ·rw [ if_neg HSW.out] at m4
          have HQ := hid m4
          clear m4 HM3
          go_wp2_with fail
          have k8 := sets4_keeps w7 w1.heap.size (.int .i64 (opS sg)) (.int .i64 0) (.string ⟨#[]⟩) (.slice (some ⟨w5.heap.size, 0, none⟩) 2 2)
          go_roundg k
          case measure => exact Nat.lt_succ_self k
          case rel =>
           exact ⟨_, _, _, _, _, _, _, _, by omega, HQ.out, set4 HE7.out _ _ _ _, ExprAt.keep k8 (fun b hb e => by simp at e; omega) HXN.out, HP.out.over HKW7.out HP7.out k8 (by omega), HKW7.out.trans k8 (fun b hb e => by simp at e; omega), (k8.block w.heap.size b70 (by simp; omega)).trans HB7.out⟩
end Go.Proofs.YtgjiahilbmeaeaaGreatDoor