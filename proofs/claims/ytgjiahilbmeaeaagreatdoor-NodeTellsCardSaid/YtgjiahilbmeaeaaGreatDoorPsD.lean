/- The parser: what begins with a name. -/
import Derived.Test.YtgjiahilbmeaeaaGreatDoorPsC
set_option maxRecDepth 100000
set_option maxHeartbeats 8000000
set_option linter.unusedSimpArgs false
set_option linter.unusedVariables false
namespace Go.Proofs.YtgjiahilbmeaeaaGreatDoor
open Go Go.RowKit
theorem paCalled_any (s : List UInt8) (w : World) : Calls Tryz.prog 291 #[.string (str s)] w fun e w' => e = .returned (.tuple #[.int .i64 (calledW s).1, .int .i64 ((calledW s).2 : Int)]) ∧ Keeps [] w w' := by
 have HR : Hid (∀ (x : Int) (y : Nat) (z : Int), calledW s = (x, y) → (y : Int) = z → Ending.returned (.tuple #[.int .i64 x, .int .i64 z]) = .returned (.tuple #[.int .i64 (calledW s).1, .int .i64 ((calledW s).2 : Int)]) ∧ Keeps [] w w) := fun x y z h e => ⟨by rw [h, ← e], Keeps.refl _ _⟩
 go_enter Tryz.func291, Tryz.ntmps291
 go_wp2_with fail
 all_goals go_ret2
 all_goals refine HR.out _ _ _ (by unfold calledW; simp_all; rfl) (by rfl)
theorem namedP_cases {f : Nat} {l : List TokD} {s : List UInt8} {i : Nat} {eD : ExprD} {j : Nat} (h : namedP (f + 1) l s i = some (.ok (eD, j))) :
 (wordD (str s) = false ∧ eD = .mk 4 0 (str s) [] ∧ j = i) ∨
 (wordD (str s) = true ∧ s = [116, 114, 117, 101] ∧ eD = .mk 3 1 emptyS [] ∧ j = i) ∨
 (wordD (str s) = true ∧ s = [102, 97, 108, 115, 101] ∧ eD = .mk 3 0 emptyS [] ∧ j = i) ∨
 (wordD (str s) = true ∧ s ≠ [116, 114, 117, 101] ∧ s ≠ [102, 97, 108, 115, 101] ∧ ∃ j1 ks j2, mustP l i [40] = .ok j1 ∧ kidsP f l (calledW s).1 (calledW s).2 true j1 = some (.ok (ks, j2)) ∧ mustP l j2 [41] = .ok j ∧ eD = .mk (calledW s).1 0 emptyS ks) := by
 rw [namedP] at h
 split at h
 ·rename_i h1
  cases h
  exact .inl ⟨h1, rfl, rfl⟩
 ·rename_i h1
  have h1 : wordD (str s) = true := by simpa using h1
  split at h
  ·rename_i h2
   cases h
   exact .inr (.inl ⟨h1, by simpa using h2, rfl, rfl⟩)
  ·rename_i h2
   split at h
   ·rename_i h3
    cases h
    exact .inr (.inr (.inl ⟨h1, by simpa using h3, rfl, rfl⟩))
   ·rename_i h3
    split at h <;> try cases h
    split at h <;> try cases h
    split at h <;> try cases h
    exact .inr (.inr (.inr ⟨h1, by simpa using h2, by simpa using h3, _, _, _, by assumption, by assumption, by assumption, rfl⟩))
theorem kidsP_cases {f : Nat} {l : List TokD} {op : Int} {n : Nat} {b : Bool} {i : Nat} {ks : List ExprD} {j : Nat} (h : kidsP f l op (n + 1) b i = some (.ok (ks, j))) :
 ∃ g j1 k j2 r, f = g + 1 ∧ (if b then .ok i else mustP l i [44]) = (Except.ok j1 : Except Nat Nat) ∧ (op = 22 → (tokAt l j1).kind = 3 ∧ wordD (str (tokAt l j1).s) = false) ∧ (if op = 22 then oneP g l j1 else twoP g 0 l j1) = some (.ok (k, j2)) ∧ kidsP g l op n false j2 = some (.ok (r, j)) ∧ ks = k :: r := by
 cases f with
 | zero => rw [kidsP] at h; cases h
 | succ g =>
   rw [kidsP] at h
   split at h <;> try cases h
   rename_i j1 hj
   split at h <;> try cases h
   rename_i hc
   split at h <;> try cases h
   rename_i k j2 hk
   split at h <;> try cases h
   rename_i r hr
   refine ⟨g, j1, k, j2, r, rfl, hj, fun e => ?_, hk, hr, rfl⟩
   simp [e] at hc
   exact hc
theorem kidsP_nil {f : Nat} {l : List TokD} {op : Int} {b : Bool} {i : Nat} {ks : List ExprD} {j : Nat} (h : kidsP f l op 0 b i = some (.ok (ks, j))) : ks = [] ∧ j = i := by
 cases f with
 | zero => rw [kidsP] at h; cases h
 | succ g => rw [kidsP] at h; cases h; exact ⟨rfl, rfl⟩
theorem calledW_le (s : List UInt8) : (calledW s).2 ≤ 3 := by
 unfold calledW
 repeat' split
 all_goals decide
theorem PaAt.overs {w w7 w8 : World} {p : Nat} {a : Option Addr} {c : Nat} {T : Nat → Prop} {l : List TokD} {i j : Nat} {G : List Nat} (h : PaAt w p a c T l i) (K : Keeps [p] w w7) (h7 : PaAt w7 p a c T l j) (k : Keeps G w7 w8) (hG : ∀ b ∈ G, w.heap.size ≤ b) : PaAt w8 p a c T l j := by
 have hp := (Array.getElem?_eq_some_iff.1 h.2.2.1).1
 have K8 := K.trans k (fun x hx hm => by have := hG x hm; omega)
 exact ⟨h.1.keep K8 (fun x hx e => h.2.1 (by simp at e; exact e ▸ hx)), h.2.1, (k.block p (Nat.lt_of_lt_of_le hp K.size) (fun hm => by have := hG p hm; omega)).trans h7.2.2.1, h.2.2.2.1, h7.2.2.2.2⟩
theorem Tryz.infoExpr : (Tryz.prog.info? 76).map (fun i => (i.zero, i.size, i.bytes)) = some (some (.agg #[.int .i64 0, .int .i64 0, .string ⟨#[]⟩, .slice none 0 0]), 4, 56) := by kernel_rfl
theorem paNamed_step (f : Nat) (HO : ∀ g, g ≤ f → OneC g) (HTW : ∀ g, g ≤ f → TwoC g) : NamedC (f + 1) := by
 intro l i s eD j p a c T w h hp
 have HC := hid (namedP_cases hp)
 have HP := hid h
 have HH := hid (And.intro HO HTW)
 have hpw := (Array.getElem?_eq_some_iff.1 h.2.2.1).1
 have HW := hid (fun wx => lxWord_any (str s) wx)
 clear hp h HO HTW
 unfold ptrV
 go_enter Tryz.func267, Tryz.ntmps267
 go_wp2_with fail
 have hn := heap_alloc_new w (.cells #[.int .i64 0, .int .i64 0, .string ⟨#[]⟩, .slice none 0 0] 76)
 refine (HW.out _).mono ?_
 rintro e w1 ⟨rfl, hk1⟩
 have b1 : w.heap.size < w1.heap.size := Nat.lt_of_lt_of_le (by simp) hk1.size
 have HB1 := hid ((hk1.block w.heap.size (Array.getElem?_eq_some_iff.1 hn).1 (by simp)).trans hn)
 have K1 : Hid (Keeps [] w w1) := Keeps.trans (F := []) (G := []) (by exact Keeps.K) hk1 (fun _ _ h => h)
 obtain ⟨-, z0, z1, z2, z3, h0, h1, h2, h3⟩ := zexpr HB1.out
 clear hn hk1
 rcases HC.out with ⟨c1, c2, c3⟩ | ⟨c1, c2, c3, c4⟩ | ⟨c1, c2, c3, c4⟩ | ⟨c1, c2, c3, c4⟩
 ·rw [c1]
  have HQ := hid (And.intro c2 c3)
  clear c2 c3
  go_wp2_with fail
  have h4 := set4 HB1.out (.int .i64 4) (.int .i64 0) (.string (str s)) (.slice none 0 0)
  refine bodyPost_ret (results_expr Tryz.results267 rfl h4) rfl ?_
  rw [HQ.out.2]
  exact paEnd_leaf HP.out (K1.out.mono (by simp)) (HP.out.k K1.out) (sets4_keeps _ w.heap.size _ _ _ _) HQ.out.1
 ·rw [c1]
  have HQ := hid (And.intro c3 c4)
  have q1 : (s == [116, 114, 117, 101]) = true := by simpa using c2
  clear c2 c3 c4
  go_wp2_with fail
  have h4 := set4 HB1.out (.int .i64 3) (.int .i64 1) (.string ⟨#[]⟩) (.slice none 0 0)
  refine bodyPost_ret (results_expr Tryz.results267 rfl h4) rfl ?_
  rw [HQ.out.2]
  exact paEnd_leaf HP.out (K1.out.mono (by simp)) (HP.out.k K1.out) (sets4_keeps _ w.heap.size _ _ _ _) HQ.out.1
 ·rw [c1]
  have HQ := hid (And.intro c3 c4)
  have q1 : (s == [116, 114, 117, 101]) = false := by subst c2; rfl
  have q2 : (s == [102, 97, 108, 115, 101]) = true := by simpa using c2
  clear c2 c3 c4
  go_wp2_with fail
  have h4 := set4 HB1.out (.int .i64 3) (.int .i64 0) (.string ⟨#[]⟩) (.slice none 0 0)
  refine bodyPost_ret (results_expr Tryz.results267 rfl h4) rfl ?_
  rw [HQ.out.2]
  exact paEnd_leaf HP.out (K1.out.mono (by simp)) (HP.out.k K1.out) (sets4_keeps _ w.heap.size _ _ _ _) HQ.out.1
 ·rw [c1]
  obtain ⟨j1, ks, j2, m1, m2, m3, m4⟩ := c4
  have q1 : (s == [116, 114, 117, 101]) = false := by simpa using c2
  have q2 : (s == [102, 97, 108, 115, 101]) = false := by simpa using c3
  obtain ⟨op, hop⟩ : ∃ x, (calledW s).1 = x := ⟨_, rfl⟩
  obtain ⟨N, hN⟩ : ∃ x, (calledW s).2 = x := ⟨_, rfl⟩
  have hcc := fun wx => paCalled_any s wx
  rw [hop, hN] at m2 hcc
  rw [hop] at m4
  have HN3 : Hid (N ≤ 3) := by rw [← hN]; exact calledW_le s
  have hmu := fun wx hx => paMust_ok [40] p i c j1 a T l wx hx m1 (by decide)
  unfold ptrV at hmu
  have HMU := hid hmu
  have HCC := hid hcc
  have HKI := hid m2
  have HM3 := hid m3
  have HM4 := hid m4
  clear m1 m2 m3 m4 hcc hmu c2 c3 hop hN
  go_wp2_with fail
  have he1 := heap_alloc_new w1 (.cells #[.int .i64 0, .int .i64 0, .string ⟨#[]⟩, .slice none 0 0] 76)
  have hz1 := alloc_old (o2 := .cells #[.int .i64 0, .int .i64 0, .string ⟨#[]⟩, .slice none 0 0] 76) HB1.out
  refine (HCC.out _).mono ?_
  rintro e w2 ⟨rfl, hk2⟩
  have HE2 := hid ((hk2.block w1.heap.size (Array.getElem?_eq_some_iff.1 he1).1 (by simp)).trans he1)
  have HZ2 := hid ((hk2.block w.heap.size (Array.getElem?_eq_some_iff.1 hz1).1 (by simp)).trans hz1)
  have K2 : Hid (Keeps [] w1 w2) := Keeps.trans (F := []) (G := []) (by exact Keeps.K) hk2 (fun _ _ h => h)
  clear z0 z1 z2 z3 h0 h1 h2 h3 hk2 he1 hz1
  obtain ⟨b2, y0, y1, y2, y3, g0, g1, g2, g3⟩ := zexpr HE2.out
  go_wp2_with fail
  have k3 : Keeps [w1.heap.size] w2 (w2.setCell ⟨w1.heap.size, 0, none⟩ (.int .i64 op)) := by exact Keeps.K
  have he3 := heap_setCell_same w2 w1.heap.size 0 _ _ (.int .i64 op) HE2.out
  have hz3 := (heap_setCell_other w2 ⟨w1.heap.size, 0, none⟩ w.heap.size (.int .i64 op) (Nat.ne_of_lt b1)).trans HZ2.out
  have K12 : Hid (Keeps [p] w w2) := (K1.out.trans K2.out (fun _ _ h => h)).mono (by simp)
  have hp3 := HP.out.over K12.out (HP.out.k (K1.out.trans K2.out (fun _ _ h => h))) k3 K1.out.size
  refine (HMU.out _ hp3).mono ?_
  rintro e w4 ⟨rfl, hp4, hk4⟩
  have hpw1 : p < w1.heap.size := Nat.lt_of_lt_of_le hpw K1.out.size
  have HE4 := hid ((hk4.block w1.heap.size (by simpa using b2) (by simp; omega)).trans he3)
  have HZ4 := hid ((hk4.block w.heap.size (Array.getElem?_eq_some_iff.1 hz3).1 (by simp; omega)).trans hz3)
  have HP4 := hid hp4
  have hs1 : w.heap.size < w1.heap.size := b1
  have K4 := hid ((K12.out.trans k3 (fun b hb e => by simp at e; omega)).trans hk4 (fun _ _ h => h))
  have HS4 : Hid (w2.heap.size ≤ w4.heap.size) := by have := hk4.size; rw [World.size_setCell] at this; exact this
  clear y0 y1 y2 y3 g0 g1 g2 g3 k3 he3 hz3 hp3 hp4 hk4 HB1 HE2 HZ2 HMU HCC
  obtain ⟨it, hi0, hz0, hz1, hz2⟩ := info_parts Tryz.infoExpr
  go_wp2_with fail
  have hw2n : w1.heap.size < w2.heap.size := b2
  go_loopw [33] (fun iv wr => ∃ (k g i2 c9 : Nat) (a9 : Option Addr) (ds r : List ExprD), iv = .int .i64 (k : Int) ∧ k ≤ N ∧ g ≤ f ∧ Hid (ds.length = k ∧ kidsP g l op (N - k) (k == 0) i2 = some (.ok (r, j2)) ∧ ks = ds ++ r ∧ wr.heap[w1.heap.size]? = some (.cells #[.int .i64 op, .int .i64 0, .string ⟨#[]⟩, .slice a9 k c9] 76 (0, 0)) ∧ OwnAt exprL 76 wr w2.heap.size (fun b => w2.heap.size ≤ b ∧ b ∉ ownB (.slice a9 k c9)) (.slice a9 k c9) ds ∧ PaAt wr p a c T l i2 ∧ Keeps [p] w wr ∧ wr.heap[w.heap.size]? = some (.cells #[.int .i64 0, .int .i64 0, .string ⟨#[]⟩, .slice none 0 0] 76 (0, 0)) ∧ w2.heap.size ≤ wr.heap.size)) (fun iv _ => N - (intOf iv).toNat)
  case atStart => exact ⟨0, f, j1, 0, none, [], ks, rfl, Nat.zero_le _, Nat.le_refl _, rfl, HKI.out, rfl, HE4.out, OwnAt.nil _ _ _ _, HP4.out, K4.out, HZ4.out, HS4.out⟩
  case round =>
   clear HKI HE4 HP4 K4 HZ4 HS4
   obtain ⟨k, g, i2, c9, a9, ds, r, rfl, hkN, hg, hW⟩ := hrel
   have HW2 := hid hW.out
   clear hW
   have hn3 := HN3.out
   have j0 : (0 : Int) ≤ (k : Int) := Int.natCast_nonneg _
   have hw1 : IntKind.i64.wrap ((k : Int) + 1) = (k : Int) + 1 := by rw [IntKind.wrap_i64]; omega
   by_cases hlt : k < N
   ·have i1 : (k : Int) < (N : Int) := by omega
    obtain ⟨n', hn'⟩ : ∃ n', N - k = n' + 1 := ⟨N - k - 1, by omega⟩
    have hkp := HW2.out.2.1
    rw [hn'] at hkp
    obtain ⟨g1, t1, k1, t2, r1, rfl, m1, m2, m3, m4, rfl⟩ := kidsP_cases hkp
    have HM1 := hid m1
    have HM2 := hid m2
    have HM3 := hid m3
    have HM4 := hid m4
    have HNN := hid hn'
    clear hkp m1 m2 m3 m4 hn'
    by_cases hk0 : k = 0
    ·have z1 : ¬ (0 : Int) < (k : Int) := by omega
     have HK0 := hid hk0
     clear hk0
     obtain ⟨wq, hwq⟩ : ∃ x, x = wr := ⟨_, rfl⟩
     rw [← hwq] at HW2 ⊢
     clear hwq wr
     have e12 : t1 = i2 := by have := HM1.out; rw [HK0.out] at this; simp at this; exact this.symm
     subst e12
     have HPQ := hid HW2.out.2.2.2.2.2.1
     have HEQ := hid HW2.out.2.2.2.1
     have HZQ := hid HW2.out.2.2.2.2.2.2.2.1
     have HOQ := hid HW2.out.2.2.2.2.1
     have KQ := hid HW2.out.2.2.2.2.2.2.1
     have hsq := HW2.out.2.2.2.2.2.2.2.2
     obtain ⟨gg, off, t, rfl, ht, htk, hgp, hg, hpq, x0, x1, y0, y1, y2, y3⟩ := HPQ.out.cells
     have HTK := hid htk
     have ii0 : (0 : Int) ≤ (t1 : Int) := Int.natCast_nonneg _
     have ii1 : (t1 : Int) < (l.length : Int) := by have := HPQ.out.2.2.2.2; omega
     obtain ⟨b5, e0, e1, e2, e3, f0, f1, f2, f3⟩ := zexpr HEQ.out
     clear ht htk hgp
     go_wp2_with fail
     refine Plan.wp_region_plan (fun wx => wx.cell? ⟨p, 0, none⟩ = some (.slice (some ⟨gg, off, none⟩) l.length c) ∧ wx.cell? ⟨p, 1, none⟩ = some (.int .i64 t1) ∧ wx.cell? ⟨gg, off + t1 * 4, none⟩ = some (.int .i64 t.kind) ∧ wx.cell? ⟨gg, off + t1 * 4 + 1, none⟩ = some (.string (str t.s)) ∧ wx.cell? ⟨gg, off + t1 * 4 + 2, none⟩ = some (.int .i64 t.n) ∧ wx.cell? ⟨gg, off + t1 * 4 + 3, none⟩ = some (.int .i64 t.at_)) 11 [(true, 0), (true, 1), (true, 2), (true, 3), (true, 4), (true, 5), (true, 6), (true, 7), (true, 8), (true, 9), (false, 10)] (by kernel_rfl) (by as_aux_lemma => kernel_rfl) (by kernel_rfl) (fun _ _ _ _ _ h => h) ?_ (fun hS => ?_)
     (·go_simp)
     simp only [Plan.pick, List.append_eq, List.cons_append, List.nil_append, Plan.g1, Plan.g2, Option.getD_some, List.drop_succ_cons, List.drop_zero]
     iterate 10 (first | refine Plan.tA ?_ | refine Plan.tY ?_ | refine Plan.pN ?_ | refine Plan.pU ?_ | fail)
     refine Plan.step ?_
     go_wp2_with fail
     refine ⟨by go_simp, ?_⟩
     refine Plan.fin ?_
     clear hS
     by_cases h22 : op = 22
     ·subst h22
      have hkd := (HM2.out rfl).1
      have HWD := hid (HM2.out rfl).2
      have HWA := hid (fun wx => lxWord_any (str t.s) wx)
      have HM5 : Hid (oneP g1 l t1 = some (.ok (k1, t2))) := by have := HM3.out; rw [if_pos rfl] at this; exact this
      rw [HTK.out] at hkd
      rw [HTK.out] at HWD
      rw [hkd] at y0 ⊢
      clear hkd
      go_wp2_with fail
      have k15 : Keeps [] wq ((wq.alloc (.cells #[.int .i64 3, .string (str t.s), .int .i64 t.n, .int .i64 t.at_] 151)).drew) := by exact Keeps.K
      refine (HWA.out _).mono ?_
      rintro e wv ⟨rfl, hkv⟩
      rw [HWD.out]
      have KV := hid (k15.trans hkv (fun _ _ h => h))
      have hcs := fun wx (kx : Keeps [] wv wx) => HH.out.1 g1 (by omega) _ _ _ _ _ _ _ _ wx (PaAt.k (HPQ.out.k KV.out) kx) HM5.out
      clear hkv k15
      have hEv := (KV.out.block w1.heap.size b5 (by simp)).trans HEQ.out
      obtain ⟨b5', e0', e1', e2', e3', f0', f1', f2', f3'⟩ := zexpr hEv
      unfold ptrV at hcs
      have HCS := hid hcs
      clear hcs hEv e0 e1 e2 e3 f0 f1 f2 f3 x0 x1 y0 y1 y2 y3 hg hpq b5
      go_wp2_with fail
      refine Plan.wp_region_plan (fun wx => wx.cell? ⟨w1.heap.size, 3, none⟩ = some (.slice a9 k c9)) 5 [(true, 0), (true, 1), (true, 2), (false, 3), (false, 4)] (by kernel_rfl) (by as_aux_lemma => kernel_rfl) (by kernel_rfl) (fun _ _ _ _ _ h => h) ?_ (fun hS => ?_)
      (·go_simp)
      simp only [Plan.pick, List.append_eq, List.cons_append, List.nil_append, Plan.g1, Plan.g2, Option.getD_some, List.drop_succ_cons, List.drop_zero]
      iterate 3 (first | refine Plan.tA ?_ | refine Plan.tY ?_ | refine Plan.pN ?_ | refine Plan.pU ?_ | fail)
      refine Plan.step ?_
      go_wp2_with fail
      refine (HCS.out _ (by exact Keeps.K)).mono ?_
      rintro e wc ⟨cs, rfl, hxc, hpc, hkc⟩
      have kvc := ((Keeps.refl [p] wv).drew).trans hkc (fun _ _ h => h)
      have hblv := OwnAt.ge (HOQ.out.k KV.out)
      have hsv : w2.heap.size ≤ wv.heap.size := Nat.le_trans hsq KV.out.size
      have HEC := hid ((kvc.block w1.heap.size b5' (by simp; omega)).trans ((KV.out.block w1.heap.size (Array.getElem?_eq_some_iff.1 HEQ.out).1 (by simp)).trans HEQ.out))
      have HZC := hid ((kvc.block w.heap.size (by omega) (by simp; omega)).trans ((KV.out.block w.heap.size (Array.getElem?_eq_some_iff.1 HZQ.out).1 (by simp)).trans HZQ.out))
      have HOC := hid (OwnAt.keep (HOQ.out.k KV.out) kvc (fun b hb e => by simp at e; have := (hblv b hb).1; omega) (fun b hb e => by simp at e; have := hb.1; omega))
      obtain ⟨o2, n2, s2, l2⟩ := k1
      obtain ⟨aa, ca, rfl, hls⟩ := ExprAt.parts hxc
      have HXC := hid (ExprAt.mono (P' := fun b => wv.heap.size ≤ b) (fun b _ hb => hb) hxc)
      have HPC := hid hpc
      have KC := hid ((KQ.out.trans (KV.out.mono (by simp)) (fun _ _ h => h)).trans kvc (fun _ _ h => h))
      have hsc : wv.heap.size ≤ wc.heap.size := kvc.size
      have xs := cell_of_block HEC.out 3
      have bc := (Array.getElem?_eq_some_iff.1 HEC.out).1
      have HBL := hid hblv
      clear e0' e1' e2' e3' f0' f1' f2' f3' b5' hxc hpc hkc kvc hls hblv
      go_wp2_with fail
      refine ⟨xs, ?_⟩
      refine Plan.step ?_
      go_wp2_with fail
      refine ⟨by go_simp, ?_⟩
      refine Plan.fin ?_
      clear hS
      have HRW := hid (heap_alloc_new wc (.cells #[.int .i64 o2, .int .i64 n2, .string s2, .slice aa l2.length ca] 76))
      have KX : Hid (Keeps [] wc (wc.alloc (.cells #[.int .i64 o2, .int .i64 n2, .string s2, .slice aa l2.length ca] 76))) := by exact Keeps.K
      have HEA := hid (fun w6 (k6 : Keeps (ownB (.slice a9 k c9)) (wc.alloc (.cells #[.int .i64 o2, .int .i64 n2, .string s2, .slice aa l2.length ca] 76)) w6) => (k6.block w1.heap.size (Nat.lt_of_lt_of_le bc KX.out.size) (fun hm => by have := (HBL.out _ hm).1; omega)).trans ((KX.out.block w1.heap.size bc (by simp)).trans HEC.out))
      go_wp2_with (at_builtin; go_must (refine wpList_append_off (L := exprL) (PB := fun b => wv.heap.size ≤ b) _ (by rfl) _ _ _ (by rfl) w2.heap.size 76 it _ 56 Tryz.underlying74 hi0 hz0 hz1 hz2 rfl (R := fun b => w2.heap.size ≤ b) (.slice a9 k c9) (by rfl) ds [.mk o2 n2 s2 l2] k HW2.out.1 [[.int .i64 o2, .int .i64 n2, .string s2, .slice aa l2.length ca]] (HOC.out.k KX.out) (.slice _ _ _) (by rfl) 1 rfl (ElemsAt.one1 (ExprAt.keep KX.out (fun _ _ => by simp) HXC.out)) (Reads.one1 HRW.out rfl) (by omega) (le_maxLen (by omega)) (by exact Nat.le_trans (Nat.le_trans hsv hsc) KX.out.size) (fun b _ hb => ⟨Nat.le_trans hsv hb, fun hm => by have := (HBL.out b hm).2; omega⟩) ?_; intro a6 q6 w6 ho6 hk6 hv6; obtain ⟨b6, e0, e1, e2, e3, f0, f1, f2, f3⟩ := zexpr (HEA.out w6 hk6.out)))
      have hs1 : w.heap.size < w1.heap.size := b1
      have hsw : ∀ b ∈ ownB (.slice a9 k c9), w2.heap.size ≤ b := fun b hb => (HBL.out b hb).1
      have hs6 : w2.heap.size ≤ w6.heap.size := Nat.le_trans (Nat.le_trans (Nat.le_trans hsv hsc) KX.out.size) hk6.out.size
      have k7 : Keeps [w1.heap.size] w6 (w6.setCell ⟨w1.heap.size, 3, none⟩ (.slice a6 (k + 1) q6)) := by exact Keeps.K
      have K6 := (KC.out.trans KX.out (fun _ _ h => by cases h)).trans hk6.out (fun b hb hm => by have := hsw b hm; omega)
      have P6 := (HP.out.overs (KC.out.trans KX.out (fun _ _ h => by cases h)) (HPC.out.k KX.out) hk6.out (fun b hb => by have := hsw b hb; omega))
      have hnr : ∀ b ∈ ownB (.slice a6 (k + 1) q6), w2.heap.size ≤ b := fun b hb => by rcases hv6.out b hb with h | h; exact hsw b h; exact Nat.le_trans (Nat.le_trans (Nat.le_trans hsv hsc) KX.out.size) h
      have he7 := heap_setCell_same w6 w1.heap.size 3 _ _ (.slice a6 (k + 1) q6) (HEA.out w6 hk6.out)
      have hz7 := ((k7.block w.heap.size (by omega) (by simp; omega)).trans ((hk6.out.block w.heap.size (by have := KX.out.size; omega) (fun hm => by have := hsw _ hm; omega)).trans ((KX.out.block w.heap.size (by omega) (by simp)).trans HZC.out)))
      have e1 : N - (k + 1) = n' := by have := HNN.out; omega
      refine ⟨⟨k + 1, g1, t2, q6, a6, ds ++ [.mk o2 n2 s2 l2], r1, rfl, by omega, by omega, by rw [List.length_append, HW2.out.1]; rfl, by rw [e1]; exact HM4.out, by rw [HW2.out.2.2.1, List.append_assoc]; rfl, he7, OwnAt.keep ho6.out k7 (fun b hb e => by simp at e; have := hnr b hb; omega) (fun b hb e => by simp at e; have := hb.1; omega), HP.out.over K6 P6 k7 (by omega), K6.trans k7 (fun b hb e => by simp at e; omega), hz7, by rw [World.size_setCell]; exact hs6⟩, ?_⟩
      simp only [intOf]
      omega
     ·have HM5 : Hid (twoP g1 0 l t1 = some (.ok (k1, t2))) := by have := HM3.out; rw [if_neg h22] at this; exact this
      have q22 : (op == 22) = false := by simpa using h22
      obtain ⟨wv, hwv⟩ : ∃ x, x = (wq.alloc (.cells #[.int .i64 t.kind, .string (str t.s), .int .i64 t.n, .int .i64 t.at_] 151)).drew := ⟨_, rfl⟩
      have k15 : Keeps [] wq ((wq.alloc (.cells #[.int .i64 t.kind, .string (str t.s), .int .i64 t.n, .int .i64 t.at_] 151)).drew) := by exact Keeps.K
      have KV := hid k15
      rw [← hwv] at KV
      have hcs : ∀ wx, Keeps [] wv wx → Calls Tryz.prog 193 #[ptrV p, .int .i64 0] wx (PaEnd wx p (some ⟨gg, off, none⟩) c T l k1 t2) := fun wx (kx : Keeps [] wv wx) => HH.out.2 g1 (by omega) 0 _ _ _ _ _ _ _ _ wx (by decide) (PaAt.k (HPQ.out.k KV.out) kx) HM5.out
      clear k15
      have hEv := (KV.out.block w1.heap.size b5 (by simp)).trans HEQ.out
      go_wp2_with fail
      rw [← hwv]
      clear hwv
      obtain ⟨b5', e0', e1', e2', e3', f0', f1', f2', f3'⟩ := zexpr hEv
      unfold ptrV at hcs
      have HCS := hid hcs
      clear hcs hEv e0 e1 e2 e3 f0 f1 f2 f3 x0 x1 y0 y1 y2 y3 hg hpq b5
      go_wp2_with fail
      refine Plan.wp_region_plan (fun wx => wx.cell? ⟨w1.heap.size, 3, none⟩ = some (.slice a9 k c9)) 5 [(true, 0), (true, 1), (true, 2), (false, 3), (false, 4)] (by kernel_rfl) (by as_aux_lemma => kernel_rfl) (by kernel_rfl) (fun _ _ _ _ _ h => h) ?_ (fun hS => ?_)
      (·go_simp)
      simp only [Plan.pick, List.append_eq, List.cons_append, List.nil_append, Plan.g1, Plan.g2, Option.getD_some, List.drop_succ_cons, List.drop_zero]
      iterate 3 (first | refine Plan.tA ?_ | refine Plan.tY ?_ | refine Plan.pN ?_ | refine Plan.pU ?_ | fail)
      refine Plan.step ?_
      go_wp2_with fail
      refine (HCS.out _ (by exact Keeps.K)).mono ?_
      rintro e wc ⟨cs, rfl, hxc, hpc, hkc⟩
      have kvc := ((Keeps.refl [p] wv).drew).trans hkc (fun _ _ h => h)
      have hblv := OwnAt.ge (HOQ.out.k KV.out)
      have hsv : w2.heap.size ≤ wv.heap.size := Nat.le_trans hsq KV.out.size
      have HEC := hid ((kvc.block w1.heap.size b5' (by simp; omega)).trans ((KV.out.block w1.heap.size (Array.getElem?_eq_some_iff.1 HEQ.out).1 (by simp)).trans HEQ.out))
      have HZC := hid ((kvc.block w.heap.size (by omega) (by simp; omega)).trans ((KV.out.block w.heap.size (Array.getElem?_eq_some_iff.1 HZQ.out).1 (by simp)).trans HZQ.out))
      have HOC := hid (OwnAt.keep (HOQ.out.k KV.out) kvc (fun b hb e => by simp at e; have := (hblv b hb).1; omega) (fun b hb e => by simp at e; have := hb.1; omega))
      obtain ⟨o2, n2, s2, l2⟩ := k1
      obtain ⟨aa, ca, rfl, hls⟩ := ExprAt.parts hxc
      have HXC := hid (ExprAt.mono (P' := fun b => wv.heap.size ≤ b) (fun b _ hb => hb) hxc)
      have HPC := hid hpc
      have KC := hid ((KQ.out.trans (KV.out.mono (by simp)) (fun _ _ h => h)).trans kvc (fun _ _ h => h))
      have hsc : wv.heap.size ≤ wc.heap.size := kvc.size
      have xs := cell_of_block HEC.out 3
      have bc := (Array.getElem?_eq_some_iff.1 HEC.out).1
      have HBL := hid hblv
      clear e0' e1' e2' e3' f0' f1' f2' f3' b5' hxc hpc hkc kvc hls hblv
      go_wp2_with fail
      refine ⟨xs, ?_⟩
      refine Plan.step ?_
      go_wp2_with fail
      refine ⟨by go_simp, ?_⟩
      refine Plan.fin ?_
      clear hS
      have HRW := hid (heap_alloc_new wc (.cells #[.int .i64 o2, .int .i64 n2, .string s2, .slice aa l2.length ca] 76))
      have KX : Hid (Keeps [] wc (wc.alloc (.cells #[.int .i64 o2, .int .i64 n2, .string s2, .slice aa l2.length ca] 76))) := by exact Keeps.K
      have HEA := hid (fun w6 (k6 : Keeps (ownB (.slice a9 k c9)) (wc.alloc (.cells #[.int .i64 o2, .int .i64 n2, .string s2, .slice aa l2.length ca] 76)) w6) => (k6.block w1.heap.size (Nat.lt_of_lt_of_le bc KX.out.size) (fun hm => by have := (HBL.out _ hm).1; omega)).trans ((KX.out.block w1.heap.size bc (by simp)).trans HEC.out))
      go_wp2_with (at_builtin; go_must (refine wpList_append_off (L := exprL) (PB := fun b => wv.heap.size ≤ b) _ (by rfl) _ _ _ (by rfl) w2.heap.size 76 it _ 56 Tryz.underlying74 hi0 hz0 hz1 hz2 rfl (R := fun b => w2.heap.size ≤ b) (.slice a9 k c9) (by rfl) ds [.mk o2 n2 s2 l2] k HW2.out.1 [[.int .i64 o2, .int .i64 n2, .string s2, .slice aa l2.length ca]] (HOC.out.k KX.out) (.slice _ _ _) (by rfl) 1 rfl (ElemsAt.one1 (ExprAt.keep KX.out (fun _ _ => by simp) HXC.out)) (Reads.one1 HRW.out rfl) (by omega) (le_maxLen (by omega)) (by exact Nat.le_trans (Nat.le_trans hsv hsc) KX.out.size) (fun b _ hb => ⟨Nat.le_trans hsv hb, fun hm => by have := (HBL.out b hm).2; omega⟩) ?_; intro a6 q6 w6 ho6 hk6 hv6; obtain ⟨b6, e0, e1, e2, e3, f0, f1, f2, f3⟩ := zexpr (HEA.out w6 hk6.out)))
      have hs1 : w.heap.size < w1.heap.size := b1
      have hsw : ∀ b ∈ ownB (.slice a9 k c9), w2.heap.size ≤ b := fun b hb => (HBL.out b hb).1
      have hs6 : w2.heap.size ≤ w6.heap.size := Nat.le_trans (Nat.le_trans (Nat.le_trans hsv hsc) KX.out.size) hk6.out.size
      have k7 : Keeps [w1.heap.size] w6 (w6.setCell ⟨w1.heap.size, 3, none⟩ (.slice a6 (k + 1) q6)) := by exact Keeps.K
      have K6 := (KC.out.trans KX.out (fun _ _ h => by cases h)).trans hk6.out (fun b hb hm => by have := hsw b hm; omega)
      have P6 := (HP.out.overs (KC.out.trans KX.out (fun _ _ h => by cases h)) (HPC.out.k KX.out) hk6.out (fun b hb => by have := hsw b hb; omega))
      have hnr : ∀ b ∈ ownB (.slice a6 (k + 1) q6), w2.heap.size ≤ b := fun b hb => by rcases hv6.out b hb with h | h; exact hsw b h; exact Nat.le_trans (Nat.le_trans (Nat.le_trans hsv hsc) KX.out.size) h
      have he7 := heap_setCell_same w6 w1.heap.size 3 _ _ (.slice a6 (k + 1) q6) (HEA.out w6 hk6.out)
      have hz7 := ((k7.block w.heap.size (by omega) (by simp; omega)).trans ((hk6.out.block w.heap.size (by have := KX.out.size; omega) (fun hm => by have := hsw _ hm; omega)).trans ((KX.out.block w.heap.size (by omega) (by simp)).trans HZC.out)))
      have e1 : N - (k + 1) = n' := by have := HNN.out; omega
      refine ⟨⟨k + 1, g1, t2, q6, a6, ds ++ [.mk o2 n2 s2 l2], r1, rfl, by omega, by omega, by rw [List.length_append, HW2.out.1]; rfl, by rw [e1]; exact HM4.out, by rw [HW2.out.2.2.1, List.append_assoc]; rfl, he7, OwnAt.keep ho6.out k7 (fun b hb e => by simp at e; have := hnr b hb; omega) (fun b hb e => by simp at e; have := hb.1; omega), HP.out.over K6 P6 k7 (by omega), K6.trans k7 (fun b hb e => by simp at e; omega), hz7, by rw [World.size_setCell]; exact hs6⟩, ?_⟩
      simp only [intOf]
      omega
    ·have z1 : (0 : Int) < (k : Int) := by omega
     have hm1 : mustP l i2 [44] = .ok t1 := by have := HM1.out; rw [if_neg (by simpa using hk0)] at this; exact this
     have hmu := paMust_ok [44] p i2 c t1 a T l wr HW2.out.2.2.2.2.2.1 hm1 (by decide)
     unfold ptrV at hmu
     have HMU := hid hmu
     clear hm1 hmu
     go_wp2_with fail
     refine HMU.out.mono ?_
     rintro e wq ⟨rfl, hpq, hkq⟩
     have hbl := OwnAt.ge HW2.out.2.2.2.2.1
     have HPQ := hid hpq
     have HEQ := hid ((hkq.block w1.heap.size (Array.getElem?_eq_some_iff.1 HW2.out.2.2.2.1).1 (by simp; omega)).trans HW2.out.2.2.2.1)
     have HZQ := hid ((hkq.block w.heap.size (Array.getElem?_eq_some_iff.1 HW2.out.2.2.2.2.2.2.2.1).1 (by simp; omega)).trans HW2.out.2.2.2.2.2.2.2.1)
     have HOQ := hid (OwnAt.keep HW2.out.2.2.2.2.1 hkq (fun b hb e => by simp at e; have := (hbl b hb).1; omega) (fun b hb e => by simp at e; have := hb.1; omega))
     have KQ := hid (HW2.out.2.2.2.2.2.2.1.trans hkq (fun _ _ h => h))
     have hsq := Nat.le_trans HW2.out.2.2.2.2.2.2.2.2 hkq.size
     clear hpq hkq hbl HMU
     obtain ⟨gg, off, t, rfl, ht, htk, hgp, hg, hpq, x0, x1, y0, y1, y2, y3⟩ := HPQ.out.cells
     have HTK := hid htk
     have ii0 : (0 : Int) ≤ (t1 : Int) := Int.natCast_nonneg _
     have ii1 : (t1 : Int) < (l.length : Int) := by have := HPQ.out.2.2.2.2; omega
     obtain ⟨b5, e0, e1, e2, e3, f0, f1, f2, f3⟩ := zexpr HEQ.out
     clear ht htk hgp
     go_wp2_with fail
     refine Plan.wp_region_plan (fun wx => wx.cell? ⟨p, 0, none⟩ = some (.slice (some ⟨gg, off, none⟩) l.length c) ∧ wx.cell? ⟨p, 1, none⟩ = some (.int .i64 t1) ∧ wx.cell? ⟨gg, off + t1 * 4, none⟩ = some (.int .i64 t.kind) ∧ wx.cell? ⟨gg, off + t1 * 4 + 1, none⟩ = some (.string (str t.s)) ∧ wx.cell? ⟨gg, off + t1 * 4 + 2, none⟩ = some (.int .i64 t.n) ∧ wx.cell? ⟨gg, off + t1 * 4 + 3, none⟩ = some (.int .i64 t.at_)) 11 [(true, 0), (true, 1), (true, 2), (true, 3), (true, 4), (true, 5), (true, 6), (true, 7), (true, 8), (true, 9), (false, 10)] (by kernel_rfl) (by as_aux_lemma => kernel_rfl) (by kernel_rfl) (fun _ _ _ _ _ h => h) ?_ (fun hS => ?_)
     (·go_simp)
     simp only [Plan.pick, List.append_eq, List.cons_append, List.nil_append, Plan.g1, Plan.g2, Option.getD_some, List.drop_succ_cons, List.drop_zero]
     iterate 10 (first | refine Plan.tA ?_ | refine Plan.tY ?_ | refine Plan.pN ?_ | refine Plan.pU ?_ | fail)
     refine Plan.step ?_
     go_wp2_with fail
     refine ⟨by go_simp, ?_⟩
     refine Plan.fin ?_
     clear hS
     by_cases h22 : op = 22
     ·subst h22
      have hkd := (HM2.out rfl).1
      have HWD := hid (HM2.out rfl).2
      have HWA := hid (fun wx => lxWord_any (str t.s) wx)
      have HM5 : Hid (oneP g1 l t1 = some (.ok (k1, t2))) := by have := HM3.out; rw [if_pos rfl] at this; exact this
      rw [HTK.out] at hkd
      rw [HTK.out] at HWD
      rw [hkd] at y0 ⊢
      clear hkd
      go_wp2_with fail
      have k15 : Keeps [] wq ((wq.alloc (.cells #[.int .i64 3, .string (str t.s), .int .i64 t.n, .int .i64 t.at_] 151)).drew) := by exact Keeps.K
      refine (HWA.out _).mono ?_
      rintro e wv ⟨rfl, hkv⟩
      rw [HWD.out]
      have KV := hid (k15.trans hkv (fun _ _ h => h))
      have hcs := fun wx (kx : Keeps [] wv wx) => HH.out.1 g1 (by omega) _ _ _ _ _ _ _ _ wx (PaAt.k (HPQ.out.k KV.out) kx) HM5.out
      clear hkv k15
      have hEv := (KV.out.block w1.heap.size b5 (by simp)).trans HEQ.out
      obtain ⟨b5', e0', e1', e2', e3', f0', f1', f2', f3'⟩ := zexpr hEv
      unfold ptrV at hcs
      have HCS := hid hcs
      clear hcs hEv e0 e1 e2 e3 f0 f1 f2 f3 x0 x1 y0 y1 y2 y3 hg hpq b5
      go_wp2_with fail
      refine Plan.wp_region_plan (fun wx => wx.cell? ⟨w1.heap.size, 3, none⟩ = some (.slice a9 k c9)) 5 [(true, 0), (true, 1), (true, 2), (false, 3), (false, 4)] (by kernel_rfl) (by as_aux_lemma => kernel_rfl) (by kernel_rfl) (fun _ _ _ _ _ h => h) ?_ (fun hS => ?_)
      (·go_simp)
      simp only [Plan.pick, List.append_eq, List.cons_append, List.nil_append, Plan.g1, Plan.g2, Option.getD_some, List.drop_succ_cons, List.drop_zero]
      iterate 3 (first | refine Plan.tA ?_ | refine Plan.tY ?_ | refine Plan.pN ?_ | refine Plan.pU ?_ | fail)
      refine Plan.step ?_
      go_wp2_with fail
      refine (HCS.out _ (by exact Keeps.K)).mono ?_
      rintro e wc ⟨cs, rfl, hxc, hpc, hkc⟩
      have kvc := ((Keeps.refl [p] wv).drew).trans hkc (fun _ _ h => h)
      have hblv := OwnAt.ge (HOQ.out.k KV.out)
      have hsv : w2.heap.size ≤ wv.heap.size := Nat.le_trans hsq KV.out.size
      have HEC := hid ((kvc.block w1.heap.size b5' (by simp; omega)).trans ((KV.out.block w1.heap.size (Array.getElem?_eq_some_iff.1 HEQ.out).1 (by simp)).trans HEQ.out))
      have HZC := hid ((kvc.block w.heap.size (by omega) (by simp; omega)).trans ((KV.out.block w.heap.size (Array.getElem?_eq_some_iff.1 HZQ.out).1 (by simp)).trans HZQ.out))
      have HOC := hid (OwnAt.keep (HOQ.out.k KV.out) kvc (fun b hb e => by simp at e; have := (hblv b hb).1; omega) (fun b hb e => by simp at e; have := hb.1; omega))
      obtain ⟨o2, n2, s2, l2⟩ := k1
      obtain ⟨aa, ca, rfl, hls⟩ := ExprAt.parts hxc
      have HXC := hid (ExprAt.mono (P' := fun b => wv.heap.size ≤ b) (fun b _ hb => hb) hxc)
      have HPC := hid hpc
      have KC := hid ((KQ.out.trans (KV.out.mono (by simp)) (fun _ _ h => h)).trans kvc (fun _ _ h => h))
      have hsc : wv.heap.size ≤ wc.heap.size := kvc.size
      have xs := cell_of_block HEC.out 3
      have bc := (Array.getElem?_eq_some_iff.1 HEC.out).1
      have HBL := hid hblv
      clear e0' e1' e2' e3' f0' f1' f2' f3' b5' hxc hpc hkc kvc hls hblv
      go_wp2_with fail
      refine ⟨xs, ?_⟩
      refine Plan.step ?_
      go_wp2_with fail
      refine ⟨by go_simp, ?_⟩
      refine Plan.fin ?_
      clear hS
      have HRW := hid (heap_alloc_new wc (.cells #[.int .i64 o2, .int .i64 n2, .string s2, .slice aa l2.length ca] 76))
      have KX : Hid (Keeps [] wc (wc.alloc (.cells #[.int .i64 o2, .int .i64 n2, .string s2, .slice aa l2.length ca] 76))) := by exact Keeps.K
      have HEA := hid (fun w6 (k6 : Keeps (ownB (.slice a9 k c9)) (wc.alloc (.cells #[.int .i64 o2, .int .i64 n2, .string s2, .slice aa l2.length ca] 76)) w6) => (k6.block w1.heap.size (Nat.lt_of_lt_of_le bc KX.out.size) (fun hm => by have := (HBL.out _ hm).1; omega)).trans ((KX.out.block w1.heap.size bc (by simp)).trans HEC.out))
      go_wp2_with (at_builtin; go_must (refine wpList_append_off (L := exprL) (PB := fun b => wv.heap.size ≤ b) _ (by rfl) _ _ _ (by rfl) w2.heap.size 76 it _ 56 Tryz.underlying74 hi0 hz0 hz1 hz2 rfl (R := fun b => w2.heap.size ≤ b) (.slice a9 k c9) (by rfl) ds [.mk o2 n2 s2 l2] k HW2.out.1 [[.int .i64 o2, .int .i64 n2, .string s2, .slice aa l2.length ca]] (HOC.out.k KX.out) (.slice _ _ _) (by rfl) 1 rfl (ElemsAt.one1 (ExprAt.keep KX.out (fun _ _ => by simp) HXC.out)) (Reads.one1 HRW.out rfl) (by omega) (le_maxLen (by omega)) (by exact Nat.le_trans (Nat.le_trans hsv hsc) KX.out.size) (fun b _ hb => ⟨Nat.le_trans hsv hb, fun hm => by have := (HBL.out b hm).2; omega⟩) ?_; intro a6 q6 w6 ho6 hk6 hv6; obtain ⟨b6, e0, e1, e2, e3, f0, f1, f2, f3⟩ := zexpr (HEA.out w6 hk6.out)))
      have hs1 : w.heap.size < w1.heap.size := b1
      have hsw : ∀ b ∈ ownB (.slice a9 k c9), w2.heap.size ≤ b := fun b hb => (HBL.out b hb).1
      have hs6 : w2.heap.size ≤ w6.heap.size := Nat.le_trans (Nat.le_trans (Nat.le_trans hsv hsc) KX.out.size) hk6.out.size
      have k7 : Keeps [w1.heap.size] w6 (w6.setCell ⟨w1.heap.size, 3, none⟩ (.slice a6 (k + 1) q6)) := by exact Keeps.K
      have K6 := (KC.out.trans KX.out (fun _ _ h => by cases h)).trans hk6.out (fun b hb hm => by have := hsw b hm; omega)
      have P6 := (HP.out.overs (KC.out.trans KX.out (fun _ _ h => by cases h)) (HPC.out.k KX.out) hk6.out (fun b hb => by have := hsw b hb; omega))
      have hnr : ∀ b ∈ ownB (.slice a6 (k + 1) q6), w2.heap.size ≤ b := fun b hb => by rcases hv6.out b hb with h | h; exact hsw b h; exact Nat.le_trans (Nat.le_trans (Nat.le_trans hsv hsc) KX.out.size) h
      have he7 := heap_setCell_same w6 w1.heap.size 3 _ _ (.slice a6 (k + 1) q6) (HEA.out w6 hk6.out)
      have hz7 := ((k7.block w.heap.size (by omega) (by simp; omega)).trans ((hk6.out.block w.heap.size (by have := KX.out.size; omega) (fun hm => by have := hsw _ hm; omega)).trans ((KX.out.block w.heap.size (by omega) (by simp)).trans HZC.out)))
      have e1 : N - (k + 1) = n' := by have := HNN.out; omega
      refine ⟨⟨k + 1, g1, t2, q6, a6, ds ++ [.mk o2 n2 s2 l2], r1, rfl, by omega, by omega, by rw [List.length_append, HW2.out.1]; rfl, by rw [e1]; exact HM4.out, by rw [HW2.out.2.2.1, List.append_assoc]; rfl, he7, OwnAt.keep ho6.out k7 (fun b hb e => by simp at e; have := hnr b hb; omega) (fun b hb e => by simp at e; have := hb.1; omega), HP.out.over K6 P6 k7 (by omega), K6.trans k7 (fun b hb e => by simp at e; omega), hz7, by rw [World.size_setCell]; exact hs6⟩, ?_⟩
      simp only [intOf]
      omega
     ·have HM5 : Hid (twoP g1 0 l t1 = some (.ok (k1, t2))) := by have := HM3.out; rw [if_neg h22] at this; exact this
      have q22 : (op == 22) = false := by simpa using h22
      obtain ⟨wv, hwv⟩ : ∃ x, x = (wq.alloc (.cells #[.int .i64 t.kind, .string (str t.s), .int .i64 t.n, .int .i64 t.at_] 151)).drew := ⟨_, rfl⟩
      have k15 : Keeps [] wq ((wq.alloc (.cells #[.int .i64 t.kind, .string (str t.s), .int .i64 t.n, .int .i64 t.at_] 151)).drew) := by exact Keeps.K
      have KV := hid k15
      rw [← hwv] at KV
      have hcs : ∀ wx, Keeps [] wv wx → Calls Tryz.prog 193 #[ptrV p, .int .i64 0] wx (PaEnd wx p (some ⟨gg, off, none⟩) c T l k1 t2) := fun wx (kx : Keeps [] wv wx) => HH.out.2 g1 (by omega) 0 _ _ _ _ _ _ _ _ wx (by decide) (PaAt.k (HPQ.out.k KV.out) kx) HM5.out
      clear k15
      have hEv := (KV.out.block w1.heap.size b5 (by simp)).trans HEQ.out
      go_wp2_with fail
      rw [← hwv]
      clear hwv
      obtain ⟨b5', e0', e1', e2', e3', f0', f1', f2', f3'⟩ := zexpr hEv
      unfold ptrV at hcs
      have HCS := hid hcs
      clear hcs hEv e0 e1 e2 e3 f0 f1 f2 f3 x0 x1 y0 y1 y2 y3 hg hpq b5
      go_wp2_with fail
      refine Plan.wp_region_plan (fun wx => wx.cell? ⟨w1.heap.size, 3, none⟩ = some (.slice a9 k c9)) 5 [(true, 0), (true, 1), (true, 2), (false, 3), (false, 4)] (by kernel_rfl) (by as_aux_lemma => kernel_rfl) (by kernel_rfl) (fun _ _ _ _ _ h => h) ?_ (fun hS => ?_)
      (·go_simp)
      simp only [Plan.pick, List.append_eq, List.cons_append, List.nil_append, Plan.g1, Plan.g2, Option.getD_some, List.drop_succ_cons, List.drop_zero]
      iterate 3 (first | refine Plan.tA ?_ | refine Plan.tY ?_ | refine Plan.pN ?_ | refine Plan.pU ?_ | fail)
      refine Plan.step ?_
      go_wp2_with fail
      refine (HCS.out _ (by exact Keeps.K)).mono ?_
      rintro e wc ⟨cs, rfl, hxc, hpc, hkc⟩
      have kvc := ((Keeps.refl [p] wv).drew).trans hkc (fun _ _ h => h)
      have hblv := OwnAt.ge (HOQ.out.k KV.out)
      have hsv : w2.heap.size ≤ wv.heap.size := Nat.le_trans hsq KV.out.size
      have HEC := hid ((kvc.block w1.heap.size b5' (by simp; omega)).trans ((KV.out.block w1.heap.size (Array.getElem?_eq_some_iff.1 HEQ.out).1 (by simp)).trans HEQ.out))
      have HZC := hid ((kvc.block w.heap.size (by omega) (by simp; omega)).trans ((KV.out.block w.heap.size (Array.getElem?_eq_some_iff.1 HZQ.out).1 (by simp)).trans HZQ.out))
      have HOC := hid (OwnAt.keep (HOQ.out.k KV.out) kvc (fun b hb e => by simp at e; have := (hblv b hb).1; omega) (fun b hb e => by simp at e; have := hb.1; omega))
      obtain ⟨o2, n2, s2, l2⟩ := k1
      obtain ⟨aa, ca, rfl, hls⟩ := ExprAt.parts hxc
      have HXC := hid (ExprAt.mono (P' := fun b => wv.heap.size ≤ b) (fun b _ hb => hb) hxc)
      have HPC := hid hpc
      have KC := hid ((KQ.out.trans (KV.out.mono (by simp)) (fun _ _ h => h)).trans kvc (fun _ _ h => h))
      have hsc : wv.heap.size ≤ wc.heap.size := kvc.size
      have xs := cell_of_block HEC.out 3
      have bc := (Array.getElem?_eq_some_iff.1 HEC.out).1
      have HBL := hid hblv
      clear e0' e1' e2' e3' f0' f1' f2' f3' b5' hxc hpc hkc kvc hls hblv
      go_wp2_with fail
      refine ⟨xs, ?_⟩
      refine Plan.step ?_
      go_wp2_with fail
      refine ⟨by go_simp, ?_⟩
      refine Plan.fin ?_
      clear hS
      have HRW := hid (heap_alloc_new wc (.cells #[.int .i64 o2, .int .i64 n2, .string s2, .slice aa l2.length ca] 76))
      have KX : Hid (Keeps [] wc (wc.alloc (.cells #[.int .i64 o2, .int .i64 n2, .string s2, .slice aa l2.length ca] 76))) := by exact Keeps.K
      have HEA := hid (fun w6 (k6 : Keeps (ownB (.slice a9 k c9)) (wc.alloc (.cells #[.int .i64 o2, .int .i64 n2, .string s2, .slice aa l2.length ca] 76)) w6) => (k6.block w1.heap.size (Nat.lt_of_lt_of_le bc KX.out.size) (fun hm => by have := (HBL.out _ hm).1; omega)).trans ((KX.out.block w1.heap.size bc (by simp)).trans HEC.out))
      go_wp2_with (at_builtin; go_must (refine wpList_append_off (L := exprL) (PB := fun b => wv.heap.size ≤ b) _ (by rfl) _ _ _ (by rfl) w2.heap.size 76 it _ 56 Tryz.underlying74 hi0 hz0 hz1 hz2 rfl (R := fun b => w2.heap.size ≤ b) (.slice a9 k c9) (by rfl) ds [.mk o2 n2 s2 l2] k HW2.out.1 [[.int .i64 o2, .int .i64 n2, .string s2, .slice aa l2.length ca]] (HOC.out.k KX.out) (.slice _ _ _) (by rfl) 1 rfl (ElemsAt.one1 (ExprAt.keep KX.out (fun _ _ => by simp) HXC.out)) (Reads.one1 HRW.out rfl) (by omega) (le_maxLen (by omega)) (by exact Nat.le_trans (Nat.le_trans hsv hsc) KX.out.size) (fun b _ hb => ⟨Nat.le_trans hsv hb, fun hm => by have := (HBL.out b hm).2; omega⟩) ?_; intro a6 q6 w6 ho6 hk6 hv6; obtain ⟨b6, e0, e1, e2, e3, f0, f1, f2, f3⟩ := zexpr (HEA.out w6 hk6.out)))
      have hs1 : w.heap.size < w1.heap.size := b1
      have hsw : ∀ b ∈ ownB (.slice a9 k c9), w2.heap.size ≤ b := fun b hb => (HBL.out b hb).1
      have hs6 : w2.heap.size ≤ w6.heap.size := Nat.le_trans (Nat.le_trans (Nat.le_trans hsv hsc) KX.out.size) hk6.out.size
      have k7 : Keeps [w1.heap.size] w6 (w6.setCell ⟨w1.heap.size, 3, none⟩ (.slice a6 (k + 1) q6)) := by exact Keeps.K
      have K6 := (KC.out.trans KX.out (fun _ _ h => by cases h)).trans hk6.out (fun b hb hm => by have := hsw b hm; omega)
      have P6 := (HP.out.overs (KC.out.trans KX.out (fun _ _ h => by cases h)) (HPC.out.k KX.out) hk6.out (fun b hb => by have := hsw b hb; omega))
      have hnr : ∀ b ∈ ownB (.slice a6 (k + 1) q6), w2.heap.size ≤ b := fun b hb => by rcases hv6.out b hb with h | h; exact hsw b h; exact Nat.le_trans (Nat.le_trans (Nat.le_trans hsv hsc) KX.out.size) h
      have he7 := heap_setCell_same w6 w1.heap.size 3 _ _ (.slice a6 (k + 1) q6) (HEA.out w6 hk6.out)
      have hz7 := ((k7.block w.heap.size (by omega) (by simp; omega)).trans ((hk6.out.block w.heap.size (by have := KX.out.size; omega) (fun hm => by have := hsw _ hm; omega)).trans ((KX.out.block w.heap.size (by omega) (by simp)).trans HZC.out)))
      have e1 : N - (k + 1) = n' := by have := HNN.out; omega
      refine ⟨⟨k + 1, g1, t2, q6, a6, ds ++ [.mk o2 n2 s2 l2], r1, rfl, by omega, by omega, by rw [List.length_append, HW2.out.1]; rfl, by rw [e1]; exact HM4.out, by rw [HW2.out.2.2.1, List.append_assoc]; rfl, he7, OwnAt.keep ho6.out k7 (fun b hb e => by simp at e; have := hnr b hb; omega) (fun b hb e => by simp at e; have := hb.1; omega), HP.out.over K6 P6 k7 (by omega), K6.trans k7 (fun b hb e => by simp at e; omega), hz7, by rw [World.size_setCell]; exact hs6⟩, ?_⟩
      simp only [intOf]
      omega
   ·obtain rfl : k = N := by omega
    have i1 : ¬ (k : Int) < (k : Int) := by omega
    have hkn := HW2.out.2.1
    rw [Nat.sub_self] at hkn
    obtain ⟨hr0, hj2⟩ := kidsP_nil hkn
    have hks : ks = ds := by rw [HW2.out.2.2.1, hr0, List.append_nil]
    have hmu := paMust_ok [41] p i2 c j a T l wr HW2.out.2.2.2.2.2.1 (by rw [← hj2]; exact HM3.out) (by decide)
    unfold ptrV at hmu
    have HMU := hid hmu
    have HKS := hid hks
    clear hkn hr0 hj2 hks hmu
    go_wp2_with fail
    refine HMU.out.mono ?_
    rintro e wq ⟨rfl, hpq, hkq⟩
    have hbl := OwnAt.ge HW2.out.2.2.2.2.1
    have hs1 : w.heap.size < w1.heap.size := b1
    have HPQ := hid hpq
    have HEQ := hid ((hkq.block w1.heap.size (Array.getElem?_eq_some_iff.1 HW2.out.2.2.2.1).1 (by simp; omega)).trans HW2.out.2.2.2.1)
    have HZQ := hid ((hkq.block w.heap.size (Array.getElem?_eq_some_iff.1 HW2.out.2.2.2.2.2.2.2.1).1 (by simp; omega)).trans HW2.out.2.2.2.2.2.2.2.1)
    have HOQ := hid (OwnAt.keep HW2.out.2.2.2.2.1 hkq (fun b hb e => by simp at e; have := (hbl b hb).1; omega) (fun b hb e => by simp at e; have := hb.1; omega))
    have KQ := hid (HW2.out.2.2.2.2.2.2.1.trans hkq (fun _ _ h => h))
    obtain ⟨b5, e0, e1, e2, e3, -, -, -, -⟩ := zexpr HEQ.out
    obtain ⟨b50, z0, z1, z2, z3, h0, h1, h2, h3⟩ := zexpr HZQ.out
    have HBL := hid hbl
    clear hpq hkq hbl HMU
    go_wp2_with fail
    have h4 := set4 HZQ.out (.int .i64 op) (.int .i64 0) (.string ⟨#[]⟩) (.slice a9 k c9)
    refine bodyPost_ret (results_expr Tryz.results267 rfl h4) rfl ?_
    have k4 := sets4_keeps wq w.heap.size (.int .i64 op) (.int .i64 0) (.string ⟨#[]⟩) (.slice a9 k c9)
    have hlist : ListAt exprL (sets4 wq w.heap.size (.int .i64 op) (.int .i64 0) (.string ⟨#[]⟩) (.slice a9 k c9)) (fun b => w.heap.size ≤ b) (.slice a9 ds.length c9) ds := by
     rw [HW2.out.1]
     exact OwnAt.list (P := fun b => w2.heap.size ≤ b ∧ b ∉ ownB (.slice a9 k c9)) (OwnAt.keep HOQ.out k4 (fun b hb e => by simp at e; have := (HBL.out b hb).1; omega) (fun b hb e => by simp at e; have := hb.1; omega)) (fun b _ hb => by have := hb.1; omega) (fun b hb => by have := (HBL.out b hb).1; omega)
    have hfin := paEnd_of (cs := [.int .i64 op, .int .i64 0, .string ⟨#[]⟩, .slice a9 ds.length c9]) HP.out KQ.out HPQ.out k4 (ExprAt.of (o := op) (n := 0) (s := emptyS) hlist)
    rw [HM4.out, HKS.out]
    rw [HW2.out.1] at hfin
    exact hfin
end Go.Proofs.YtgjiahilbmeaeaaGreatDoor