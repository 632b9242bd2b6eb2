/- Joined of PlayH, Law. -/
import Derived.Test.YtpppoajnbhipeaaQ38
import Derived.Test.YtpppoajnbhipeaaQ39
import Derived.Test.YtpppoajnbhipeaaRows
import Derived.Test.YtpppoajnbhipeaaQ00
import Derived.ProofKit

/- CorePlays, walked. -/
namespace Go.Proofs.Ytpppoajnbhipeaa
open Go Go.RowKit

theorem kin_same {c r : CoreD} (h : Kin c r) : Alike c r := by
  obtain ⟨h1, h2, h3, h4, h5, h6, h7, h8, h9⟩ := h.alike
  exact ⟨h1, h2, h3, h4, h5, h6, h7, h8, h9⟩

theorem play_new {w2 w3 w4 w5 : World} {n rn : Nat} {cf : ConfD} {id t v b bt : Int} {l : List Ent} {lv sv lv' sv' : Value}
    (hc : CoreAt w4 w3.heap.size n (newD cf id t v b bt l) lv sv)
    (hr : RefAt w5 w4.heap.size rn (newD cf id t v b bt l) (fun x => (x < w2.heap.size ∧ x < w4.heap.size) ∨ (w4.heap.size ≤ x ∧ x ≠ rn)) lv' sv')
    (k23 : Keeps [] w2 w3) (k34 : Keeps [] w3 w4) (k45 : Keeps [] w4 w5) (hl : b + l.length ≤ 1099511627776) : PlaySt w2 w5 n rn 0 := by
  have hB := hc.lower (B' := w2.heap.size) k23.size
  have hb := hB.banned k45 (fun x => w4.heap.size ≤ x ∧ x < w5.heap.size) (fun _ h => h) (fun b hb => (hB.lt b hb).2)
  have s := k34.size
  have s0 := k23.size
  have s5 := k45.size
  have hrb := hr.base
  have hr2 : RefAt w5 w2.heap.size rn (newD cf id t v b bt l) (fun x => (x < w2.heap.size ∧ x < w4.heap.size) ∨ (w4.heap.size ≤ x ∧ x ≠ rn)) lv' sv' := { blk := hr.blk, log := hr.log, snap := hr.snap, apart := hr.apart, base := by omega, ok := hr.ok }
  refine ⟨_, _, lv, sv, lv', sv', fun x => x < w5.heap.size ∧ ((x < w2.heap.size ∧ x < w4.heap.size) ∨ (w4.heap.size ≤ x ∧ x ≠ rn)), ⟨hb, hr2.mono (fun b h1 h2 => ⟨h1, h2⟩) (fun h => ?_), .inr ⟨hr.base, hr.blk.lt⟩, fun _ h => h.1, fun x hx => ⟨fun e => ?_, fun e => ?_⟩, fun x hx => ⟨by omega, .inl ⟨hx, by omega⟩⟩, (k23.trans k34 (fun _ _ h => h)).trans k45 (fun _ _ h => h)⟩, ⟨List.replicate 8 0, List.replicate 8 0, fun _ => False, rfl, Agr.refl _ _, Agr.refl _ _⟩, fun i hi => ?_, Int.le_refl _, Int.le_refl _, ?_⟩
  · omega
  · have := hc.lt n (by simp)
    omega
  · have := hc.lt x (List.mem_cons_of_mem _ e)
    omega
  · exfalso
    have hi' : (List.replicate 8 false).getD i false = true := hi
    rw [List.getD_eq_getElem?_getD, List.getElem?_replicate] at hi'
    split at hi' <;> simp at hi'
  · show b + (l.length : Int) ≤ _
    omega

theorem ints4_cell {w : World} {b : Nat} {l : List Int} {t : TypeId} (h : w.heap[b]? = some (.cells (ints l).toArray t (0, 0))) {i : Nat} (hi : i < l.length) : w.cell? ⟨b, i, none⟩ = some (.int .i64 (l.getD i 0)) := by
  refine (cell_of_block h i).trans ?_
  simp [ints, List.getD, hi]
theorem ints4_store {w : World} {b : Nat} {l : List Int} {t : TypeId} (h : w.heap[b]? = some (.cells (ints l).toArray t (0, 0))) (i : Nat) (v : Int) : (w.setCell ⟨b, i, none⟩ (.int .i64 v)).heap[b]? = some (.cells (ints (l.set i v)).toArray t (0, 0)) := by
  have := heap_setCell_same w b i _ _ (.int .i64 v) h
  rw [this, ← ints_set]
  simp
theorem PlaySt.k {w0 w w' : World} {n rn k : Nat} (h : PlaySt w0 w n rn k) (kk : Keeps [] w w') : PlaySt w0 w' n rn k := by
  obtain ⟨c, r, lv, sv, lv', sv', P, hd, h⟩ := h
  exact ⟨c, r, lv, sv, lv', sv', P, hd.beside kk, h⟩
theorem PlaySt.keeps {w0 w : World} {n rn k : Nat} (h : PlaySt w0 w n rn k) : Keeps [] w0 w := by
  obtain ⟨c, r, lv, sv, lv', sv', P, hd, h⟩ := h
  exact hd.keeps

set_option maxRecDepth 100000 in
set_option maxHeartbeats 12800000 in
theorem plays_walk (nodes id p : Int) (ts : List Int) (l : List Ent) (ops : List OpD) (a0 a1 a2 : Option Addr) (c0 c1 c2 : Nat) (P : Nat → Prop) (w : World) (wn : (Lit.int .i64 nodes).wf = true) (hp : 3 + placeOf nodes 3 = p)
    (ht : ListAt intL w P (.slice a0 ts.length c0) ts) (hl : ListAt entL w P (.slice a1 l.length c1) l) (ho : ListAt opL w P (.slice a2 ops.length c2) ops) (how : ∀ o ∈ ops, OpW o) :
    Calls Try.prog 11 #[.int .i64 nodes, .int .i64 id, .slice a0 ts.length c0, .slice a1 l.length c1, .slice a2 ops.length c2] w fun e w' => e = .returned (.bool true) ∧ Below w.heap.size w w' := by
  have hb1 := placeOf_bd nodes 3 (by omega)
  have p3 : 3 ≤ p := by omega
  have p5 : p ≤ 5 := by omega
  have HP := hid hp
  have HT : Hid (ListAt intL w (fun b => b < w.heap.size) (.slice a0 ts.length c0) ts) := ht.mono (fun b h _ => h)
  have HL : Hid (ListAt entL w (fun b => b < w.heap.size) (.slice a1 l.length c1) l) := hl.mono (fun b h _ => h)
  have HO : Hid (ListAt opL w (fun b => b < w.heap.size) (.slice a2 ops.length c2) ops) := ho.mono (fun b h _ => h)
  have HOW := hid how
  clear hp ht hl ho how hb1
  go_enter Try.func11, Try.ntmps11
  go_wp2_with fail
  refine (cfL_is p nodes _ wn HP.out).mono ?_
  rintro e w1 ⟨rfl, k1⟩
  have K1 := hid k1
  clear k1
  go_wp2_with fail
  rename_i Q1 K1' hK1
  have HM1 : ∀ (j : Nat) (wa : World) (s0 s1 s2 s3 : Int), Hid (Keeps [] w wa ∧ wa.heap[w1.heap.size]? = some (.cells #[.int .i64 p, .int .i64 2, .int .i64 2, .int .i64 8, .int .i64 40, .int .i64 3, .int .i64 9, .int .i64 200, .int .i64 9] 23 (0, 0)) ∧ wa.heap[w1.heap.size + 1]? = some (.cells #[.int .i64 s0, .int .i64 s1, .int .i64 s2, .int .i64 s3] 81 (0, 0))) → ∀ (u19 u20 u21 u22 u23 u24 u25 u26 u27 u28 u29 u30 u31 u32 u33 u34 u35 u36 : Value), K1' ⟨#[.int .i64 nodes, .int .i64 id, .slice a0 ts.length c0, .slice a1 l.length c1, .slice a2 ops.length c2, undef, undef, undef, undef, undef, .bool false, .pointer (some ⟨w1.heap.size, 0, none⟩), .pointer (some ⟨w1.heap.size + 1, 0, none⟩), .int .i64 (j : Int), undef, undef, undef, undef, undef, u19, u20, u21, u22, u23, u24, u25, u26, u27, u28, u29, u30, u31, u32, u33, u34, u35, u36, undef, undef, undef, undef, undef, undef, undef, undef, undef, undef, undef, undef, undef, undef, undef, undef, undef, undef, undef, undef, undef, undef, undef, undef, undef, undef, undef, undef, undef, undef, undef, undef, undef, undef, undef, undef, undef, undef, undef, undef, undef, undef, undef, undef, undef, undef, undef, undef, undef, undef, undef, undef, undef, undef, undef, undef, undef, undef, undef, undef, undef, undef, undef, undef, undef, undef, undef, undef, undef, undef, undef, undef, undef, undef, undef, undef, undef, undef, undef, undef, undef, undef, undef, undef, undef, undef, undef, undef, undef, undef, undef, undef, undef, undef, undef, undef, undef, undef, undef, undef, undef, undef, undef], []⟩ wa := by
    intro j wa s0 s1 s2 s3 HA u19 u20 u21 u22 u23 u24 u25 u26 u27 u28 u29 u30 u31 u32 u33 u34 u35 u36
    refine hK1 _ _ ?_
    clear hK1
    have ZF : Hid (∀ wx, Keeps [] wa wx → wx.cell? ⟨w1.heap.size, 0, none⟩ = some (.int .i64 p) ∧ wx.cell? ⟨w1.heap.size, 1, none⟩ = some (.int .i64 2) ∧ wx.cell? ⟨w1.heap.size, 2, none⟩ = some (.int .i64 2) ∧ wx.cell? ⟨w1.heap.size, 3, none⟩ = some (.int .i64 8) ∧ wx.cell? ⟨w1.heap.size, 4, none⟩ = some (.int .i64 40) ∧ wx.cell? ⟨w1.heap.size, 5, none⟩ = some (.int .i64 3) ∧ wx.cell? ⟨w1.heap.size, 6, none⟩ = some (.int .i64 9) ∧ wx.cell? ⟨w1.heap.size, 7, none⟩ = some (.int .i64 200) ∧ wx.cell? ⟨w1.heap.size, 8, none⟩ = some (.int .i64 9) ∧ wx.cell? ⟨w1.heap.size + 1, 0, none⟩ = some (.int .i64 s0) ∧ wx.cell? ⟨w1.heap.size + 1, 1, none⟩ = some (.int .i64 s1) ∧ wx.cell? ⟨w1.heap.size + 1, 2, none⟩ = some (.int .i64 s2) ∧ wx.cell? ⟨w1.heap.size + 1, 3, none⟩ = some (.int .i64 s3)) := fun wx k => by
      obtain ⟨⟨x0, x1, x2, x3, x4, x5, x6, x7, x8⟩, _⟩ := blk9 HA.out.2.1
      have y0 : wa.cell? ⟨w1.heap.size + 1, 0, none⟩ = some (.int .i64 s0) := cell_of_block HA.out.2.2 0
      have y1 : wa.cell? ⟨w1.heap.size + 1, 1, none⟩ = some (.int .i64 s1) := cell_of_block HA.out.2.2 1
      have y2 : wa.cell? ⟨w1.heap.size + 1, 2, none⟩ = some (.int .i64 s2) := cell_of_block HA.out.2.2 2
      have y3 : wa.cell? ⟨w1.heap.size + 1, 3, none⟩ = some (.int .i64 s3) := cell_of_block HA.out.2.2 3
      exact ⟨k.cellSome x0 (by simp), k.cellSome x1 (by simp), k.cellSome x2 (by simp), k.cellSome x3 (by simp), k.cellSome x4 (by simp), k.cellSome x5 (by simp), k.cellSome x6 (by simp), k.cellSome x7 (by simp), k.cellSome x8 (by simp), k.cellSome y0 (by simp), k.cellSome y1 (by simp), k.cellSome y2 (by simp), k.cellSome y3 (by simp)⟩
    rcases hs : smallD { msg0 with entries := l } with _ | _
    · have HS := hid hs
      clear hs
      go_wp2_with fail
      refine (small_is false _ { msg0 with entries := l } a1 none c1 0 _ (HL.out.k HA.out.1) HS.out).mono ?_
      rintro e w2 ⟨rfl, k2⟩
      have K2 : Hid (Keeps [] w w2) := HA.out.1.trans k2 (fun _ _ h => h)
      clear k2
      go_wp2_with fail
      refine (cAwake_any _).mono ?_
      rintro e w5 ⟨rfl, k5⟩
      have K5 : Hid (Keeps [] w w5) := K2.out.trans k5 (fun _ _ h => h)
      clear k5
      go_wp2_with fail
      go_ret
      exact ⟨rfl, K5.out.below (Nat.le_refl _) (fun _ h => by cases h)⟩
    have HS := hid hs
    have HD : Hid (∀ e ∈ l, e.data.length ≤ 1000000) := fun e he => by have := (smallD_yes hs).2.2 e he; omega
    have hln : l.length ≤ 12 := (smallD_yes hs).2.1
    clear hs
    go_wp2_with fail
    refine (small_is true _ { msg0 with entries := l } a1 none c1 0 _ (HL.out.k HA.out.1) HS.out).mono ?_
    rintro e w2 ⟨rfl, k2⟩
    have K2 : Hid (Keeps [] wa w2) := k2
    have KW2 : Hid (Keeps [] w w2) := HA.out.1.trans k2 (fun _ _ h => h)
    clear k2
    go_wp2_with fail
    rcases hmn : mayNewD (cfL p) id s0 s1 s2 s3 l with _ | _
    · have HMN := hid hmn
      clear hmn
      refine Plan.wp_region_plan (fun wx => wx.cell? ⟨w1.heap.size, 0, none⟩ = some (.int .i64 p) ∧ wx.cell? ⟨w1.heap.size, 1, none⟩ = some (.int .i64 2) ∧ wx.cell? ⟨w1.heap.size, 2, none⟩ = some (.int .i64 2) ∧ wx.cell? ⟨w1.heap.size, 3, none⟩ = some (.int .i64 8) ∧ wx.cell? ⟨w1.heap.size, 4, none⟩ = some (.int .i64 40) ∧ wx.cell? ⟨w1.heap.size, 5, none⟩ = some (.int .i64 3) ∧ wx.cell? ⟨w1.heap.size, 6, none⟩ = some (.int .i64 9) ∧ wx.cell? ⟨w1.heap.size, 7, none⟩ = some (.int .i64 200) ∧ wx.cell? ⟨w1.heap.size, 8, none⟩ = some (.int .i64 9) ∧ wx.cell? ⟨w1.heap.size + 1, 0, none⟩ = some (.int .i64 s0) ∧ wx.cell? ⟨w1.heap.size + 1, 1, none⟩ = some (.int .i64 s1) ∧ wx.cell? ⟨w1.heap.size + 1, 2, none⟩ = some (.int .i64 s2) ∧ wx.cell? ⟨w1.heap.size + 1, 3, none⟩ = some (.int .i64 s3)) 18 [(true, 0), (true, 1), (true, 2), (true, 3), (true, 4), (true, 5), (true, 6), (true, 7), (true, 8), (true, 9), (true, 10), (false, 11), (false, 12), (true, 13), (true, 14), (true, 15), (true, 16), (true, 17)] (by kernel_rfl) (by as_aux_lemma => kernel_rfl) (by kernel_rfl) (fun _ _ _ _ _ h => h) ?_ (fun hS => ?_)
      (· exact ZF.out _ (K2.out.drew))
      simp only [Plan.pick, List.append_eq, List.cons_append, List.nil_append, Plan.g1, Plan.g2, Option.getD_some, List.drop_succ_cons, List.drop_zero]
      iterate 11 (first | refine Plan.tA ?_ | refine Plan.tY ?_ | refine Plan.pN ?_ | refine Plan.pU ?_ | fail)
      refine Plan.step ?_
      go_wp2_with fail
      refine (lEntries_any _ l a1 c1 _ (HL.out.k (KW2.out.drew)) HD.out (by omega)).mono ?_
      rintro e w3 ⟨a3, q3, rfl, f3, k3⟩
      have K3 : Hid (Keeps [] w2 w3) := (Keeps.refl [] w2).drew.trans k3 (fun _ _ h => h)
      have L3 : Hid (ListAt entL w3 (fun _ => True) (.slice a3 l.length q3) l) := OwnAt.list f3 (fun _ _ _ => trivial) (fun _ _ => trivial)
      clear f3 k3
      go_wp2_with fail
      refine ⟨ZF.out _ (K2.out.trans K3.out (fun _ _ h => h)), ?_⟩
      refine Plan.step ?_
      go_wp2_with fail
      refine (cNew_any (cfL p) id s0 s1 s2 s3 l a3 q3 (fun _ => True) _ L3.out HD.out).mono ?_
      rintro e w4 h4
      rcases h4 with ⟨h4, _⟩ | ⟨_, rfl, k4⟩
      · rw [HMN.out] at h4; cases h4
      have K4 : Hid (Keeps [] w2 w4) := K3.out.trans k4 (fun _ _ h => h)
      clear k4
      go_wp2_with fail
      refine ⟨ZF.out _ (K2.out.trans K4.out (fun _ _ h => h)), ?_⟩
      iterate 5 (first | refine Plan.tA ?_ | refine Plan.tY ?_ | refine Plan.pN ?_ | refine Plan.pU ?_ | fail)
      refine Plan.fin ?_
      obtain ⟨z0, z1, z2, z3, z4, z5, z6, z7, z8, z9, z10, z11, z12⟩ := ZF.out _ (K2.out.trans K4.out (fun _ _ h => h))
      go_wp2_with fail
      refine (rNew_any (cfL p) id s0 s1 s2 s3 l a1 c1 _ _ (HL.out.k (KW2.out.trans K4.out (fun _ _ h => h))) HD.out).mono ?_
      rintro e w5 h5
      rcases h5 with ⟨h5, _⟩ | ⟨_, rfl, k5⟩
      · rw [HMN.out] at h5; cases h5
      have K5 : Hid (Keeps [] w w5) := (KW2.out.trans K4.out (fun _ _ h => h)).trans k5 (fun _ _ h => h)
      clear k5 z0 z1 z2 z3 z4 z5 z6 z7 z8 z9 z10 z11 z12
      go_wp2_with fail
      refine (cAwake_any _).mono ?_
      rintro e w6 ⟨rfl, k6⟩
      have K6 : Hid (Keeps [] w w6) := K5.out.trans k6 (fun _ _ h => h)
      clear k6
      go_wp2_with fail
      go_ret
      exact ⟨rfl, K6.out.below (Nat.le_refl _) (fun _ h => by cases h)⟩
    have HMN := hid hmn
    have hb40 : s2 + l.length ≤ 1099511627776 := by
      simp only [mayNewD, inD, Bool.and_eq_true, decide_eq_true_eq, List.all_eq_true] at hmn
      obtain ⟨⟨⟨⟨⟨⟨⟨h1, h2⟩, h3⟩, h4⟩, h5⟩, h6⟩, h7⟩, h8⟩ := hmn
      omega
    clear hmn
    refine Plan.wp_region_plan (fun wx => wx.cell? ⟨w1.heap.size, 0, none⟩ = some (.int .i64 p) ∧ wx.cell? ⟨w1.heap.size, 1, none⟩ = some (.int .i64 2) ∧ wx.cell? ⟨w1.heap.size, 2, none⟩ = some (.int .i64 2) ∧ wx.cell? ⟨w1.heap.size, 3, none⟩ = some (.int .i64 8) ∧ wx.cell? ⟨w1.heap.size, 4, none⟩ = some (.int .i64 40) ∧ wx.cell? ⟨w1.heap.size, 5, none⟩ = some (.int .i64 3) ∧ wx.cell? ⟨w1.heap.size, 6, none⟩ = some (.int .i64 9) ∧ wx.cell? ⟨w1.heap.size, 7, none⟩ = some (.int .i64 200) ∧ wx.cell? ⟨w1.heap.size, 8, none⟩ = some (.int .i64 9) ∧ wx.cell? ⟨w1.heap.size + 1, 0, none⟩ = some (.int .i64 s0) ∧ wx.cell? ⟨w1.heap.size + 1, 1, none⟩ = some (.int .i64 s1) ∧ wx.cell? ⟨w1.heap.size + 1, 2, none⟩ = some (.int .i64 s2) ∧ wx.cell? ⟨w1.heap.size + 1, 3, none⟩ = some (.int .i64 s3)) 18 [(true, 0), (true, 1), (true, 2), (true, 3), (true, 4), (true, 5), (true, 6), (true, 7), (true, 8), (true, 9), (true, 10), (false, 11), (false, 12), (true, 13), (true, 14), (true, 15), (true, 16), (true, 17)] (by kernel_rfl) (by as_aux_lemma => kernel_rfl) (by kernel_rfl) (fun _ _ _ _ _ h => h) ?_ (fun hS => ?_)
    (· exact ZF.out _ (K2.out.drew))
    simp only [Plan.pick, List.append_eq, List.cons_append, List.nil_append, Plan.g1, Plan.g2, Option.getD_some, List.drop_succ_cons, List.drop_zero]
    iterate 11 (first | refine Plan.tA ?_ | refine Plan.tY ?_ | refine Plan.pN ?_ | refine Plan.pU ?_ | fail)
    refine Plan.step ?_
    go_wp2_with fail
    refine (lEntries_any _ l a1 c1 _ (HL.out.k (KW2.out.drew)) HD.out (by omega)).mono ?_
    rintro e w3 ⟨a3, q3, rfl, f3, k3⟩
    have K3 : Hid (Keeps [] w2 w3) := (Keeps.refl [] w2).drew.trans k3 (fun _ _ h => h)
    have L3 : Hid (ListAt entL w3 (fun _ => True) (.slice a3 l.length q3) l) := OwnAt.list f3 (fun _ _ _ => trivial) (fun _ _ => trivial)
    clear f3 k3
    go_wp2_with fail
    refine ⟨ZF.out _ (K2.out.trans K3.out (fun _ _ h => h)), ?_⟩
    refine Plan.step ?_
    go_wp2_with fail
    refine (cNew_any (cfL p) id s0 s1 s2 s3 l a3 q3 (fun _ => True) _ L3.out HD.out).mono ?_
    rintro e w4 h4
    rcases h4 with ⟨_, n, lv, sv, rfl, hc4, k4⟩ | ⟨h4, _⟩
    rotate_left 1
    · rw [HMN.out] at h4; cases h4
    have KS4 := hid k4
    have C4 := hid hc4
    have K4 : Hid (Keeps [] w2 w4) := K3.out.trans k4 (fun _ _ h => h)
    clear k4 hc4
    go_wp2_with fail
    refine ⟨ZF.out _ (K2.out.trans K4.out (fun _ _ h => h)), ?_⟩
    iterate 5 (first | refine Plan.tA ?_ | refine Plan.tY ?_ | refine Plan.pN ?_ | refine Plan.pU ?_ | fail)
    refine Plan.fin ?_
    obtain ⟨z0, z1, z2, z3, z4, z5, z6, z7, z8, z9, z10, z11, z12⟩ := ZF.out _ (K2.out.trans K4.out (fun _ _ h => h))
    go_wp2_with fail
    refine (rNew_any (cfL p) id s0 s1 s2 s3 l a1 c1 (fun b => b < w2.heap.size) _ ((HL.out.k (KW2.out.trans K4.out (fun _ _ h => h))).mono (fun b _ hb => Nat.lt_of_lt_of_le hb KW2.out.size)) HD.out).mono ?_
    rintro e w5 h5
    rcases h5 with ⟨_, rn, lv', sv', rfl, hr5, k5⟩ | ⟨h5, _⟩
    rotate_left 1
    · rw [HMN.out] at h5; cases h5
    have ST : Hid (PlaySt w2 w5 n rn 0) := play_new C4.out hr5 K3.out KS4.out k5 hb40
    clear hr5 k5 z0 z1 z2 z3 z4 z5 z6 z7 z8 z9 z10 z11 z12 C4 KS4
    go_wp2_with fail
    go_loopw [18] (fun iv wi => ∃ k : Nat, iv = .int .i64 k ∧ k ≤ ops.length ∧ k ≤ 50 ∧ Hid (PlaySt w2 wi n rn k)) (fun iv _ => 50 - (intOf iv).toNat)
    case atStart => exact ⟨0, rfl, Nat.zero_le _, Nat.zero_le _, ST.out⟩
    case round =>
      obtain ⟨k, rfl, hk, hk50, HW⟩ := hrel
      have i0 : (0 : Int) ≤ (k : Int) := Int.natCast_nonneg _
      have KW : Hid (Keeps [] w wr) := KW2.out.trans HW.out.keeps (fun _ _ h => h)
      by_cases hlt : k < ops.length ∧ k < 50
      · obtain ⟨hlt, hlt2⟩ := hlt
        have i1 : (k : Int) < (ops.length : Int) := by omega
        have i2 : (k : Int) < 50 := by omega
        obtain ⟨o, he⟩ : ∃ o, ops[k]? = some o := ⟨ops[k], List.getElem?_eq_getElem hlt⟩
        obtain ⟨g, off, cg, ha, hcg, hcm, hgl, hgP⟩ := (HO.out.k KW.out).addr (fun hn => by rw [hn] at hlt; simp at hlt)
        simp at ha
        obtain ⟨ha, hcc⟩ := ha
        subst ha
        subst hcc
        obtain ⟨cs, ⟨ev, dv, bv, rfl, hev, hdv, hbv⟩, hcs⟩ := (HO.out.k KW.out).get he
        obtain ⟨ea, ec, rfl⟩ := hev.form
        obtain ⟨da, dc, rfl⟩ := hdv.form
        obtain ⟨ba, bc, rfl⟩ := hbv.form
        have y0 : wr.cell? ⟨g, off + k * 13, none⟩ = some (.int .i64 o.kind) := hcs 0 _ rfl
        have y1 : wr.cell? ⟨g, off + k * 13 + 1, none⟩ = some (.int .i64 o.num) := hcs 1 _ rfl
        have y2 : wr.cell? ⟨g, off + k * 13 + 2, none⟩ = some (.int .i64 o.m.kind) := hcs 2 _ rfl
        have y3 : wr.cell? ⟨g, off + k * 13 + 3, none⟩ = some (.int .i64 o.m.frm) := hcs 3 _ rfl
        have y4 : wr.cell? ⟨g, off + k * 13 + 4, none⟩ = some (.int .i64 o.m.to) := hcs 4 _ rfl
        have y5 : wr.cell? ⟨g, off + k * 13 + 5, none⟩ = some (.int .i64 o.m.term) := hcs 5 _ rfl
        have y6 : wr.cell? ⟨g, off + k * 13 + 6, none⟩ = some (.int .i64 o.m.a) := hcs 6 _ rfl
        have y7 : wr.cell? ⟨g, off + k * 13 + 7, none⟩ = some (.int .i64 o.m.b) := hcs 7 _ rfl
        have y8 : wr.cell? ⟨g, off + k * 13 + 8, none⟩ = some (.int .i64 o.m.c) := hcs 8 _ rfl
        have y9 : wr.cell? ⟨g, off + k * 13 + 9, none⟩ = some (.bool o.m.ok) := hcs 9 _ rfl
        have y10 : wr.cell? ⟨g, off + k * 13 + 10, none⟩ = some (.slice ea o.m.entries.length ec) := hcs 10 _ rfl
        have y11 : wr.cell? ⟨g, off + k * 13 + 11, none⟩ = some (.slice da o.m.data.length dc) := hcs 11 _ rfl
        have y12 : wr.cell? ⟨g, off + k * 13 + 12, none⟩ = some (.slice ba o.data.length bc) := hcs 12 _ rfl
        have SF : Hid (∀ wx, Keeps [] wr wx → wx.cell? ⟨g, off + k * 13, none⟩ = some (.int .i64 o.kind) ∧ wx.cell? ⟨g, off + k * 13 + 1, none⟩ = some (.int .i64 o.num) ∧ wx.cell? ⟨g, off + k * 13 + 2, none⟩ = some (.int .i64 o.m.kind) ∧ wx.cell? ⟨g, off + k * 13 + 3, none⟩ = some (.int .i64 o.m.frm) ∧ wx.cell? ⟨g, off + k * 13 + 4, none⟩ = some (.int .i64 o.m.to) ∧ wx.cell? ⟨g, off + k * 13 + 5, none⟩ = some (.int .i64 o.m.term) ∧ wx.cell? ⟨g, off + k * 13 + 6, none⟩ = some (.int .i64 o.m.a) ∧ wx.cell? ⟨g, off + k * 13 + 7, none⟩ = some (.int .i64 o.m.b) ∧ wx.cell? ⟨g, off + k * 13 + 8, none⟩ = some (.int .i64 o.m.c) ∧ wx.cell? ⟨g, off + k * 13 + 9, none⟩ = some (.bool o.m.ok) ∧ wx.cell? ⟨g, off + k * 13 + 10, none⟩ = some (.slice ea o.m.entries.length ec) ∧ wx.cell? ⟨g, off + k * 13 + 11, none⟩ = some (.slice da o.m.data.length dc) ∧ wx.cell? ⟨g, off + k * 13 + 12, none⟩ = some (.slice ba o.data.length bc)) := fun wx kx => ⟨kx.cellSome y0 (by simp), kx.cellSome y1 (by simp), kx.cellSome y2 (by simp), kx.cellSome y3 (by simp), kx.cellSome y4 (by simp), kx.cellSome y5 (by simp), kx.cellSome y6 (by simp), kx.cellSome y7 (by simp), kx.cellSome y8 (by simp), kx.cellSome y9 (by simp), kx.cellSome y10 (by simp), kx.cellSome y11 (by simp), kx.cellSome y12 (by simp)⟩
        have WO : Hid (OpW o) := HOW.out o (List.mem_of_getElem? he)
        have EV : Hid (ListAt entL wr (fun b => b < w2.heap.size) (.slice ea o.m.entries.length ec) o.m.entries) := hev.mono (fun b _ hb => Nat.lt_of_lt_of_le hb KW2.out.size)
        have DV : Hid (BytesAt wr (fun b => b < w2.heap.size) (.slice da o.m.data.length dc) o.m.data) := hdv.mono (fun b _ hb => Nat.lt_of_lt_of_le hb KW2.out.size)
        have BV : Hid (BytesAt wr (fun b => b < w2.heap.size) (.slice ba o.data.length bc) o.data) := hbv.mono (fun b _ hb => Nat.lt_of_lt_of_le hb KW2.out.size)
        clear hcs he hcm hcg hev hdv hbv hgl hgP
        rcases hsm : smallD o.m with _ | _
        · have HSM := hid hsm
          clear hsm
          go_wp2_with fail
          refine (small_is false _ o.m ea da ec dc _ EV.out HSM.out).mono ?_
          rintro x w6 ⟨rfl, k6⟩
          have K6 : Hid (Keeps [] w w6) := KW.out.trans k6 (fun _ _ h => h)
          clear k6
          go_wp2_with fail
          refine (cAwake_any _).mono ?_
          rintro x w7 ⟨rfl, k7⟩
          have K7 : Hid (Keeps [] w w7) := K6.out.trans k7 (fun _ _ h => h)
          clear k7
          go_wp2_with fail
          go_ret
          exact ⟨rfl, K7.out.below (Nat.le_refl _) (fun _ h => by cases h)⟩
        have HSM := hid hsm
        clear hsm
        by_cases hod : 300 < o.data.length
        · have hod2 : (300 : Int) < (o.data.length : Int) := by omega
          clear hod
          go_wp2_with fail
          refine (small_is true _ o.m ea da ec dc _ EV.out HSM.out).mono ?_
          rintro x w6 ⟨rfl, k6⟩
          have K6 : Hid (Keeps [] w w6) := KW.out.trans k6 (fun _ _ h => h)
          obtain ⟨z0, z1, z2, z3, z4, z5, z6, z7, z8, z9, z10, z11, z12⟩ := SF.out _ k6
          clear k6 y0 y1 y2 y3 y4 y5 y6 y7 y8 y9 y10 y11 y12
          go_wp2_with fail
          refine (cAwake_any _).mono ?_
          rintro x w7 ⟨rfl, k7⟩
          have K7 : Hid (Keeps [] w w7) := K6.out.trans k7 (fun _ _ h => h)
          clear k7
          go_wp2_with fail
          go_ret
          exact ⟨rfl, K7.out.below (Nat.le_refl _) (fun _ h => by cases h)⟩
        have hod2 : (o.data.length : Int) ≤ 300 := by omega
        have HOD : Hid (o.data.length ≤ 300) := by show _ ≤ _; omega
        clear hod
        go_wp2_with fail
        refine (small_is true _ o.m ea da ec dc _ EV.out HSM.out).mono ?_
        rintro x w6 ⟨rfl, k6⟩
        have K6 : Hid (Keeps [] wr w6) := k6
        obtain ⟨z0, z1, z2, z3, z4, z5, z6, z7, z8, z9, z10, z11, z12⟩ := SF.out _ k6
        have ST6 := hid (HW.out.k k6)
        clear k6 y0 y1 y2 y3 y4 y5 y6 y7 y8 y9 y10 y11 y12
        go_wp2_with fail
        refine (do_any w2 w6 n rn k o ea da ba ec dc bc ST6.out (by omega) WO.out (EV.out.k K6.out) (DV.out.k K6.out) (BV.out.k K6.out) HSM.out HOD.out).mono ?_
        rintro x w7 ⟨rfl, st7⟩
        have ST7 := hid st7
        obtain ⟨c, r, lv5, sv5, lv6, sv6, P5, hd, hkin, _⟩ := st7
        have D7 := hid hd
        have HA2 := hid (kin_same hkin)
        clear hd hkin z0 z1 z2 z3 z4 z5 z6 z7 z8 z9 z10 z11 z12
        go_wp2_with fail
        refine (same_any _ w2.heap.size n rn c r lv5 sv5 lv6 sv6 P5 D7.out.core D7.out.ref HA2.out).mono ?_
        rintro e w8 ⟨rfl, k8⟩
        have ST8 := hid (ST7.out.k k8)
        clear k8
        go_wp2_with fail
        go_roundw
        case rel => exact ⟨k + 1, by go_num, by omega, by omega, ST8.out⟩
        case measure => simp [intOf]; omega
      · have hcs : (ops.length : Int) ≤ (k : Int) ∨ ((k : Int) < (ops.length : Int) ∧ (50 : Int) ≤ (k : Int)) := by omega
        obtain ⟨c, r, lv5, sv5, lv6, sv6, P5, hd, hkin, _⟩ := HW.out
        have D := hid hd
        have HA2 := hid (kin_same hkin)
        have HK2 := hid (kin_changes hkin)
        have HKS := hid hd.keeps
        clear hd hkin hlt
        rcases hcs with i1 | ⟨i1, i2⟩
        all_goals
          go_wp2_with fail
          refine (same_any _ w2.heap.size n rn c r lv5 sv5 lv6 sv6 P5 D.out.core D.out.ref HA2.out).mono ?_
          rintro e w6 ⟨rfl, k6⟩
          have D6 := hid (D.out.beside k6)
          clear k6
          go_wp2_with fail
          refine (changes_any w6 w2.heap.size n c lv5 sv5 D6.out.core).mono ?_
          rintro e w7 ⟨rfl, hc7, hk7⟩
          have D7 : Hid (Duo2 w2 w7 n rn (changesD c).1 r lv5 sv5 lv6 sv6 P5) := D6.out.callC hc7 rfl (hk7.mono (fun b _ hb => by simp at hb; simp [hb])) (fun b hb => .inl hb)
          clear hc7 hk7
          go_wp2_with fail
          refine (rchanges_any w7 w2.heap.size rn r P5 lv6 sv6 D7.out.ref).mono ?_
          unfold RChangesPost
          rw [HK2.out.2]
          rintro e w8 ⟨rfl, hr8, hk8⟩
          have D8 := hid (D7.out.callR (hr8.toGr D7.out.ref.blk.lt) hk8)
          have K8 : Hid (Keeps [] w w8) := KW2.out.trans D8.out.keeps (fun _ _ h => h)
          clear hr8 hk8
          go_wp2_with fail
          refine (cAwake_any _).mono ?_
          rintro e w9 ⟨rfl, k9⟩
          have K9 : Hid (Keeps [] w w9) := K8.out.trans k9 (fun _ _ h => h)
          clear k9
          go_wp2_with fail
          go_ret
          exact ⟨rfl, K9.out.below (Nat.le_refl _) (fun _ h => by cases h)⟩
  go_loopw [13] (fun i wr => ∃ (j : Nat) (ss : List Int), j ≤ ts.length ∧ j ≤ 4 ∧ ss.length = 4 ∧ i = .int .i64 j ∧ Hid (Keeps [] w wr ∧ wr.heap[w1.heap.size]? = some (.cells #[.int .i64 p, .int .i64 2, .int .i64 2, .int .i64 8, .int .i64 40, .int .i64 3, .int .i64 9, .int .i64 200, .int .i64 9] 23 (0, 0)) ∧ wr.heap[w1.heap.size + 1]? = some (.cells (ints ss).toArray 81 (0, 0)))) (fun i _ => 4 - (intOf i).toNat)
  case atStart =>
    refine ⟨0, [0, 0, 0, 0], Nat.zero_le _, Nat.zero_le _, rfl, rfl, Keeps.alloc (Keeps.alloc K1.out _) _, ?_, ?_⟩
    · exact (((Keeps.refl [] (w1.alloc _)).alloc _).block w1.heap.size (by simp) (by simp)).trans (heap_alloc_new w1 _)
    · have h := heap_alloc_new (w1.alloc (.cells #[.int .i64 p, .int .i64 2, .int .i64 2, .int .i64 8, .int .i64 40, .int .i64 3, .int .i64 9, .int .i64 200, .int .i64 9] 23)) (.cells #[.int .i64 0, .int .i64 0, .int .i64 0, .int .i64 0] 81)
      rw [show (w1.alloc (.cells #[.int .i64 p, .int .i64 2, .int .i64 2, .int .i64 8, .int .i64 40, .int .i64 3, .int .i64 9, .int .i64 200, .int .i64 9] 23)).heap.size = w1.heap.size + 1 by simp] at h
      exact h
  case round =>
    obtain ⟨j, ss, hj, hj4, hss, rfl, HW⟩ := hrel
    have i0 : (0 : Int) ≤ (j : Int) := Int.natCast_nonneg _
    by_cases hlt : j < ts.length ∧ j < 4
    · obtain ⟨hlt, hlt4⟩ := hlt
      have i1 : (j : Int) < (ts.length : Int) := by omega
      have i2 : (j : Int) < 4 := by omega
      obtain ⟨t, he⟩ : ∃ t, ts[j]? = some t := ⟨ts[j], List.getElem?_eq_getElem hlt⟩
      obtain ⟨g, off, cg, ha, hcg, hcm, hgl, hgP⟩ := (HT.out.k HW.out.1).addr (fun hn => by rw [hn] at hlt; simp at hlt)
      simp at ha
      obtain ⟨ha, hcc⟩ := ha
      subst ha
      subst hcc
      obtain ⟨cs, rfl, hcs⟩ := (HT.out.k HW.out.1).get he
      have y0 : wr.cell? ⟨g, off + j, none⟩ = some (.int .i64 t) := by
        have h : wr.cell? ⟨g, off + j * 1, none⟩ = some (.int .i64 t) := hcs 0 _ rfl
        rwa [Nat.mul_one] at h
      have x0 := ints4_cell HW.out.2.2 (i := j) (by omega)
      have f0 : wr.frozen? ⟨w1.heap.size + 1, j, none⟩ = false := frozen_of_row wr (w1.heap.size + 1) j _ _ HW.out.2.2
      have HX : Hid (Keeps [] w (wr.setCell ⟨w1.heap.size + 1, j, none⟩ (.int .i64 t)) ∧ (wr.setCell ⟨w1.heap.size + 1, j, none⟩ (.int .i64 t)).heap[w1.heap.size]? = some (.cells #[.int .i64 p, .int .i64 2, .int .i64 2, .int .i64 8, .int .i64 40, .int .i64 3, .int .i64 9, .int .i64 200, .int .i64 9] 23 (0, 0)) ∧ (wr.setCell ⟨w1.heap.size + 1, j, none⟩ (.int .i64 t)).heap[w1.heap.size + 1]? = some (.cells (ints (ss.set j t)).toArray 81 (0, 0))) :=
        ⟨HW.out.1.setCell (.inr (by have := K1.out.size; show w.heap.size ≤ w1.heap.size + 1; omega)) _, (heap_setCell_other wr ⟨w1.heap.size + 1, j, none⟩ w1.heap.size _ (by simp)).trans HW.out.2.1, ints4_store HW.out.2.2 j t⟩
      clear hcs he hcm hcg hgl hgP
      go_wp2_with fail
      go_roundw
      case rel => exact ⟨j + 1, ss.set j t, by omega, by omega, by rw [List.length_set]; exact hss, by go_num, HX.out⟩
      case measure => simp [intOf]; omega
    · have hcs : (ts.length : Int) ≤ (j : Int) ∨ ((j : Int) < (ts.length : Int) ∧ (4 : Int) ≤ (j : Int)) := by omega
      obtain ⟨s0, s1, s2, s3, hsv⟩ : ∃ s0 s1 s2 s3, ss = [s0, s1, s2, s3] := by
        match ss, hss with
        | [s0, s1, s2, s3], _ => exact ⟨s0, s1, s2, s3, rfl⟩
      subst hsv
      clear hlt
      rcases hcs with i1 | ⟨i1, i2⟩
      all_goals
        go_wp2_with fail
        exact HM1 j wr s0 s1 s2 s3 HW _ _ _ _ _ _ _ _ _ _ _ _ _ _ _ _ _ _

end Go.Proofs.Ytpppoajnbhipeaa

/- THE FRAME OF A LAW: a call that answers true and leaves all that was there as it was makes the row. No function is named here. -/
namespace Go.Proofs.Ytpppoajnbhipeaa
open Go Go.RowKit Go.WideShapes Go.ChangeShapes Go.ChangeAt

theorem Try.own : ownKnob Try.prog.godebug = none := by kernel_rfl
theorem Try.laidOut : laidOutB Try.prog = true := by kernel_rfl

section
variable {H : Type} {enc : TypeId × Value → H} {P : Program}

/-- The arguments read as they did: below the heap's old size nothing has turned. -/
theorem below_trodAll (hl : laidOutB P = true) {W W' : World} (hb : Below W.heap.size W W') (sp : Nat → Bool) : ∀ (ts : List TypeId) (vs : List Value) (ds : List (DataW H)) (ps : List MemPlace),
    (ts.all fun t => P.readableRec t && decide (t < P.types.size)) = true → DataW.TrodAll enc P W 0 (fun _ => true) true ts vs ds ps → (∀ p ∈ ps, p.block < W.heap.size) → (∀ p ∈ ps, sp p.block = true) → DataW.TrodAll enc P W' 0 sp true ts vs ds ps
  | [], [], [], _, _, h, _, _ => h
  | t :: ts, v :: vs, d :: ds, ps, hr, h, hlt, hsp => by
    obtain ⟨p, q, h1, h2, rfl⟩ := h
    simp only [List.all_cons, Bool.and_eq_true, decide_eq_true_eq] at hr
    exact ⟨p, q, WideElems.Trod_stays hl hr.1.1 hr.1.2 h1 (fun x hx => hb.same (hlt x (List.mem_append_left _ hx))) (fun x hx => hsp x (List.mem_append_left _ hx)),
      below_trodAll hl hb sp ts vs ds q hr.2 h2 (fun x hx => hlt x (List.mem_append_right _ hx)) (fun x hx => hsp x (List.mem_append_right _ hx)), rfl⟩
  | [], [], _ :: _, _, _, h, _, _ => h.elim
  | [], _ :: _, _, _, _, h, _, _ => h.elim
  | _ :: _, [], _, _, _, h, _, _ => h.elim
  | _ :: _, _ :: _, [], _, _, h, _, _ => h.elim

theorem trodAll_length {W : World} {sp : Nat → Bool} {b : Nat} {hd : Bool} : ∀ (ts : List TypeId) (vs : List Value) (ds : List (DataW H)) (ps : List MemPlace), DataW.TrodAll enc P W b sp hd ts vs ds ps → ds.length = ts.length
  | [], [], [], _, _ => rfl
  | t :: ts, v :: vs, d :: ds, ps, h => by
    obtain ⟨p, q, _, h2, _⟩ := h
    simp [trodAll_length ts vs ds q h2]
  | [], [], _ :: _, _, h => h.elim
  | [], _ :: _, _, _, h => h.elim
  | _ :: _, [], _, _, h => h.elim
  | _ :: _, _ :: _, [], _, h => h.elim

/-- The post of a law. -/
theorem law_post {f : Func} {s : ChangeSpec} {tb : TypeId} {fresh handsOn : Bool} {W W' : World} {args : Array Value} {ds gs : List (DataW H)} {before : List MemPlace} (hl : laidOutB P = true) (htb : P.underlying tb = some .bool) (hres : f.resultTypes = #[tb])
    (hvars : s.vars = []) (hall : (f.params.toList.all fun t => P.readableRec t && decide (t < P.types.size)) = true) (hspec : ∀ ds : List (DataW H), ds.length = f.params.size → s.fn H ds = { results := [.lit (.bool true)], args := ds })
    (hW : DataW.Whole enc P f.params.toList s.vars false W args.toList ds gs before) (hb : Below W.heap.size W W') : s.post enc P f false fresh handsOn false W args (.bool true) W' := by
  have hlt : ∀ p ∈ before, p.block < W.heap.size := fun p hp => hW.lt p hp
  have hold : ∀ p ∈ before, (fun b => decide (b < W.heap.size)) p.block = true := fun p hp => by simpa using hlt p hp
  have hW' := hW
  obtain ⟨p, q, hA, hV, rfl, hz, hn⟩ := hW
  rw [hvars] at hV
  obtain ⟨rfl, rfl⟩ := trodVars_none hV
  have hln : ds.length = f.params.size := by rw [trodAll_length _ _ _ _ hA]; simp
  have hsp : s.fn H (ds ++ []) = { results := [.lit (.bool true)], args := ds } := by rw [List.append_nil]; exact hspec ds hln
  rw [List.append_nil] at hlt hold hW'
  refine ⟨ds, [], p, [], p, [], hW', ?_, ?_, ?_, World.keptBut_mono (fun x hx => ⟨hx, by simpa using hx⟩) (hb.frame (· ∈ p)), fun h => by cases h⟩
  · rw [hsp, hres]
    exact trodAll_mk1 (shut_bool htb true)
  · rw [hsp]
    exact below_trodAll hl hb _ _ _ _ _ hall hA hlt hold
  · rw [hvars]
    have e : (s.fn H (ds ++ [])).vars = [] := by rw [hsp]
    rw [e]
    rfl
end

set_option maxRecDepth 100000 in
/-- From the contract to the row's premise. -/
theorem law_lifted {k : FuncId} {fn : Func} {s : ChangeSpec} {fresh handsOn : Bool} (os : Os) (started : os.Started) (H : Type) (enc : TypeId × Value → H)
    (noInit : Try.checked.prog.inits.idxOf? k = none) (hfn : Try.checked.prog.funcs[k]? = some fn) (hres : fn.resultTypes = #[4]) (hvars : s.vars = []) (hall : (fn.params.toList.all fun t => Try.prog.readableRec t && decide (t < Try.prog.types.size)) = true)
    (hspec : ∀ ds : List (DataW H), ds.length = fn.params.size → s.fn H ds = { results := [.lit (.bool true)], args := ds })
    (witness : ∃ (w : World) (tape : Tape) (i : Input), w.os = os ∧ (w.forCall tape i).Shaped Try.checked.prog ∧ i.vars = [] ∧ Input.okWide Try.checked.prog (w.forCall tape i) .any w.heap.size k i ∧
      s.pre6 enc Try.checked.prog fn [] false (w.forCall tape i).memory i.args ∧ ({} : Assume).holds Try.checked.prog (lone (Frame.enter Try.checked.prog k i.args .normal) [] (w.forCall tape i)))
    (contract : ∀ (W : World) (base : Nat) (args : Array Value) (ds : List (DataW H)) (p : List MemPlace), (∀ (j : Nat) t v, fn.params[j]? = some t → args[j]? = some v → Value.okWide Try.prog W .any base t v) →
      DataW.TrodAll enc Try.prog W 0 (fun _ => true) true fn.params.toList args.toList ds p → (∀ x ∈ p, x.block < W.heap.size) → Calls Try.prog k args W fun e W' => e = .returned (.bool true) ∧ Below W.heap.size W W') :
    ReturnsInHanded {} Try.checked os k .any (s.pre6 enc Try.prog fn [] false) (s.post enc Try.prog fn false fresh handsOn false) := by
  refine returnsInHanded_of_change (C := Try.checked) Try.own started noInit hfn witness ?_
  intro W base args ds gs before hval0 hW _ _
  have hlt : ∀ x ∈ before, x.block < W.heap.size := fun x hx => hW.lt x hx
  have hW' := hW
  obtain ⟨p, q, hA, hV, rfl, hz, hn⟩ := hW
  refine (contract W base args ds p hval0 hA (fun x hx => hlt x (List.mem_append_left _ hx))).mono fun e W' ⟨he, hb⟩ => ?_
  subst he
  exact ⟨_, rfl, law_post Try.laidOut Try.underlying4 hres hvars hall hspec hW' hb⟩

end Go.Proofs.Ytpppoajnbhipeaa
