/- Joined of GrC, GrD. -/
import Derived.Test.YtgjiahilbmeaeaaGreatDoorGrB
set_option maxRecDepth 100000
set_option maxHeartbeats 8000000
set_option linter.unusedSimpArgs false
set_option linter.unusedVariables false
/- What must come ahead: the order, walked. -/
namespace Go.Proofs.YtgjiahilbmeaeaaGreatDoor
open Go Go.RowKit
theorem Tryz.infoBo1 : (Tryz.prog.info? 4).map (fun i => (i.zero, i.size, i.bytes)) = some (some (.bool false), 1, 1) := by kernel_rfl
theorem Tryz.infoIs24 : (Tryz.prog.info? 66).map (fun i => (i.zero, i.size, i.bytes)) = some (some (.slice none 0 0), 1, 24) := by kernel_rfl
theorem new3H (w : World) (o1 o2 o3 : Obj) : (((w.alloc o1).alloc o2).alloc o3).heap[w.heap.size]? = some o1 ∧ (((w.alloc o1).alloc o2).alloc o3).heap[w.heap.size + 1]? = some o2 ∧ (((w.alloc o1).alloc o2).alloc o3).heap[w.heap.size + 1 + 1]? = some o3 := by
 have h1 := heap_alloc_new w o1
 have h2 := heap_alloc_new (w.alloc o1) o2
 have h3 := heap_alloc_new ((w.alloc o1).alloc o2) o3
 simp only [World.size_alloc] at h2 h3
 exact ⟨alloc_old (alloc_old h1), alloc_old h2, h3⟩
theorem wrapEq64 (x : Int) : IntKind.i64.wrap x = wrap64 x := by simp only [IntKind.wrap_i64, wrap64]
theorem buildP_succ (n : Nat) (needs : List (List Nat)) (i : Nat) : buildP n needs (i + 1) = (listP n needs i).foldl (linkP i) (buildP n needs i) := by
 unfold buildP
 rw [List.range_succ, List.foldl_append]
 rfl
theorem linkP_lt {i m : Nat} (hi : i < m) : ∀ (ks : List Nat) (st : List Int × List (List Nat)), (∀ l ∈ st.2, ∀ y ∈ l, y < m) → ∀ l ∈ (ks.foldl (linkP i) st).2, ∀ y ∈ l, y < m
 | [], st, h => h
 | k :: r, st, h => by
   refine linkP_lt hi r (linkP i st k) fun l hl y hy => ?_
   unfold linkP at hl
   rcases List.mem_or_eq_of_mem_set hl with h1 | h1
   ·exact h l h1 y hy
   ·subst h1
    rw [List.mem_append] at hy
    rcases hy with hy | hy
    ·rw [List.getD_eq_getElem?_getD] at hy
     cases he : st.2[k]? with
     | none => rw [he] at hy; simp at hy
     | some l2 => rw [he] at hy; exact h l2 (List.mem_of_getElem? he) y hy
    ·simp at hy
     omega
theorem buildP_lt (n : Nat) (needs : List (List Nat)) : ∀ (m : Nat), ∀ l ∈ (buildP n needs m).2, ∀ y ∈ l, y < m
 | 0, l, hl, y, hy => by simp [buildP] at hl; rw [hl.2] at hy; cases hy
 | m + 1, l, hl, y, hy => by
   rw [buildP_succ] at hl
   exact linkP_lt (Nat.lt_succ_self m) _ _ (fun l hl y hy => Nat.lt_succ_of_lt (buildP_lt n needs m l hl y hy)) l hl y hy
def OrderEnd (w : World) (n : Nat) (needs : List (List Nat)) (e : Ending) (w' : World) : Prop :=
 ∃ a c tv, e = .returned (.tuple #[.slice a (orderQ n needs).1.length c, tv]) ∧ w'.ownsRow w.heap.size 3 1 (.slice a (orderQ n needs).1.length c) (orderQ n needs).1.length (natC (orderQ n needs).1) ∧ Keeps [] w w'
theorem OrderEnd.of {w wx : World} {n m cl : Nat} {needs : List (List Nat)} {al : Option Addr} {ll : List Nat} {told : List Bool} {tv : Value} {H : Nat} (h : (ll, told) = orderQ n needs) (hm : ll.length = m) (ho : wx.ownsRow H 3 1 (.slice al m cl) m (natC ll)) (hH : w.heap.size ≤ H) (k : Keeps [] w wx) : OrderEnd w n needs (.returned (.tuple #[.slice al m cl, tv])) wx := by
 have e : (orderQ n needs).1 = ll := by rw [← h]
 subst hm
 unfold OrderEnd
 rw [e]
 exact ⟨al, cl, tv, rfl, ownsRow_base ho hH, k⟩
theorem pickP_some {n : Nat} {told : List Bool} {ws : List Int} {i : Nat} (hi : i < n) (h : (told.getD i false || decide (0 < ws.getD i 0)) = false) (hb : ∀ j, j < i → (told.getD j false || decide (0 < ws.getD j 0)) = true) : pickP n told ws = some i := by
 unfold pickP
 rw [List.find?_range_eq_some]
 refine ⟨by simp only [h]; rfl, by simpa using hi, fun j hj => ?_⟩
 simp only [hb j hj]
 rfl
theorem pickP_none {n : Nat} {told : List Bool} {ws : List Int} (hb : ∀ j, j < n → (told.getD j false || decide (0 < ws.getD j 0)) = true) : pickP n told ws = none := by
 unfold pickP
 rw [List.find?_eq_none]
 intro j hj
 rw [hb j (by simpa using hj)]
 decide
theorem grOrderR_ok (n : Nat) (needs : List (List Nat)) (P : Nat → Prop) (a : Option Addr) (c : Nat) (w : World) (h1 : 1 ≤ n) (h2 : n ≤ 100) (hm : needs.length = n) (hl : ListAt natsL w P (.slice a n c) needs) (hs : ∀ l ∈ needs, l.length ≤ 1000) :
 Calls Tryz.prog 84 #[.int .i64 n, .slice a n c] w (OrderEnd w n needs) := by
 have HL := hid (fun wx i (hi : i < n) (k : Keeps [] w wx) => grList_ok n i n needs P a c wx (by omega) hi hm (hl.k k) hs)
 have HM := hid (And.intro hm hs)
 have n0 : (0 : Int) ≤ (n : Int) := Int.natCast_nonneg _
 have n1 : (n : Int) ≤ 100 := by omega
 clear hm hl hs
 go_enter Tryz.func84, Tryz.ntmps84
 have hk1 : ∀ wx : World, (Instr.makeSlice 66 (.int .i64 (n : Int)) (.int .i64 (n : Int))).run Tryz.prog wx = .ok (.slice (some ⟨wx.heap.size, 0, none⟩) n n) (wx.alloc (.cells (madeCells #[.int .i64 0] n) 3)) := fun wx => run_make_row' (P := Tryz.prog) 66 3 (.int .i64 0) 8 Tryz.underlying66 Tryz.infoIn8 rfl .i64 .i64 n (by omega) (by omega) wx
 have hk2 : ∀ wx : World, (Instr.makeSlice 82 (.int .i64 (n : Int)) (.int .i64 (n : Int))).run Tryz.prog wx = .ok (.slice (some ⟨wx.heap.size, 0, none⟩) n n) (wx.alloc (.cells (madeCells #[.slice none 0 0] n) 66)) := fun wx => run_make_row' (P := Tryz.prog) 82 66 (.slice none 0 0) 24 Tryz.underlying82 Tryz.infoIs24 rfl .i64 .i64 n (by omega) (by omega) wx
 have hk3 : ∀ wx : World, (Instr.makeSlice 160 (.int .i64 (n : Int)) (.int .i64 (n : Int))).run Tryz.prog wx = .ok (.slice (some ⟨wx.heap.size, 0, none⟩) n n) (wx.alloc (.cells (madeCells #[.bool false] n) 4)) := fun wx => run_make_row' (P := Tryz.prog) 160 4 (.bool false) 1 Tryz.underlying160 Tryz.infoBo1 rfl .i64 .i64 n (by omega) (by omega) wx
 have e1 : madeCells #[.int .i64 0] n = (i64s (List.replicate n 0)).toArray := by
  refine Array.ext' ?_
  rw [toList_madeCells_one]
  simp [i64s]
 have e2 : madeCells #[.slice none 0 0] n = (List.replicate n (Value.slice none 0 0)).toArray := by
  refine Array.ext' ?_
  rw [toList_madeCells_one]
 have e3 : madeCells #[.bool false] n = ((List.replicate n false).map Value.bool).toArray := by
  refine Array.ext' ?_
  rw [toList_madeCells_one]
  simp
 rw [e1] at hk1
 rw [e2] at hk2
 rw [e3] at hk3
 clear e1 e2 e3
 go_wp2_with fail
 go_step3
 go_wp2_with fail
 have hn := new3H w (.cells (i64s (List.replicate n 0)).toArray 3) (.cells (List.replicate n (Value.slice none 0 0)).toArray 66) (.cells ((List.replicate n false).map Value.bool).toArray 4)
 have k0 : Keeps [] w (((w.alloc (.cells (i64s (List.replicate n 0)).toArray 3)).alloc (.cells (List.replicate n (Value.slice none 0 0)).toArray 66)).alloc (.cells ((List.replicate n false).map Value.bool).toArray 4)) := by exact Keeps.K
 have hs0 : (((w.alloc (.cells (i64s (List.replicate n 0)).toArray 3)).alloc (.cells (List.replicate n (Value.slice none 0 0)).toArray 66)).alloc (.cells ((List.replicate n false).map Value.bool).toArray 4)).heap.size = w.heap.size + 1 + 1 + 1 := by simp
 obtain ⟨w0, hw0⟩ : ∃ x, x = (((w.alloc (.cells (i64s (List.replicate n 0)).toArray 3)).alloc (.cells (List.replicate n (Value.slice none 0 0)).toArray 66)).alloc (.cells ((List.replicate n false).map Value.bool).toArray 4)) := ⟨_, rfl⟩
 rw [← hw0] at hn k0 hs0
 rw [show (((w.alloc (.cells (i64s (List.replicate n 0)).toArray 3)).alloc (.cells (Array.replicate n (Value.slice none 0 0)) 66)).alloc (.cells (Array.replicate n (Value.bool false)) 4)) = w0 by rw [hw0]; simp]
 have HG0 : Hid (GrAt w0 (fun _ => False) (w.heap.size + 1 + 1 + 1) w.heap.size (w.heap.size + 1) (w.heap.size + 1 + 1) (List.replicate n 0) (List.replicate n []) (List.replicate n false)) := by
  refine ⟨⟨by omega, by omega, by omega, by omega, by omega, by omega, by omega⟩, hn.1, hn.2.2, List.replicate n (.slice none 0 0), hn.2.1, by simp, fun k v l hv hl => ?_, fun j k v u _ hv _ b hb => ?_, fun _ _ _ _ _ h => h⟩
  ·have hv := List.mem_of_getElem? hv
   have hl := List.mem_of_getElem? hl
   simp at hv hl
   rw [hv.2, hl.2]
   exact World.ownsRow_nil _ _ _ _
  ·have hv := List.mem_of_getElem? hv
   simp at hv
   rw [hv.2] at hb
   simp [ownB, Value.ownBlock] at hb
 have K0 := hid k0
 clear hk1 hk2 hk3 hn k0 hw0
 go_loopw [23] (fun iv wr => ∃ i : Nat, iv = .int .i64 (i : Int) ∧ i ≤ n ∧ Hid (GrAt wr (fun _ => False) (w.heap.size + 1 + 1 + 1) w.heap.size (w.heap.size + 1) (w.heap.size + 1 + 1) (buildP n needs i).1 (buildP n needs i).2 (List.replicate n false) ∧ Keeps [] w wr ∧ (buildP n needs i).1.length = n ∧ (buildP n needs i).2.length = n ∧ ∀ l ∈ (buildP n needs i).2, l.length ≤ i * 1000)) (fun iv _ => n - (intOf iv).toNat)
 case atStart => exact ⟨0, rfl, Nat.zero_le _, HG0.out, K0.out, by simp [buildP], by simp [buildP], fun l hl => by simp [buildP] at hl; simp [hl.2]⟩
 case round =>
  clear HG0 K0
  obtain ⟨i, rfl, hi, hW⟩ := hrel
  have HW := hid hW.out
  clear hW
  have j0 : (0 : Int) ≤ (i : Int) := Int.natCast_nonneg _
  have hw1 : IntKind.i64.wrap ((i : Int) + 1) = (i : Int) + 1 := by rw [IntKind.wrap_i64]; omega
  by_cases hlt : i < n
  ·have i1 : (i : Int) < (n : Int) := by omega
   have HLI := hid (HL.out wr i hlt HW.out.2.1)
   go_wp2_with fail
   refine HLI.out.mono ?_
   rintro e w1 ⟨a1, c1, rfl, ho1, hk1⟩
   obtain ⟨ls, hls⟩ : ∃ x, listP n needs i = x := ⟨_, rfl⟩
   have HLS := hid hls
   rw [hls] at ho1 ⊢
   have HO1 := hid ho1
   have HG1 := hid (HW.out.1.k hk1)
   have K1 := hid (HW.out.2.1.trans hk1 (fun _ _ h => h))
   have hln : ls.length ≤ 1000 := by
    rw [← hls]
    unfold listP
    refine Nat.le_trans (List.length_filter_le _ _) ?_
    obtain ⟨l, hl⟩ : ∃ l, needs[i]? = some l := ⟨_, List.getElem?_eq_getElem (by rw [HM.out.1]; exact hlt)⟩
    rw [List.getD_eq_getElem?_getD, hl]
    exact HM.out.2 l (List.mem_of_getElem? hl)
   have HK1 := hid hk1
   clear ho1 hk1 hls HLI
   go_wp2_with fail
   have hho := HW.out.1.lt.2.2.2.1
   go_loopw [31] (fun iv wx => ∃ k : Nat, iv = .int .i64 (k : Int) ∧ k ≤ ls.length ∧ Hid (GrAt wx (fun b => b ∈ ownB (.slice a1 ls.length c1)) (w.heap.size + 1 + 1 + 1) w.heap.size (w.heap.size + 1) (w.heap.size + 1 + 1) ((ls.take k).foldl (linkP i) (buildP n needs i)).1 ((ls.take k).foldl (linkP i) (buildP n needs i)).2 (List.replicate n false) ∧ Keeps [] w wx ∧ wx.ownsRow wr.heap.size 3 1 (.slice a1 ls.length c1) ls.length (natC ls) ∧ ((ls.take k).foldl (linkP i) (buildP n needs i)).1.length = n ∧ ((ls.take k).foldl (linkP i) (buildP n needs i)).2.length = n ∧ (∀ l ∈ ((ls.take k).foldl (linkP i) (buildP n needs i)).2, l.length ≤ i * 1000 + k) ∧ w1.heap.size ≤ wx.heap.size)) (fun iv _ => ls.length - (intOf iv).toNat)
   case atStart => exact ⟨0, rfl, Nat.zero_le _, (HW.out.1.reoff (fun b hb => (ownB_ge HO1.out b hb).1)).k HK1.out, K1.out, HO1.out, HW.out.2.2.1, HW.out.2.2.2.1, HW.out.2.2.2.2, Nat.le_refl _⟩
   case round =>
    obtain ⟨k, rfl, hk, hV⟩ := hrel
    have HV := hid hV.out
    clear hV
    have jk : (0 : Int) ≤ (k : Int) := Int.natCast_nonneg _
    have hw2 : IntKind.i64.wrap ((k : Int) + 1) = (k : Int) + 1 := by rw [IntKind.wrap_i64]; omega
    by_cases hlt2 : k < ls.length
    ·have k1 : (k : Int) < (ls.length : Int) := by omega
     obtain ⟨y, hy⟩ : ∃ y, ls[k]? = some y := ⟨_, List.getElem?_eq_getElem hlt2⟩
     have hyn : y < n := by
      have := List.mem_of_getElem? hy
      rw [← HLS.out] at this
      unfold listP at this
      simpa using (List.mem_filter.1 this).2
     have hst : (ls.take (k + 1)).foldl (linkP i) (buildP n needs i) = linkP i ((ls.take k).foldl (linkP i) (buildP n needs i)) y := by
      rw [List.take_add_one, hy, Option.toList_some, List.foldl_append]
      rfl
     have HST := hid hst
     obtain ⟨S, hS⟩ : ∃ S, (ls.take k).foldl (linkP i) (buildP n needs i) = S := ⟨_, rfl⟩
     rw [hS] at HV HST
     obtain ⟨hlt', g1, g2, vs, g3, g4, g5, g6, g7⟩ := HV.out.1
     obtain ⟨l, hl⟩ : ∃ l, S.2[y]? = some l := ⟨_, List.getElem?_eq_getElem (by rw [HV.out.2.2.2.2.1]; exact hyn)⟩
     obtain ⟨v, hv⟩ : ∃ v, vs[y]? = some v := ⟨_, List.getElem?_eq_getElem (by rw [g4, HV.out.2.2.2.2.1]; exact hyn)⟩
     have hov := g5 y v l hv hl
     obtain ⟨av, cv, rfl⟩ := len_form hov
     obtain ⟨x, hx⟩ : ∃ x, S.1[i]? = some x := ⟨_, List.getElem?_eq_getElem (by rw [HV.out.2.2.2.1]; exact hlt)⟩
     have hxd : S.1.getD i 0 = x := by rw [List.getD_eq_getElem?_getD, hx]; rfl
     have hld : S.2.getD y [] = l := by rw [List.getD_eq_getElem?_getD, hl]; rfl
     have x0 : wr.cell? ⟨w.heap.size, i, none⟩ = some (.int .i64 x) := by rw [cell_of_block g1 i]; unfold i64s; simp [hx]
     have f0 := frozen_of_row wr _ i _ _ g1
     have b0 := (Array.getElem?_eq_some_iff.1 g1).1
     have xb : wr.cell? ⟨w.heap.size + 1, y, none⟩ = some (.slice av l.length cv) := by rw [cell_of_block g3 y]; simp [hv]
     have fb := frozen_of_row wr _ y _ _ g3
     have bb := (Array.getElem?_eq_some_iff.1 g3).1
     obtain ⟨gl, ol, rfl, xl⟩ : ∃ g o, a1 = some ⟨g, o, none⟩ ∧ wr.cell? ⟨g, o + k, none⟩ = some (.int .i64 y) := by
      rcases (Reads.ofOwn HV.out.2.2.1).2 with ⟨h0, _⟩ | ⟨_, g, off, c', e, _, _, _, hx⟩
      ·omega
      ·simp only [Value.slice.injEq] at e
       exact ⟨g, off, e.1, hx k _ (by unfold natC; rw [List.getElem?_map, hy]; rfl)⟩
     have y0 : (0 : Int) ≤ (y : Int) := Int.natCast_nonneg _
     have y1 : (y : Int) < (n : Int) := by omega
     have hll : l.length ≤ 101000 := by
      have := HV.out.2.2.2.2.2.1 l (List.mem_of_getElem? hl)
      omega
     have HS := hid (And.intro hxd hld)
     have HOV := hid hov
     have HX := hid (And.intro hv (And.intro hl g3))
     have HSL := hid hS
     have HGE := hid (fun b hb => (ownB_ge HOV.out b hb).1)
     have kw : Keeps [w.heap.size] wr (wr.setCell ⟨w.heap.size, i, none⟩ (.int .i64 (wrap64 (x + 1)))) := (Keeps.refl _ _).setCell (.inl (by simp)) _
     have KA := hid (kw.alloc (.cells #[.int .i64 (i : Int)] 3))
     have hrw := heap_alloc_new (wr.setCell ⟨w.heap.size, i, none⟩ (.int .i64 (wrap64 (x + 1)))) (.cells #[.int .i64 (i : Int)] 3)
     rw [World.size_setCell] at hrw
     have HRW := hid hrw
     have HOF := hid (g7 y _ hv)
     clear hrw
     have HBA := hid (fun w6 (k6 : Keeps (ownB (.slice av l.length cv)) ((wr.setCell ⟨w.heap.size, i, none⟩ (.int .i64 (wrap64 (x + 1)))).alloc (.cells #[.int .i64 (i : Int)] 3)) w6) => (k6.block (w.heap.size + 1) (Nat.lt_of_lt_of_le bb KA.out.size) (fun hm => by have := HGE.out _ hm; omega)).trans ((KA.out.block (w.heap.size + 1) bb (by simp)).trans HX.out.2.2))
     have hhs : w.heap.size + 1 + 1 + 1 ≤ wr.heap.size := hlt'.2.2.2.1
     clear hst hS hx hxd hld hov hv hl g1 g2 g3 g5 g6 g7 hy hlt' g4 kw
     go_wp2_with (at_builtin; go_must (refine wpList_appI _ (by rfl) _ _ (by rfl) (w.heap.size + 1 + 1 + 1) (.slice av l.length cv) (by rfl) l l.length rfl (ownsRow_keeps HOV.out KA.out (fun b hb e => by have := HGE.out b hb; simp at e; omega)) _ (by rfl) i (Reads.ofBlock (n := 1) HRW.out rfl (by decide)) (by omega) (Nat.le_trans hhs KA.out.size) ?_; intro a6 q6 w6 ho6 hk6 hv6; have f6 := frozen_of_row w6 _ y _ _ (HBA.out w6 hk6.out); have b6 := (Array.getElem?_eq_some_iff.1 (HBA.out w6 hk6.out)).1; have z6 : w6.cell? ⟨w.heap.size + 1, y, none⟩ = some (.slice av l.length cv) := by (rw [cell_of_block (HBA.out w6 hk6.out) y]; simp [HX.out.1])))
     have hg0 := (HV.out.1.setWant i (wrap64 (x + 1))).k (Keeps.alloc (Keeps.refl [] _) (.cells #[.int .i64 (i : Int)] 3))
     have hlsb := ownB_ge HV.out.2.2.1
     have hfin := hg0.grow ((KA.out.block (w.heap.size + 1) bb (by simp)).trans HX.out.2.2) HX.out.1 HX.out.2.1 rfl ho6.out hk6.out hv6.out (fun b hb => Nat.lt_of_lt_of_le (hlsb b hb).2 KA.out.size)
     have e0 : linkP i S y = (S.1.set i (wrap64 (x + 1)), S.2.set y (l ++ [i])) := by
      unfold linkP
      rw [HS.out.1, HS.out.2, wrapEq64]
     have k7 : Keeps [w.heap.size + 1] w6 (w6.setCell ⟨w.heap.size + 1, y, none⟩ (.slice a6 (l.length + 1) q6)) := (Keeps.refl _ _).setCell (.inl (by simp)) _
     refine ⟨⟨k + 1, rfl, by omega, ?_⟩, by simp only [intOf]; omega⟩
     show Hid _
     rw [HST.out, e0]
     refine ⟨hfin, ((HV.out.2.1.trans KA.out (fun b hb e => by simp at e; omega)).trans hk6.out (fun b hb hm => by have := HGE.out b hm; omega)).trans k7 (fun b hb e => by simp at e; omega), ?_, by simp [HV.out.2.2.2.1], by simp [HV.out.2.2.2.2.1], fun l' hl' => ?_, ?_⟩
     ·refine ownsRow_keeps (ownsRow_keeps (ownsRow_keeps HV.out.2.2.1 KA.out (fun b hb e => ?_)) hk6.out (fun b hb hm => HOF.out b hm hb)) k7 (fun b hb e => ?_)
      ·simp at e
       have := (hlsb b hb).1
       omega
      ·simp at e
       have := (hlsb b hb).1
       omega
     ·rcases List.mem_or_eq_of_mem_set hl' with h | h
      ·have := HV.out.2.2.2.2.2.1 l' h
       omega
      ·have := HV.out.2.2.2.2.2.1 l (List.mem_of_getElem? HX.out.2.1)
       rw [h, List.length_append]
       simp
       omega
     ·have := HV.out.2.2.2.2.2.2
      have := KA.out.size
      have := hk6.out.size
      simp
      omega
    ·obtain rfl : k = ls.length := by omega
     have k1 : ¬ (ls.length : Int) < (ls.length : Int) := by omega
     have HE : Hid (ls.foldl (linkP i) (buildP n needs i) = buildP n needs (i + 1)) := by
      show _ = _
      rw [buildP_succ, HLS.out]
     have e : ls.take ls.length = ls := List.take_length
     rw [e, HE.out] at HV
     clear e
     go_wp2_with fail
     exact ⟨⟨i + 1, rfl, by omega, HV.out.1.reoff (fun _ h => h.elim), HV.out.2.1, HV.out.2.2.2.1, HV.out.2.2.2.2.1, fun l hl => by have := HV.out.2.2.2.2.2.1 l hl; omega⟩, by simp only [intOf]; omega⟩
  ·obtain rfl : n = i := by omega
   have i1 : ¬ (n : Int) < (n : Int) := by omega
   go_wp2_with fail
   go_step3
   go_wp2_with fail
   have hBL : ∀ l ∈ (buildP n needs n).2, l.length ≤ 1000000 := fun l hl => by have := HW.out.2.2.2.2 l hl; omega
   obtain ⟨back, hback⟩ : ∃ x, (buildP n needs n).2 = x := ⟨_, rfl⟩
   rw [hback] at hBL
   have HBK := hid hback
   rw [hback] at HW
   clear hback
   go_loopw [12, 54] (fun lv iv wx => ∃ (r m cl : Nat) (al : Option Addr) (ll : List Nat) (ws : List Int) (told : List Bool), lv = .slice al m cl ∧ iv = .int .i64 (r : Int) ∧ r ≤ n ∧ m ≤ r ∧ Hid (ll.length = m ∧ tellP n back (n - r) ws told ll = orderQ n needs ∧ GrAt wx (fun b => b ∈ ownB (.slice al m cl)) (w.heap.size + 1 + 1 + 1) w.heap.size (w.heap.size + 1) (w.heap.size + 1 + 1) ws back told ∧ Keeps [] w wx ∧ wx.ownsRow (w.heap.size + 1 + 1 + 1) 3 1 (.slice al m cl) m (natC ll) ∧ ws.length = n ∧ told.length = n ∧ back.length = n)) (fun _ iv _ => n - (intOf iv).toNat)
   case atStart => exact ⟨0, 0, 0, none, [], _, _, rfl, rfl, Nat.zero_le _, Nat.le_refl _, rfl, by unfold orderQ; rw [HBK.out]; rfl, HW.out.1.reoff (fun b hb => by simp [ownB, Value.ownBlock] at hb), HW.out.2.1, World.ownsRow_nil _ _ _ _, HW.out.2.2.1, by simp, HW.out.2.2.2.1⟩
   case round =>
    clear HW
    obtain ⟨r, m, cl, al, ll, ws, told, rfl, rfl, hr, hmr, hV⟩ := hrel
    have HV := hid hV.out
    clear hV
    have jr : (0 : Int) ≤ (r : Int) := Int.natCast_nonneg _
    have hw2 : IntKind.i64.wrap ((r : Int) + 1) = (r : Int) + 1 := by rw [IntKind.wrap_i64]; omega
    by_cases hlt2 : r < n
    ·have k1 : (r : Int) < (n : Int) := by omega
     go_wp2_with fail
     have hhs := HV.out.2.2.1.lt
     have hle := HV.out.2.2.2.1.size
     go_loopw [12, 57] (fun lv iv wx => ∃ j : Nat, lv = .slice al m cl ∧ iv = .int .i64 (j : Int) ∧ j ≤ n ∧ Hid (wx = wr ∧ ∀ j', j' < j → (told.getD j' false || decide (0 < ws.getD j' 0)) = true)) (fun _ iv _ => n - (intOf iv).toNat)
     case atStart => exact ⟨0, rfl, rfl, Nat.zero_le _, rfl, fun j hj => by omega⟩
     case round =>
      obtain ⟨j, rfl, rfl, hj, hU⟩ := hrel
      have HU := hid hU.out
      clear hU
      have jj : (0 : Int) ≤ (j : Int) := Int.natCast_nonneg _
      have hw3 : IntKind.i64.wrap ((j : Int) + 1) = (j : Int) + 1 := by rw [IntKind.wrap_i64]; omega
      obtain rfl := HU.out.1
      by_cases hlt3 : j < n
      ·have k2 : (j : Int) < (n : Int) := by omega
       obtain ⟨tb, htb⟩ : ∃ x, told[j]? = some x := ⟨_, List.getElem?_eq_getElem (by rw [HV.out.2.2.2.2.2.2.1]; exact hlt3)⟩
       obtain ⟨x, hx⟩ : ∃ x, ws[j]? = some x := ⟨_, List.getElem?_eq_getElem (by rw [HV.out.2.2.2.2.2.1]; exact hlt3)⟩
       have c1 := cell_of_block HV.out.2.2.1.told j
       have c2 := cell_of_block HV.out.2.2.1.wants j
       rw [show (told.map Value.bool).toArray[j]? = some (.bool tb) by simp [htb]] at c1
       rw [show (i64s ws).toArray[j]? = some (.int .i64 x) by simp [i64s, hx]] at c2
       have e1 : told.getD j false = tb := by rw [List.getD_eq_getElem?_getD, htb]; rfl
       have e2 : ws.getD j 0 = x := by rw [List.getD_eq_getElem?_getD, hx]; rfl
       have HE := hid (And.intro e1 e2)
       clear e1 e2 htb hx
       cases tb with
       | true =>
         go_wp2_with fail
         exact ⟨⟨j + 1, rfl, rfl, by omega, (by first | exact rfl | exact trivial), fun j' hj' => by
          rcases Nat.lt_or_eq_of_le (Nat.le_of_lt_succ hj') with h | rfl
          ·exact HU.out.2 j' h
          ·rw [HE.out.1]; rfl⟩, by simp only [intOf]; omega⟩
       | false =>
         by_cases hx0 : 0 < x
         ·go_wp2_with fail
          exact ⟨⟨j + 1, rfl, rfl, by omega, (by first | exact rfl | exact trivial), fun j' hj' => by
           rcases Nat.lt_or_eq_of_le (Nat.le_of_lt_succ hj') with h | rfl
           ·exact HU.out.2 j' h
           ·rw [HE.out.1, HE.out.2]; simp [hx0]⟩, by simp only [intOf]; omega⟩
         ·have hx1 : ¬ (0 : Int) < x := hx0
          have HP : Hid (pickP n told ws = some j) := pickP_some hlt3 (by rw [HE.out.1, HE.out.2]; simp [hx0]) HU.out.2
          have hrow := ownsRow_keeps HV.out.2.2.2.2.1 ((Keeps.refl [w.heap.size + 1 + 1] wr).setCell (p := ⟨w.heap.size + 1 + 1, j, none⟩) (.inl (by simp)) (.bool true)) (fun b hb e => by have := (ownB_ge HV.out.2.2.2.2.1 b hb).1; simp at e; omega)
          have KA := hid (((Keeps.refl [w.heap.size + 1 + 1] wr).setCell (p := ⟨w.heap.size + 1 + 1, j, none⟩) (.inl (by simp)) (.bool true)).alloc (.cells #[.int .i64 (j : Int)] 3))
          have hrw := heap_alloc_new (wr.setCell ⟨w.heap.size + 1 + 1, j, none⟩ (.bool true)) (.cells #[.int .i64 (j : Int)] 3)
          rw [World.size_setCell] at hrw
          have HRW := hid hrw
          have HRO := hid (ownsRow_keeps hrow ((Keeps.refl [] _).alloc (.cells #[.int .i64 (j : Int)] 3)) (fun _ _ h => by cases h))
          have ft := frozen_of_row wr _ j _ _ HV.out.2.2.1.told
          have bt := (Array.getElem?_eq_some_iff.1 HV.out.2.2.1.told).1
          have hh3 := hhs.2.2.2.1
          obtain ⟨vs, g3, g4, g5, g6, g7⟩ := HV.out.2.2.1.back
          obtain ⟨bl, hbl⟩ : ∃ l, back[j]? = some l := ⟨_, List.getElem?_eq_getElem (by rw [HV.out.2.2.2.2.2.2.2]; exact hlt3)⟩
          obtain ⟨v, hv⟩ : ∃ v, vs[j]? = some v := ⟨_, List.getElem?_eq_getElem (by rw [g4, HV.out.2.2.2.2.2.2.2]; exact hlt3)⟩
          have hov := g5 j v bl hv hbl
          obtain ⟨av, cv, rfl⟩ := len_form hov
          have hlb := ownB_ge HV.out.2.2.2.2.1
          have bb := (Array.getElem?_eq_some_iff.1 g3).1
          have HX := hid (And.intro hv (And.intro hbl (And.intro g3 (And.intro hov (g7 j _ hv)))))
          have HLB := hid hlb
          have HBA := hid (fun w6 (k6 : Keeps (ownB (.slice al m cl)) ((wr.setCell ⟨w.heap.size + 1 + 1, j, none⟩ (.bool true)).alloc (.cells #[.int .i64 (j : Int)] 3)) w6) => (k6.block (w.heap.size + 1) (Nat.lt_of_lt_of_le bb KA.out.size) (fun hm => by have := (hlb _ hm).1; omega)).trans ((KA.out.block (w.heap.size + 1) bb (by simp)).trans g3))
          clear hrow hrw hx0 g3 g4 g5 g6 g7 hv hbl hov hlb
          go_wp2_with (at_builtin; go_must (refine wpList_appI _ (by rfl) _ _ (by rfl) (w.heap.size + 1 + 1 + 1) (.slice al m cl) (by rfl) ll m HV.out.1 HRO.out _ (by rfl) j (Reads.ofBlock (n := 1) HRW.out rfl (by decide)) (by omega) (Nat.le_trans hh3 KA.out.size) ?_; intro a6 q6 w6 ho6 hk6 hv6; have z6 : w6.cell? ⟨w.heap.size + 1, j, none⟩ = some (.slice av bl.length cv) := by (rw [cell_of_block (HBA.out w6 hk6.out) j]; simp [HX.out.1])))
          have hg6 := ((HV.out.2.2.1.setTold j true).k (Keeps.alloc (Keeps.refl [] _) (.cells #[.int .i64 (j : Int)] 3))).past (off' := fun b => b ∈ ownB (.slice a6 (m + 1) q6)) hk6.out (fun b hb => ⟨hb, (HLB.out b hb).1⟩) (fun b hb => by rcases hv6.out b hb with h | h; exact .inl h; exact .inr h)
          have hk0 := ((HV.out.2.2.2.1.trans KA.out (fun b hb e => by simp at e; omega)).trans hk6.out (fun b hb hm => by have := (HLB.out b hm).1; omega))
          have hbr := ownsRow_keeps (ownsRow_keeps HX.out.2.2.2.1 KA.out (fun b hb e => by have := (ownB_ge HX.out.2.2.2.1 b hb).1; simp at e; omega)) hk6.out (fun b hb hm => HX.out.2.2.2.2 b hb hm)
          have hyl : ∀ y ∈ bl, y < n := fun y hy => buildP_lt n needs n bl (by rw [HBK.out]; exact List.mem_of_getElem? HX.out.2.1) y hy
          have HYL := hid hyl
          have hHB : Hid (bl.length ≤ 1000000) := by
           have h8 := HX.out.2.2.2.1
           exact hBL bl (List.mem_of_getElem? HX.out.2.1)
          have HG6 := hid hg6
          have HK6 := hid hk0
          have HBR := hid hbr
          clear hg6 hk0 hbr hyl z6
          go_loopw [83] (fun iv wx => ∃ k : Nat, iv = .int .i64 (k : Int) ∧ k ≤ bl.length ∧ Hid (GrAt wx (fun b => b ∈ ownB (.slice a6 (m + 1) q6)) (w.heap.size + 1 + 1 + 1) w.heap.size (w.heap.size + 1) (w.heap.size + 1 + 1) ((bl.take k).foldl unlinkP ws) back (told.set j true) ∧ Keeps [] w wx ∧ wx.ownsRow (w.heap.size + 1 + 1 + 1) 3 1 (.slice av bl.length cv) bl.length (natC bl) ∧ wx.ownsRow (w.heap.size + 1 + 1 + 1) 3 1 (.slice a6 (m + 1) q6) (m + 1) (natC (ll ++ [j])) ∧ ((bl.take k).foldl unlinkP ws).length = n)) (fun iv _ => bl.length - (intOf iv).toNat)
          case atStart => exact ⟨0, rfl, Nat.zero_le _, HG6.out, HK6.out, HBR.out, ho6.out, HV.out.2.2.2.2.2.1⟩
          case round =>
           obtain ⟨k, rfl, hk, hZ⟩ := hrel
           have HZ := hid hZ.out
           clear hZ HG6 HK6 HBR
           have jk : (0 : Int) ≤ (k : Int) := Int.natCast_nonneg _
           have hw4 : IntKind.i64.wrap ((k : Int) + 1) = (k : Int) + 1 := by
            rw [IntKind.wrap_i64]
            have := hHB.out
            omega
           by_cases hk2 : k < bl.length
           ·have k3 : (k : Int) < (bl.length : Int) := by omega
            obtain ⟨y, hy⟩ : ∃ y, bl[k]? = some y := ⟨_, List.getElem?_eq_getElem hk2⟩
            have hyn := HYL.out y (List.mem_of_getElem? hy)
            have hst : (bl.take (k + 1)).foldl unlinkP ws = unlinkP ((bl.take k).foldl unlinkP ws) y := by
             rw [List.take_add_one, hy, Option.toList_some, List.foldl_append]
             rfl
            obtain ⟨S, hS⟩ : ∃ S, (bl.take k).foldl unlinkP ws = S := ⟨_, rfl⟩
            rw [hS] at hst HZ
            obtain ⟨x2, hx2⟩ : ∃ x, S[y]? = some x := ⟨_, List.getElem?_eq_getElem (by rw [HZ.out.2.2.2.2]; exact hyn)⟩
            have e2 : S.getD y 0 = x2 := by rw [List.getD_eq_getElem?_getD, hx2]; rfl
            have c4 : wr.cell? ⟨w.heap.size, y, none⟩ = some (.int .i64 x2) := by rw [cell_of_block HZ.out.1.wants y]; simp [i64s, hx2]
            have f4 := frozen_of_row wr _ y _ _ HZ.out.1.wants
            have b4 := (Array.getElem?_eq_some_iff.1 HZ.out.1.wants).1
            obtain ⟨gl, ol, rfl, xl⟩ : ∃ g o, av = some ⟨g, o, none⟩ ∧ wr.cell? ⟨g, o + k, none⟩ = some (.int .i64 y) := by
             rcases (Reads.ofOwn HZ.out.2.2.1).2 with ⟨h0, _⟩ | ⟨_, g, off, c', e, _, _, _, hx⟩
             ·omega
             ·simp only [Value.slice.injEq] at e
              exact ⟨g, off, e.1, hx k _ (by unfold natC; rw [List.getElem?_map, hy]; rfl)⟩
            have y0 : (0 : Int) ≤ (y : Int) := Int.natCast_nonneg _
            have y1 : (y : Int) < (n : Int) := by omega
            have eU : unlinkP S y = S.set y (wrap64 (x2 - 1)) := by
             unfold unlinkP
             rw [e2, wrapEq64]
            have HU2 := hid (hst.trans eU)
            have k7 : Keeps [w.heap.size] wr (wr.setCell ⟨w.heap.size, y, none⟩ (.int .i64 (wrap64 (x2 - 1)))) := (Keeps.refl _ _).setCell (.inl (by simp)) _
            have HK7 := hid k7
            clear hst eU hS hx2 e2 hy k7
            go_wp2_with fail
            refine ⟨⟨k + 1, rfl, by omega, ?_⟩, by simp only [intOf]; omega⟩
            show Hid _
            rw [HU2.out]
            exact ⟨HZ.out.1.setWant y (wrap64 (x2 - 1)), HZ.out.2.1.trans HK7.out (fun b hb e => by simp at e; omega), ownsRow_keeps HZ.out.2.2.1 HK7.out (fun b hb e => by have := (ownB_ge HZ.out.2.2.1 b hb).1; simp at e; omega), ownsRow_keeps HZ.out.2.2.2.1 HK7.out (fun b hb e => by have := (ownB_ge HZ.out.2.2.2.1 b hb).1; simp at e; omega), by simp [HZ.out.2.2.2.2]⟩
           ·obtain rfl : k = bl.length := by omega
            have k3 : ¬ (bl.length : Int) < (bl.length : Int) := by omega
            have e : bl.take bl.length = bl := List.take_length
            rw [e] at HZ
            obtain ⟨f, hf⟩ : ∃ f, n - r = f + 1 := ⟨n - r - 1, by omega⟩
            have hte := HV.out.2.1
            have hbj : back.getD j [] = bl := by rw [List.getD_eq_getElem?_getD, HX.out.2.1]; rfl
            rw [hf, tellP, HP.out] at hte
            dsimp only at hte
            rw [hbj] at hte
            have hf2 : n - (r + 1) = f := by omega
            rw [← hf2] at hte
            have HTE := hid hte
            clear e hte hbj
            go_wp2_with fail
            exact ⟨⟨r + 1, m + 1, q6, a6, ll ++ [j], _, told.set j true, rfl, rfl, by omega, by omega, by rw [List.length_append, HV.out.1]; rfl, HTE.out, HZ.out.1, HZ.out.2.1, HZ.out.2.2.2.1, HZ.out.2.2.2.2, by simp [HV.out.2.2.2.2.2.2.1], HV.out.2.2.2.2.2.2.2⟩, by simp only [intOf]; omega⟩
      ·obtain rfl : n = j := by omega
       have k2 : ¬ (n : Int) < (n : Int) := by omega
       have HP := hid (pickP_none HU.out.2)
       obtain ⟨f, hf⟩ : ∃ f, n - r = f + 1 := ⟨n - r - 1, by omega⟩
       go_wp2_with fail
       go_ret2
       refine OrderEnd.of (told := told) ?_ HV.out.1 HV.out.2.2.2.2.1 (by omega) HV.out.2.2.2.1
       have := HV.out.2.1
       rw [hf, tellP, HP.out] at this
       exact this
    ·obtain rfl : n = r := by omega
     have k1 : ¬ (n : Int) < (n : Int) := by omega
     go_wp2_with fail
     go_ret2
     refine OrderEnd.of (told := told) ?_ HV.out.1 HV.out.2.2.2.2.1 (by omega) HV.out.2.2.2.1
     have := HV.out.2.1
     rw [Nat.sub_self] at this
     exact this
theorem grOrder_ok (n : Nat) (needs : List (List Nat)) (P : Nat → Prop) (a : Option Addr) (c : Nat) (w : World) (h1 : 1 ≤ n) (h2 : n ≤ 100) (hm : needs.length = n) (hl : ListAt natsL w P (.slice a n c) needs) (hs : ∀ l ∈ needs, l.length ≤ 1000) (hall : (orderQ n needs).1.length = n) :
 Calls Tryz.prog 30 #[.int .i64 n, .slice a n c] w fun e w' => ∃ a' c', e = .returned (.tuple #[.slice a' n c', .bool true]) ∧ w'.ownsRow w.heap.size 3 1 (.slice a' n c') n (natC (orderQ n needs).1) ∧ Keeps [] w w' := by
 have HO := hid (grOrderR_ok n needs P a c w h1 h2 hm hl hs)
 have HA := hid hall
 have n0 : (0 : Int) ≤ (n : Int) := Int.natCast_nonneg _
 have n1 : (n : Int) ≤ 4096 := by omega
 clear hm hl hs hall
 go_enter Tryz.func30, Tryz.ntmps30
 go_wp2_with fail
 refine HO.out.mono ?_
 rintro e w1 ⟨a1, c1, tv, rfl, ho, hk⟩
 rw [HA.out] at ho ⊢
 have HR := hid ho
 have K1 := hid hk
 clear ho hk
 have hnn : ¬ (n : Int) < (n : Int) := by omega
 go_wp2_with fail
 go_ret2
 exact ⟨a1, c1, rfl, HR.out, K1.out⟩
end Go.Proofs.YtgjiahilbmeaeaaGreatDoor