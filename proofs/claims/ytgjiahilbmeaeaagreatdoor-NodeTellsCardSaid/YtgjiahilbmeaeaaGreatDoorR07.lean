/- Joined of DkG, DkH, DkI, DkJ. -/
import Derived.Test.YtgjiahilbmeaeaaGreatDoorDkE
import Derived.Test.YtgjiahilbmeaeaaGreatDoorDkF
import Derived.Test.YtgjiahilbmeaeaaGreatDoorQ02
import Derived.Test.YtgjiahilbmeaeaaGreatDoorR00
import Derived.Laws.CopyOwn
import Derived.Deep.OwnRows
import Derived.Sort.KeysCollected
import Derived.Shelf.Slices.In.SortNone
set_option maxRecDepth 100000
set_option maxHeartbeats 4000000
set_option linter.unusedSimpArgs false
set_option linter.unusedVariables false
/- A disk: put, walked. -/
namespace Go.Proofs.YtgjiahilbmeaeaaGreatDoor
open Go Go.RowKit
theorem len_sum {L : List (Nm × (Nat × FileD))} {p : Nm × (Nat × FileD)} (h : p ∈ L) : p.2.2.b.length ≤ (L.map fun p => p.2.2.b.length).sum := by
 induction L with
 | nil => cases h
 | cons q r ih =>
   rw [List.map_cons, List.sum_cons]
   rcases List.mem_cons.1 h with rfl | h
   ·omega
   ·have := ih h; omega
theorem used_sum {d : DiskD} {L : List (Nm × (Nat × FileD))} (h1 : d.files = mapA (·.2) L) : (L.map fun p => p.2.2.b.length).sum = usedD d := by unfold usedD; rw [h1]; simp [mapA, Function.comp_def]
theorem Reads.src {w : World} {n c : Nat} {a : Option Addr} {xs : List Value} (h : Reads w 1 (.slice a n c) n xs) (hp : 0 < xs.length) : ∃ ad, a = some ad ∧ ∀ j v, xs[j]? = some v → w.cell? (ad.add j) = some v := by
 obtain ⟨hl, ⟨h0, _⟩ | ⟨_, b, off, c', e, _, _, _, hx⟩⟩ := h
 ·omega
 ·simp only [Value.slice.injEq] at e
  exact ⟨_, e.1, fun j v hv => by rw [addr_add]; exact hx j v hv⟩
theorem splice_zeros (xs ys : List UInt8) (N : Nat) (hN : xs.length + ys.length = N) : splice (splice (madeCells #[.int .u8 0] N).toList 0 (u8s xs)) xs.length (u8s ys) = u8s (xs ++ ys) := by
 rw [toList_madeCells_one]
 have h1 : (u8s xs).length = xs.length := u8s_length xs
 have h2 : (u8s ys).length = ys.length := u8s_length ys
 have h3 : splice (List.replicate N (Value.int .u8 0)) 0 (u8s xs) = u8s xs ++ List.replicate ys.length (Value.int .u8 0) := by
  unfold splice
  rw [List.take_zero, List.nil_append, Nat.zero_add, h1, List.drop_replicate]
  congr 2
  omega
 rw [h3]
 unfold splice
 rw [h2, List.take_append_of_le_length (by omega), List.take_of_length_le (by omega), List.drop_of_length_le (by simp), List.append_nil]
 simp [u8s]
theorem dkPut_any (w : World) (F : Nat → Prop) (b n bm fb : Nat) (d : DiskD) (L : List (Nm × (Nat × FileD))) (name : Nm) (f : FileD) (a2 : Option Addr) (c2 : Nat) (bs : List UInt8)
 (h1 : d.files = mapA (·.2) L) (h2 : (diskW b bm L).Nodup) (h3 : ∀ x ∈ diskW b bm L, F x)
 (h4 : w.heap[b]? = some (.cells (diskRow d (.map (some bm))) 89 (0, 0))) (h5 : w.ownsMap Tryz.prog 9 heldR bm L.length (fmV (mapA (fun p => ptrV p.1) L)))
 (h6 : ∀ p ∈ L, FileAt w (fun c => F c ∧ c ∉ diskW b bm L) p.2.1 p.2.2) (hg : getA L name = some (fb, f)) (hk : DiskOk2 n d)
 (hb : Reads w 1 (.slice a2 bs.length c2) bs.length (u8s bs)) (hbl : bs.length ≤ 1099511627776) :
 Calls Tryz.prog 164 #[ptrV b, ptrV fb, .slice a2 bs.length c2] w (DiskEnds w F b (dput d name f bs)) := by
 have HAT := hid (And.intro h1 (And.intro h2 (And.intro h3 (And.intro h4 (And.intro h5 h6)))))
 have hat : DiskAt w F b d := ⟨bm, L, h1, h2, h3, h4, h5, h6⟩
 have hus := hk.used
 have hro := hk.room
 have hfu := len_sum (getA_mem hg)
 rw [used_sum h1] at hfu
 dsimp only at hfu
 have HUS := hid (fun wx (k : Keeps [] w wx) => dkUsed_any wx F b d (hat.k k) (by omega))
 have x0 : w.cell? ⟨b, 0, none⟩ = some (.int .i64 d.room) := by unfold diskRow at h4; exact cell_of_block h4 0
 obtain ⟨a, c, hfb, hby⟩ := h6 _ (getA_mem hg)
 dsimp only at hfb hby
 have y0 : w.cell? ⟨fb, 0, none⟩ = some (.slice a f.b.length c) := cell_of_block hfb 0
 have HFB := hid hfb
 have HBY := hid hby
 have HB := hid hb
 have HG := hid hg
 have HHAT := hid hat
 obtain ⟨u, hu⟩ : ∃ u, usedD d = u := ⟨_, rfl⟩
 rw [hu] at hus HUS hfu
 have HU := hid hu
 obtain ⟨room, hroom⟩ : ∃ room, d.room = room := ⟨_, rfl⟩
 rw [hroom] at x0 hus hro
 have HR := hid hroom
 have hw1 : IntKind.i64.wrap (room - (u : Int)) = room - (u : Int) := by rw [IntKind.wrap_i64]; omega
 clear h1 h2 h3 h4 h5 h6 hat hk hfb hby hb hg hu hroom
 unfold ptrV
 go_enter Tryz.func164, Tryz.ntmps164
 go_wp2_with fail
 refine Plan.wp_region_plan (fun wx => wx.cell? ⟨b, 0, none⟩ = some (.int .i64 room)) 10 [(true, 0), (true, 1), (true, 2), (true, 3), (true, 4), (true, 5), (true, 6), (false, 7), (true, 8), (true, 9)] (by kernel_rfl) (by as_aux_lemma => kernel_rfl) (by kernel_rfl) (fun _ _ _ _ _ h => h) ?_ (fun hS => ?_)
 (·go_simp)
 simp only [Plan.pick, List.append_eq, List.cons_append, List.nil_append, Plan.g1, Plan.g2, Option.getD_some, List.drop_succ_cons, List.drop_zero]
 iterate 7 (first | refine Plan.tA ?_ | refine Plan.tY ?_ | refine Plan.pN ?_ | refine Plan.pU ?_ | fail)
 refine Plan.step ?_
 go_wp2_with fail
 refine (HUS.out _ (by exact Keeps.K)).mono ?_
 rintro e w2 ⟨rfl, hk2⟩
 have K2 : Hid (Keeps [] w w2) := Keeps.trans (F := []) (G := []) (by exact Keeps.K) hk2 (fun _ _ h => h)
 go_wp2_with fail
 refine ⟨K2.out.cellSome x0 (by simp), ?_⟩
 iterate 2 (first | refine Plan.tA ?_ | refine Plan.tY ?_ | refine Plan.pN ?_ | refine Plan.pU ?_ | fail)
 refine Plan.fin ?_
 clear hS hk2
 by_cases hfull : room - (u : Int) < (bs.length : Int)
 ·have HO : Hid (dput d name f bs = (d, 18)) := by
   show _ = _
   unfold dput
   rw [HR.out, HU.out, if_pos hfull]
  go_wp2_with fail
  go_ret
  exact ⟨by rw [HO.out]; rfl, by rw [HO.out]; exact DiskPost.same HHAT.out K2.out⟩
 ·have hnf : decide (room - (u : Int) < (bs.length : Int)) = false := decide_eq_false hfull
  have HO : Hid (dput d name f bs = ({ d with files := updA d.files name ⟨f.b ++ bs, f.sure⟩ }, 0)) := by
   show _ = _
   unfold dput
   rw [HR.out, HU.out, if_neg hfull]
  have hlt2 : fb < w2.heap.size := Nat.lt_of_lt_of_le (Array.getElem?_eq_some_iff.1 HFB.out).1 K2.out.size
  have y2 : w2.cell? ⟨fb, 0, none⟩ = some (.slice a f.b.length c) := K2.out.cellSome y0 (by simp)
  obtain ⟨N, hN⟩ : ∃ N, f.b.length + bs.length = N := ⟨_, rfl⟩
  have hmk : ∀ wx : World, (Instr.makeSlice 27 (.int .i64 ((f.b.length : Int) + (bs.length : Int))) (.int .i64 ((f.b.length : Int) + (bs.length : Int)))).run Tryz.prog wx = .ok (.slice (some ⟨wx.heap.size, 0, none⟩) N N) (wx.alloc (.cells (madeCells #[.int .u8 0] N) 5)) := fun wx => by
   rw [show ((f.b.length : Int) + (bs.length : Int)) = (N : Int) by omega]
   exact run_make_row' (P := Tryz.prog) 27 5 (.int .u8 0) 1 Tryz.underlying27 Tryz.infoU8 rfl .i64 .i64 N (by omega) (by omega) wx
  have HN := hid hN
  have hNf : f.b.length ≤ N := by omega
  have hNb : N ≤ 140737488355328 := by clear hw1; omega
  have HNB := hid hNb
  clear hNb
  clear hN
  have hcz : (madeCells #[.int .u8 0] N).toList.length = N := by rw [toList_madeCells_one]; simp
  have HBY2 := (HBY.out.1.keepsL HBY.out.2 K2.out (fun _ _ h => by cases h))
  have HB2 : Hid (Reads w2 1 (.slice a2 bs.length c2) bs.length (u8s bs)) := HB.out.keeps K2.out (fun _ _ h => by cases h)
  have hcl : (splice (madeCells #[.int .u8 0] N).toList 0 (u8s f.b)).length = N := by rw [length_splice _ _ _ (by rw [u8s_length, hcz]; omega), hcz]
  have HCL := hid hcl
  have hfb2 := (K2.out.block fb (Array.getElem?_eq_some_iff.1 HFB.out).1 (by simp)).trans HFB.out
  have f2 : w2.frozen? ⟨fb, 0, none⟩ = false := frozen_of_row w2 fb 0 _ _ hfb2
  have HSZ := hid (splice_zeros f.b bs N HN.out)
  have HEND : Hid (∀ w4 : World, w4.heap[w2.heap.size]? = some (.cells (splice (splice (madeCells #[.int .u8 0] N).toList 0 (u8s f.b)) f.b.length (u8s bs)).toArray 5 (0, 0)) → Keeps [] w2 w4 → DiskPost w F b { d with files := updA d.files name ⟨f.b ++ bs, f.sure⟩ } (w4.setCell ⟨fb, 0, none⟩ (.slice (some ⟨w2.heap.size, 0, none⟩) N N))) := fun w4 h4 k4 => by
   rw [HSZ.out] at h4
   obtain ⟨h1, h2, h3, g4, h5, h6⟩ := HAT.out
   have hfbn : fb ∈ diskW b bm L := mem_diskW (getA_mem HG.out)
   have hfb4 := (k4.block fb hlt2 (by simp)).trans hfb2
   have hs := heap_setCell_same _ _ 0 _ _ (.slice (some ⟨w2.heap.size, 0, none⟩) N N) hfb4
   simp only [List.setIfInBounds_toArray, List.set_cons_zero, List.set_cons_succ] at hs
   have kk : Keeps [fb] w (w4.setCell ⟨fb, 0, none⟩ (.slice (some ⟨w2.heap.size, 0, none⟩) N N)) := ((K2.out.trans k4 (fun _ _ h => h)).mono (G := [fb]) (fun _ _ h => by cases h)).setCell (by simp) _
   have hne : w2.heap.size ≠ fb := by omega
   have hrow : (w4.setCell ⟨fb, 0, none⟩ (.slice (some ⟨w2.heap.size, 0, none⟩) N N)).heap[w2.heap.size]? = some (.cells (u8s (f.b ++ bs)).toArray 5 (0, 0)) := (heap_setCell_other w4 _ _ _ hne).trans h4
   have hnl : (f.b ++ bs).length = N := by rw [List.length_append]; exact HN.out
   have hrd : Reads (w4.setCell ⟨fb, 0, none⟩ (.slice (some ⟨w2.heap.size, 0, none⟩) N N)) 1 (.slice (some ⟨w2.heap.size, 0, none⟩) (f.b ++ bs).length N) (f.b ++ bs).length (u8s (f.b ++ bs)) := by
    have := Reads.ofBlock (n := N) (size := 1) hrow (by simp [u8s_length, hnl]) (le_maxLen HNB.out)
    rw [hnl]
    simpa using this
   have hsz : w2.heap.size ∉ diskW b bm L := fun hm => by
    have hlt : ∀ x ∈ diskW b bm L, x < w.heap.size := fun x hx => by
     unfold diskW at hx
     simp only [List.mem_cons] at hx
     rcases hx with rfl | rfl | hx
     ·exact (Array.getElem?_eq_some_iff.1 g4).1
     ·exact h5.lt
     ·exact DiskAt.file (F := F) (b := b) (bm := bm) h6 x hx
    have := hlt _ hm
    have := K2.out.size
    omega
   have hu := DiskAt.upd (F' := fun x => F x ∨ x = w2.heap.size) (f' := ⟨f.b ++ bs, f.sure⟩) h1 h2 h3 g4 h5 h6 HG.out (fun _ _ h => .inl h) ⟨some ⟨w2.heap.size, 0, none⟩, N, by rw [hnl]; exact hs, hrd, fun _ x hx => by
    simp [mem_ownB, Value.ownBlock] at hx
    subst hx
    exact ⟨.inr rfl, hsz⟩⟩ kk
   exact ⟨_, hu, fun x hx => hx.imp id (fun h => by rw [h]; exact K2.out.size), KeepsP.of kk (by simpa using h3 fb hfbn)⟩
  have HCZ := hid hcz
  clear hcl hfb2
  clear hcz
  have HRB := hid HBY2
  clear HBY2
  go_wp2_with (first | (show wpList _ _ _ (⟨some 32, _, _, _, _, _⟩ :: _) _ _; go_must (refine wpList_copy_splice (by rfl) (.tmp 27) (.tmp 31) 27 27 (by rfl) 5 Tryz.underlying27 (by kernel_rfl) _ _ _ _ _ _ (by rfl) (by rfl) w2.heap.size 0 (madeCells #[.int .u8 0] N).toList 5 (by rw [Array.toArray_toList]; exact heap_alloc_new w2 _) (u8s f.b) (by rw [u8s_length]; exact (Nat.min_eq_left hNf).symm) (fun hp => ⟨rfl, (HRB.out.keeps (F := []) (by exact Keeps.K) (fun _ _ h => by cases h)).src hp⟩) (by rw [u8s_length, HCZ.out]; omega) (u8s_one _) w2.heap.size w2 ((Below.refl _ _).alloc (Nat.le_refl _) _) (Nat.le_refl _) ?_); intro w3 h3 b3; have k3 := Keeps.ofBelowSize b3; have y3 : w3.cell? ⟨fb, 0, none⟩ = some (.slice a f.b.length c) := k3.cellSome y2 (by simp); have HRB3 : Hid (Reads w3 1 (.slice a2 bs.length c2) bs.length (u8s bs)) := HB2.out.keeps k3 (fun _ _ h => by cases h); have K3 := hid k3; have B3 := hid b3; clear k3 b3) | (show wpList _ _ _ (⟨some 41, _, _, _, _, _⟩ :: _) _ _; go_must (refine wpList_copy_splice (by rfl) (.tmp 39) (.tmp 40) 27 27 (by rfl) 5 Tryz.underlying27 (by kernel_rfl) _ _ _ _ _ _ (by rfl) (by rfl) w2.heap.size f.b.length _ 5 h3.out (u8s bs) (by have := HN.out; simp [u8s_length, Nat.min_def]; try omega) (fun hp => by first | (exfalso; have := HN.out; rw [u8s_length] at hp; omega) | exact ⟨if_neg (by have := HN.out; rw [u8s_length] at hp; omega), HRB3.out.src hp⟩ | exact ⟨rfl, HRB3.out.src hp⟩) (by rw [u8s_length, HCL.out]; have := HN.out; omega) (u8s_one _) w2.heap.size w2 B3.out (Nat.le_refl _) ?_); intro w4 h4 b4; have k4 := Keeps.ofBelowSize b4; have y4 : w4.cell? ⟨fb, 0, none⟩ = some (.slice a f.b.length c) := k4.cellSome y2 (by simp); have f4 : w4.frozen? ⟨fb, 0, none⟩ = false := (k4.frozen (a := ⟨fb, 0, none⟩) hlt2 (by simp)).trans f2; have HE := hid (HEND.out w4 (by exact h4.out) k4); clear k4 b4))
  all_goals
   go_ret
   exact ⟨by rw [HO.out]; rfl, by rw [HO.out]; first | exact HE.out | (have hNe : N = f.b.length := (by assumption); have hh := HE.out; rw [hNe] at hh; exact hh)⟩
theorem foundV_is {name : Nm} {L : List (Nm × (Nat × FileD))} {d : DiskD} (h1 : d.files = mapA (·.2) L) :
 (dfind d name = none ∧ foundV name ((getA L name).map (·.1)) = .tuple #[.pointer none, .int .i64 (dmiss name)] ∧ dmiss name ≠ 0) ∨ ∃ fb f, getA L name = some (fb, f) ∧ dfind d name = some f ∧ foundV name ((getA L name).map (·.1)) = .tuple #[.pointer (some ⟨fb, 0, none⟩), .int .i64 0] := by
 unfold dfind dmiss foundV
 rcases hn : fnamedP name with _ | _
 ·exact .inl ⟨rfl, rfl, by decide⟩
 ·cases hg : getA L name with
  | none =>
    refine .inl ⟨?_, rfl, by decide⟩
    rw [h1, getA_map, hg]
    rfl
  | some p =>
    refine .inr ⟨p.1, p.2, rfl, ?_, rfl⟩
    rw [h1, getA_map, hg]
    rfl
theorem Reads.pre {w : World} {a : Option Addr} {n c m : Nat} {bs : List UInt8} (h : Reads w 1 (.slice a n c) n (u8s bs)) (hn : n = bs.length) (hm : m ≤ n) : Reads w 1 (.slice a m c) m (u8s (bs.take m)) ∧ m ≤ c := by
 obtain ⟨hl, ⟨h0, _⟩ | ⟨hp, b, off, c', e, h1, h2, h3, hx⟩⟩ := h
 ·obtain rfl : m = 0 := by omega
  exact ⟨⟨by simp [u8s], .inl ⟨rfl, _, _, rfl⟩⟩, Nat.zero_le _⟩
 ·simp only [Value.slice.injEq] at e
  obtain ⟨rfl, -, rfl⟩ := e
  refine ⟨⟨by simp [u8s]; omega, ?_⟩, by omega⟩
  rcases Nat.eq_zero_or_pos m with rfl | hm0
  ·exact .inl ⟨rfl, _, _, rfl⟩
  ·refine .inr ⟨hm0, b, off, c, rfl, by omega, h2, h3, fun j u hu => hx j u ?_⟩
   rw [show u8s (bs.take m) = (u8s bs).take m by simp [u8s, List.map_take]] at hu
   rw [List.getElem?_take] at hu
   split at hu
   ·exact hu
   ·cases hu
theorem dkAppend_any (w : World) (F : Nat → Prop) (b n : Nat) (d : DiskD) (name : Nm) (a2 : Option Addr) (c2 : Nat) (bs : List UInt8) (h : DiskAt w F b d) (hk : DiskOk2 n d) (hn : n ≤ 1000000) (hnm : name.length ≤ 1000)
 (hb : Reads w 1 (.slice a2 bs.length c2) bs.length (u8s bs)) (hbl : bs.length ≤ 1099511627776) (hbF : ∀ x ∈ ownB (.slice a2 bs.length c2), ¬ F x) :
 Calls Tryz.prog 101 #[ptrV b, .string (str name), .slice a2 bs.length c2] w (DiskEnds w F b (dappend d name bs)) := by
 have HC := hid (dkCall_at w F b d h ⟨hk.c0, by have := hk.c1; omega⟩ ⟨hk.a0, hk.a1⟩)
 have x6 : w.cell? ⟨b, 6, none⟩ = some (.bool d.off) := by
  obtain ⟨bm, L, h1, h2, h3, h4, h5, h6⟩ := h
  unfold diskRow at h4
  exact cell_of_block h4 6
 have HNM := hid hnm
 have HB := hid hb
 have HBL := hid hbl
 have HBF := hid hbF
 obtain ⟨r, hr⟩ : ∃ r, dcall d = r := ⟨_, rfl⟩
 obtain ⟨d1, r⟩ := r
 have HK : Hid (DiskOk2 (n + 1) d1) := by
  have := dcall_ok hk
  rw [hr] at this
  exact this
 have HR := hid hr
 rw [hr] at HC
 dsimp only at HC
 clear hr h hk hnm hb hbl hbF
 unfold ptrV
 obtain ⟨off, hoff⟩ : ∃ off, d.off = off := ⟨_, rfl⟩
 rw [hoff] at x6
 have HOFF := hid hoff
 clear hoff
 go_enter Tryz.func101, Tryz.ntmps101
 go_wp2_with fail
 refine HC.out.mono ?_
 rintro e w1 ⟨rfl, hat, hk1, hFb⟩
 have K1 := hid hk1
 have HFB := hid hFb
 have HAT1 := hid hat
 obtain ⟨bm, L, h1, h2, h3, h4, h5, h6⟩ := hat
 have HAT := hid (And.intro h1 (And.intro h2 (And.intro h3 (And.intro h4 (And.intro h5 h6)))))
 have HF := hid (dkFind_any w1 b bm _ d1 L name h4 h5 HNM.out)
 have HFI := hid (foundV_is (name := name) h1)
 clear hk1 hFb h1 h2 h3 h4 h5 h6
 go_wp2_with fail
 refine HF.out.mono ?_
 rintro e w2 ⟨rfl, hk2⟩
 have K2 := hid hk2
 have HSAME : Hid (DiskPost w F b d1 w2) := ((DiskPost.same HAT1.out hk2) : DiskPost w1 F b d1 w2).of K1.out HFB.out
 have HB2 : Hid (Reads w2 1 (.slice a2 bs.length c2) bs.length (u8s bs)) := (HB.out.keeps K1.out (fun x hx hm => by simp at hm; exact HBF.out x hx (by rw [hm]; exact HFB.out))).keeps hk2 (fun _ _ h => by cases h)
 have HPUT : Hid (∀ fb f (a3 : Option Addr) (c3 : Nat) (cs : List UInt8), getA L name = some (fb, f) → Reads w2 1 (.slice a3 cs.length c3) cs.length (u8s cs) → cs.length ≤ 1099511627776 → Calls Tryz.prog 164 #[.pointer (some ⟨b, 0, none⟩), .pointer (some ⟨fb, 0, none⟩), .slice a3 cs.length c3] w2 (DiskEnds w F b (dput d1 name f cs))) := fun fb f a3 c3 cs hg hrd hl => by
  obtain ⟨h1, h2, h3, h4, h5, h6⟩ := HAT.out
  have hp := dkPut_any w2 F b (n + 1) bm fb d1 L name f a3 c3 cs h1 h2 h3 ((K2.out.block b (Array.getElem?_eq_some_iff.1 h4).1 (by simp)).trans h4) (ownsFm_keep h5 K2.out (by simp)) (fun p hp => (h6 p hp).keep K2.out (by simp) (fun _ _ => by simp)) hg HK.out hrd hl
  exact hp.mono fun e w' he => DiskEnds.of (K1.out.trans K2.out (fun _ _ h => by cases h)) HFB.out he
 clear hk2
 rcases HFI.out with ⟨g1, g2, g3⟩ | ⟨fb, f, g0, g1, g2⟩
 ·rw [g2]
  have q2 : (dmiss name != 0) = true := by simpa using g3
  have q3 : (dmiss name == 0) = false := by simpa using g3
  have HG := hid g1
  clear g1 g2 g3
  by_cases hr0 : r = 0
  ·subst hr0
   have HO : Hid (dappend d name bs = (d1, dmiss name)) := by
    show _ = _
    unfold dappend
    rw [HR.out]
    have hd : dfind d name = none := by have := HG.out; unfold dfind at this ⊢; rwa [show d1.files = d.files by have := (dcall_files d).1; rwa [HR.out] at this] at this
    rw [hd]
    rfl
   go_wp2_with fail
   go_ret
   exact ⟨by rw [HO.out]; rfl, by rw [HO.out]; exact HSAME.out⟩
  ·have q : (r != 0) = true := by simpa using hr0
   have HO : Hid (dappend d name bs = (d1, r)) := by
    show _ = _
    unfold dappend
    rw [HR.out]
    have hd : dfind d name = none := by have := HG.out; unfold dfind at this ⊢; rwa [show d1.files = d.files by have := (dcall_files d).1; rwa [HR.out] at this] at this
    rw [hd, if_pos (by exact hr0)]
    simp
   clear hr0
   rcases off with _ | _ <;>
   ·go_wp2_with fail
    go_ret
    exact ⟨by rw [HO.out]; rfl, by rw [HO.out]; exact HSAME.out⟩
 ·rw [g2]
  have HG := hid g1
  have HG0 := hid g0
  clear g0 g1 g2
  have hd : dfind d name = some f := by have := HG.out; unfold dfind at this ⊢; rwa [show d1.files = d.files by have := (dcall_files d).1; rwa [HR.out] at this] at this
  have HDF := hid hd
  clear hd
  by_cases hr0 : r = 0
  ·subst hr0
   have HO : Hid (dappend d name bs = dput d1 name f bs) := by
    show _ = _
    unfold dappend
    rw [HR.out, HDF.out]
    rfl
   go_wp2_with fail
   refine (HPUT.out fb f a2 c2 bs HG0.out HB2.out HBL.out).mono ?_
   rintro e w3 ⟨rfl, hp⟩
   have HP := hid hp
   clear hp
   go_wp2_with fail
   go_ret
   rw [HO.out]
   exact ⟨rfl, HP.out⟩
  ·have q : (r != 0) = true := by simpa using hr0
   rcases off with _ | _
   ·have HO : Hid (dappend d name bs = ((dput d1 name f (bs.take (bs.length / 2))).1, r)) := by
     show _ = _
     unfold dappend
     rw [HR.out, HDF.out, if_pos (by exact hr0), HOFF.out]
     rfl
    clear hr0
    obtain ⟨m, hm⟩ : ∃ m, bs.length / 2 = m := ⟨_, rfl⟩
    rw [hm] at HO
    have hbl := HBL.out
    have hw1 : wrap64 ((bs.length : Int) / 2) = (m : Int) := by unfold wrap64; omega
    obtain ⟨hrd, hmc⟩ := HB2.out.pre rfl (m := m) (by omega)
    have hlm : (bs.take m).length = m := by rw [List.length_take]; omega
    have hp := HPUT.out fb f a2 c2 (bs.take m) HG0.out (by rw [hlm]; exact hrd) (by omega)
    rw [hlm] at hp
    have HP := hid hp
    have hmi : (m : Int) ≤ (c2 : Int) := by omega
    clear hp hrd hlm hm hbl hmc
    go_wp2_with fail
    refine HP.out.mono ?_
    rintro e w3 ⟨rfl, hp⟩
    have HP3 := hid hp
    clear hp
    go_wp2_with fail
    go_ret
    rw [HO.out]
    exact ⟨rfl, HP3.out⟩
   ·have HO : Hid (dappend d name bs = (d1, r)) := by
     show _ = _
     unfold dappend
     rw [HR.out, if_pos (by exact hr0), HOFF.out]
     simp
    clear hr0
    go_wp2_with fail
    go_ret
    exact ⟨by rw [HO.out]; rfl, by rw [HO.out]; exact HSAME.out⟩
theorem blocks_inj {L : List (Nm × (Nat × FileD))} (h : (L.map (·.2.1)).Nodup) {p q : Nm × (Nat × FileD)} (hp : p ∈ L) (hq : q ∈ L) (e : p.2.1 = q.2.1) : p = q := by
 obtain ⟨i, hi, rfl⟩ := List.mem_iff_getElem.1 hp
 obtain ⟨j, hj, rfl⟩ := List.mem_iff_getElem.1 hq
 have e1 : (L.map (·.2.1))[i]'(by simpa using hi) = (L.map (·.2.1))[j]'(by simpa using hj) := by simpa using e
 have := (List.getElem_inj h).1 e1
 subst this
 rfl
theorem DiskAt.turned {w w' : World} {F : Nat → Prop} {b bm n : Nat} {L L' : List (Nm × (Nat × FileD))} {d : DiskD} (h2 : (diskW b bm L).Nodup) (h3 : ∀ x ∈ diskW b bm L, F x)
 (h4 : w.heap[b]? = some (.cells (diskRow d (.map (some bm))) 89 (0, 0)))
 (h6 : ∀ p ∈ L, FileAt w (fun c => F c ∧ c ∉ diskW b bm L) p.2.1 p.2.2)
 (hown : w'.ownsMap Tryz.prog 9 heldR bm n (fmV (mapA (fun p => ptrV p.1) L'))) (hsub : ∀ p ∈ L', ∃ q ∈ L, q.2 = p.2) (hnd : (L'.map (·.2.1)).Nodup) (k : Keeps [bm] w w') :
 DiskAt w' F b { d with files := mapA (·.2) L' } := by
 have hbb : b ≠ bm := by unfold diskW at h2; simp at h2; exact h2.1.1
 have hs : ∀ x ∈ L'.map (·.2.1), x ∈ L.map (·.2.1) := fun x hx => by
  obtain ⟨p, hp, rfl⟩ := List.mem_map.1 hx
  obtain ⟨q, hq, e⟩ := hsub p hp
  exact List.mem_map.2 ⟨q, hq, by rw [e]⟩
 have hW : ∀ x ∈ diskW b bm L', x ∈ diskW b bm L := fun x hx => by
  unfold diskW at hx ⊢
  simp only [List.mem_cons] at hx ⊢
  exact hx.imp id (fun h => h.imp id (hs x))
 have h2' := h2
 unfold diskW at h2'
 rw [List.nodup_cons, List.nodup_cons] at h2'
 refine ⟨bm, L', rfl, ?_, fun x hx => h3 x (hW x hx), (k.block b (Array.getElem?_eq_some_iff.1 h4).1 (by simpa using hbb)).trans h4, ?_, fun p hp => ?_⟩
 ·unfold diskW
  rw [List.nodup_cons, List.nodup_cons]
  refine ⟨fun hm => h2'.1 ?_, fun hm => h2'.2.1 (hs _ hm), hnd⟩
  rcases List.mem_cons.1 hm with h | h
  ·simp [h]
  ·exact List.mem_cons_of_mem _ (hs _ h)
 ·have := ownsFm_len hown
  rwa [show (mapA (fun p : Nat × FileD => ptrV p.1) L').length = L'.length by simp [mapA]] at this
 ·obtain ⟨q, hq, e⟩ := hsub p hp
  have hqn : q.2.1 ≠ bm := fun e => h2'.2.1 (by rw [← e]; exact List.mem_map.2 ⟨q, hq, rfl⟩)
  have := ((h6 q hq).keep k (by simpa using hqn) (fun c hc hm => by simp at hm; exact hc.2 (by rw [hm]; simp [diskW]))).mono (P' := fun c => F c ∧ c ∉ diskW b bm L') (fun c _ hc => ⟨hc.1, fun hm => hc.2 (hW c hm)⟩)
  rw [← e]
  exact this
theorem nodup_del {L : List (Nm × (Nat × FileD))} (h : (L.map (·.2.1)).Nodup) (n : Nm) : ((delA L n).map (·.2.1)).Nodup := by
 unfold delA
 exact List.Nodup.sublist (List.Sublist.map _ List.filter_sublist) h
theorem nodup_rename {L : List (Nm × (Nat × FileD))} {old new : Nm} {fb : Nat} {f : FileD} (h : (L.map (·.2.1)).Nodup) (hg : getA L old = some (fb, f)) : ((putA (delA L old) new (fb, f)).map (·.2.1)).Nodup := by
 have hp := ((perm_insA (new, (fb, f)) (delA (delA L old) new)).map (·.2.1)).nodup_iff
 unfold putA
 rw [hp, List.map_cons, List.nodup_cons]
 refine ⟨fun hm => ?_, nodup_del (nodup_del h old) new⟩
 obtain ⟨p, hp1, hp2⟩ := List.mem_map.1 hm
 have h1 := (mem_delA.1 hp1).1
 have h2 := mem_delA.1 h1
 have := blocks_inj h h2.1 (getA_mem hg) (by exact hp2)
 exact h2.2 (by rw [this])
theorem dkRename_any (w : World) (F : Nat → Prop) (b n : Nat) (d : DiskD) (old new : Nm) (h : DiskAt w F b d) (hk : DiskOk2 n d) (hn : n ≤ 1000000) (hnm : old.length ≤ 1000) (hnn : new.length ≤ 1000) :
 Calls Tryz.prog 104 #[ptrV b, .string (str old), .string (str new)] w (DiskEnds w F b (drename d old new)) := by
 have HC := hid (dkCall_at w F b d h ⟨hk.c0, by have := hk.c1; omega⟩ ⟨hk.a0, hk.a1⟩)
 have HNM := hid hnm
 have HNN := hid hnn
 obtain ⟨r, hr⟩ : ∃ r, dcall d = r := ⟨_, rfl⟩
 obtain ⟨d1, r⟩ := r
 have HK : Hid (DiskOk2 (n + 1) d1) := by
  have := dcall_ok hk
  rw [hr] at this
  exact this
 have HFF : Hid (d1.files = d.files) := by have := (dcall_files d).1; rw [hr] at this; exact this
 have HR := hid hr
 rw [hr] at HC
 dsimp only at HC
 clear hr h hk hnm hnn
 unfold ptrV
 by_cases hr0 : r = 0
 ·subst hr0
  go_enter Tryz.func104, Tryz.ntmps104
  go_wp2_with fail
  refine HC.out.mono ?_
  rintro e w1 ⟨rfl, hat, hk1, hFb⟩
  have K1 := hid hk1
  have HFB := hid hFb
  have HAT1 := hid hat
  obtain ⟨bm, L, h1, h2, h3, h4, h5, h6⟩ := hat
  have HAT := hid (And.intro h1 (And.intro h2 (And.intro h3 (And.intro h4 (And.intro h5 h6)))))
  clear hk1 hFb h1 h2 h3 h4 h5 h6
  go_wp2_with fail
  have hna := dkNamed_any (w1.alloc (.cells #[.string (str old), .string (str new)] 9)) w1.heap.size [str old, str new] (by simp) (fun i s hs => by
   match i, hs with
   | 0, hs => simp at hs; subst hs; exact cell_of_block (heap_alloc_new w1 _) 0
   | 1, hs => simp at hs; subst hs; exact cell_of_block (heap_alloc_new w1 _) 1
   | i + 2, hs => simp at hs)
  refine hna.mono ?_
  rintro e w2 ⟨rfl, hk2⟩
  have K2 : Hid (Keeps [] w1 w2) := Keeps.trans (F := []) (G := []) (by exact Keeps.K) hk2 (fun _ _ h => h)
  rw [show ([str old, str new].all namedS) = (fnamedP old && fnamedP new) by simp [named_str]]
  clear hk2 hna
  have HSAME : Hid (∀ w', Keeps [] w1 w' → DiskPost w F b d1 w') := fun w' k => ((DiskPost.same HAT1.out k) : DiskPost w1 F b d1 w').of K1.out HFB.out
  rcases hnp : (fnamedP old && fnamedP new) with _ | _
  ·have HO : Hid (drename d old new = (d1, 1)) := by
    show _ = _
    unfold drename
    rw [HR.out, if_neg (by simp), if_pos (by revert hnp; cases fnamedP old <;> cases fnamedP new <;> simp)]
   clear hnp
   go_wp2_with fail
   go_ret
   exact ⟨by rw [HO.out]; rfl, by rw [HO.out]; exact HSAME.out _ K2.out⟩
  ·have hno : fnamedP old = true ∧ fnamedP new = true := by simpa using hnp
   have HF := hid (dkFind_any w2 b bm _ d1 L old ((K2.out.block b (Array.getElem?_eq_some_iff.1 HAT.out.2.2.2.1).1 (by simp)).trans HAT.out.2.2.2.1) (ownsFm_keep HAT.out.2.2.2.2.1 K2.out (by simp)) HNM.out)
   have HNO := hid hno
   clear hnp hno
   go_wp2_with fail
   refine HF.out.mono ?_
   rintro e w3 ⟨rfl, hk3⟩
   have K3 : Hid (Keeps [] w1 w3) := K2.out.trans hk3 (fun _ _ h => h)
   clear hk3
   have hfi := foundV_is (name := old) HAT.out.1
   rcases hfi with ⟨g1, g2, g3⟩ | ⟨fb, f, g0, g1, g2⟩
   ·rw [g2]
    have hdm : dmiss old = 3 := by unfold dmiss; rw [if_pos HNO.out.1]
    rw [hdm]
    have HO : Hid (drename d old new = (d1, 3)) := by
     show _ = _
     unfold drename
     have hg : getA d.files old = none := by unfold dfind at g1; rwa [if_pos HNO.out.1, HFF.out] at g1
     rw [HR.out, if_neg (by simp), if_neg (by rw [HNO.out.1, HNO.out.2]; simp), hg]
    clear g1 g2 g3 hdm
    go_wp2_with fail
    go_ret
    exact ⟨by rw [HO.out]; rfl, by rw [HO.out]; exact HSAME.out _ K3.out⟩
   ·rw [g2]
    have HO : Hid (drename d old new = ({ d1 with files := putA (delA d.files old) new f }, 0)) := by
     show _ = _
     unfold drename
     have hg : getA d.files old = some f := by unfold dfind at g1; rwa [if_pos HNO.out.1, HFF.out] at g1
     rw [HR.out, if_neg (by simp), if_neg (by rw [HNO.out.1, HNO.out.2]; simp), hg]
    have hb3 := (K3.out.block b (Array.getElem?_eq_some_iff.1 HAT.out.2.2.2.1).1 (by simp)).trans HAT.out.2.2.2.1
    have x1 : w3.cell? ⟨b, 1, none⟩ = some (.map (some bm)) := by unfold diskRow at hb3; exact cell_of_block hb3 1
    have HM3 := hid (ownsFm_keep HAT.out.2.2.2.2.1 K3.out (by simp))
    have HG0 := hid g0
    have HLEN : Hid (L.length ≤ 64) := by have := HK.out.files; rw [HAT.out.1] at this; show _ ≤ _; simpa [mapA] using this
    have hbm : bm ≠ b := by have h2 := HAT.out.2.1; unfold diskW at h2; simp at h2; exact fun e => h2.1.1 e.symm
    have HBM := hid hbm
    have HEND : Hid (∀ w4 w5 : World, w4.ownsMap Tryz.prog 9 heldR bm L.length ((fmV (mapA (fun p => ptrV p.1) L)).del (.string old)) → World.mapTurned w3 w4 bm → w5.ownsMap Tryz.prog 9 heldR bm (L.length + 1) (((fmV (mapA (fun p => ptrV p.1) L)).del (.string old)).put (.string new) (.held (.pointer (some ⟨fb, 0, none⟩)))) → World.mapTurned w4 w5 bm → DiskPost w F b { d1 with files := putA (delA d.files old) new f } w5) := fun w4 w5 _ t4 o5 t5 => by
     obtain ⟨h1, h2, h3, h4, h5, h6⟩ := HAT.out
     rw [fm_del, fm_put] at o5
     have e1 : putA (delA (mapA (fun p => ptrV p.1) L) old) new (ptrV fb) = mapA (fun p => ptrV p.1) (putA (delA L old) new (fb, f)) := by rw [putA_map, delA_map]
     have e2 : mapA (·.2) (putA (delA L old) new (fb, f)) = putA (delA d.files old) new f := by rw [putA_map, delA_map, ← h1, HFF.out]
     have hk : Keeps [bm] w1 w5 := ((K3.out.mono (G := [bm]) (fun _ _ h => by cases h)).trans (turned_keeps t4) (fun _ _ h => h)).trans (turned_keeps t5) (fun _ _ h => h)
     have hnd : (L.map (·.2.1)).Nodup := by have h2' := h2; unfold diskW at h2'; rw [List.nodup_cons, List.nodup_cons] at h2'; exact h2'.2.2
     have := DiskAt.turned (n := L.length + 1) (L' := putA (delA L old) new (fb, f)) h2 h3 h4 h6 (by rw [← e1]; exact o5) (fun p hp => by
      rcases mem_putA.1 hp with rfl | ⟨hp, _⟩
      ·exact ⟨_, getA_mem HG0.out, rfl⟩
      ·exact ⟨p, (mem_delA.1 hp).1, rfl⟩) (nodup_rename hnd HG0.out) hk
     rw [e2] at this
     exact DiskPost.of K1.out HFB.out ⟨F, this, fun _ h => .inl h, KeepsP.of hk (by simpa using h3 bm (by simp [diskW]))⟩
    clear g0 g1 g2 hbm hb3
    go_wp2_with (first
     | (at_delete; refine wpList_delete_own _ rfl _ _ _ _ rfl _ nameKeyed Tryz.underlying87 heldR bm L.length _ rfl HM3.out _ _ rfl (nameKey old HNM.out) ?_; intro w4 ho4 ht4; have y1 : w4.cell? ⟨b, 1, none⟩ = some (.map (some bm)) := (turned_keeps ht4).cellSome x1 (by simpa using fun e => HBM.out e.symm); have HO4 := hid ho4; have HT4 := hid ht4; clear ho4 ht4)
     | (at_mapUpdate; refine wpList_mapUpdate_in _ rfl _ _ _ _ rfl _ _ nameKeyed Tryz.underlying87 heldR bm L.length _ rfl HO4.out (by have := HLEN.out; unfold maxLen; omega) _ _ _ rfl rfl (nameKey new HNN.out) _ _ rfl ?_; intro w5 ho5 ht5; have HE := hid (HEND.out _ w5 HO4.out HT4.out ho5 ht5); clear ho5 ht5))
    go_ret
    exact ⟨by rw [HO.out]; rfl, by rw [HO.out]; exact HE.out⟩
 ·have q : (r != 0) = true := by simpa using hr0
  have HO : Hid (drename d old new = (d1, r)) := by
   show _ = _
   unfold drename
   rw [HR.out, if_pos hr0]
  clear hr0
  go_enter Tryz.func104, Tryz.ntmps104
  go_wp2_with fail
  refine HC.out.mono ?_
  rintro e w1 ⟨rfl, hat, hk1, hFb⟩
  have HP : Hid (DiskPost w F b d1 w1) := ⟨F, hat, fun _ h => .inl h, KeepsP.of hk1 (by simpa using hFb)⟩
  clear hat hk1 hFb
  go_wp2_with fail
  go_ret
  exact ⟨by rw [HO.out]; rfl, by rw [HO.out]; exact HP.out⟩
def strL : Lay (List UInt8) where
 size := 1
 pos := by decide
 at_ _ _ cs s := cs = [.string (str s)]
 len := fun h => by rw [h]; rfl
 one := fun h u hu => by
  rw [h] at hu
  simp at hu
  subst hu
  rfl
 keep := fun h _ _ => h
 mono := fun h _ => h
theorem Tryz.infoStr : (Tryz.prog.info? 9).map (fun i => (i.zero, i.size, i.bytes)) = some (some (.string ⟨#[]⟩), 1, 16) := by kernel_rfl
theorem before_le : ∀ (a b : List UInt8), bytesBefore a b = true → a ≤ b
 | [], _, _ => List.nil_le _
 | _ :: _, [], h => by simp [bytesBefore] at h
 | a :: r, b :: s, h => by
   simp only [bytesBefore, Bool.or_eq_true, decide_eq_true_eq, Bool.and_eq_true, beq_iff_eq] at h
   rcases h with h | ⟨rfl, h⟩
   ·exact List.le_of_lt (List.cons_lt_cons_iff.2 (.inl h))
   ·exact List.cons_le_cons_iff.2 (.inr ⟨rfl, before_le r s h⟩)
theorem sorted_names {l : List (Nm × Value)} (h : l.Pairwise (fun p q => bytesBefore p.1 q.1 = true)) : (l.map (·.1)).mergeSort leB = l.map (·.1) := by
 refine List.mergeSort_of_pairwise ?_
 rw [List.pairwise_map]
 exact h.imp (fun {a b} hab => by simpa [leB] using before_le _ _ hab)
theorem ranges_keep {P : Program} {F : List Nat} {w w' : World} {k : TypeId} {b r n cnt : Nat} {D : DataW Value} {left : Lit → Bool} (h : w.ranges P k heldR b r n D left cnt) (hk : Keeps F w w') (hb : b ∉ F) (hr : r ∉ F) : w'.ranges P k heldR b r n D left cnt := by
 have h1 := h.owns.lt
 have h2 := h.lt
 obtain ⟨es, clock, since, seen, c0, hb', F', hs, hD, hr', rest⟩ := h
 exact ⟨es, clock, since, seen, c0, (hk.block b h1 hb).trans hb', F', hs, hD, (hk.block r h2 hr).trans hr', rest⟩
theorem sort_cells (ss : List (List UInt8)) (cur : Array Value) (h : ss.length ≤ cur.size) : (Sort.putCells encStr 0 ss.toArray cur).toList.take ss.length = ss.map fun s => .string (str s) := by
 apply List.ext_getElem?
 intro j
 rw [List.getElem?_take]
 split
 ·rename_i hj
  unfold Sort.putCells
  simp only [Array.getElem?_toList, Array.getElem?_mapIdx, List.getElem?_map, List.size_toArray]
  rw [Array.getElem?_eq_getElem (by omega), List.getElem?_eq_getElem hj]
  simp only [Option.map_some, Nat.zero_le, true_and, Nat.zero_add, Nat.sub_zero]
  rw [if_pos hj]
  simp [encStr, str, hj]
 ·rename_i hj
  rw [List.getElem?_eq_none (by simp; omega)]
theorem keeps_sort (w : World) (n g : Nat) (f : Array Value → Array Value) (os : Array Obj) : Keeps [g] w (Sort.grow (Sort.mapBlock (Sort.ahead w n) g f) os) := by
 refine ⟨rfl, rfl, rfl, ?_, fun k hk hn => ?_⟩
 ·show w.heap.size ≤ (w.heap.modify g (Sort.onCells f) ++ os).size
  simp
 ·show (w.heap.modify g (Sort.onCells f) ++ os)[k]? = _
  rw [Array.getElem?_append_left (by simpa using hk), Array.getElem?_modify]
  rw [if_neg (by simpa using fun e => hn (by simp [e]))]
theorem sort_own (w : World) (base : Nat) (v : Value) (ss : List (List UInt8)) (hown : w.ownsRow base 9 1 v ss.length (ss.map fun s => .string (str s))) (hs : ss.length ≤ 1000000) :
 Calls Tryz.prog 145 #[v] w fun e w' => e = .returned (.tuple #[]) ∧ w'.ownsRow base 9 1 v ss.length ((ss.mergeSort leB).map fun s => .string (str s)) ∧ Keeps (ownB v) w w' := by
 obtain ⟨hl, ⟨rfl, hx⟩ | ⟨g, cap, cur, rfl, hb, hg, hnc, hcm, hcs, htake⟩⟩ := hown
 ·have h0 : ss = [] := by simpa using hx
  subst h0
  refine (Any.slices_Sort_string_none Tryz.lays190 none 0 w).mono ?_
  rintro e w' ⟨rfl, rfl⟩
  exact ⟨rfl, by rw [List.mergeSort_nil]; exact World.ownsRow_nil _ _ _ _, Keeps.refl _ _⟩
 ·rcases Nat.eq_zero_or_pos ss.length with h0 | hp
  ·have h0' : ss = [] := List.eq_nil_of_length_eq_zero h0
   subst h0'
   refine (Any.slices_Sort_string_none Tryz.lays190 (some ⟨g, 0, none⟩) cap w).mono ?_
   rintro e w' ⟨rfl, rfl⟩
   exact ⟨rfl, ⟨by simp, .inr ⟨g, cap, cur, rfl, hb, hg, hnc, hcm, hcs, by rw [List.mergeSort_nil]; simp⟩⟩, Keeps.refl _ _⟩
  ·have hsz : ss.length ≤ cur.size := by
    have := congrArg List.length htake
    simp at this
    omega
   have hH : Sort.Holds encStr w g 0 ss.toArray := fun j hj => by
    simp at hj
    refine ⟨?_, frozen_of_row w g _ _ _ hg⟩
    rw [Nat.zero_add, cell_of_row w g j cur _ (0, 0) hg]
    have := congrArg (fun l : List Value => l[j]?) htake
    simp only [Nat.mul_one, List.getElem?_take, hj, if_true, List.getElem?_map, Array.getElem?_toList] at this
    rw [this, List.getElem?_eq_getElem hj]
    simp [encStr, str, hj]
   refine (Tryz.slices_Sort_string g 0 cap ss w hH (Array.getElem?_eq_some_iff.1 hg).1 (by omega)).mono ?_
   rintro e w' ⟨rfl, n, os, rfl⟩
   refine ⟨rfl, ⟨by simp, .inr ⟨g, cap, Sort.putCells encStr 0 (ss.mergeSort leB).toArray cur, rfl, hb, ?_, hnc, hcm, by simp [Sort.putCells]; omega, ?_⟩⟩, ?_⟩
   ·show (w.heap.modify g _ ++ os)[g]? = _
    rw [Array.getElem?_append_left (by simpa using (Array.getElem?_eq_some_iff.1 hg).1), Array.getElem?_modify, if_pos rfl, hg]
    rfl
   ·have := sort_cells (ss.mergeSort leB) cur (by simpa using hsz)
    rw [List.length_mergeSort] at this
    simpa using this
   ·exact (keeps_sort w n g _ os).mono (fun x _ hm => by simpa [mem_ownB, Value.ownBlock, eq_comm] using hm)
theorem strs_flat (ss : List (List UInt8)) : ((ss.map fun s => [Value.string (str s)]).flatten) = ss.map fun s => .string (str s) := by
 induction ss with
 | nil => rfl
 | cons s r ih => simp [ih]
theorem strL_elems (w : World) (P : Nat → Prop) (ss : List (List UInt8)) : ElemsAt strL w P (ss.map fun s => [Value.string (str s)]) ss := by
 refine ⟨by simp, fun i cs a hc ha => ?_⟩
 rw [List.getElem?_map, ha] at hc
 simp at hc
 exact hc.symm
theorem strL_css {w : World} {P : Nat → Prop} {css : List (List Value)} {ss : List (List UInt8)} (h : ElemsAt strL w P css ss) : css = ss.map fun s => [Value.string (str s)] := by
 apply List.ext_getElem?
 intro i
 rw [List.getElem?_map]
 rcases Nat.lt_or_ge i ss.length with hi | hi
 ·have hc : i < css.length := by rw [h.1]; exact hi
  have := h.2 i _ _ (List.getElem?_eq_getElem hc) (List.getElem?_eq_getElem hi)
  rw [List.getElem?_eq_getElem hc, List.getElem?_eq_getElem hi, this]
  rfl
 ·rw [List.getElem?_eq_none (by rw [h.1]; exact hi), List.getElem?_eq_none hi]
  rfl
theorem strL_owns {w : World} {base : Nat} {P : Nat → Prop} {v : Value} {ss : List (List UInt8)} (h : OwnAt strL 9 w base P v ss) : w.ownsRow base 9 1 v ss.length (ss.map fun s => .string (str s)) := by
 obtain ⟨css, h1, h2⟩ := h
 rw [strL_css h1, strs_flat] at h2
 exact h2
theorem strL_own {w : World} {base : Nat} {P : Nat → Prop} {v : Value} {ss : List (List UInt8)} (h : w.ownsRow base 9 1 v ss.length (ss.map fun s => .string (str s))) : OwnAt strL 9 w base P v ss :=
 ⟨_, strL_elems w P ss, by rw [strs_flat]; exact h⟩
theorem fm_at_some {n : Nm} {v : Value} : ∀ {l : List (Nm × Value)}, getA l n = some v → ∀ zd, (fmV l).atKey (.string n) zd = .held v
 | [], h, _ => by simp [getA] at h
 | (m, b) :: r, h, zd => by
   have hk : (Lit.string m).sameKey (Lit.string n) = (m == n) := rfl
   unfold getA at h
   have ih := fun (h : getA r n = some v) => fm_at_some (l := r) h zd
   unfold fmV at ih ⊢
   simp only [List.map_cons, DataW.atKey, List.find?_cons, hk] at ih ⊢
   rcases hb : m == n with _ | _
   ·rw [hb] at h
    simpa using ih h
   ·rw [hb] at h
    simp at h
    simp [h]
def NamesPost (w : World) (l : List Nm) (e : Ending) (w' : World) : Prop := ∃ a c, e = .returned (.slice a l.length c) ∧ OwnAt strL 9 w' w.heap.size (fun _ => False) (.slice a l.length c) l ∧ Keeps [] w w'
theorem dkList_any (w : World) (F : Nat → Prop) (b : Nat) (d : DiskD) (h : DiskAt w F b d) (hf : d.files.length ≤ 1000) :
 Calls Tryz.prog 85 #[.pointer (some ⟨b, 0, none⟩)] w (NamesPost w (dlist d)) := by
 obtain ⟨it, hi0, hz0, hz1, hz2⟩ := info_parts Tryz.infoStr
 obtain ⟨bm, L, h1, h2, h3, h4, h5, h6⟩ := h
 have x1 : w.cell? ⟨b, 1, none⟩ = some (.map (some bm)) := by unfold diskRow at h4; exact cell_of_block h4 1
 have HLL : Hid (L.length ≤ 1000) := by rw [h1] at hf; show _ ≤ _; simpa [mapA] using hf
 have HM := hid h5
 have HNAMES : Hid ((mapA (fun p => ptrV p.1) L).map (·.1) = dlist d) := by show _ = _; unfold dlist; rw [h1]; simp [mapA, Function.comp_def]
 have hbm := h5.lt
 have HBM := hid hbm
 clear h1 h2 h3 h4 h6 hf hbm h5
 go_enter Tryz.func85, Tryz.ntmps85
 go_wp2_with (at_range; refine wpList_range_own _ rfl _ _ rfl _ _ nameKeyed Tryz.underlying87 heldR bm L.length _ rfl HM.out ?_; intro w0 hrg0 hg0 hs0)
 have HK0 : Hid (Keeps [] w w0) := Keeps.ofGrown hg0 (fun k hk => by cases hk)
 have HR0 := hid hrg0
 have HS0 := hid hs0
 clear hrg0 hg0 hs0
 go_frame
 go_loopw [3] (fun v wr => ∃ (left : Lit → Bool) (cnt : Nat) (ss : List Nm) (a : Option Addr) (c n : Nat), v = .slice a n c ∧ Hid ((ss.length = n ∧ ss.length + cnt ≤ L.length) ∧ wr.ranges Tryz.prog 9 heldR bm w.heap.size L.length (fmV (mapA (fun p => ptrV p.1) L)) left cnt ∧ Collected (fmV (mapA (fun p => ptrV p.1) L)) left ss ∧ OwnAt strL 9 wr (w.heap.size + 1) (fun _ => False) (.slice a n c) ss ∧ Keeps [w.heap.size] w wr ∧ w.heap.size + 1 ≤ wr.heap.size)) (fun _ wr => wr.rangeLeft bm w.heap.size)
 case atStart => exact ⟨_, _, [], none, 0, 0, rfl, ⟨rfl, by rw [fm_size]; simp [mapA]⟩, HR0.out, Collected.start _, OwnAt.nil _ _ _ _, HK0.out.mono (fun _ _ h => by cases h), Nat.le_of_eq HS0.out.symm⟩
 case round =>
  obtain ⟨left, cnt, ss, a, c, n, rfl, hW⟩ := hrel
  have HW := hid hW.out
  clear hW
  have hn : n ≤ 1000 := by
   obtain ⟨e1, _⟩ := HW.out
   have := HLL.out
   omega
  have HN := hid hn
  clear hn
  go_wp2_with (at_next; refine wpList_next_fm _ rfl _ rfl bm w.heap.size L.length _ left cnt rfl HW.out.2.1 ?_ ?_)
  ·intro _ hl
   obtain ⟨e1, e2, e3, e4, e5, e6⟩ := HW.out
   have hperm := e3.perm e2.owns nameKeyed Tryz.underlying9 hl
   have hkeys : strKeys (fmV (mapA (fun p => ptrV p.1) L)) = dlist d := by
    rw [← HNAMES.out]
    simp [strKeys, fmV, strOf, Function.comp_def]
   have hms : ss.mergeSort leB = dlist d := by
    rw [mergeSort_of_perm hperm, hkeys, ← HNAMES.out]
    exact sorted_names (fm_rising HM.out)
   obtain ⟨e1, e0⟩ := e1
   subst e1
   have hso := sort_own wr (w.heap.size + 1) (.slice a ss.length c) ss (strL_owns e4) (by have := HN.out; omega)
   rw [hms] at hso
   have HSO := hid hso
   have HLEN : Hid (ss.length = (dlist d).length) := by show _ = _; rw [← hms, List.length_mergeSort]
   have HE5 := hid e5
   have HOB := hid (OwnAt.ge e4)
   clear hl e2 e3 e4 e5 e6 hperm hkeys hms hso
   go_wp2_with fail
   refine HSO.out.mono ?_
   rintro e w2 ⟨rfl, ho, hk⟩
   have HO := hid ho
   have HK := hid hk
   clear ho hk
   go_wp2_with fail
   go_ret
   have hle := HLEN.out
   refine ⟨a, c, by rw [← hle]; rfl, ?_, ?_⟩
   ·rw [← hle]
    have := HO.out
    rw [hle] at this ⊢
    exact (strL_own this).base (by omega)
   ·exact HE5.out.trans HK.out (fun x hx hm => by have := HOB.out x hm; omega) |>.mono (fun x hx hm => by simp at hm; omega)
  ·intro name v w1 cnt1 hg hl hr hc hk hs he
   have hst := HW.out.2.2.1.step hl (y := .held v) (fm_at_some hg)
   have ho1 := HW.out.2.2.2.1.keep hk (fun x hx hm => by have := (OwnAt.ge HW.out.2.2.2.1 x hx).1; simp at hm; omega) (fun _ h => absurd h (by simp))
   have HST := hid hst
   have HO1 := hid ho1
   have HR1 := hid hr
   have HC := hid hc
   have HK1 : Hid (Keeps [w.heap.size] w w1) := HW.out.2.2.2.2.1.trans hk (fun _ _ h => h)
   have HS1 : Hid (w.heap.size + 1 ≤ w1.heap.size) := by show _ ≤ _; rw [hs]; exact HW.out.2.2.2.2.2
   have hne := HW.out.1.1
   have HNE := hid hne
   clear hst ho1 hr hc hk hs hl hg hne
   go_wp2_with (at_builtin; go_must (refine wpList_append_lay (L := strL) (PA := fun _ => False) (PB := fun _ => False) (PC := fun _ => False) _ (by rfl) _ _ _ (by rfl) (w.heap.size + 1) 9 it _ 16 Tryz.underlying69 hi0 hz0 hz1 hz2 rfl (.slice a n c) (by rfl) ss [name] [[.string (str name)]] (HO1.out.k ((Keeps.refl [] _).alloc _)) (.slice (some ⟨w1.heap.size, 0, none⟩) 1 1) (by rfl) 1 rfl (ElemsAt.one1 rfl) (Reads.one1 (heap_alloc_new _ _) rfl) (by have := HN.out; have := HNE.out; omega) (le_maxLen (by have := HN.out; have := HNE.out; omega)) (by have := HS1.out; simp; omega) (fun _ _ h => h) (fun _ _ h => h) (fun _ h => absurd h (by simp)) ?_); intro a5 c5 w5 ho5 hk5 hb5)
   have HA5 : Hid (Keeps [w.heap.size] w w5 ∧ w5.ranges Tryz.prog 9 heldR bm w.heap.size L.length (fmV (mapA (fun p => ptrV p.1) L)) (fun z => left z && !z.sameKey (.string name)) cnt1 ∧ w.heap.size + 1 ≤ w5.heap.size) := by
    have ka : Keeps [] w1 (w1.alloc (.cells #[.string (str name)] 9)) := (Keeps.refl [] _).alloc _
    have hge := fun x hx => (OwnAt.ge HO1.out x hx).1
    have hbl := HBM.out
    exact ⟨(HK1.out.trans ka (fun _ _ h => by cases h)).trans hk5.out (fun x hx hm => by have := hge x hm; omega),
     ranges_keep (ranges_keep HR1.out ka (by simp) (by simp)) hk5.out (fun hm => by have := hge _ hm; omega) (fun hm => by have := hge _ hm; omega),
     Nat.le_trans HS1.out (Nat.le_trans ka.size hk5.out.size)⟩
   have h1 := HC.out
   have h2 := HW.out.1
   refine ⟨⟨_, cnt1, ss ++ [name], a5, c5, ss.length + 1, rfl, ⟨by simp, by simp; omega⟩, HA5.out.2.1, HST.out, ho5.out, HA5.out.1, HA5.out.2.2⟩, ?_⟩
   rw [HA5.out.2.1.left_eq, HW.out.2.1.left_eq]
   exact h1
end Go.Proofs.YtgjiahilbmeaeaaGreatDoor