/- A node opened over a disk without files. -/
import Derived.Test.YtgjiahilbmeaeaaGreatDoorR16
import Derived.Test.YtgjiahilbmeaeaaGreatDoorR22
import Derived.Test.YtgjiahilbmeaeaaGreatDoorR13
import Derived.Test.YtgjiahilbmeaeaaGreatDoorR09
import Derived.Test.YtgjiahilbmeaeaaGreatDoorR10
import Derived.Test.YtgjiahilbmeaeaaGreatDoorR08
import Derived.Deep.CutRange
set_option maxRecDepth 100000
set_option maxHeartbeats 8000000
set_option linter.unusedSimpArgs false
set_option linter.unusedVariables false
namespace Go.Proofs.YtgjiahilbmeaeaaGreatDoor
open Go Go.RowKit
noncomputable def colNew (nb wb tb mb s1 s2 : Nat) (F : Nat → Prop) (b : Nat) : Nat := open Classical in if b = nb then 1 else if b = wb then 2 else if b = tb then 3 else if b = mb then 6 else if s1 ≤ b ∧ b < s2 then 5 else if F b then 4 else 0
section
variable {nb wb tb mb s1 s2 b : Nat} {F : Nat → Prop}
theorem colNew_1 : colNew nb wb tb mb s1 s2 F nb = 1 := by unfold colNew; rw [if_pos rfl]
theorem colNew_2 (h : wb ≠ nb) : colNew nb wb tb mb s1 s2 F wb = 2 := by unfold colNew; rw [if_neg h, if_pos rfl]
theorem colNew_3 (h : tb ≠ nb) (h2 : tb ≠ wb) : colNew nb wb tb mb s1 s2 F tb = 3 := by unfold colNew; rw [if_neg h, if_neg h2, if_pos rfl]
theorem colNew_6 (h : mb ≠ nb) (h2 : mb ≠ wb) (h3 : mb ≠ tb) : colNew nb wb tb mb s1 s2 F mb = 6 := by unfold colNew; rw [if_neg h, if_neg h2, if_neg h3, if_pos rfl]
theorem colNew_5 (h : nb < s1 ∧ wb < s1 ∧ tb < s1 ∧ mb < s1) : colNew nb wb tb mb s1 s2 F b = 5 ↔ s1 ≤ b ∧ b < s2 := by
 unfold colNew
 constructor
 ·intro e
  split at e
  ·cases e
  ·split at e
   ·cases e
   ·split at e
    ·cases e
    ·split at e
     ·cases e
     ·split at e
      ·assumption
      ·split at e <;> cases e
 ·intro e
  rw [if_neg (by omega), if_neg (by omega), if_neg (by omega), if_neg (by omega), if_pos e]
theorem colNew_4 (hF : F b) (h : b ≠ nb) (h2 : b ≠ wb) (h3 : b ≠ tb) (h4 : b ≠ mb) (h5 : b < s1) : colNew nb wb tb mb s1 s2 F b = 4 := by
 unfold colNew
 rw [if_neg h, if_neg h2, if_neg h3, if_neg h4, if_neg (by omega), if_pos hF]
theorem colNew_ne (h : colNew nb wb tb mb s1 s2 F b ≠ 0) : b = nb ∨ b = wb ∨ b = tb ∨ b = mb ∨ (s1 ≤ b ∧ b < s2) ∨ F b := by
 unfold colNew at h
 split at h
 ·exact .inl ‹_›
 ·split at h
  ·exact .inr (.inl ‹_›)
  ·split at h
   ·exact .inr (.inr (.inl ‹_›))
   ·split at h
    ·exact .inr (.inr (.inr (.inl ‹_›)))
    ·split at h
     ·exact .inr (.inr (.inr (.inr (.inl ‹_›))))
     ·split at h
      ·exact .inr (.inr (.inr (.inr (.inr ‹_›))))
      ·exact absurd rfl h
end
def nodeNew (cf : ConfD) (id : Int) (d : DiskD) : NodeD := { conf := cf, id := id, disk := d, wn := 1, wbase := 0, wlast := 0, core := newD cf id 0 0 0 0 [], ap := 0, notes := [], fresh := [], down := false }
def MidN (w1 wx : World) (nb tb mb sb : Nat) (ses : Int) (row : Array Value) : Prop :=
 Keeps [] w1 wx ∧ (w1.heap.size ≤ mb ∧ w1.heap.size ≤ tb ∧ w1.heap.size ≤ nb) ∧ (mb ≠ nb ∧ mb ≠ tb ∧ tb ≠ nb) ∧ MachAt wx mb sb ses 0 ∧ wx.ownsMap Tryz.prog 3 heldR tb 0 (imV []) ∧ wx.heap[nb]? = some (.cells row 55 (0, 0))
theorem mayNew_new {cf : ConfD} {id : Int} (hm : cf.may = true) (h : 1 ≤ id ∧ id ≤ cf.nodes) : mayNewD cf id 0 0 0 0 [] = true := by
 have hn := (ConfD.may_iff cf).1 hm
 have h0 : 0 ≤ cf.nodes := by omega
 simp [mayNewD, inD, hm, h.1, h.2, h0]
theorem noOpen_new (w W0 : World) (F : Nat → Prop) (db sb : Nat) (d d1 d2 d3 d4 : DiskD) (cf : ConfD) (id : Int) (Fs : Nat → Prop) (sd : SchD) (n : Nat) (fin : List ValD) (hTE : TE W0 w) (hF : ∀ b, F b → W0.heap.size ≤ b ∧ b < w.heap.size)
 (hD : DiskAt w F db d) (hnil : dlist d = []) (k0 : diskOkB d = true) (k1 : diskOkB d1 = true) (k2 : diskOkB d2 = true) (k3 : diskOkB d3 = true) (k4 : diskOkB d4 = true) (g1 : dcreate d walTmp = (d1, 0)) (g2 : dappend d1 walTmp (frameD (recordP 0 [0, 0]) ++ frameD (recordP 1 [0, 0])) = (d2, 0)) (g3 : dsync d2 walTmp = (d3, 0)) (g4 : drename d3 walTmp (walN 1) = (d4, 0))
 (h4 : dlist d4 = [walN 1]) (h5 : numberP snapB (walN 1) 13 = none) (hS : ScAt w Fs sb sd) (hn : sd.l.length = n) (h1 : 1 ≤ n) (h2 : n ≤ 1000) (ho : sd.order.length ≤ 1000) (hq : workQ sd.l (sd.l.map fun x => str x.f.name) sd.order (List.replicate n val0) = some fin) (hm : cf.may = true) (hix : 1 ≤ id ∧ id ≤ cf.nodes) :
 Calls Tryz.prog 14 #[ptrV db, confV cf, ptrV sb, .int .i64 id] w fun e w' => ∃ nb p lv sv, e = .returned (.tuple #[ptrV nb, .int .i64 0]) ∧ NodeIn w' p nb (nodeNew cf id d4) lv sv (.slice none 0 0) ∧ p.db = db ∧ p.sb = sb ∧ p.B0 = W0.heap.size ∧ KeepsP F w w' ∧ ∀ b, p.col b ≠ 0 → F b ∨ w.heap.size ≤ b := by
 have hmm := @run_makeMap Tryz.prog
 have hb := (ConfD.may_iff cf).1 hm
 have HMA := hid (fun wx (k : Keeps [] w wx) => maNew_ok wx Fs sb sd n cf.sessions fin (hTE.k k).tabs (hTE.k k).errs (hS.k k) hn h1 h2 ho (by omega) hq)
 have HMY := hid (fun wx => cMay_any cf wx)
 rw [hm] at HMY
 have HN := hid (mayNew_new hm hix)
 have HW0 := hid hTE.k0.size
 have HCN := hid (fun wx => coNew_any cf id 0 0 0 0 [] none 0 (fun _ => False) wx (ListAt.nil _ _ _ _) (by simp) HN.out)
 obtain ⟨e1, e2, e3, e4, e5, e6, e7, e8, e9⟩ := cf
 dsimp only at hb hix HMA
 have HB := hid hb
 have i1 : (id < 1) = False := eq_false (by omega)
 have i2 : (e1 < id) = False := eq_false (by omega)
 unfold confV at HMY HCN ⊢
 dsimp only at HMY HCN ⊢
 unfold ptrV at HMA ⊢
 clear hb hm hS hn h1 h2 ho hq hTE
 go_enter Tryz.func14, Tryz.ntmps14
 go_wp2_with fail
 refine (HMY.out _).mono ?_
 rintro e w1 ⟨rfl, hk1⟩
 have K1 : Hid (Keeps [] w w1) := Keeps.trans (F := []) (G := []) (by exact Keeps.K) hk1 (fun _ _ h => h)
 have hbx := (hk1.block w.heap.size (by simp) (by simp)).trans (heap_alloc_new w (.cells #[.int .i64 e1, .int .i64 e2, .int .i64 e3, .int .i64 e4, .int .i64 e5, .int .i64 e6, .int .i64 e7, .int .i64 e8, .int .i64 e9] 47))
 have HBX := hid hbx
 obtain ⟨⟨c0, c1, c2, c3, c4, c5, c6, c7, c8⟩, -⟩ := blk9 hbx
 have HR9 : Hid (∀ wx, Keeps [] w1 wx → wx.cell? ⟨w.heap.size, 0, none⟩ = some (.int .i64 e1) ∧ wx.cell? ⟨w.heap.size, 1, none⟩ = some (.int .i64 e2) ∧ wx.cell? ⟨w.heap.size, 2, none⟩ = some (.int .i64 e3) ∧ wx.cell? ⟨w.heap.size, 3, none⟩ = some (.int .i64 e4) ∧ wx.cell? ⟨w.heap.size, 4, none⟩ = some (.int .i64 e5) ∧ wx.cell? ⟨w.heap.size, 5, none⟩ = some (.int .i64 e6) ∧ wx.cell? ⟨w.heap.size, 6, none⟩ = some (.int .i64 e7) ∧ wx.cell? ⟨w.heap.size, 7, none⟩ = some (.int .i64 e8) ∧ wx.cell? ⟨w.heap.size, 8, none⟩ = some (.int .i64 e9)) := fun wx k => (blk9 ((k.block w.heap.size (Array.getElem?_eq_some_iff.1 hbx).1 (by simp)).trans hbx)).1
 clear hk1 hbx
 go_upto_region 3 with fail
 go_cut [10] from 30 to 40 (fun v wx => ∃ nb tb mb : Nat, v = .pointer (some ⟨nb, 0, none⟩) ∧ Hid (MidN w1 wx nb tb mb sb e6 #[.pointer (some ⟨db, 0, none⟩), .int .i64 e1, .int .i64 e2, .int .i64 e3, .int .i64 e4, .int .i64 e5, .int .i64 e6, .int .i64 e7, .int .i64 e8, .int .i64 e9, .pointer (some ⟨sb, 0, none⟩), .int .i64 id, .pointer none, .pointer none, .pointer (some ⟨mb, 0, none⟩), .map (some tb), .slice none 0 0, .bool false]))
 case first =>
  refine Plan.wp_region_tree (fun wx => wx.cell? ⟨w.heap.size, 0, none⟩ = some (.int .i64 e1) ∧ wx.cell? ⟨w.heap.size, 1, none⟩ = some (.int .i64 e2) ∧ wx.cell? ⟨w.heap.size, 2, none⟩ = some (.int .i64 e3) ∧ wx.cell? ⟨w.heap.size, 3, none⟩ = some (.int .i64 e4) ∧ wx.cell? ⟨w.heap.size, 4, none⟩ = some (.int .i64 e5) ∧ wx.cell? ⟨w.heap.size, 5, none⟩ = some (.int .i64 e6) ∧ wx.cell? ⟨w.heap.size, 6, none⟩ = some (.int .i64 e7) ∧ wx.cell? ⟨w.heap.size, 7, none⟩ = some (.int .i64 e8) ∧ wx.cell? ⟨w.heap.size, 8, none⟩ = some (.int .i64 e9)) 12 (.take 0 (.take 1 (.take 2 (.take 3 (.take 4 (.take 5 (.take 6 (.fork 7 8 (.step 8 (.take 9 (.step 10 (.take 11 .fin)))) (.step 7 (.take 9 (.step 10 (.take 11 .fin)))))))))))) (by kernel_rfl) (by as_aux_lemma => kernel_rfl) (by kernel_rfl) (fun _ _ _ _ _ h => h) ?_ (fun hS => ?_)
  (·exact ⟨by go_simp, by go_simp, by go_simp, by go_simp, by go_simp, by go_simp, by go_simp, by go_simp, by go_simp⟩)
  simp only [Plan.pickT, List.append_eq, List.cons_append, List.nil_append, Plan.g1, Plan.g2, Option.getD_some, List.drop_succ_cons, List.drop_zero]
  iterate 7 (refine Plan.takeT (v := ?_) (a' := ?_) (Plan.want_all (by rfl)) ?_ ?_ ?_; rotate_left 2; (· intro w' hS'; (try dsimp only at hS'); go_simp; try with_reducible rfl); (· simp only [Act.put, Plan.l1, Plan.l2, Plan.l3]; try with_reducible rfl))
  refine Plan.forkT ?_ ?_
  ·go_wp2_with fail
   refine (HMA.out _ (K1.out.trans (by exact Keeps.K) (fun _ _ h => h))).mono ?_
   rintro e w2 ⟨mb, rfl, hmb, hma, hk2⟩
   have K12 : Hid (Keeps [] w1 w2) := Keeps.trans (F := []) (G := []) (by exact Keeps.K) hk2 (fun _ _ h => h)
   have HMA2 := hid hma
   have HMB := hid (show w1.heap.size ≤ mb by simpa using hmb)
   clear hma hk2 hmb
   go_wp2_with fail
   refine ⟨HR9.out _ K12.out, ?_⟩
   refine Plan.stepT ?_
   go_wp2_with fail
   refine ⟨HR9.out _ (K12.out.trans (G := []) (by exact Keeps.K) (fun _ _ h => h)), ?_⟩
   iterate 1 (refine Plan.takeT (v := ?_) (a' := ?_) (Plan.want_all (by rfl)) ?_ ?_ ?_; rotate_left 2; (· intro w' hS'; (try dsimp only at hS'); go_simp; try with_reducible rfl); (· simp only [Act.put, Plan.l1, Plan.l2, Plan.l3]; try with_reducible rfl))
   refine Plan.stepT ?_
   go_wp2_with fail
   refine ⟨HR9.out _ (K12.out.trans (G := []) (by exact Keeps.K) (fun _ _ h => h)), ?_⟩
   iterate 1 (refine Plan.takeT (v := ?_) (a' := ?_) (Plan.want_all (by rfl)) ?_ ?_ ?_; rotate_left 2; (· intro w' hS'; (try dsimp only at hS'); go_simp; try with_reducible rfl); (· simp only [Act.put, Plan.l1, Plan.l2, Plan.l3]; try with_reducible rfl))
   refine Plan.finT ?_
   go_wp2_with fail
   go_meet
   case rel =>
    have hl : mb < w2.heap.size := by
     obtain ⟨_, _, h⟩ := HMA2.out
     exact (Array.getElem?_eq_some_iff.1 h).1
    have hz := HMB.out
    have hz2 := K12.out.size
    refine ⟨w2.heap.size + 1, w2.heap.size, mb, rfl, K12.out.trans (((Keeps.refl _ _).alloc _).alloc _) (fun _ _ h => h), ⟨hz, hz2, by omega⟩, ⟨by omega, by omega, by omega⟩, HMA2.out.keep (((Keeps.refl [] _).alloc _).alloc _) (by simp), (World.ownsMap_made w2 Tryz.prog 3 heldR).alloc _, ?_⟩
    have := heap_alloc_new (w2.alloc (.map #[] 0)) (.cells #[.pointer (some ⟨db, 0, none⟩), .int .i64 e1, .int .i64 e2, .int .i64 e3, .int .i64 e4, .int .i64 e5, .int .i64 e6, .int .i64 e7, .int .i64 e8, .int .i64 e9, .pointer (some ⟨sb, 0, none⟩), .int .i64 id, .pointer none, .pointer none, .pointer (some ⟨mb, 0, none⟩), .map (some w2.heap.size), .slice none 0 0, .bool false] 55)
    simpa only [World.size_alloc] using this
  ·go_wp2_with fail
   refine ⟨HR9.out _ (by exact Keeps.K), ?_⟩
   refine Plan.stepT ?_
   go_wp2_with fail
   refine (HMA.out _ (K1.out.trans (by exact Keeps.K) (fun _ _ h => h))).mono ?_
   rintro e w2 ⟨mb, rfl, hmb, hma, hk2⟩
   have K12 : Hid (Keeps [] w1 w2) := Keeps.trans (F := []) (G := []) (by exact Keeps.K) hk2 (fun _ _ h => h)
   have HMA2 := hid hma
   have HK2 := hid hk2
   have HMB := hid hmb
   clear hma hk2 hmb
   go_wp2_with fail
   refine ⟨HR9.out _ K12.out, ?_⟩
   iterate 1 (refine Plan.takeT (v := ?_) (a' := ?_) (Plan.want_all (by rfl)) ?_ ?_ ?_; rotate_left 2; (· intro w' hS'; (try dsimp only at hS'); go_simp; try with_reducible rfl); (· simp only [Act.put, Plan.l1, Plan.l2, Plan.l3]; try with_reducible rfl))
   refine Plan.stepT ?_
   go_wp2_with fail
   refine ⟨HR9.out _ (K12.out.trans (G := []) (by exact Keeps.K) (fun _ _ h => h)), ?_⟩
   iterate 1 (refine Plan.takeT (v := ?_) (a' := ?_) (Plan.want_all (by rfl)) ?_ ?_ ?_; rotate_left 2; (· intro w' hS'; (try dsimp only at hS'); go_simp; try with_reducible rfl); (· simp only [Act.put, Plan.l1, Plan.l2, Plan.l3]; try with_reducible rfl))
   refine Plan.finT ?_
   go_wp2_with fail
   go_meet
   case rel =>
    have hl : mb < w2.heap.size := by
     obtain ⟨_, _, h⟩ := HMA2.out
     exact (Array.getElem?_eq_some_iff.1 h).1
    have hz := HMB.out
    have hz2 := K12.out.size
    have hz3 := HK2.out.size
    simp only [World.size_alloc, World.size_drew] at hz hz3
    have hmp : w2.ownsMap Tryz.prog 3 heldR w1.heap.size 0 (imV []) := ownsFm_keep (World.ownsMap_made w1.drew Tryz.prog 3 heldR) HK2.out (by simp)
    refine ⟨w2.heap.size, w1.heap.size, mb, rfl, K12.out.trans ((Keeps.refl _ _).alloc _) (fun _ _ h => h), ⟨by omega, Nat.le_refl _, hz2⟩, ⟨by omega, by omega, by omega⟩, HMA2.out.keep ((Keeps.refl [] _).alloc _) (by simp), hmp.alloc _, heap_alloc_new _ _⟩
 case rest =>
  obtain ⟨nb, tb, mb, rfl, hmid⟩ := hcut
  obtain ⟨w3, hw3⟩ : ∃ x, x = wc := ⟨_, rfl⟩
  rw [← hw3] at hmid ⊢
  clear hw3
  have HMID := hid hmid.out
  clear hmid
  have K3 : Hid (Keeps [] w w3) := K1.out.trans HMID.out.1 (fun _ _ h => h)
  have HNB3 := hid HMID.out.2.2.2.2.2
  have hlt3 : nb < w3.heap.size := (Array.getElem?_eq_some_iff.1 HNB3.out).1
  have hD3 := hD.k K3.out
  have HWO := hid (wlOpen_new w3 F db 1000000 d hD3 (by decide) hnil d1 d2 d3 d4 (diskOk_of k0) (diskOk_of k1) (diskOk_of k2) (diskOk_of k3) g1 g2 g3 g4 h4)
  have HF := hid hF
  have HSN := hid (fun wx F' (h : DiskAt wx F' db d4) => snNewest_none wx F' db d4 h (by have := (diskOk_of k4).files; omega) (fun s hs => by rw [h4] at hs; simp at hs; rw [hs]; exact ⟨by decide, h5⟩))
  have hmb2 : mb < w3.heap.size := by
   obtain ⟨_, _, h⟩ := HMID.out.2.2.2.1
   exact (Array.getElem?_eq_some_iff.1 h).1
  have hw1 : w.heap.size < w1.heap.size := (Array.getElem?_eq_some_iff.1 HBX.out).1
  have htb : tb < w3.heap.size := HMID.out.2.2.2.2.1.lt
  have HOR : Hid (w.heap.size < w1.heap.size ∧ (w1.heap.size ≤ mb ∧ w1.heap.size ≤ tb ∧ w1.heap.size ≤ nb) ∧ (mb ≠ nb ∧ mb ≠ tb ∧ tb ≠ nb) ∧ mb < w3.heap.size ∧ tb < w3.heap.size ∧ nb < w3.heap.size) := ⟨hw1, HMID.out.2.1, HMID.out.2.2.1, hmb2, htb, hlt3⟩
  clear hD3 hD hnil k0 k1 k2 k3 k4 g1 g2 g3 g4 h4 h5 hF hmb2 hw1 htb hlt3
  unfold ptrV keptV at HWO
  unfold ptrV at HSN
  go_wp2_with fail
  refine HWO.out.mono ?_
  rintro e w4 ⟨wb, rfl, F', hd4, hf4, hk4, hw4, hwb, hwf⟩
  have HD4 := hid hd4
  have HF4 := hid hf4
  have HK4 := hid hk4
  have HW4 := hid hw4
  have HWB := hid (And.intro hwb hwf)
  have hnF : ∀ x, w.heap.size ≤ x → ¬ F x := fun x hx h => by have := (HF.out x h).2; omega
  have HNF := hid hnF
  have hor := HOR.out
  have hb4 := hk4.block HNB3.out (hnF _ (by omega))
  have HNB4 := hid hb4
  have x12 : w4.cell? ⟨nb, 12, none⟩ = some (.pointer none) := cell_of_block hb4 12
  have f12 : w4.frozen? ⟨nb, 12, none⟩ = false := frozen_of_row _ _ 12 _ _ hb4
  have l12 : nb < w4.heap.size := (Array.getElem?_eq_some_iff.1 hb4).1
  have n12 : nb ≠ w4.heap.size := by omega
  clear hor hd4 hf4 hk4 hw4 hwb hwf hb4 HWO hnF
  go_wp2_with fail
  have hkp := heap_alloc_new (w4.setCell ⟨nb, 12, none⟩ (.pointer (some ⟨wb, 0, none⟩))) (.cells #[.int .i64 0, .int .i64 0, .int .i64 0, .int .i64 0, .slice none 0 0] 92)
  have k45 : Keeps [nb] w4 ((w4.setCell ⟨nb, 12, none⟩ (.pointer (some ⟨wb, 0, none⟩))).alloc (.cells #[.int .i64 0, .int .i64 0, .int .i64 0, .int .i64 0, .slice none 0 0] 92)) := ((Keeps.refl _ _).setCell (.inl (by simp)) _).alloc _
  have hnb5 := alloc_old (o2 := .cells #[.int .i64 0, .int .i64 0, .int .i64 0, .int .i64 0, .slice none 0 0] 92) (heap_setCell_same w4 (nb) 12 _ _ (.pointer (some ⟨wb, 0, none⟩)) HNB4.out)
  simp only [List.setIfInBounds_toArray, List.set_cons_zero, List.set_cons_succ] at hnb5
  obtain ⟨w5, hw5⟩ : ∃ x, x = ((w4.setCell ⟨nb, 12, none⟩ (.pointer (some ⟨wb, 0, none⟩))).alloc (.cells #[.int .i64 0, .int .i64 0, .int .i64 0, .int .i64 0, .slice none 0 0] 92)) := ⟨_, rfl⟩
  rw [← hw5] at hkp k45 hnb5 ⊢
  simp only [World.size_setCell] at hkp
  have HKP := hid hkp
  have K45 := hid k45
  have HNB5 := hid hnb5
  have hfn : ¬ F' (nb) := fun h => by
   rcases HF4.out _ h with h | h
   ·exact HNF.out _ (by have := HOR.out; omega) h
   ·have := HOR.out; omega
  have hD5 := HD4.out.keep k45 (fun x hx => by simp at hx; rw [hx]; exact hfn)
  have HD5 := hid hD5
  clear hw5 hkp k45 hnb5 x12 f12 l12 n12 hfn hD5
  refine (HSN.out w5 F' HD5.out).mono ?_
  rintro e w6 ⟨rfl, hk6⟩
  have K6 := hid hk6
  have hkp6 := (hk6.block _ (Array.getElem?_eq_some_iff.1 HKP.out).1 (by simp)).trans HKP.out
  have hnb6 := (hk6.block _ (Array.getElem?_eq_some_iff.1 HNB5.out).1 (by simp)).trans HNB5.out
  have HNB6 := hid hnb6
  have KF6 : Hid (KeepsP (fun b => F b ∨ b = nb) w3 w6) := ((HK4.out.mono (fun _ _ h => .inl h)).trans (KeepsP.of K45.out (F := fun b => F b ∨ b = nb) (fun x hx => by simp at hx; exact .inr hx)) (fun _ _ h => h)).trans (KeepsP.of0 (F := fun _ => False) hk6) (fun _ _ h => h.elim)
  have hbx3 : w3.heap[w.heap.size]? = some _ := (HMID.out.1.block w.heap.size (Array.getElem?_eq_some_iff.1 HBX.out).1 (by simp)).trans HBX.out
  have hbx6 := KF6.out.block hbx3 (fun h => by
   rcases h with h | h
   ·exact HNF.out _ (Nat.le_refl _) h
   ·have := HOR.out; omega)
  obtain ⟨⟨c0, c1, c2, c3, c4, c5, c6, c7, c8⟩, -⟩ := blk9 hbx6
  have q0 : w6.cell? ⟨w4.heap.size, 0, none⟩ = some (.int .i64 0) := cell_of_block hkp6 0
  have q1 : w6.cell? ⟨w4.heap.size, 1, none⟩ = some (.int .i64 0) := cell_of_block hkp6 1
  have q2 : w6.cell? ⟨w4.heap.size, 2, none⟩ = some (.int .i64 0) := cell_of_block hkp6 2
  have q3 : w6.cell? ⟨w4.heap.size, 3, none⟩ = some (.int .i64 0) := cell_of_block hkp6 3
  have q4 : w6.cell? ⟨w4.heap.size, 4, none⟩ = some (.slice none 0 0) := cell_of_block hkp6 4
  clear hk6 hkp6 hnb6 hbx3 hbx6 HSN
  go_wp2_with fail
  refine (HCN.out w6).mono ?_
  rintro e w7 ⟨cb, lv, sv, rfl, hc7, hk7⟩
  have hcb := hc7.mem cb (by simp)
  have hn67 : nb < w6.heap.size := (Array.getElem?_eq_some_iff.1 HNB6.out).1
  have hnb7 := (hk7.block _ hn67 (by simp)).trans HNB6.out
  have HC7 := hid hc7
  have K7 := hid hk7
  have HCB := hid hcb
  have HNB7 := hid hnb7
  have HN67 := hid hn67
  have x13 : w7.cell? ⟨nb, 13, none⟩ = some (.pointer none) := cell_of_block hnb7 13
  have f13 : w7.frozen? ⟨nb, 13, none⟩ = false := frozen_of_row _ _ 13 _ _ hnb7
  have l13 : nb < w7.heap.size := (Array.getElem?_eq_some_iff.1 hnb7).1
  clear hc7 hk7 hcb hnb7 hn67 HCN q0 q1 q2 q3 q4 c0 c1 c2 c3 c4 c5 c6 c7 c8
  go_wp2_with fail
  have k78 : Keeps [nb] w7 (w7.setCell ⟨nb, 13, none⟩ (.pointer (some ⟨cb, 0, none⟩))) := (Keeps.refl _ _).setCell (.inl (by simp)) _
  have hnb8 := heap_setCell_same w7 (nb) 13 _ _ (.pointer (some ⟨cb, 0, none⟩)) HNB7.out
  simp only [List.setIfInBounds_toArray, List.set_cons_zero, List.set_cons_succ] at hnb8
  have hc8 := HC7.out.keep (KeepsP.of k78 (F := fun b => b = nb) (fun x hx => by simpa using hx)) (fun b hb e => by have := HN67.out; omega)
  obtain ⟨w8, hw8⟩ : ∃ x, x = w7.setCell ⟨nb, 13, none⟩ (.pointer (some ⟨cb, 0, none⟩)) := ⟨_, rfl⟩
  have hz8 : w8.heap.size = w7.heap.size := by rw [hw8]; simp
  have HZ8 := hid hz8
  rw [← hw8] at k78 hnb8 hc8 ⊢
  have HC8 := hid hc8
  have K78 := hid k78
  have HNB8 := hid hnb8
  clear hw8 hz8 k78 hnb8 hc8 x13 f13 l13
  refine (coGive_any w8 _ _ cb _ lv sv HC8.out (fun _ => False) [] none 0 (BytesAt.nil _ _ _ _) (by decide)).mono ?_
  rintro e w9 ⟨rfl, sv9, hc9, hk9⟩
  have HC9 := hid hc9
  have K9 := hid hk9
  clear hc9 hk9
  go_wp2_with fail
  go_ret2
  obtain ⟨o1, ⟨o2, o3, o4⟩, ⟨o5, o6, o7⟩, o8, o9, o10⟩ := HOR.out
  have z4 := HK4.out.size
  have z5 := K45.out.size
  have z6 := K6.out.size
  have z7 := K7.out.size
  have z8 := HZ8.out
  have z9 := K9.out.size
  have hwb3 := HWB.out.1
  have hwb4 : wb < w4.heap.size := (Array.getElem?_eq_some_iff.1 HW4.out).1
  have hcb6 := HCB.out.1
  have hf0 := HW0.out
  have kp39 : KeepsP (fun b => F b ∨ b = nb) w3 w9 := ((KF6.out.trans (KeepsP.of0 (F := fun _ => False) K7.out) (fun _ _ h => h.elim)).trans (KeepsP.of K78.out (F := fun b => b = nb) (fun x hx => by simpa using hx)) (fun x _ h => .inr h)).trans (KeepsP.of K9.out (F := fun b => b = cb) (fun x hx => by simpa using hx)) (fun x hx h => by omega)
  have kp59 : KeepsP (fun b => b = nb) w5 w9 := (((KeepsP.of0 (F := fun b => b = nb) K6.out).trans (KeepsP.of0 (F := fun _ => False) K7.out) (fun _ _ h => h.elim)).trans (KeepsP.of K78.out (F := fun b => b = nb) (fun x hx => by simpa using hx)) (fun x _ h => h)).trans (KeepsP.of K9.out (F := fun b => b = cb) (fun x hx => by simpa using hx)) (fun x hx h => by omega)
  have kp49 : KeepsP (fun b => b = nb) w4 w9 := (KeepsP.of K45.out (F := fun b => b = nb) (fun x hx => by simpa using hx)).trans kp59 (fun x _ h => h)
  have hfn : ∀ x, F' x → x ≠ nb ∧ x ≠ wb ∧ x ≠ tb ∧ x ≠ mb := fun x hx => by
   refine ⟨fun e => ?_, fun e => HWB.out.2 (e ▸ hx), fun e => ?_, fun e => ?_⟩
   all_goals
    rcases HF4.out _ hx with h | h
    ·exact HNF.out _ (by omega) h
    ·omega
  have hblk : w9.heap[nb]? = some _ := (K9.out.block _ (Array.getElem?_eq_some_iff.1 HNB8.out).1 (by simp; omega)).trans HNB8.out
  have hdisk : DiskAt w9 (fun b => F' b ∧ b < w5.heap.size) db d4 := by
   obtain ⟨G, hG, hg⟩ := kp59
   exact (HD5.out.mono (F' := fun b => F' b ∧ b < w5.heap.size) (fun x hx h => ⟨h, hx⟩)).keep hG (fun x hx h => (hfn x h.1).1 (hg x hx))
  have hmach : MachAt w9 mb sb e6 0 := by
   obtain ⟨G, hG, hg⟩ := kp39
   refine HMID.out.2.2.2.1.keep hG (fun hm => ?_)
   rcases hg _ hm with h | h
   ·exact HNF.out _ (by omega) h
   ·omega
  have hnotes : NotesAt w9 tb [] := by
   obtain ⟨G, hG, hg⟩ := kp39
   refine ownsFm_keep HMID.out.2.2.2.2.1 hG (fun hm => ?_)
   rcases hg _ hm with h | h
   ·exact HNF.out _ (by omega) h
   ·omega
  have hwal : WalBlk w9 wb db ((1 : Nat) : Int) 0 0 := kp49.block HW4.out (fun h => by omega)
  have hlt : ∀ b, colNew (nb) wb tb mb w6.heap.size w9.heap.size (fun b => F' b ∧ b < w5.heap.size) b ≠ 0 → (F b ∨ w.heap.size ≤ b) ∧ b < w9.heap.size := fun b hb => by
   rcases colNew_ne hb with h | h | h | h | h | h
   ·exact ⟨.inr (by omega), by omega⟩
   ·exact ⟨.inr (by omega), by omega⟩
   ·exact ⟨.inr (by omega), by omega⟩
   ·exact ⟨.inr (by omega), by omega⟩
   ·exact ⟨.inr (by omega), by omega⟩
   ·refine ⟨?_, by omega⟩
    rcases HF4.out _ h.1 with h | h
    ·exact .inl h
    ·exact .inr (by omega)
  have hord : nb < w6.heap.size ∧ wb < w6.heap.size ∧ tb < w6.heap.size ∧ mb < w6.heap.size := by omega
  obtain ⟨C, hC⟩ : ∃ C, C = colNew (nb) wb tb mb w6.heap.size w9.heap.size (fun b => F' b ∧ b < w5.heap.size) := ⟨_, rfl⟩
  rw [← hC] at hlt
  have y1 : C (nb) = 1 := by rw [hC]; exact colNew_1
  have y2 : C wb = 2 := by rw [hC]; exact colNew_2 (by omega)
  have y3 : C tb = 3 := by rw [hC]; exact colNew_3 (by omega) (by omega)
  have y6 : C mb = 6 := by rw [hC]; exact colNew_6 (by omega) (by omega) (by omega)
  have y5 : ∀ b, C b = 5 ↔ w6.heap.size ≤ b ∧ b < w9.heap.size := fun b => by rw [hC]; exact colNew_5 hord
  have y4 : ∀ x, (F' x ∧ x < w5.heap.size) → C x = 4 := fun x hx => by rw [hC]; exact colNew_4 hx (hfn x hx.1).1 (hfn x hx.1).2.1 (hfn x hx.1).2.2.1 (hfn x hx.1).2.2.2 (by have := hx.2; omega)
  refine ⟨nb, ⟨db, sb, wb, cb, mb, tb, w6.heap.size, W0.heap.size, C⟩, lv, sv9, rfl, ?_, rfl, rfl, rfl, (KeepsP.of0 (F := F) K3.out).trans kp39 (fun x hx h => h.elim (fun h => h) (fun h => by omega)), fun b hb => (hlt b hb).1⟩
  exact { blk := hblk, disk := hdisk.mono fun x _ hx => y4 x hx
          wal := hwal
          core := HC9.out.congr fun b => by
           refine Iff.trans ?_ (y5 b).symm
           unfold grow
           omega
          mach := hmach, notes := hnotes, fresh := OwnAt.nil _ _ _ _, freshB := fun b hb => by simp [mem_ownB, Value.ownBlock] at hb
          cn := y1, cw := y2, ct := y3, cm := y6
          lt := fun b hb => ⟨by
           rcases (hlt b hb).1 with h | h
           ·exact (HF.out b h).1
           ·show W0.heap.size ≤ b; omega, (hlt b hb).2⟩
          conf := rfl, same := rfl, apB := ⟨by show (0 : Int) ≤ 0; omega, by show (0 : Int) ≤ _; omega⟩ }
end Go.Proofs.YtgjiahilbmeaeaaGreatDoor