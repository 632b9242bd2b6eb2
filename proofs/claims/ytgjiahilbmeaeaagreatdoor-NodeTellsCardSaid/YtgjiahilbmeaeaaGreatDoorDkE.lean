/- A disk: Sync, walked. -/
import Derived.Test.YtgjiahilbmeaeaaGreatDoorR03
set_option maxRecDepth 100000
set_option maxHeartbeats 4000000
set_option linter.unusedSimpArgs false
set_option linter.unusedVariables false
namespace Go.Proofs.YtgjiahilbmeaeaaGreatDoor
open Go Go.RowKit
theorem dkSync_any (w : World) (F : Nat → Prop) (b n : Nat) (d : DiskD) (name : Nm) (h : DiskAt w F b d) (hk : DiskOk2 n d) (hn : n ≤ 1000000) (hnm : name.length ≤ 1000) :
 Calls Tryz.prog 89 #[ptrV b, .string (str name)] w (DiskEnds w F b (dsync d name)) := by
 have HC := hid (dkCall_at w F b d h ⟨hk.c0, by have := hk.c1; omega⟩ ⟨hk.a0, hk.a1⟩)
 have HNM := hid hnm
 have HFF := hid (dcall_files d).1
 clear h hk hn hnm
 unfold ptrV at *
 obtain ⟨r, hr⟩ : ∃ r, dcall d = r := ⟨_, rfl⟩
 obtain ⟨d1, r⟩ := r
 have HR := hid hr
 rw [hr] at HC
 have HFF : Hid (d1.files = d.files) := by have := HFF.out; rw [hr] at this; exact this
 dsimp only at HC
 clear hr
 by_cases hr0 : r = 0
 ·subst hr0
  go_enter Tryz.func89, Tryz.ntmps89
  go_wp2_with fail
  refine HC.out.mono ?_
  rintro e w1 ⟨rfl, hat, hk1, hFb⟩
  have K1 := hid hk1
  have HFB := hid hFb
  obtain ⟨bm, L, h1, h2, h3, h4, h5, h6⟩ := hat
  have HAT := hid (And.intro h1 (And.intro h2 (And.intro h3 (And.intro h4 (And.intro h5 h6)))))
  have HF := hid (dkFind_any w1 b bm _ d1 L name h4 h5 HNM.out)
  clear hk1 hFb h1 h2 h3 h4 h5 h6
  go_wp2_with fail
  refine HF.out.mono ?_
  rintro e w2 ⟨rfl, hk2⟩
  have K2 := hid hk2
  have HSAME : Hid (DiskPost w F b d1 w2) := by
   obtain ⟨h1, h2, h3, h4, h5, h6⟩ := HAT.out
   exact ((DiskPost.same ⟨bm, L, h1, h2, h3, h4, h5, h6⟩ hk2) : DiskPost w1 F b d1 w2).of K1.out HFB.out
  have HGF : Hid (getA d1.files name = (getA L name).map (·.2)) := by show _ = _; rw [HAT.out.1, getA_map]
  clear hk2
  rcases hnp : fnamedP name with _ | _
  ·have HO : Hid (dsync d name = (d1, 1)) := by
    show _ = _
    unfold dsync dfind dmiss
    rw [HR.out, hnp]
    rfl
   have hfv : foundV name ((getA L name).map (·.1)) = .tuple #[.pointer none, .int .i64 1] := by unfold foundV; rw [if_pos hnp]
   rw [hfv]
   clear hfv hnp
   go_wp2_with fail
   go_ret
   exact ⟨by rw [HO.out]; rfl, by rw [HO.out]; exact HSAME.out⟩
  ·rcases hga : getA L name with _ | ⟨fb, f⟩
   ·have HO : Hid (dsync d name = (d1, 3)) := by
     show _ = _
     unfold dsync dfind dmiss
     rw [HR.out, hnp, ← HFF.out, HGF.out, hga]
     rfl
    have hfv : foundV name none = .tuple #[.pointer none, .int .i64 3] := by unfold foundV; rw [if_neg (by rw [hnp]; decide)]; rfl
    simp only [Option.map_none]
    rw [hfv]
    clear hfv hnp hga
    go_wp2_with fail
    go_ret
    exact ⟨by rw [HO.out]; rfl, by rw [HO.out]; exact HSAME.out⟩
   ·have HO : Hid (dsync d name = ({ d1 with files := updA d.files name ⟨f.b, f.b.length⟩ }, 0)) := by
     show _ = _
     unfold dsync dfind
     rw [HR.out, hnp]
     simp only [if_true, ← HFF.out, HGF.out, hga, Option.map_some]
     rfl
    have hfv : foundV name (some fb) = .tuple #[.pointer (some ⟨fb, 0, none⟩), .int .i64 0] := by unfold foundV; rw [if_neg (by rw [hnp]; decide)]; rfl
    simp only [Option.map_some]
    rw [hfv]
    obtain ⟨a, c, hfb, hby⟩ := HAT.out.2.2.2.2.2 _ (getA_mem hga)
    dsimp only at hfb hby
    have hfb2 := (K2.out.block fb (Array.getElem?_eq_some_iff.1 hfb).1 (by simp)).trans hfb
    have x0 : w2.cell? ⟨fb, 0, none⟩ = some (.slice a f.b.length c) := cell_of_block hfb2 0
    have x1 : w2.cell? ⟨fb, 1, none⟩ = some (.int .i64 (f.sure : Int)) := cell_of_block hfb2 1
    have f1 : w2.frozen? ⟨fb, 1, none⟩ = false := frozen_of_row w2 fb 1 _ _ hfb2
    have hs := heap_setCell_same _ _ 1 _ _ (.int .i64 (f.b.length : Int)) hfb2
    simp only [List.setIfInBounds_toArray, List.set_cons_zero, List.set_cons_succ] at hs
    have HE : Hid (DiskPost w F b { d1 with files := updA d.files name ⟨f.b, f.b.length⟩ } (w2.setCell ⟨fb, 1, none⟩ (.int .i64 (f.b.length : Int)))) := by
     obtain ⟨h1, h2, h3, h4, h5, h6⟩ := HAT.out
     have kk : Keeps [fb] w1 (w2.setCell ⟨fb, 1, none⟩ (.int .i64 (f.b.length : Int))) := by
      have k2 := K2.out.mono (G := [fb]) (fun _ _ h => by cases h)
      exact k2.setCell (by simp) _
     have hfbn : fb ∈ diskW b bm L := mem_diskW (getA_mem hga)
     have hu := DiskAt.upd (F' := F) (f' := ⟨f.b, f.b.length⟩) h1 h2 h3 h4 h5 h6 hga (fun _ _ h => h) ⟨a, c, hs, hby.keep kk (fun c hc hm => by simp at hm; exact hc.2 (by rw [hm]; exact hfbn))⟩ kk
     rw [HFF.out] at hu
     exact DiskPost.of K1.out HFB.out ⟨F, hu, fun _ h => .inl h, KeepsP.of kk (by simpa using h3 fb hfbn)⟩
    clear hfv hnp hga hs hby hfb hfb2
    go_wp2_with fail
    go_ret
    exact ⟨by rw [HO.out]; rfl, by rw [HO.out]; exact HE.out⟩
 ·have q : (r != 0) = true := by simpa using hr0
  have HO : Hid (dsync d name = (d1, r)) := by
   show _ = _
   unfold dsync
   rw [HR.out, if_pos hr0]
  clear hr0
  go_enter Tryz.func89, Tryz.ntmps89
  go_wp2_with fail
  refine HC.out.mono ?_
  rintro e w1 ⟨rfl, hat, hk1, hFb⟩
  have HP : Hid (DiskPost w F b d1 w1) := ⟨F, hat, fun _ h => .inl h, KeepsP.of hk1 (by simpa using hFb)⟩
  clear hat hk1 hFb
  go_wp2_with fail
  go_ret
  exact ⟨by rw [HO.out]; rfl, by rw [HO.out]; exact HP.out⟩
end Go.Proofs.YtgjiahilbmeaeaaGreatDoor