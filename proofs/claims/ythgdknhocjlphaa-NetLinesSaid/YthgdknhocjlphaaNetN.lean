/- same: the two nets tell alike. -/
import Derived.Test.YthgdknhocjlphaaNetM
import Derived.Test.YthgdknhocjlphaaStrs
namespace Go.Proofs.Ythgdknhocjlphaa
open Go Go.RowKit

theorem NetRep.k {w w' : World} {n room : Nat} {ms : Mail} {F : List Nat} (h : NetRep w n room ms F) (k : Keeps [] w w') : NetRep w' n room ms F := h.keeps k (fun _ _ h => by cases h)
theorem RefRep.k {w w' : World} {n room : Nat} {ms : Mail} {F : List Nat} (h : RefRep w n room ms F) (k : Keeps [] w w') : RefRep w' n room ms F := h.keeps k (fun _ _ h => by cases h)

theorem look_at (n room : Nat) (ms : Mail) (F : List Nat) (j : Nat) (m : List UInt8 × Bool) (w : World) (h : NetRep w n room ms F) (hs : Small ms) (hm : ms[j]? = some m) :
    Calls Try.prog 15 #[.pointer (some ⟨n, 0, none⟩), .int .i64 j] w fun e w' => ∃ a c, e = .returned (.tuple #[.slice a m.1.length c, .bool true]) ∧ w'.ownsRow w.heap.size 5 1 (.slice a m.1.length c) m.1.length (u8s m.1) ∧ Keeps [] w w' :=
  (look_any n room ms F j w h hs).mono fun e w' ⟨a, c, hg, hx⟩ => by
    rcases hx with ⟨h1, _⟩ | ⟨bs, h1, h2, h3⟩
    · rw [lookS_in hm] at h1; cases h1
    · rw [lookS_in hm] at h1
      cases h1
      exact ⟨a, c, h2, h3, Keeps.ofGrown hg (fun _ h => by cases h)⟩
theorem look_no (n room : Nat) (ms : Mail) (F : List Nat) (i : Int) (w : World) (h : NetRep w n room ms F) (hs : Small ms) (hi : i < 0 ∨ (ms.length : Int) ≤ i) :
    Calls Try.prog 15 #[.pointer (some ⟨n, 0, none⟩), .int .i64 i] w fun e w' => e = .returned (.tuple #[.slice none 0 0, .bool false]) ∧ Keeps [] w w' :=
  (look_any n room ms F i w h hs).mono fun e w' ⟨a, c, hg, hx⟩ => by
    rcases hx with ⟨_, h2⟩ | ⟨bs, h1, _⟩
    · exact ⟨h2, Keeps.ofGrown hg (fun _ h => by cases h)⟩
    · rw [lookS_out hi] at h1; cases h1

set_option maxRecDepth 100000 in
set_option maxHeartbeats 1600000 in
theorem same_any (n rn room room' : Nat) (ms : Mail) (F F2 : List Nat) (w : World) (h : NetRep w n room ms F) (h2 : RefRep w rn room' ms F2) (hs : Small ms) :
    Calls Try.prog 18 #[.pointer (some ⟨n, 0, none⟩), .pointer (some ⟨rn, 0, none⟩)] w fun e w' => e = .returned (.bool true) ∧ Keeps [] w w' := by
  obtain ⟨lv, vs, G, hb, hm, hF2, hn⟩ := h2
  obtain ⟨a, c, hlv⟩ := hm.form
  have h0 : w.cell? ⟨rn, 0, none⟩ = some (.slice a ms.length c) := by rw [← hlv]; simpa using cell_of_block hb 0
  have H := hid h
  have HS := hid hs
  have HM := hid hm
  have HLV := hid hlv
  have hlen := hs.1
  clear h hs hm hlv hb
  go_enter Try.func18, Try.ntmps18
  go_wp2
  refine Plan.wp_region_plan (fun w' => w'.cell? ⟨rn, 0, none⟩ = some (.slice a ms.length c)) 7 [(true, 0), (true, 2), (true, 3), (true, 4), (true, 5), (true, 6), (false, 1)] (by kernel_rfl) (by kernel_rfl) (by kernel_rfl) (fun _ _ _ _ _ h => h) ?hS (fun hS => ?_)
  case hS => exact h0
  simp only [Plan.pick, List.getElem?_cons_zero, List.getElem?_cons_succ, Option.getD_some, List.drop_succ_cons, List.drop_zero]
  repeat (first | (refine Plan.take (v := ?_) (a' := ?_) (by rfl) ?_ ?_ ?_; rotate_left 2; (· (intro w' hS'; (try dsimp only at hS'); go_simp; try with_reducible rfl)); (· (simp only [Act.put, List.setIfInBounds_toArray, List.set_cons_zero, List.set_cons_succ]; try with_reducible rfl))) | (refine Plan.pass (a' := ?_) (by rfl) ?_ ?_; rotate_left 1; (· (simp only [Act.put, List.setIfInBounds_toArray, List.set_cons_zero, List.set_cons_succ]; try with_reducible rfl))))
  refine Plan.step ?_
  go_wp2_with (go_at_call 11; go_must (refine (Len_any n room ms F _ (by exact H.out.k (Keeps.refl [] w).drew)).mono ?_; rintro e w' ⟨rfl, hw'⟩; subst hw'))
  refine ⟨h0, ?_⟩
  refine Plan.fin ?_
  go_wp2
  go_loopw [5] (fun i wr => ∃ k : Nat, k ≤ ms.length ∧ i = .int .i64 k ∧ Hid (Keeps [] w wr)) (fun i _ => ms.length - (intOf i).toNat)
  case atStart => exact ⟨0, Nat.zero_le _, rfl, (Keeps.refl [] w).drew⟩
  case round =>
    obtain ⟨k, hk, rfl, HK⟩ := hrel
    have c0 := HK.out.cellSome h0 (by simp)
    by_cases hlt : k < ms.length
    · obtain ⟨g, cap, v, m, e1, hv, hmj, d0, d1, ho, _⟩ := HM.out.at k hlt
      have ea : a = some ⟨g, 0, none⟩ ∧ c = cap := by have := HLV.out.symm.trans e1; simpa using this
      obtain ⟨rfl, rfl⟩ := ea
      obtain ⟨va, vc, rfl⟩ := len_form ho
      have HO := hid ho
      have HMJ := hid hmj
      have e0 := HK.out.cellSome d0 (by simp)
      have i0 : (0 : Int) ≤ (k : Int) := Int.natCast_nonneg _
      have i1 : (k : Int) < (ms.length : Int) := by omega
      clear ho hmj e1 hv d0 d1
      go_wp2_with (go_at_call 15; go_must (refine (look_at n room ms F k m _ (by exact H.out.k HK.out) HS.out HMJ.out).mono ?_; rintro e w2 ⟨a2, c2, rfl, ho2, k2⟩; have HO2 := hid ho2; have K2 := hid (HK.out.nil_trans k2 (by simp)); have f0 := k2.cellSome c0 (by simp); have f1 := k2.cellSome e0 (by simp); clear ho2 k2))
      have cv1 : Hid (∀ q, (convert 26 9 (.slice a2 m.1.length c2)).run Try.prog (w2.drewN q) = .ok (.string (str m.1)) (w2.drewN q)) := fun q => run_convert_str _ _ _ 5 _ m.1 Try.underlying26 Try.underlying5 Try.underlying9 ((Reads.ofOwn HO2.out).keeps ((Keeps.refl [] w2).drewN q) (fun _ _ h => by cases h))
      have cv2 : Hid (∀ q, (convert 26 9 (.slice va m.1.length vc)).run Try.prog (w2.drewN q) = .ok (.string (str m.1)) (w2.drewN q)) := fun q => run_convert_str _ _ _ 5 _ m.1 Try.underlying26 Try.underlying5 Try.underlying9 ((Reads.ofOwn HO.out).keeps (K2.out.drewN q) (fun _ _ h => by cases h))
      refine Plan.wp_region_plan (fun w' => w'.cell? ⟨rn, 0, none⟩ = some (.slice (some ⟨g, 0, none⟩) ms.length c) ∧ w'.cell? ⟨g, k * 2, none⟩ = some (.slice va m.1.length vc) ∧ (convert 26 9 (.slice a2 m.1.length c2)).run Try.prog w' = .ok (.string (str m.1)) w' ∧ (convert 26 9 (.slice va m.1.length vc)).run Try.prog w' = .ok (.string (str m.1)) w') 14 [(true, 0), (true, 1), (true, 2), (true, 3), (true, 4), (true, 5), (true, 6), (true, 7), (true, 8), (true, 9), (true, 10), (true, 11), (true, 12), (true, 13)] (by kernel_rfl) (by kernel_rfl) (by kernel_rfl) (fun _ _ _ _ _ h => h) ?_ (fun hS => ?_)
      · exact ⟨f0, f1, cv1.out 1, cv2.out 1⟩
      simp only [Plan.pick, List.getElem?_cons_zero, List.getElem?_cons_succ, Option.getD_some, List.drop_succ_cons, List.drop_zero]
      repeat (first | (refine Plan.take (v := ?_) (a' := ?_) (by rfl) ?_ ?_ ?_; rotate_left 2; (· (intro w' hS'; (try dsimp only at hS'); go_simp; try with_reducible rfl)); (· (simp only [Act.put, List.setIfInBounds_toArray, List.set_cons_zero, List.set_cons_succ]; try with_reducible rfl))) | (refine Plan.pass (a' := ?_) (by rfl) ?_ ?_; rotate_left 1; (· (simp only [Act.put, List.setIfInBounds_toArray, List.set_cons_zero, List.set_cons_succ]; try with_reducible rfl))))
      refine Plan.fin ?_
      go_wp2
      go_roundw
      case rel => exact ⟨k + 1, by omega, by go_num, K2.out.drew⟩
      case measure => simp [intOf]; omega
    · obtain rfl : k = ms.length := by omega
      go_wp2_with fail
      refine (look_no n room ms F ms.length _ (H.out.k HK.out) HS.out (by omega)).mono ?_
      rintro e w2 ⟨rfl, k2⟩
      have K2 := hid (HK.out.nil_trans k2 (by simp))
      clear k2
      go_wp2_with fail
      refine (look_no n room ms F (-1) _ (H.out.k K2.out) HS.out (by omega)).mono ?_
      rintro e w3 ⟨rfl, k3⟩
      have K3 := hid (K2.out.nil_trans k3 (by simp))
      clear k3
      go_wp2_with fail
      go_ret
      exact ⟨rfl, K3.out⟩

end Go.Proofs.Ythgdknhocjlphaa
