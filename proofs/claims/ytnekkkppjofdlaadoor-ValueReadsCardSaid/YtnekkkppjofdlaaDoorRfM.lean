/- The document's reading of a value. (Printed by gen_rfm.py.) -/
import Derived.Test.YtnekkkppjofdlaaDoorRfL
import Derived.Test.YtnekkkppjofdlaaDoorVaW
import Derived.Test.YtnekkkppjofdlaaDoorRfD
namespace Go.Proofs.YtnekkkppjofdlaaDoor
open Go Go.RowKit

set_option maxRecDepth 100000 in
set_option maxHeartbeats 3200000 in
theorem r5Read_dash (s : ByteArray) (w : World) (hT : Tabs w) (hs : s.size ≤ 100000) (t1 : (s.toList == [45]) = true) (t2 : (s.toList == [116, 114, 117, 101]) = false) (t3 : (s.toList == [102, 97, 108, 115, 101]) = false) (hn2 : ((s.size : Int) == 2) = false) (hnum : numD s.data.toList = (0, false)) (hbare : bareD s.data.toList = none)
    (hkey : ∀ u, checkD u = true → I64 u.n → showL u = s.data.toList → u = ⟨0, 0, ⟨#[]⟩⟩) : Calls Tryd.prog 42 #[.string s] w (ReadPost s w) := by
  have HT := hid hT
  have HNUM := hid hnum
  have HBARE := hid hbare
  have KEY := hid hkey
  have f0 : True := trivial
  have f1 : True := trivial
  clear hT hnum hbare hkey
  go_enter Tryd.func42, Tryd.ntmps42
  go_wp2_with fail
  refine (r5number_any s _ (by omega)).mono ?_
  rintro e w1 ⟨rfl, hk⟩
  have r0 : w1.cell? ⟨w.heap.size, 0, none⟩ = some (.int .i64 0) := hk.cellSome (by go_simp) (by simp)
  have r1 : w1.cell? ⟨w.heap.size, 1, none⟩ = some (.int .i64 0) := hk.cellSome (by go_simp) (by simp)
  have r2 : w1.cell? ⟨w.heap.size, 2, none⟩ = some (.string ⟨#[]⟩) := hk.cellSome (by go_simp) (by simp)
  have v0 : w1.cell? ⟨w.heap.size + 1, 0, none⟩ = some (.int .i64 0) := hk.cellSome (by go_simp) (by simp)
  have v1 : w1.cell? ⟨w.heap.size + 1, 1, none⟩ = some (.int .i64 0) := hk.cellSome (by go_simp) (by simp)
  have v2 : w1.cell? ⟨w.heap.size + 1, 2, none⟩ = some (.string ⟨#[]⟩) := hk.cellSome (by go_simp) (by simp)
  have f0 : ∀ i, w1.frozen? ⟨w.heap.size, i, none⟩ = false := fun i => (hk.frozen (a := ⟨w.heap.size, i, none⟩) (by first | (simp; done) | (simp; omega)) (by simp)).trans (by first | exact f0 i | simp [f0 i] | simp)
  have f1 : ∀ i, w1.frozen? ⟨w.heap.size + 1, i, none⟩ = false := fun i => (hk.frozen (a := ⟨w.heap.size + 1, i, none⟩) (by first | (simp; done) | (simp; omega)) (by simp)).trans (by first | exact f1 i | simp [f1 i] | simp)
  have HK : Hid (Keeps [] w w1) := Keeps.trans (by exact Keeps.K) hk (fun _ _ h => h)
  have S1 : w.heap.size + 1 < w1.heap.size := by have := hk.size; first | omega | (simp at this; omega)
  clear hk
  rw [HNUM.out]
  go_wp2_with fail
  refine (r5bare_any s _ (by omega)).mono ?_
  rw [HBARE.out]
  unfold bareV
  rintro e w2 ⟨rfl, hk⟩
  have r0 : w2.cell? ⟨w.heap.size, 0, none⟩ = some (.int .i64 0) := hk.cellSome (by go_simp) (by simp)
  have r1 : w2.cell? ⟨w.heap.size, 1, none⟩ = some (.int .i64 0) := hk.cellSome (by go_simp) (by simp)
  have r2 : w2.cell? ⟨w.heap.size, 2, none⟩ = some (.string ⟨#[]⟩) := hk.cellSome (by go_simp) (by simp)
  have v0 : w2.cell? ⟨w.heap.size + 1, 0, none⟩ = some (.int .i64 0) := hk.cellSome (by go_simp) (by simp)
  have v1 : w2.cell? ⟨w.heap.size + 1, 1, none⟩ = some (.int .i64 0) := hk.cellSome (by go_simp) (by simp)
  have v2 : w2.cell? ⟨w.heap.size + 1, 2, none⟩ = some (.string ⟨#[]⟩) := hk.cellSome (by go_simp) (by simp)
  have f0 : ∀ i, w2.frozen? ⟨w.heap.size, i, none⟩ = false := fun i => (hk.frozen (a := ⟨w.heap.size, i, none⟩) (by first | (simp; done) | (simp; omega)) (by simp)).trans (by first | exact f0 i | simp [f0 i] | simp)
  have f1 : ∀ i, w2.frozen? ⟨w.heap.size + 1, i, none⟩ = false := fun i => (hk.frozen (a := ⟨w.heap.size + 1, i, none⟩) (by first | (simp; done) | (simp; omega)) (by simp)).trans (by first | exact f1 i | simp [f1 i] | simp)
  have HK2 : Hid (Keeps [] w w2) := (HK.out.trans (G := [w.heap.size, w.heap.size + 1]) (by exact Keeps.K) (fun k hk hm => by simp at hm; omega)).trans hk (fun _ _ h => h)
  have S2 : w.heap.size + 1 < w2.heap.size := by have := hk.size; first | omega | (simp at this; omega)
  clear hk HK S1
  have HK := HK2
  clear HK2
  go_wp2_with fail
  refine (r5Check_all ⟨0, 0, ⟨#[]⟩⟩ _ (HT.out.k (HK.out.trans (G := [w.heap.size, w.heap.size + 1]) (by exact Keeps.K) (fun k hk hm => by simp at hm; omega)))).mono ?_
  rintro e w3 ⟨rfl, hk⟩
  have r0 : w3.cell? ⟨w.heap.size, 0, none⟩ = some (.int .i64 0) := hk.cellSome (by go_simp) (by simp)
  have r1 : w3.cell? ⟨w.heap.size, 1, none⟩ = some (.int .i64 0) := hk.cellSome (by go_simp) (by simp)
  have r2 : w3.cell? ⟨w.heap.size, 2, none⟩ = some (.string ⟨#[]⟩) := hk.cellSome (by go_simp) (by simp)
  have v0 : w3.cell? ⟨w.heap.size + 1, 0, none⟩ = some (.int .i64 0) := hk.cellSome (by go_simp) (by simp)
  have v1 : w3.cell? ⟨w.heap.size + 1, 1, none⟩ = some (.int .i64 0) := hk.cellSome (by go_simp) (by simp)
  have v2 : w3.cell? ⟨w.heap.size + 1, 2, none⟩ = some (.string ⟨#[]⟩) := hk.cellSome (by go_simp) (by simp)
  have f0 : ∀ i, w3.frozen? ⟨w.heap.size, i, none⟩ = false := fun i => (hk.frozen (a := ⟨w.heap.size, i, none⟩) (by first | (simp; done) | (simp; omega)) (by simp)).trans (by first | exact f0 i | simp [f0 i] | simp)
  have f1 : ∀ i, w3.frozen? ⟨w.heap.size + 1, i, none⟩ = false := fun i => (hk.frozen (a := ⟨w.heap.size + 1, i, none⟩) (by first | (simp; done) | (simp; omega)) (by simp)).trans (by first | exact f1 i | simp [f1 i] | simp)
  have HK3 : Hid (Keeps [] w w3) := (HK.out.trans (G := [w.heap.size, w.heap.size + 1]) (by exact Keeps.K) (fun k hk hm => by simp at hm; omega)).trans hk (fun _ _ h => h)
  have S3 : w.heap.size + 1 < w3.heap.size := by have := hk.size; first | omega | (simp at this; omega)
  clear hk HK S2
  have HK := HK3
  clear HK3
  rcases hch : checkD ⟨0, 0, ⟨#[]⟩⟩ with _ | _
  · have HNO : Hid (∀ u : ValD, checkD u = true → I64 u.n → showL u ≠ s.data.toList) := by
      intro u hc hi h
      rw [KEY.out u hc hi h, hch] at hc
      cases hc
    clear hch
    go_wp2_with fail
    refine bodyPost_ret (v := .tuple #[.agg #[.int .i64 0, .int .i64 0, .string ⟨#[]⟩], .bool false]) (by simp [results, Tryd.results42, go_sem, r0, r1, r2]) rfl ?_
    exact ⟨_, _, rfl, readsAs_no (HNO.out), (HK.out.trans (G := [w.heap.size, w.heap.size + 1]) (by exact Keeps.K) (fun k hk hm => by simp at hm; omega))⟩
  · have HCH := hid hch
    clear hch
    go_wp2_with fail
    refine (r5Show_any ⟨0, 0, ⟨#[]⟩⟩ _ HCH.out ⟨by show (-9223372036854775808 : Int) ≤ (0 : Int); omega, by show (0 : Int) ≤ (9223372036854775807 : Int); omega⟩).mono ?_
    obtain ⟨z, hz⟩ : ∃ z, str (showL ⟨0, 0, ⟨#[]⟩⟩) = z := ⟨_, rfl⟩
    have HZ : Hid (z.toList = showL ⟨0, 0, ⟨#[]⟩⟩) := by
      show _ = _
      rw [← hz]
      exact str_toList _
    rw [hz]
    clear hz
    rintro e w4 ⟨rfl, hk⟩
    have r0 : w4.cell? ⟨w.heap.size, 0, none⟩ = some (.int .i64 0) := hk.cellSome (by go_simp) (by simp)
    have r1 : w4.cell? ⟨w.heap.size, 1, none⟩ = some (.int .i64 0) := hk.cellSome (by go_simp) (by simp)
    have r2 : w4.cell? ⟨w.heap.size, 2, none⟩ = some (.string ⟨#[]⟩) := hk.cellSome (by go_simp) (by simp)
    have v0 : w4.cell? ⟨w.heap.size + 1, 0, none⟩ = some (.int .i64 0) := hk.cellSome (by go_simp) (by simp)
    have v1 : w4.cell? ⟨w.heap.size + 1, 1, none⟩ = some (.int .i64 0) := hk.cellSome (by go_simp) (by simp)
    have v2 : w4.cell? ⟨w.heap.size + 1, 2, none⟩ = some (.string ⟨#[]⟩) := hk.cellSome (by go_simp) (by simp)
    have f0 : ∀ i, w4.frozen? ⟨w.heap.size, i, none⟩ = false := fun i => (hk.frozen (a := ⟨w.heap.size, i, none⟩) (by first | (simp; done) | (simp; omega)) (by simp)).trans (by first | exact f0 i | simp [f0 i] | simp)
    have f1 : ∀ i, w4.frozen? ⟨w.heap.size + 1, i, none⟩ = false := fun i => (hk.frozen (a := ⟨w.heap.size + 1, i, none⟩) (by first | (simp; done) | (simp; omega)) (by simp)).trans (by first | exact f1 i | simp [f1 i] | simp)
    have HK4 : Hid (Keeps [] w w4) := (HK.out.trans (G := [w.heap.size, w.heap.size + 1]) (by exact Keeps.K) (fun k hk hm => by simp at hm; omega)).trans hk (fun _ _ h => h)
    have S4 : w.heap.size + 1 < w4.heap.size := by have := hk.size; first | omega | (simp at this; omega)
    clear hk HK S3
    have HK := HK4
    clear HK4
    rcases hcmp : (z.toList == s.toList) with _ | _
    · have hcmp2 : (z.toList != s.toList) = true := by rw [bne, hcmp]; rfl
      have HNO : Hid (∀ u : ValD, checkD u = true → I64 u.n → showL u ≠ s.data.toList) := by
        intro u hc hi h
        rw [KEY.out u hc hi h, ← HZ.out, ← ByteArray.toList_eq] at h
        rw [h] at hcmp
        simp at hcmp
      go_wp2_with fail
      refine bodyPost_ret (v := .tuple #[.agg #[.int .i64 0, .int .i64 0, .string ⟨#[]⟩], .bool false]) (by simp [results, Tryd.results42, go_sem, r0, r1, r2]) rfl ?_
      exact ⟨_, _, rfl, readsAs_no (HNO.out), (HK.out.trans (G := [w.heap.size, w.heap.size + 1]) (by exact Keeps.K) (fun k hk hm => by simp at hm; omega))⟩
    · have hcmp2 : (z.toList != s.toList) = false := by rw [bne, hcmp]; rfl
      have HSH : Hid (showL ⟨0, 0, ⟨#[]⟩⟩ = s.data.toList) := by
        have h := beq_iff_eq.1 hcmp
        show _ = _
        rw [← HZ.out, h, ByteArray.toList_eq]
      go_wp2_with fail
      refine bodyPost_ret (v := .tuple #[.agg #[.int .i64 0, .int .i64 0, .string ⟨#[]⟩], .bool true]) (by simp [results, Tryd.results42, go_sem, r0, r1, r2]) rfl ?_
      exact ⟨⟨0, 0, ⟨#[]⟩⟩, true, rfl, readsAs_yes HCH.out HSH.out ⟨by show (-9223372036854775808 : Int) ≤ (0 : Int); omega, by show (0 : Int) ≤ (9223372036854775807 : Int); omega⟩, (HK.out.trans (G := [w.heap.size, w.heap.size + 1]) (by exact Keeps.K) (fun k hk hm => by simp at hm; omega))⟩

set_option maxRecDepth 100000 in
set_option maxHeartbeats 3200000 in
theorem r5Read_yes (s : ByteArray) (w : World) (hT : Tabs w) (hs : s.size ≤ 100000) (t1 : (s.toList == [45]) = false) (t2 : (s.toList == [116, 114, 117, 101]) = true) (t3 : (s.toList == [102, 97, 108, 115, 101]) = false) (hn2 : ((s.size : Int) == 2) = false) (hnum : numD s.data.toList = (0, false)) (hbare : bareD s.data.toList = none)
    (hkey : ∀ u, checkD u = true → I64 u.n → showL u = s.data.toList → u = ⟨2, 1, ⟨#[]⟩⟩) : Calls Tryd.prog 42 #[.string s] w (ReadPost s w) := by
  have HT := hid hT
  have HNUM := hid hnum
  have HBARE := hid hbare
  have KEY := hid hkey
  have f0 : True := trivial
  have f1 : True := trivial
  clear hT hnum hbare hkey
  go_enter Tryd.func42, Tryd.ntmps42
  go_wp2_with fail
  refine (r5number_any s _ (by omega)).mono ?_
  rintro e w1 ⟨rfl, hk⟩
  have r0 : w1.cell? ⟨w.heap.size, 0, none⟩ = some (.int .i64 0) := hk.cellSome (by go_simp) (by simp)
  have r1 : w1.cell? ⟨w.heap.size, 1, none⟩ = some (.int .i64 0) := hk.cellSome (by go_simp) (by simp)
  have r2 : w1.cell? ⟨w.heap.size, 2, none⟩ = some (.string ⟨#[]⟩) := hk.cellSome (by go_simp) (by simp)
  have v0 : w1.cell? ⟨w.heap.size + 1, 0, none⟩ = some (.int .i64 0) := hk.cellSome (by go_simp) (by simp)
  have v1 : w1.cell? ⟨w.heap.size + 1, 1, none⟩ = some (.int .i64 0) := hk.cellSome (by go_simp) (by simp)
  have v2 : w1.cell? ⟨w.heap.size + 1, 2, none⟩ = some (.string ⟨#[]⟩) := hk.cellSome (by go_simp) (by simp)
  have f0 : ∀ i, w1.frozen? ⟨w.heap.size, i, none⟩ = false := fun i => (hk.frozen (a := ⟨w.heap.size, i, none⟩) (by first | (simp; done) | (simp; omega)) (by simp)).trans (by first | exact f0 i | simp [f0 i] | simp)
  have f1 : ∀ i, w1.frozen? ⟨w.heap.size + 1, i, none⟩ = false := fun i => (hk.frozen (a := ⟨w.heap.size + 1, i, none⟩) (by first | (simp; done) | (simp; omega)) (by simp)).trans (by first | exact f1 i | simp [f1 i] | simp)
  have HK : Hid (Keeps [] w w1) := Keeps.trans (by exact Keeps.K) hk (fun _ _ h => h)
  have S1 : w.heap.size + 1 < w1.heap.size := by have := hk.size; first | omega | (simp at this; omega)
  clear hk
  rw [HNUM.out]
  go_wp2_with fail
  refine (r5bare_any s _ (by omega)).mono ?_
  rw [HBARE.out]
  unfold bareV
  rintro e w2 ⟨rfl, hk⟩
  have r0 : w2.cell? ⟨w.heap.size, 0, none⟩ = some (.int .i64 0) := hk.cellSome (by go_simp) (by simp)
  have r1 : w2.cell? ⟨w.heap.size, 1, none⟩ = some (.int .i64 0) := hk.cellSome (by go_simp) (by simp)
  have r2 : w2.cell? ⟨w.heap.size, 2, none⟩ = some (.string ⟨#[]⟩) := hk.cellSome (by go_simp) (by simp)
  have v0 : w2.cell? ⟨w.heap.size + 1, 0, none⟩ = some (.int .i64 2) := hk.cellSome (by go_simp) (by simp)
  have v1 : w2.cell? ⟨w.heap.size + 1, 1, none⟩ = some (.int .i64 1) := hk.cellSome (by go_simp) (by simp)
  have v2 : w2.cell? ⟨w.heap.size + 1, 2, none⟩ = some (.string ⟨#[]⟩) := hk.cellSome (by go_simp) (by simp)
  have f0 : ∀ i, w2.frozen? ⟨w.heap.size, i, none⟩ = false := fun i => (hk.frozen (a := ⟨w.heap.size, i, none⟩) (by first | (simp; done) | (simp; omega)) (by simp)).trans (by first | exact f0 i | simp [f0 i] | simp)
  have f1 : ∀ i, w2.frozen? ⟨w.heap.size + 1, i, none⟩ = false := fun i => (hk.frozen (a := ⟨w.heap.size + 1, i, none⟩) (by first | (simp; done) | (simp; omega)) (by simp)).trans (by first | exact f1 i | simp [f1 i] | simp)
  have HK2 : Hid (Keeps [] w w2) := (HK.out.trans (G := [w.heap.size, w.heap.size + 1]) (by exact Keeps.K) (fun k hk hm => by simp at hm; omega)).trans hk (fun _ _ h => h)
  have S2 : w.heap.size + 1 < w2.heap.size := by have := hk.size; first | omega | (simp at this; omega)
  clear hk HK S1
  have HK := HK2
  clear HK2
  go_wp2_with fail
  refine (r5Check_all ⟨2, 1, ⟨#[]⟩⟩ _ (HT.out.k (HK.out.trans (G := [w.heap.size, w.heap.size + 1]) (by exact Keeps.K) (fun k hk hm => by simp at hm; omega)))).mono ?_
  rintro e w3 ⟨rfl, hk⟩
  have r0 : w3.cell? ⟨w.heap.size, 0, none⟩ = some (.int .i64 0) := hk.cellSome (by go_simp) (by simp)
  have r1 : w3.cell? ⟨w.heap.size, 1, none⟩ = some (.int .i64 0) := hk.cellSome (by go_simp) (by simp)
  have r2 : w3.cell? ⟨w.heap.size, 2, none⟩ = some (.string ⟨#[]⟩) := hk.cellSome (by go_simp) (by simp)
  have v0 : w3.cell? ⟨w.heap.size + 1, 0, none⟩ = some (.int .i64 2) := hk.cellSome (by go_simp) (by simp)
  have v1 : w3.cell? ⟨w.heap.size + 1, 1, none⟩ = some (.int .i64 1) := hk.cellSome (by go_simp) (by simp)
  have v2 : w3.cell? ⟨w.heap.size + 1, 2, none⟩ = some (.string ⟨#[]⟩) := hk.cellSome (by go_simp) (by simp)
  have f0 : ∀ i, w3.frozen? ⟨w.heap.size, i, none⟩ = false := fun i => (hk.frozen (a := ⟨w.heap.size, i, none⟩) (by first | (simp; done) | (simp; omega)) (by simp)).trans (by first | exact f0 i | simp [f0 i] | simp)
  have f1 : ∀ i, w3.frozen? ⟨w.heap.size + 1, i, none⟩ = false := fun i => (hk.frozen (a := ⟨w.heap.size + 1, i, none⟩) (by first | (simp; done) | (simp; omega)) (by simp)).trans (by first | exact f1 i | simp [f1 i] | simp)
  have HK3 : Hid (Keeps [] w w3) := (HK.out.trans (G := [w.heap.size, w.heap.size + 1]) (by exact Keeps.K) (fun k hk hm => by simp at hm; omega)).trans hk (fun _ _ h => h)
  have S3 : w.heap.size + 1 < w3.heap.size := by have := hk.size; first | omega | (simp at this; omega)
  clear hk HK S2
  have HK := HK3
  clear HK3
  rcases hch : checkD ⟨2, 1, ⟨#[]⟩⟩ with _ | _
  · have HNO : Hid (∀ u : ValD, checkD u = true → I64 u.n → showL u ≠ s.data.toList) := by
      intro u hc hi h
      rw [KEY.out u hc hi h, hch] at hc
      cases hc
    clear hch
    go_wp2_with fail
    refine bodyPost_ret (v := .tuple #[.agg #[.int .i64 0, .int .i64 0, .string ⟨#[]⟩], .bool false]) (by simp [results, Tryd.results42, go_sem, r0, r1, r2]) rfl ?_
    exact ⟨_, _, rfl, readsAs_no (HNO.out), (HK.out.trans (G := [w.heap.size, w.heap.size + 1]) (by exact Keeps.K) (fun k hk hm => by simp at hm; omega))⟩
  · have HCH := hid hch
    clear hch
    go_wp2_with fail
    refine (r5Show_any ⟨2, 1, ⟨#[]⟩⟩ _ HCH.out ⟨by show (-9223372036854775808 : Int) ≤ (1 : Int); omega, by show (1 : Int) ≤ (9223372036854775807 : Int); omega⟩).mono ?_
    obtain ⟨z, hz⟩ : ∃ z, str (showL ⟨2, 1, ⟨#[]⟩⟩) = z := ⟨_, rfl⟩
    have HZ : Hid (z.toList = showL ⟨2, 1, ⟨#[]⟩⟩) := by
      show _ = _
      rw [← hz]
      exact str_toList _
    rw [hz]
    clear hz
    rintro e w4 ⟨rfl, hk⟩
    have r0 : w4.cell? ⟨w.heap.size, 0, none⟩ = some (.int .i64 0) := hk.cellSome (by go_simp) (by simp)
    have r1 : w4.cell? ⟨w.heap.size, 1, none⟩ = some (.int .i64 0) := hk.cellSome (by go_simp) (by simp)
    have r2 : w4.cell? ⟨w.heap.size, 2, none⟩ = some (.string ⟨#[]⟩) := hk.cellSome (by go_simp) (by simp)
    have v0 : w4.cell? ⟨w.heap.size + 1, 0, none⟩ = some (.int .i64 2) := hk.cellSome (by go_simp) (by simp)
    have v1 : w4.cell? ⟨w.heap.size + 1, 1, none⟩ = some (.int .i64 1) := hk.cellSome (by go_simp) (by simp)
    have v2 : w4.cell? ⟨w.heap.size + 1, 2, none⟩ = some (.string ⟨#[]⟩) := hk.cellSome (by go_simp) (by simp)
    have f0 : ∀ i, w4.frozen? ⟨w.heap.size, i, none⟩ = false := fun i => (hk.frozen (a := ⟨w.heap.size, i, none⟩) (by first | (simp; done) | (simp; omega)) (by simp)).trans (by first | exact f0 i | simp [f0 i] | simp)
    have f1 : ∀ i, w4.frozen? ⟨w.heap.size + 1, i, none⟩ = false := fun i => (hk.frozen (a := ⟨w.heap.size + 1, i, none⟩) (by first | (simp; done) | (simp; omega)) (by simp)).trans (by first | exact f1 i | simp [f1 i] | simp)
    have HK4 : Hid (Keeps [] w w4) := (HK.out.trans (G := [w.heap.size, w.heap.size + 1]) (by exact Keeps.K) (fun k hk hm => by simp at hm; omega)).trans hk (fun _ _ h => h)
    have S4 : w.heap.size + 1 < w4.heap.size := by have := hk.size; first | omega | (simp at this; omega)
    clear hk HK S3
    have HK := HK4
    clear HK4
    rcases hcmp : (z.toList == s.toList) with _ | _
    · have hcmp2 : (z.toList != s.toList) = true := by rw [bne, hcmp]; rfl
      have HNO : Hid (∀ u : ValD, checkD u = true → I64 u.n → showL u ≠ s.data.toList) := by
        intro u hc hi h
        rw [KEY.out u hc hi h, ← HZ.out, ← ByteArray.toList_eq] at h
        rw [h] at hcmp
        simp at hcmp
      go_wp2_with fail
      refine bodyPost_ret (v := .tuple #[.agg #[.int .i64 0, .int .i64 0, .string ⟨#[]⟩], .bool false]) (by simp [results, Tryd.results42, go_sem, r0, r1, r2]) rfl ?_
      exact ⟨_, _, rfl, readsAs_no (HNO.out), (HK.out.trans (G := [w.heap.size, w.heap.size + 1]) (by exact Keeps.K) (fun k hk hm => by simp at hm; omega))⟩
    · have hcmp2 : (z.toList != s.toList) = false := by rw [bne, hcmp]; rfl
      have HSH : Hid (showL ⟨2, 1, ⟨#[]⟩⟩ = s.data.toList) := by
        have h := beq_iff_eq.1 hcmp
        show _ = _
        rw [← HZ.out, h, ByteArray.toList_eq]
      go_wp2_with fail
      refine bodyPost_ret (v := .tuple #[.agg #[.int .i64 2, .int .i64 1, .string ⟨#[]⟩], .bool true]) (by simp [results, Tryd.results42, go_sem, r0, r1, r2]) rfl ?_
      exact ⟨⟨2, 1, ⟨#[]⟩⟩, true, rfl, readsAs_yes HCH.out HSH.out ⟨by show (-9223372036854775808 : Int) ≤ (1 : Int); omega, by show (1 : Int) ≤ (9223372036854775807 : Int); omega⟩, (HK.out.trans (G := [w.heap.size, w.heap.size + 1]) (by exact Keeps.K) (fun k hk hm => by simp at hm; omega))⟩

set_option maxRecDepth 100000 in
set_option maxHeartbeats 3200000 in
theorem r5Read_nay (s : ByteArray) (w : World) (hT : Tabs w) (hs : s.size ≤ 100000) (t1 : (s.toList == [45]) = false) (t2 : (s.toList == [116, 114, 117, 101]) = false) (t3 : (s.toList == [102, 97, 108, 115, 101]) = true) (hn2 : ((s.size : Int) == 2) = false) (hnum : numD s.data.toList = (0, false)) (hbare : bareD s.data.toList = none)
    (hkey : ∀ u, checkD u = true → I64 u.n → showL u = s.data.toList → u = ⟨2, 0, ⟨#[]⟩⟩) : Calls Tryd.prog 42 #[.string s] w (ReadPost s w) := by
  have HT := hid hT
  have HNUM := hid hnum
  have HBARE := hid hbare
  have KEY := hid hkey
  have f0 : True := trivial
  have f1 : True := trivial
  clear hT hnum hbare hkey
  go_enter Tryd.func42, Tryd.ntmps42
  go_wp2_with fail
  refine (r5number_any s _ (by omega)).mono ?_
  rintro e w1 ⟨rfl, hk⟩
  have r0 : w1.cell? ⟨w.heap.size, 0, none⟩ = some (.int .i64 0) := hk.cellSome (by go_simp) (by simp)
  have r1 : w1.cell? ⟨w.heap.size, 1, none⟩ = some (.int .i64 0) := hk.cellSome (by go_simp) (by simp)
  have r2 : w1.cell? ⟨w.heap.size, 2, none⟩ = some (.string ⟨#[]⟩) := hk.cellSome (by go_simp) (by simp)
  have v0 : w1.cell? ⟨w.heap.size + 1, 0, none⟩ = some (.int .i64 0) := hk.cellSome (by go_simp) (by simp)
  have v1 : w1.cell? ⟨w.heap.size + 1, 1, none⟩ = some (.int .i64 0) := hk.cellSome (by go_simp) (by simp)
  have v2 : w1.cell? ⟨w.heap.size + 1, 2, none⟩ = some (.string ⟨#[]⟩) := hk.cellSome (by go_simp) (by simp)
  have f0 : ∀ i, w1.frozen? ⟨w.heap.size, i, none⟩ = false := fun i => (hk.frozen (a := ⟨w.heap.size, i, none⟩) (by first | (simp; done) | (simp; omega)) (by simp)).trans (by first | exact f0 i | simp [f0 i] | simp)
  have f1 : ∀ i, w1.frozen? ⟨w.heap.size + 1, i, none⟩ = false := fun i => (hk.frozen (a := ⟨w.heap.size + 1, i, none⟩) (by first | (simp; done) | (simp; omega)) (by simp)).trans (by first | exact f1 i | simp [f1 i] | simp)
  have HK : Hid (Keeps [] w w1) := Keeps.trans (by exact Keeps.K) hk (fun _ _ h => h)
  have S1 : w.heap.size + 1 < w1.heap.size := by have := hk.size; first | omega | (simp at this; omega)
  clear hk
  rw [HNUM.out]
  go_wp2_with fail
  refine (r5bare_any s _ (by omega)).mono ?_
  rw [HBARE.out]
  unfold bareV
  rintro e w2 ⟨rfl, hk⟩
  have r0 : w2.cell? ⟨w.heap.size, 0, none⟩ = some (.int .i64 0) := hk.cellSome (by go_simp) (by simp)
  have r1 : w2.cell? ⟨w.heap.size, 1, none⟩ = some (.int .i64 0) := hk.cellSome (by go_simp) (by simp)
  have r2 : w2.cell? ⟨w.heap.size, 2, none⟩ = some (.string ⟨#[]⟩) := hk.cellSome (by go_simp) (by simp)
  have v0 : w2.cell? ⟨w.heap.size + 1, 0, none⟩ = some (.int .i64 2) := hk.cellSome (by go_simp) (by simp)
  have v1 : w2.cell? ⟨w.heap.size + 1, 1, none⟩ = some (.int .i64 0) := hk.cellSome (by go_simp) (by simp)
  have v2 : w2.cell? ⟨w.heap.size + 1, 2, none⟩ = some (.string ⟨#[]⟩) := hk.cellSome (by go_simp) (by simp)
  have f0 : ∀ i, w2.frozen? ⟨w.heap.size, i, none⟩ = false := fun i => (hk.frozen (a := ⟨w.heap.size, i, none⟩) (by first | (simp; done) | (simp; omega)) (by simp)).trans (by first | exact f0 i | simp [f0 i] | simp)
  have f1 : ∀ i, w2.frozen? ⟨w.heap.size + 1, i, none⟩ = false := fun i => (hk.frozen (a := ⟨w.heap.size + 1, i, none⟩) (by first | (simp; done) | (simp; omega)) (by simp)).trans (by first | exact f1 i | simp [f1 i] | simp)
  have HK2 : Hid (Keeps [] w w2) := (HK.out.trans (G := [w.heap.size, w.heap.size + 1]) (by exact Keeps.K) (fun k hk hm => by simp at hm; omega)).trans hk (fun _ _ h => h)
  have S2 : w.heap.size + 1 < w2.heap.size := by have := hk.size; first | omega | (simp at this; omega)
  clear hk HK S1
  have HK := HK2
  clear HK2
  go_wp2_with fail
  refine (r5Check_all ⟨2, 0, ⟨#[]⟩⟩ _ (HT.out.k (HK.out.trans (G := [w.heap.size, w.heap.size + 1]) (by exact Keeps.K) (fun k hk hm => by simp at hm; omega)))).mono ?_
  rintro e w3 ⟨rfl, hk⟩
  have r0 : w3.cell? ⟨w.heap.size, 0, none⟩ = some (.int .i64 0) := hk.cellSome (by go_simp) (by simp)
  have r1 : w3.cell? ⟨w.heap.size, 1, none⟩ = some (.int .i64 0) := hk.cellSome (by go_simp) (by simp)
  have r2 : w3.cell? ⟨w.heap.size, 2, none⟩ = some (.string ⟨#[]⟩) := hk.cellSome (by go_simp) (by simp)
  have v0 : w3.cell? ⟨w.heap.size + 1, 0, none⟩ = some (.int .i64 2) := hk.cellSome (by go_simp) (by simp)
  have v1 : w3.cell? ⟨w.heap.size + 1, 1, none⟩ = some (.int .i64 0) := hk.cellSome (by go_simp) (by simp)
  have v2 : w3.cell? ⟨w.heap.size + 1, 2, none⟩ = some (.string ⟨#[]⟩) := hk.cellSome (by go_simp) (by simp)
  have f0 : ∀ i, w3.frozen? ⟨w.heap.size, i, none⟩ = false := fun i => (hk.frozen (a := ⟨w.heap.size, i, none⟩) (by first | (simp; done) | (simp; omega)) (by simp)).trans (by first | exact f0 i | simp [f0 i] | simp)
  have f1 : ∀ i, w3.frozen? ⟨w.heap.size + 1, i, none⟩ = false := fun i => (hk.frozen (a := ⟨w.heap.size + 1, i, none⟩) (by first | (simp; done) | (simp; omega)) (by simp)).trans (by first | exact f1 i | simp [f1 i] | simp)
  have HK3 : Hid (Keeps [] w w3) := (HK.out.trans (G := [w.heap.size, w.heap.size + 1]) (by exact Keeps.K) (fun k hk hm => by simp at hm; omega)).trans hk (fun _ _ h => h)
  have S3 : w.heap.size + 1 < w3.heap.size := by have := hk.size; first | omega | (simp at this; omega)
  clear hk HK S2
  have HK := HK3
  clear HK3
  rcases hch : checkD ⟨2, 0, ⟨#[]⟩⟩ with _ | _
  · have HNO : Hid (∀ u : ValD, checkD u = true → I64 u.n → showL u ≠ s.data.toList) := by
      intro u hc hi h
      rw [KEY.out u hc hi h, hch] at hc
      cases hc
    clear hch
    go_wp2_with fail
    refine bodyPost_ret (v := .tuple #[.agg #[.int .i64 0, .int .i64 0, .string ⟨#[]⟩], .bool false]) (by simp [results, Tryd.results42, go_sem, r0, r1, r2]) rfl ?_
    exact ⟨_, _, rfl, readsAs_no (HNO.out), (HK.out.trans (G := [w.heap.size, w.heap.size + 1]) (by exact Keeps.K) (fun k hk hm => by simp at hm; omega))⟩
  · have HCH := hid hch
    clear hch
    go_wp2_with fail
    refine (r5Show_any ⟨2, 0, ⟨#[]⟩⟩ _ HCH.out ⟨by show (-9223372036854775808 : Int) ≤ (0 : Int); omega, by show (0 : Int) ≤ (9223372036854775807 : Int); omega⟩).mono ?_
    obtain ⟨z, hz⟩ : ∃ z, str (showL ⟨2, 0, ⟨#[]⟩⟩) = z := ⟨_, rfl⟩
    have HZ : Hid (z.toList = showL ⟨2, 0, ⟨#[]⟩⟩) := by
      show _ = _
      rw [← hz]
      exact str_toList _
    rw [hz]
    clear hz
    rintro e w4 ⟨rfl, hk⟩
    have r0 : w4.cell? ⟨w.heap.size, 0, none⟩ = some (.int .i64 0) := hk.cellSome (by go_simp) (by simp)
    have r1 : w4.cell? ⟨w.heap.size, 1, none⟩ = some (.int .i64 0) := hk.cellSome (by go_simp) (by simp)
    have r2 : w4.cell? ⟨w.heap.size, 2, none⟩ = some (.string ⟨#[]⟩) := hk.cellSome (by go_simp) (by simp)
    have v0 : w4.cell? ⟨w.heap.size + 1, 0, none⟩ = some (.int .i64 2) := hk.cellSome (by go_simp) (by simp)
    have v1 : w4.cell? ⟨w.heap.size + 1, 1, none⟩ = some (.int .i64 0) := hk.cellSome (by go_simp) (by simp)
    have v2 : w4.cell? ⟨w.heap.size + 1, 2, none⟩ = some (.string ⟨#[]⟩) := hk.cellSome (by go_simp) (by simp)
    have f0 : ∀ i, w4.frozen? ⟨w.heap.size, i, none⟩ = false := fun i => (hk.frozen (a := ⟨w.heap.size, i, none⟩) (by first | (simp; done) | (simp; omega)) (by simp)).trans (by first | exact f0 i | simp [f0 i] | simp)
    have f1 : ∀ i, w4.frozen? ⟨w.heap.size + 1, i, none⟩ = false := fun i => (hk.frozen (a := ⟨w.heap.size + 1, i, none⟩) (by first | (simp; done) | (simp; omega)) (by simp)).trans (by first | exact f1 i | simp [f1 i] | simp)
    have HK4 : Hid (Keeps [] w w4) := (HK.out.trans (G := [w.heap.size, w.heap.size + 1]) (by exact Keeps.K) (fun k hk hm => by simp at hm; omega)).trans hk (fun _ _ h => h)
    have S4 : w.heap.size + 1 < w4.heap.size := by have := hk.size; first | omega | (simp at this; omega)
    clear hk HK S3
    have HK := HK4
    clear HK4
    rcases hcmp : (z.toList == s.toList) with _ | _
    · have hcmp2 : (z.toList != s.toList) = true := by rw [bne, hcmp]; rfl
      have HNO : Hid (∀ u : ValD, checkD u = true → I64 u.n → showL u ≠ s.data.toList) := by
        intro u hc hi h
        rw [KEY.out u hc hi h, ← HZ.out, ← ByteArray.toList_eq] at h
        rw [h] at hcmp
        simp at hcmp
      go_wp2_with fail
      refine bodyPost_ret (v := .tuple #[.agg #[.int .i64 0, .int .i64 0, .string ⟨#[]⟩], .bool false]) (by simp [results, Tryd.results42, go_sem, r0, r1, r2]) rfl ?_
      exact ⟨_, _, rfl, readsAs_no (HNO.out), (HK.out.trans (G := [w.heap.size, w.heap.size + 1]) (by exact Keeps.K) (fun k hk hm => by simp at hm; omega))⟩
    · have hcmp2 : (z.toList != s.toList) = false := by rw [bne, hcmp]; rfl
      have HSH : Hid (showL ⟨2, 0, ⟨#[]⟩⟩ = s.data.toList) := by
        have h := beq_iff_eq.1 hcmp
        show _ = _
        rw [← HZ.out, h, ByteArray.toList_eq]
      go_wp2_with fail
      refine bodyPost_ret (v := .tuple #[.agg #[.int .i64 2, .int .i64 0, .string ⟨#[]⟩], .bool true]) (by simp [results, Tryd.results42, go_sem, r0, r1, r2]) rfl ?_
      exact ⟨⟨2, 0, ⟨#[]⟩⟩, true, rfl, readsAs_yes HCH.out HSH.out ⟨by show (-9223372036854775808 : Int) ≤ (0 : Int); omega, by show (0 : Int) ≤ (9223372036854775807 : Int); omega⟩, (HK.out.trans (G := [w.heap.size, w.heap.size + 1]) (by exact Keeps.K) (fun k hk hm => by simp at hm; omega))⟩

set_option maxRecDepth 100000 in
set_option maxHeartbeats 3200000 in
theorem r5Read_num (s : ByteArray) (w : World) (hT : Tabs w) (hs : s.size ≤ 100000) (t1 : (s.toList == [45]) = false) (t2 : (s.toList == [116, 114, 117, 101]) = false) (t3 : (s.toList == [102, 97, 108, 115, 101]) = false) (h2 : ((s.size : Int) == 2) = false ∨ (((s.size : Int) == 2) = true ∧ ∃ (h : 0 < s.size), (((s[0]'h).toNat : Int) == 35) = false)) (n : Int) (hn : I64 n) (hnum : numD s.data.toList = (n, true)) (hbare : bareD s.data.toList = none)
    (hkey : ∀ u, checkD u = true → I64 u.n → showL u = s.data.toList → u = ⟨1, n, ⟨#[]⟩⟩) : Calls Tryd.prog 42 #[.string s] w (ReadPost s w) := by
  have HT := hid hT
  have HNUM := hid hnum
  have HBARE := hid hbare
  have KEY := hid hkey
  have f0 : True := trivial
  have f1 : True := trivial
  clear hT hnum hbare hkey
  have HN := hid hn
  clear hn
  rcases h2 with h2 | ⟨h2, h0, h3⟩
  all_goals
    go_enter Tryd.func42, Tryd.ntmps42
    go_wp2_with fail
    refine (r5number_any s _ (by omega)).mono ?_
    rintro e w1 ⟨rfl, hk⟩
    have r0 : w1.cell? ⟨w.heap.size, 0, none⟩ = some (.int .i64 0) := hk.cellSome (by go_simp) (by simp)
    have r1 : w1.cell? ⟨w.heap.size, 1, none⟩ = some (.int .i64 0) := hk.cellSome (by go_simp) (by simp)
    have r2 : w1.cell? ⟨w.heap.size, 2, none⟩ = some (.string ⟨#[]⟩) := hk.cellSome (by go_simp) (by simp)
    have v0 : w1.cell? ⟨w.heap.size + 1, 0, none⟩ = some (.int .i64 0) := hk.cellSome (by go_simp) (by simp)
    have v1 : w1.cell? ⟨w.heap.size + 1, 1, none⟩ = some (.int .i64 0) := hk.cellSome (by go_simp) (by simp)
    have v2 : w1.cell? ⟨w.heap.size + 1, 2, none⟩ = some (.string ⟨#[]⟩) := hk.cellSome (by go_simp) (by simp)
    have f0 : ∀ i, w1.frozen? ⟨w.heap.size, i, none⟩ = false := fun i => (hk.frozen (a := ⟨w.heap.size, i, none⟩) (by first | (simp; done) | (simp; omega)) (by simp)).trans (by first | exact f0 i | simp [f0 i] | simp)
    have f1 : ∀ i, w1.frozen? ⟨w.heap.size + 1, i, none⟩ = false := fun i => (hk.frozen (a := ⟨w.heap.size + 1, i, none⟩) (by first | (simp; done) | (simp; omega)) (by simp)).trans (by first | exact f1 i | simp [f1 i] | simp)
    have HK : Hid (Keeps [] w w1) := Keeps.trans (by exact Keeps.K) hk (fun _ _ h => h)
    have S1 : w.heap.size + 1 < w1.heap.size := by have := hk.size; first | omega | (simp at this; omega)
    clear hk
    rw [HNUM.out]
    go_wp2_with fail
    refine (r5bare_any s _ (by omega)).mono ?_
    rw [HBARE.out]
    unfold bareV
    rintro e w2 ⟨rfl, hk⟩
    have r0 : w2.cell? ⟨w.heap.size, 0, none⟩ = some (.int .i64 0) := hk.cellSome (by go_simp) (by simp)
    have r1 : w2.cell? ⟨w.heap.size, 1, none⟩ = some (.int .i64 0) := hk.cellSome (by go_simp) (by simp)
    have r2 : w2.cell? ⟨w.heap.size, 2, none⟩ = some (.string ⟨#[]⟩) := hk.cellSome (by go_simp) (by simp)
    have v0 : w2.cell? ⟨w.heap.size + 1, 0, none⟩ = some (.int .i64 1) := hk.cellSome (by go_simp) (by simp)
    have v1 : w2.cell? ⟨w.heap.size + 1, 1, none⟩ = some (.int .i64 n) := hk.cellSome (by go_simp) (by simp)
    have v2 : w2.cell? ⟨w.heap.size + 1, 2, none⟩ = some (.string ⟨#[]⟩) := hk.cellSome (by go_simp) (by simp)
    have f0 : ∀ i, w2.frozen? ⟨w.heap.size, i, none⟩ = false := fun i => (hk.frozen (a := ⟨w.heap.size, i, none⟩) (by first | (simp; done) | (simp; omega)) (by simp)).trans (by first | exact f0 i | simp [f0 i] | simp)
    have f1 : ∀ i, w2.frozen? ⟨w.heap.size + 1, i, none⟩ = false := fun i => (hk.frozen (a := ⟨w.heap.size + 1, i, none⟩) (by first | (simp; done) | (simp; omega)) (by simp)).trans (by first | exact f1 i | simp [f1 i] | simp)
    have HK2 : Hid (Keeps [] w w2) := (HK.out.trans (G := [w.heap.size, w.heap.size + 1]) (by exact Keeps.K) (fun k hk hm => by simp at hm; omega)).trans hk (fun _ _ h => h)
    have S2 : w.heap.size + 1 < w2.heap.size := by have := hk.size; first | omega | (simp at this; omega)
    clear hk HK S1
    have HK := HK2
    clear HK2
    go_wp2_with fail
    refine (r5Check_all ⟨1, n, ⟨#[]⟩⟩ _ (HT.out.k (HK.out.trans (G := [w.heap.size, w.heap.size + 1]) (by exact Keeps.K) (fun k hk hm => by simp at hm; omega)))).mono ?_
    rintro e w3 ⟨rfl, hk⟩
    have r0 : w3.cell? ⟨w.heap.size, 0, none⟩ = some (.int .i64 0) := hk.cellSome (by go_simp) (by simp)
    have r1 : w3.cell? ⟨w.heap.size, 1, none⟩ = some (.int .i64 0) := hk.cellSome (by go_simp) (by simp)
    have r2 : w3.cell? ⟨w.heap.size, 2, none⟩ = some (.string ⟨#[]⟩) := hk.cellSome (by go_simp) (by simp)
    have v0 : w3.cell? ⟨w.heap.size + 1, 0, none⟩ = some (.int .i64 1) := hk.cellSome (by go_simp) (by simp)
    have v1 : w3.cell? ⟨w.heap.size + 1, 1, none⟩ = some (.int .i64 n) := hk.cellSome (by go_simp) (by simp)
    have v2 : w3.cell? ⟨w.heap.size + 1, 2, none⟩ = some (.string ⟨#[]⟩) := hk.cellSome (by go_simp) (by simp)
    have f0 : ∀ i, w3.frozen? ⟨w.heap.size, i, none⟩ = false := fun i => (hk.frozen (a := ⟨w.heap.size, i, none⟩) (by first | (simp; done) | (simp; omega)) (by simp)).trans (by first | exact f0 i | simp [f0 i] | simp)
    have f1 : ∀ i, w3.frozen? ⟨w.heap.size + 1, i, none⟩ = false := fun i => (hk.frozen (a := ⟨w.heap.size + 1, i, none⟩) (by first | (simp; done) | (simp; omega)) (by simp)).trans (by first | exact f1 i | simp [f1 i] | simp)
    have HK3 : Hid (Keeps [] w w3) := (HK.out.trans (G := [w.heap.size, w.heap.size + 1]) (by exact Keeps.K) (fun k hk hm => by simp at hm; omega)).trans hk (fun _ _ h => h)
    have S3 : w.heap.size + 1 < w3.heap.size := by have := hk.size; first | omega | (simp at this; omega)
    clear hk HK S2
    have HK := HK3
    clear HK3
    rcases hch : checkD ⟨1, n, ⟨#[]⟩⟩ with _ | _
    · have HNO : Hid (∀ u : ValD, checkD u = true → I64 u.n → showL u ≠ s.data.toList) := by
        intro u hc hi h
        rw [KEY.out u hc hi h, hch] at hc
        cases hc
      clear hch
      go_wp2_with fail
      refine bodyPost_ret (v := .tuple #[.agg #[.int .i64 0, .int .i64 0, .string ⟨#[]⟩], .bool false]) (by simp [results, Tryd.results42, go_sem, r0, r1, r2]) rfl ?_
      exact ⟨_, _, rfl, readsAs_no (HNO.out), (HK.out.trans (G := [w.heap.size, w.heap.size + 1]) (by exact Keeps.K) (fun k hk hm => by simp at hm; omega))⟩
    · have HCH := hid hch
      clear hch
      go_wp2_with fail
      refine (r5Show_any ⟨1, n, ⟨#[]⟩⟩ _ HCH.out HN.out).mono ?_
      obtain ⟨z, hz⟩ : ∃ z, str (showL ⟨1, n, ⟨#[]⟩⟩) = z := ⟨_, rfl⟩
      have HZ : Hid (z.toList = showL ⟨1, n, ⟨#[]⟩⟩) := by
        show _ = _
        rw [← hz]
        exact str_toList _
      rw [hz]
      clear hz
      rintro e w4 ⟨rfl, hk⟩
      have r0 : w4.cell? ⟨w.heap.size, 0, none⟩ = some (.int .i64 0) := hk.cellSome (by go_simp) (by simp)
      have r1 : w4.cell? ⟨w.heap.size, 1, none⟩ = some (.int .i64 0) := hk.cellSome (by go_simp) (by simp)
      have r2 : w4.cell? ⟨w.heap.size, 2, none⟩ = some (.string ⟨#[]⟩) := hk.cellSome (by go_simp) (by simp)
      have v0 : w4.cell? ⟨w.heap.size + 1, 0, none⟩ = some (.int .i64 1) := hk.cellSome (by go_simp) (by simp)
      have v1 : w4.cell? ⟨w.heap.size + 1, 1, none⟩ = some (.int .i64 n) := hk.cellSome (by go_simp) (by simp)
      have v2 : w4.cell? ⟨w.heap.size + 1, 2, none⟩ = some (.string ⟨#[]⟩) := hk.cellSome (by go_simp) (by simp)
      have f0 : ∀ i, w4.frozen? ⟨w.heap.size, i, none⟩ = false := fun i => (hk.frozen (a := ⟨w.heap.size, i, none⟩) (by first | (simp; done) | (simp; omega)) (by simp)).trans (by first | exact f0 i | simp [f0 i] | simp)
      have f1 : ∀ i, w4.frozen? ⟨w.heap.size + 1, i, none⟩ = false := fun i => (hk.frozen (a := ⟨w.heap.size + 1, i, none⟩) (by first | (simp; done) | (simp; omega)) (by simp)).trans (by first | exact f1 i | simp [f1 i] | simp)
      have HK4 : Hid (Keeps [] w w4) := (HK.out.trans (G := [w.heap.size, w.heap.size + 1]) (by exact Keeps.K) (fun k hk hm => by simp at hm; omega)).trans hk (fun _ _ h => h)
      have S4 : w.heap.size + 1 < w4.heap.size := by have := hk.size; first | omega | (simp at this; omega)
      clear hk HK S3
      have HK := HK4
      clear HK4
      rcases hcmp : (z.toList == s.toList) with _ | _
      · have hcmp2 : (z.toList != s.toList) = true := by rw [bne, hcmp]; rfl
        have HNO : Hid (∀ u : ValD, checkD u = true → I64 u.n → showL u ≠ s.data.toList) := by
          intro u hc hi h
          rw [KEY.out u hc hi h, ← HZ.out, ← ByteArray.toList_eq] at h
          rw [h] at hcmp
          simp at hcmp
        go_wp2_with fail
        refine bodyPost_ret (v := .tuple #[.agg #[.int .i64 0, .int .i64 0, .string ⟨#[]⟩], .bool false]) (by simp [results, Tryd.results42, go_sem, r0, r1, r2]) rfl ?_
        exact ⟨_, _, rfl, readsAs_no (HNO.out), (HK.out.trans (G := [w.heap.size, w.heap.size + 1]) (by exact Keeps.K) (fun k hk hm => by simp at hm; omega))⟩
      · have hcmp2 : (z.toList != s.toList) = false := by rw [bne, hcmp]; rfl
        have HSH : Hid (showL ⟨1, n, ⟨#[]⟩⟩ = s.data.toList) := by
          have h := beq_iff_eq.1 hcmp
          show _ = _
          rw [← HZ.out, h, ByteArray.toList_eq]
        go_wp2_with fail
        refine bodyPost_ret (v := .tuple #[.agg #[.int .i64 1, .int .i64 n, .string ⟨#[]⟩], .bool true]) (by simp [results, Tryd.results42, go_sem, r0, r1, r2]) rfl ?_
        exact ⟨⟨1, n, ⟨#[]⟩⟩, true, rfl, readsAs_yes HCH.out HSH.out HN.out, (HK.out.trans (G := [w.heap.size, w.heap.size + 1]) (by exact Keeps.K) (fun k hk hm => by simp at hm; omega))⟩

set_option maxRecDepth 100000 in
set_option maxHeartbeats 3200000 in
theorem r5Read_none (s : ByteArray) (w : World) (hT : Tabs w) (hs : s.size ≤ 100000) (t1 : (s.toList == [45]) = false) (t2 : (s.toList == [116, 114, 117, 101]) = false) (t3 : (s.toList == [102, 97, 108, 115, 101]) = false) (h2 : ((s.size : Int) == 2) = false ∨ (((s.size : Int) == 2) = true ∧ ∃ (h : 0 < s.size), (((s[0]'h).toNat : Int) == 35) = false)) (x : Int) (hnum : numD s.data.toList = (x, false)) (hbare : bareD s.data.toList = none)
    (hkey : ∀ u, checkD u = true → I64 u.n → showL u ≠ s.data.toList) : Calls Tryd.prog 42 #[.string s] w (ReadPost s w) := by
  have HT := hid hT
  have HNUM := hid hnum
  have HBARE := hid hbare
  have KEY := hid hkey
  have f0 : True := trivial
  have f1 : True := trivial
  clear hT hnum hbare hkey
  rcases h2 with h2 | ⟨h2, h0, h3⟩
  all_goals
    go_enter Tryd.func42, Tryd.ntmps42
    go_wp2_with fail
    refine (r5number_any s _ (by omega)).mono ?_
    rintro e w1 ⟨rfl, hk⟩
    have r0 : w1.cell? ⟨w.heap.size, 0, none⟩ = some (.int .i64 0) := hk.cellSome (by go_simp) (by simp)
    have r1 : w1.cell? ⟨w.heap.size, 1, none⟩ = some (.int .i64 0) := hk.cellSome (by go_simp) (by simp)
    have r2 : w1.cell? ⟨w.heap.size, 2, none⟩ = some (.string ⟨#[]⟩) := hk.cellSome (by go_simp) (by simp)
    have v0 : w1.cell? ⟨w.heap.size + 1, 0, none⟩ = some (.int .i64 0) := hk.cellSome (by go_simp) (by simp)
    have v1 : w1.cell? ⟨w.heap.size + 1, 1, none⟩ = some (.int .i64 0) := hk.cellSome (by go_simp) (by simp)
    have v2 : w1.cell? ⟨w.heap.size + 1, 2, none⟩ = some (.string ⟨#[]⟩) := hk.cellSome (by go_simp) (by simp)
    have f0 : ∀ i, w1.frozen? ⟨w.heap.size, i, none⟩ = false := fun i => (hk.frozen (a := ⟨w.heap.size, i, none⟩) (by first | (simp; done) | (simp; omega)) (by simp)).trans (by first | exact f0 i | simp [f0 i] | simp)
    have f1 : ∀ i, w1.frozen? ⟨w.heap.size + 1, i, none⟩ = false := fun i => (hk.frozen (a := ⟨w.heap.size + 1, i, none⟩) (by first | (simp; done) | (simp; omega)) (by simp)).trans (by first | exact f1 i | simp [f1 i] | simp)
    have HK : Hid (Keeps [] w w1) := Keeps.trans (by exact Keeps.K) hk (fun _ _ h => h)
    have S1 : w.heap.size + 1 < w1.heap.size := by have := hk.size; first | omega | (simp at this; omega)
    clear hk
    rw [HNUM.out]
    go_wp2_with fail
    refine (r5bare_any s _ (by omega)).mono ?_
    rw [HBARE.out]
    unfold bareV
    rintro e w2 ⟨rfl, hk⟩
    have r0 : w2.cell? ⟨w.heap.size, 0, none⟩ = some (.int .i64 0) := hk.cellSome (by go_simp) (by simp)
    have r1 : w2.cell? ⟨w.heap.size, 1, none⟩ = some (.int .i64 0) := hk.cellSome (by go_simp) (by simp)
    have r2 : w2.cell? ⟨w.heap.size, 2, none⟩ = some (.string ⟨#[]⟩) := hk.cellSome (by go_simp) (by simp)
    have v0 : w2.cell? ⟨w.heap.size + 1, 0, none⟩ = some (.int .i64 0) := hk.cellSome (by go_simp) (by simp)
    have v1 : w2.cell? ⟨w.heap.size + 1, 1, none⟩ = some (.int .i64 0) := hk.cellSome (by go_simp) (by simp)
    have v2 : w2.cell? ⟨w.heap.size + 1, 2, none⟩ = some (.string ⟨#[]⟩) := hk.cellSome (by go_simp) (by simp)
    have f0 : ∀ i, w2.frozen? ⟨w.heap.size, i, none⟩ = false := fun i => (hk.frozen (a := ⟨w.heap.size, i, none⟩) (by first | (simp; done) | (simp; omega)) (by simp)).trans (by first | exact f0 i | simp [f0 i] | simp)
    have f1 : ∀ i, w2.frozen? ⟨w.heap.size + 1, i, none⟩ = false := fun i => (hk.frozen (a := ⟨w.heap.size + 1, i, none⟩) (by first | (simp; done) | (simp; omega)) (by simp)).trans (by first | exact f1 i | simp [f1 i] | simp)
    have HK2 : Hid (Keeps [] w w2) := (HK.out.trans (G := [w.heap.size, w.heap.size + 1]) (by exact Keeps.K) (fun k hk hm => by simp at hm; omega)).trans hk (fun _ _ h => h)
    have S2 : w.heap.size + 1 < w2.heap.size := by have := hk.size; first | omega | (simp at this; omega)
    clear hk HK S1
    have HK := HK2
    clear HK2
    go_wp2_with fail
    refine bodyPost_ret (v := .tuple #[.agg #[.int .i64 0, .int .i64 0, .string ⟨#[]⟩], .bool false]) (by simp [results, Tryd.results42, go_sem, r0, r1, r2]) rfl ?_
    exact ⟨_, _, rfl, readsAs_no (KEY.out), (HK.out.trans (G := [w.heap.size, w.heap.size + 1]) (by exact Keeps.K) (fun k hk hm => by simp at hm; omega))⟩

set_option maxRecDepth 100000 in
set_option maxHeartbeats 3200000 in
theorem r5Read_bare (s : ByteArray) (w : World) (hT : Tabs w) (hs : s.size ≤ 100000) (t1 : (s.toList == [45]) = false) (t2 : (s.toList == [116, 114, 117, 101]) = false) (t3 : (s.toList == [102, 97, 108, 115, 101]) = false) (h2 : ((s.size : Int) == 2) = false ∨ (((s.size : Int) == 2) = true ∧ ∃ (h : 0 < s.size), (((s[0]'h).toNat : Int) == 35) = false)) (x : Int) (t : List UInt8) (hnum : numD s.data.toList = (x, false)) (hbare : bareD s.data.toList = some t)
    (hkey : ∀ u, checkD u = true → I64 u.n → showL u = s.data.toList → u = ⟨3, 0, str t⟩) : Calls Tryd.prog 42 #[.string s] w (ReadPost s w) := by
  have HT := hid hT
  have HNUM := hid hnum
  have HBARE := hid hbare
  have KEY := hid hkey
  have f0 : True := trivial
  have f1 : True := trivial
  clear hT hnum hbare hkey
  rcases h2 with h2 | ⟨h2, h0, h3⟩
  all_goals
    go_enter Tryd.func42, Tryd.ntmps42
    go_wp2_with fail
    refine (r5number_any s _ (by omega)).mono ?_
    rintro e w1 ⟨rfl, hk⟩
    have r0 : w1.cell? ⟨w.heap.size, 0, none⟩ = some (.int .i64 0) := hk.cellSome (by go_simp) (by simp)
    have r1 : w1.cell? ⟨w.heap.size, 1, none⟩ = some (.int .i64 0) := hk.cellSome (by go_simp) (by simp)
    have r2 : w1.cell? ⟨w.heap.size, 2, none⟩ = some (.string ⟨#[]⟩) := hk.cellSome (by go_simp) (by simp)
    have v0 : w1.cell? ⟨w.heap.size + 1, 0, none⟩ = some (.int .i64 0) := hk.cellSome (by go_simp) (by simp)
    have v1 : w1.cell? ⟨w.heap.size + 1, 1, none⟩ = some (.int .i64 0) := hk.cellSome (by go_simp) (by simp)
    have v2 : w1.cell? ⟨w.heap.size + 1, 2, none⟩ = some (.string ⟨#[]⟩) := hk.cellSome (by go_simp) (by simp)
    have f0 : ∀ i, w1.frozen? ⟨w.heap.size, i, none⟩ = false := fun i => (hk.frozen (a := ⟨w.heap.size, i, none⟩) (by first | (simp; done) | (simp; omega)) (by simp)).trans (by first | exact f0 i | simp [f0 i] | simp)
    have f1 : ∀ i, w1.frozen? ⟨w.heap.size + 1, i, none⟩ = false := fun i => (hk.frozen (a := ⟨w.heap.size + 1, i, none⟩) (by first | (simp; done) | (simp; omega)) (by simp)).trans (by first | exact f1 i | simp [f1 i] | simp)
    have HK : Hid (Keeps [] w w1) := Keeps.trans (by exact Keeps.K) hk (fun _ _ h => h)
    have S1 : w.heap.size + 1 < w1.heap.size := by have := hk.size; first | omega | (simp at this; omega)
    clear hk
    rw [HNUM.out]
    go_wp2_with fail
    refine (r5bare_any s _ (by omega)).mono ?_
    rw [HBARE.out]
    unfold bareV
    rintro e w2 ⟨rfl, hk⟩
    have r0 : w2.cell? ⟨w.heap.size, 0, none⟩ = some (.int .i64 0) := hk.cellSome (by go_simp) (by simp)
    have r1 : w2.cell? ⟨w.heap.size, 1, none⟩ = some (.int .i64 0) := hk.cellSome (by go_simp) (by simp)
    have r2 : w2.cell? ⟨w.heap.size, 2, none⟩ = some (.string ⟨#[]⟩) := hk.cellSome (by go_simp) (by simp)
    have v0 : w2.cell? ⟨w.heap.size + 1, 0, none⟩ = some (.int .i64 0) := hk.cellSome (by go_simp) (by simp)
    have v1 : w2.cell? ⟨w.heap.size + 1, 1, none⟩ = some (.int .i64 0) := hk.cellSome (by go_simp) (by simp)
    have v2 : w2.cell? ⟨w.heap.size + 1, 2, none⟩ = some (.string ⟨#[]⟩) := hk.cellSome (by go_simp) (by simp)
    have f0 : ∀ i, w2.frozen? ⟨w.heap.size, i, none⟩ = false := fun i => (hk.frozen (a := ⟨w.heap.size, i, none⟩) (by first | (simp; done) | (simp; omega)) (by simp)).trans (by first | exact f0 i | simp [f0 i] | simp)
    have f1 : ∀ i, w2.frozen? ⟨w.heap.size + 1, i, none⟩ = false := fun i => (hk.frozen (a := ⟨w.heap.size + 1, i, none⟩) (by first | (simp; done) | (simp; omega)) (by simp)).trans (by first | exact f1 i | simp [f1 i] | simp)
    have HK2 : Hid (Keeps [] w w2) := (HK.out.trans (G := [w.heap.size, w.heap.size + 1]) (by exact Keeps.K) (fun k hk hm => by simp at hm; omega)).trans hk (fun _ _ h => h)
    have S2 : w.heap.size + 1 < w2.heap.size := by have := hk.size; first | omega | (simp at this; omega)
    clear hk HK S1
    have HK := HK2
    clear HK2
    go_wp2_with fail
    refine (r5Check_all ⟨3, 0, str t⟩ _ (HT.out.k (HK.out.trans (G := [w.heap.size, w.heap.size + 1]) (by exact Keeps.K) (fun k hk hm => by simp at hm; omega)))).mono ?_
    rintro e w3 ⟨rfl, hk⟩
    have r0 : w3.cell? ⟨w.heap.size, 0, none⟩ = some (.int .i64 0) := hk.cellSome (by go_simp) (by simp)
    have r1 : w3.cell? ⟨w.heap.size, 1, none⟩ = some (.int .i64 0) := hk.cellSome (by go_simp) (by simp)
    have r2 : w3.cell? ⟨w.heap.size, 2, none⟩ = some (.string ⟨#[]⟩) := hk.cellSome (by go_simp) (by simp)
    have v0 : w3.cell? ⟨w.heap.size + 1, 0, none⟩ = some (.int .i64 3) := hk.cellSome (by go_simp) (by simp)
    have v1 : w3.cell? ⟨w.heap.size + 1, 1, none⟩ = some (.int .i64 0) := hk.cellSome (by go_simp) (by simp)
    have v2 : w3.cell? ⟨w.heap.size + 1, 2, none⟩ = some (.string (str t)) := hk.cellSome (by go_simp) (by simp)
    have f0 : ∀ i, w3.frozen? ⟨w.heap.size, i, none⟩ = false := fun i => (hk.frozen (a := ⟨w.heap.size, i, none⟩) (by first | (simp; done) | (simp; omega)) (by simp)).trans (by first | exact f0 i | simp [f0 i] | simp)
    have f1 : ∀ i, w3.frozen? ⟨w.heap.size + 1, i, none⟩ = false := fun i => (hk.frozen (a := ⟨w.heap.size + 1, i, none⟩) (by first | (simp; done) | (simp; omega)) (by simp)).trans (by first | exact f1 i | simp [f1 i] | simp)
    have HK3 : Hid (Keeps [] w w3) := (HK.out.trans (G := [w.heap.size, w.heap.size + 1]) (by exact Keeps.K) (fun k hk hm => by simp at hm; omega)).trans hk (fun _ _ h => h)
    have S3 : w.heap.size + 1 < w3.heap.size := by have := hk.size; first | omega | (simp at this; omega)
    clear hk HK S2
    have HK := HK3
    clear HK3
    rcases hch : checkD ⟨3, 0, str t⟩ with _ | _
    · have HNO : Hid (∀ u : ValD, checkD u = true → I64 u.n → showL u ≠ s.data.toList) := by
        intro u hc hi h
        rw [KEY.out u hc hi h, hch] at hc
        cases hc
      clear hch
      go_wp2_with fail
      refine bodyPost_ret (v := .tuple #[.agg #[.int .i64 0, .int .i64 0, .string ⟨#[]⟩], .bool false]) (by simp [results, Tryd.results42, go_sem, r0, r1, r2]) rfl ?_
      exact ⟨_, _, rfl, readsAs_no (HNO.out), (HK.out.trans (G := [w.heap.size, w.heap.size + 1]) (by exact Keeps.K) (fun k hk hm => by simp at hm; omega))⟩
    · have HCH := hid hch
      clear hch
      go_wp2_with fail
      refine (r5Show_any ⟨3, 0, str t⟩ _ HCH.out ⟨by show (-9223372036854775808 : Int) ≤ (0 : Int); omega, by show (0 : Int) ≤ (9223372036854775807 : Int); omega⟩).mono ?_
      obtain ⟨z, hz⟩ : ∃ z, str (showL ⟨3, 0, str t⟩) = z := ⟨_, rfl⟩
      have HZ : Hid (z.toList = showL ⟨3, 0, str t⟩) := by
        show _ = _
        rw [← hz]
        exact str_toList _
      rw [hz]
      clear hz
      rintro e w4 ⟨rfl, hk⟩
      have r0 : w4.cell? ⟨w.heap.size, 0, none⟩ = some (.int .i64 0) := hk.cellSome (by go_simp) (by simp)
      have r1 : w4.cell? ⟨w.heap.size, 1, none⟩ = some (.int .i64 0) := hk.cellSome (by go_simp) (by simp)
      have r2 : w4.cell? ⟨w.heap.size, 2, none⟩ = some (.string ⟨#[]⟩) := hk.cellSome (by go_simp) (by simp)
      have v0 : w4.cell? ⟨w.heap.size + 1, 0, none⟩ = some (.int .i64 3) := hk.cellSome (by go_simp) (by simp)
      have v1 : w4.cell? ⟨w.heap.size + 1, 1, none⟩ = some (.int .i64 0) := hk.cellSome (by go_simp) (by simp)
      have v2 : w4.cell? ⟨w.heap.size + 1, 2, none⟩ = some (.string (str t)) := hk.cellSome (by go_simp) (by simp)
      have f0 : ∀ i, w4.frozen? ⟨w.heap.size, i, none⟩ = false := fun i => (hk.frozen (a := ⟨w.heap.size, i, none⟩) (by first | (simp; done) | (simp; omega)) (by simp)).trans (by first | exact f0 i | simp [f0 i] | simp)
      have f1 : ∀ i, w4.frozen? ⟨w.heap.size + 1, i, none⟩ = false := fun i => (hk.frozen (a := ⟨w.heap.size + 1, i, none⟩) (by first | (simp; done) | (simp; omega)) (by simp)).trans (by first | exact f1 i | simp [f1 i] | simp)
      have HK4 : Hid (Keeps [] w w4) := (HK.out.trans (G := [w.heap.size, w.heap.size + 1]) (by exact Keeps.K) (fun k hk hm => by simp at hm; omega)).trans hk (fun _ _ h => h)
      have S4 : w.heap.size + 1 < w4.heap.size := by have := hk.size; first | omega | (simp at this; omega)
      clear hk HK S3
      have HK := HK4
      clear HK4
      rcases hcmp : (z.toList == s.toList) with _ | _
      · have hcmp2 : (z.toList != s.toList) = true := by rw [bne, hcmp]; rfl
        have HNO : Hid (∀ u : ValD, checkD u = true → I64 u.n → showL u ≠ s.data.toList) := by
          intro u hc hi h
          rw [KEY.out u hc hi h, ← HZ.out, ← ByteArray.toList_eq] at h
          rw [h] at hcmp
          simp at hcmp
        go_wp2_with fail
        refine bodyPost_ret (v := .tuple #[.agg #[.int .i64 0, .int .i64 0, .string ⟨#[]⟩], .bool false]) (by simp [results, Tryd.results42, go_sem, r0, r1, r2]) rfl ?_
        exact ⟨_, _, rfl, readsAs_no (HNO.out), (HK.out.trans (G := [w.heap.size, w.heap.size + 1]) (by exact Keeps.K) (fun k hk hm => by simp at hm; omega))⟩
      · have hcmp2 : (z.toList != s.toList) = false := by rw [bne, hcmp]; rfl
        have HSH : Hid (showL ⟨3, 0, str t⟩ = s.data.toList) := by
          have h := beq_iff_eq.1 hcmp
          show _ = _
          rw [← HZ.out, h, ByteArray.toList_eq]
        go_wp2_with fail
        refine bodyPost_ret (v := .tuple #[.agg #[.int .i64 3, .int .i64 0, .string (str t)], .bool true]) (by simp [results, Tryd.results42, go_sem, r0, r1, r2]) rfl ?_
        exact ⟨⟨3, 0, str t⟩, true, rfl, readsAs_yes HCH.out HSH.out ⟨by show (-9223372036854775808 : Int) ≤ (0 : Int); omega, by show (0 : Int) ≤ (9223372036854775807 : Int); omega⟩, (HK.out.trans (G := [w.heap.size, w.heap.size + 1]) (by exact Keeps.K) (fun k hk hm => by simp at hm; omega))⟩

set_option maxRecDepth 100000 in
set_option maxHeartbeats 3200000 in
theorem r5Read_hash (s : ByteArray) (w : World) (hT : Tabs w) (hs : s.size ≤ 100000) (t1 : (s.toList == [45]) = false) (t2 : (s.toList == [116, 114, 117, 101]) = false) (t3 : (s.toList == [102, 97, 108, 115, 101]) = false) (h2 : s.size = 2) (h0 : s[0]'(by omega) = 35) (c : UInt8) (hc : s[1]'(by omega) = c) (x : Int) (hnum : numD s.data.toList = (x, false)) (hbare : bareD s.data.toList = none)
    (hkey : ∀ u, checkD u = true → I64 u.n → showL u = s.data.toList → u = ⟨4, (c.toNat : Int) - 48, ⟨#[]⟩⟩) : Calls Tryd.prog 42 #[.string s] w (ReadPost s w) := by
  have HT := hid hT
  have HNUM := hid hnum
  have HBARE := hid hbare
  have KEY := hid hkey
  have f0 : True := trivial
  have f1 : True := trivial
  clear hT hnum hbare hkey
  have h2I : (s.size : Int) = 2 := by omega
  have h2b : ((s.size : Int) == 2) = true := by simp; omega
  have c256 : c.toNat < 256 := c.toNat_lt
  go_enter Tryd.func42, Tryd.ntmps42
  go_wp2_with fail
  refine (r5number_any s _ (by omega)).mono ?_
  rintro e w1 ⟨rfl, hk⟩
  have r0 : w1.cell? ⟨w.heap.size, 0, none⟩ = some (.int .i64 0) := hk.cellSome (by go_simp) (by simp)
  have r1 : w1.cell? ⟨w.heap.size, 1, none⟩ = some (.int .i64 0) := hk.cellSome (by go_simp) (by simp)
  have r2 : w1.cell? ⟨w.heap.size, 2, none⟩ = some (.string ⟨#[]⟩) := hk.cellSome (by go_simp) (by simp)
  have v0 : w1.cell? ⟨w.heap.size + 1, 0, none⟩ = some (.int .i64 0) := hk.cellSome (by go_simp) (by simp)
  have v1 : w1.cell? ⟨w.heap.size + 1, 1, none⟩ = some (.int .i64 0) := hk.cellSome (by go_simp) (by simp)
  have v2 : w1.cell? ⟨w.heap.size + 1, 2, none⟩ = some (.string ⟨#[]⟩) := hk.cellSome (by go_simp) (by simp)
  have f0 : ∀ i, w1.frozen? ⟨w.heap.size, i, none⟩ = false := fun i => (hk.frozen (a := ⟨w.heap.size, i, none⟩) (by first | (simp; done) | (simp; omega)) (by simp)).trans (by first | exact f0 i | simp [f0 i] | simp)
  have f1 : ∀ i, w1.frozen? ⟨w.heap.size + 1, i, none⟩ = false := fun i => (hk.frozen (a := ⟨w.heap.size + 1, i, none⟩) (by first | (simp; done) | (simp; omega)) (by simp)).trans (by first | exact f1 i | simp [f1 i] | simp)
  have HK : Hid (Keeps [] w w1) := Keeps.trans (by exact Keeps.K) hk (fun _ _ h => h)
  have S1 : w.heap.size + 1 < w1.heap.size := by have := hk.size; first | omega | (simp at this; omega)
  clear hk
  rw [HNUM.out]
  go_wp2_with fail
  refine (r5bare_any s _ (by omega)).mono ?_
  rw [HBARE.out]
  unfold bareV
  rintro e w2 ⟨rfl, hk⟩
  have r0 : w2.cell? ⟨w.heap.size, 0, none⟩ = some (.int .i64 0) := hk.cellSome (by go_simp) (by simp)
  have r1 : w2.cell? ⟨w.heap.size, 1, none⟩ = some (.int .i64 0) := hk.cellSome (by go_simp) (by simp)
  have r2 : w2.cell? ⟨w.heap.size, 2, none⟩ = some (.string ⟨#[]⟩) := hk.cellSome (by go_simp) (by simp)
  have v0 : w2.cell? ⟨w.heap.size + 1, 0, none⟩ = some (.int .i64 4) := hk.cellSome (by go_simp) (by simp)
  have v1 : w2.cell? ⟨w.heap.size + 1, 1, none⟩ = some (.int .i64 (c.toNat - 48)) := hk.cellSome (by go_simp) (by simp)
  have v2 : w2.cell? ⟨w.heap.size + 1, 2, none⟩ = some (.string ⟨#[]⟩) := hk.cellSome (by go_simp) (by simp)
  have f0 : ∀ i, w2.frozen? ⟨w.heap.size, i, none⟩ = false := fun i => (hk.frozen (a := ⟨w.heap.size, i, none⟩) (by first | (simp; done) | (simp; omega)) (by simp)).trans (by first | exact f0 i | simp [f0 i] | simp)
  have f1 : ∀ i, w2.frozen? ⟨w.heap.size + 1, i, none⟩ = false := fun i => (hk.frozen (a := ⟨w.heap.size + 1, i, none⟩) (by first | (simp; done) | (simp; omega)) (by simp)).trans (by first | exact f1 i | simp [f1 i] | simp)
  have HK2 : Hid (Keeps [] w w2) := (HK.out.trans (G := [w.heap.size, w.heap.size + 1]) (by exact Keeps.K) (fun k hk hm => by simp at hm; omega)).trans hk (fun _ _ h => h)
  have S2 : w.heap.size + 1 < w2.heap.size := by have := hk.size; first | omega | (simp at this; omega)
  clear hk HK S1
  have HK := HK2
  clear HK2
  go_wp2_with fail
  refine (r5Check_all ⟨4, (c.toNat : Int) - 48, ⟨#[]⟩⟩ _ (HT.out.k (HK.out.trans (G := [w.heap.size, w.heap.size + 1]) (by exact Keeps.K) (fun k hk hm => by simp at hm; omega)))).mono ?_
  rintro e w3 ⟨rfl, hk⟩
  have r0 : w3.cell? ⟨w.heap.size, 0, none⟩ = some (.int .i64 0) := hk.cellSome (by go_simp) (by simp)
  have r1 : w3.cell? ⟨w.heap.size, 1, none⟩ = some (.int .i64 0) := hk.cellSome (by go_simp) (by simp)
  have r2 : w3.cell? ⟨w.heap.size, 2, none⟩ = some (.string ⟨#[]⟩) := hk.cellSome (by go_simp) (by simp)
  have v0 : w3.cell? ⟨w.heap.size + 1, 0, none⟩ = some (.int .i64 4) := hk.cellSome (by go_simp) (by simp)
  have v1 : w3.cell? ⟨w.heap.size + 1, 1, none⟩ = some (.int .i64 (c.toNat - 48)) := hk.cellSome (by go_simp) (by simp)
  have v2 : w3.cell? ⟨w.heap.size + 1, 2, none⟩ = some (.string ⟨#[]⟩) := hk.cellSome (by go_simp) (by simp)
  have f0 : ∀ i, w3.frozen? ⟨w.heap.size, i, none⟩ = false := fun i => (hk.frozen (a := ⟨w.heap.size, i, none⟩) (by first | (simp; done) | (simp; omega)) (by simp)).trans (by first | exact f0 i | simp [f0 i] | simp)
  have f1 : ∀ i, w3.frozen? ⟨w.heap.size + 1, i, none⟩ = false := fun i => (hk.frozen (a := ⟨w.heap.size + 1, i, none⟩) (by first | (simp; done) | (simp; omega)) (by simp)).trans (by first | exact f1 i | simp [f1 i] | simp)
  have HK3 : Hid (Keeps [] w w3) := (HK.out.trans (G := [w.heap.size, w.heap.size + 1]) (by exact Keeps.K) (fun k hk hm => by simp at hm; omega)).trans hk (fun _ _ h => h)
  have S3 : w.heap.size + 1 < w3.heap.size := by have := hk.size; first | omega | (simp at this; omega)
  clear hk HK S2
  have HK := HK3
  clear HK3
  rcases hch : checkD ⟨4, (c.toNat : Int) - 48, ⟨#[]⟩⟩ with _ | _
  · have HNO : Hid (∀ u : ValD, checkD u = true → I64 u.n → showL u ≠ s.data.toList) := by
      intro u hc hi h
      rw [KEY.out u hc hi h, hch] at hc
      cases hc
    clear hch
    go_wp2_with fail
    refine bodyPost_ret (v := .tuple #[.agg #[.int .i64 0, .int .i64 0, .string ⟨#[]⟩], .bool false]) (by simp [results, Tryd.results42, go_sem, r0, r1, r2]) rfl ?_
    exact ⟨_, _, rfl, readsAs_no (HNO.out), (HK.out.trans (G := [w.heap.size, w.heap.size + 1]) (by exact Keeps.K) (fun k hk hm => by simp at hm; omega))⟩
  · have HCH := hid hch
    clear hch
    go_wp2_with fail
    refine (r5Show_any ⟨4, (c.toNat : Int) - 48, ⟨#[]⟩⟩ _ HCH.out ⟨by show (-9223372036854775808 : Int) ≤ (c.toNat : Int) - 48; omega, by show (c.toNat : Int) - 48 ≤ (9223372036854775807 : Int); omega⟩).mono ?_
    obtain ⟨z, hz⟩ : ∃ z, str (showL ⟨4, (c.toNat : Int) - 48, ⟨#[]⟩⟩) = z := ⟨_, rfl⟩
    have HZ : Hid (z.toList = showL ⟨4, (c.toNat : Int) - 48, ⟨#[]⟩⟩) := by
      show _ = _
      rw [← hz]
      exact str_toList _
    rw [hz]
    clear hz
    rintro e w4 ⟨rfl, hk⟩
    have r0 : w4.cell? ⟨w.heap.size, 0, none⟩ = some (.int .i64 0) := hk.cellSome (by go_simp) (by simp)
    have r1 : w4.cell? ⟨w.heap.size, 1, none⟩ = some (.int .i64 0) := hk.cellSome (by go_simp) (by simp)
    have r2 : w4.cell? ⟨w.heap.size, 2, none⟩ = some (.string ⟨#[]⟩) := hk.cellSome (by go_simp) (by simp)
    have v0 : w4.cell? ⟨w.heap.size + 1, 0, none⟩ = some (.int .i64 4) := hk.cellSome (by go_simp) (by simp)
    have v1 : w4.cell? ⟨w.heap.size + 1, 1, none⟩ = some (.int .i64 (c.toNat - 48)) := hk.cellSome (by go_simp) (by simp)
    have v2 : w4.cell? ⟨w.heap.size + 1, 2, none⟩ = some (.string ⟨#[]⟩) := hk.cellSome (by go_simp) (by simp)
    have f0 : ∀ i, w4.frozen? ⟨w.heap.size, i, none⟩ = false := fun i => (hk.frozen (a := ⟨w.heap.size, i, none⟩) (by first | (simp; done) | (simp; omega)) (by simp)).trans (by first | exact f0 i | simp [f0 i] | simp)
    have f1 : ∀ i, w4.frozen? ⟨w.heap.size + 1, i, none⟩ = false := fun i => (hk.frozen (a := ⟨w.heap.size + 1, i, none⟩) (by first | (simp; done) | (simp; omega)) (by simp)).trans (by first | exact f1 i | simp [f1 i] | simp)
    have HK4 : Hid (Keeps [] w w4) := (HK.out.trans (G := [w.heap.size, w.heap.size + 1]) (by exact Keeps.K) (fun k hk hm => by simp at hm; omega)).trans hk (fun _ _ h => h)
    have S4 : w.heap.size + 1 < w4.heap.size := by have := hk.size; first | omega | (simp at this; omega)
    clear hk HK S3
    have HK := HK4
    clear HK4
    rcases hcmp : (z.toList == s.toList) with _ | _
    · have hcmp2 : (z.toList != s.toList) = true := by rw [bne, hcmp]; rfl
      have HNO : Hid (∀ u : ValD, checkD u = true → I64 u.n → showL u ≠ s.data.toList) := by
        intro u hc hi h
        rw [KEY.out u hc hi h, ← HZ.out, ← ByteArray.toList_eq] at h
        rw [h] at hcmp
        simp at hcmp
      go_wp2_with fail
      refine bodyPost_ret (v := .tuple #[.agg #[.int .i64 0, .int .i64 0, .string ⟨#[]⟩], .bool false]) (by simp [results, Tryd.results42, go_sem, r0, r1, r2]) rfl ?_
      exact ⟨_, _, rfl, readsAs_no (HNO.out), (HK.out.trans (G := [w.heap.size, w.heap.size + 1]) (by exact Keeps.K) (fun k hk hm => by simp at hm; omega))⟩
    · have hcmp2 : (z.toList != s.toList) = false := by rw [bne, hcmp]; rfl
      have HSH : Hid (showL ⟨4, (c.toNat : Int) - 48, ⟨#[]⟩⟩ = s.data.toList) := by
        have h := beq_iff_eq.1 hcmp
        show _ = _
        rw [← HZ.out, h, ByteArray.toList_eq]
      go_wp2_with fail
      refine bodyPost_ret (v := .tuple #[.agg #[.int .i64 4, .int .i64 (c.toNat - 48), .string ⟨#[]⟩], .bool true]) (by simp [results, Tryd.results42, go_sem, r0, r1, r2]) rfl ?_
      exact ⟨⟨4, (c.toNat : Int) - 48, ⟨#[]⟩⟩, true, rfl, readsAs_yes HCH.out HSH.out ⟨by show (-9223372036854775808 : Int) ≤ (c.toNat : Int) - 48; omega, by show (c.toNat : Int) - 48 ≤ (9223372036854775807 : Int); omega⟩, (HK.out.trans (G := [w.heap.size, w.heap.size + 1]) (by exact Keeps.K) (fun k hk hm => by simp at hm; omega))⟩

end Go.Proofs.YtnekkkppjofdlaaDoor
