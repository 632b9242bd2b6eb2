/- ValueShows, walked. -/
import Derived.Test.YtnekkkppjofdlaaDoorRfN
import Derived.Test.YtnekkkppjofdlaaDoorVaL
namespace Go.Proofs.YtnekkkppjofdlaaDoor
open Go Go.RowKit

theorem quoteGo_len : ∀ (f : Nat) (l : List UInt8), (quoteGo f l).length ≤ 6 * l.length
  | 0, l => by simp [quoteGo]
  | f + 1, l => by
    unfold quoteGo
    split
    · simp
    · rename_i hne
      have hw := Lib.decodeL_width l
      have hle := Lib.decodeL_le l hne
      have hq := quoteR_len (Lib.decodeL l).1
      have := quoteGo_len f (l.drop (Lib.decodeL l).2)
      rw [List.length_append]
      rw [List.length_drop] at this
      omega
theorem showL_len {v : ValD} (h : checkD v = true) (hn : I64 v.n) : (showL v).length ≤ 2500 := by
  have hs := checkD_small h
  have hi := Lib.itoa_length_le v.n hn.1 hn.2
  have hq := quoteGo_len v.s.data.toList.length v.s.data.toList
  have e : v.s.data.toList.length = v.s.size := Array.length_toList
  rw [showL_of]
  repeat' split
  · omega
  · simp
  · simp
  · unfold quoteL
    rw [List.length_cons, List.length_append, List.length_singleton]
    omega
  · simp; omega
  · simp

set_option maxRecDepth 100000 in
set_option maxHeartbeats 1600000 in
theorem shows_any (v : ValD) (w : World) (hT : Tabs w) (hE : Errs w) (hn : I64 v.n) : Calls Tryd.prog 9 #[valV v] w fun e w' => e = .returned (.bool true) ∧ Keeps [] w w' := by
  have HT := hid hT
  have HE := hid hE
  have HN := hid hn
  obtain ⟨k, n, s⟩ := v
  clear hT hE hn
  rcases hc : checkD ⟨k, n, s⟩ with _ | _
  · have HC := hid (r5check_all ⟨k, n, s⟩ _ hc)
    unfold valV at HC ⊢
    clear hc
    go_enter Tryd.func9, Tryd.ntmps9
    go_wp2_with fail
    refine (HC.out _ (HT.out.k (by exact Keeps.K))).mono ?_
    rintro e w1 ⟨rfl, hk⟩
    have HK : Hid (Keeps [] w w1) := Keeps.trans (by exact Keeps.K) hk (fun _ _ h => h)
    clear hk
    go_wp2_with fail
    refine (awake5_any _ (HT.out.k HK.out)).mono ?_
    rintro e w2 ⟨rfl, hk⟩
    have HK2 : Hid (Keeps [] w w2) := HK.out.trans hk (fun _ _ h => h)
    clear hk
    go_wp2_with fail
    go_ret
    exact ⟨rfl, HK2.out⟩
  · have HC := hid (r5check_all ⟨k, n, s⟩ _ hc)
    have hl := showL_len hc HN.out
    have HS5 := hid (fun w1 => r5Show_any ⟨k, n, s⟩ w1 hc HN.out)
    have hs4 : s.size ≤ 400 := checkD_small hc
    have HSH := hid (fun w1 hT1 => vshow_any ⟨k, n, s⟩ w1 hT1 (by show s.size ≤ _; omega) HN.out)
    have hzz : bytes (showL ⟨k, n, s⟩) = str (showL ⟨k, n, s⟩) := rfl
    rw [hzz] at HSH
    obtain ⟨z, hz⟩ : ∃ z, str (showL ⟨k, n, s⟩) = z := ⟨_, rfl⟩
    have HZ : Hid (z.data.toList = showL ⟨k, n, s⟩) := by
      show _ = _
      rw [← hz]; rfl
    have hzl : z.size ≤ 100000 := by rw [← hz]; show (showL ⟨k, n, s⟩).length ≤ _; omega
    rw [hz] at HSH HS5
    have HCC := hid hc
    unfold valV at HC HSH HS5 ⊢
    clear hc hl hzz hz
    go_enter Tryd.func9, Tryd.ntmps9
    go_wp2_with fail
    refine (HC.out _ (HT.out.k (by exact Keeps.K))).mono ?_
    rintro e w1 ⟨rfl, hk⟩
    have c0 : w1.cell? ⟨w.heap.size, 0, none⟩ = some (.int .i64 k) := hk.cellSome (by go_simp) (by simp)
    have c1 : w1.cell? ⟨w.heap.size, 1, none⟩ = some (.int .i64 n) := hk.cellSome (by go_simp) (by simp)
    have c2 : w1.cell? ⟨w.heap.size, 2, none⟩ = some (.string s) := hk.cellSome (by go_simp) (by simp)
    have HK : Hid (Keeps [] w w1) := Keeps.trans (by exact Keeps.K) hk (fun _ _ h => h)
    clear hk
    go_wp2_with fail
    refine (HSH.out _ (HT.out.k HK.out)).mono ?_
    rintro e w2 ⟨rfl, hk⟩
    have d0 : w2.cell? ⟨w.heap.size, 0, none⟩ = some (.int .i64 k) := hk.cellSome c0 (by simp)
    have d1 : w2.cell? ⟨w.heap.size, 1, none⟩ = some (.int .i64 n) := hk.cellSome c1 (by simp)
    have d2 : w2.cell? ⟨w.heap.size, 2, none⟩ = some (.string s) := hk.cellSome c2 (by simp)
    have HK2 : Hid (Keeps [] w w2) := HK.out.trans hk (fun _ _ h => h)
    clear hk c0 c1 c2
    go_wp2_with fail
    refine (vRead_any z _ (HT.out.k HK2.out) (HE.out.k HK2.out) hzl).mono ?_
    rintro e w3 ⟨u, ok, rfl, hr, hk⟩
    rw [HZ.out] at hr
    obtain ⟨rfl, rfl⟩ := hr.shown HCC.out HN.out
    have c0 : w3.cell? ⟨w.heap.size, 0, none⟩ = some (.int .i64 k) := hk.cellSome d0 (by simp)
    have c1 : w3.cell? ⟨w.heap.size, 1, none⟩ = some (.int .i64 n) := hk.cellSome d1 (by simp)
    have c2 : w3.cell? ⟨w.heap.size, 2, none⟩ = some (.string s) := hk.cellSome d2 (by simp)
    have S3 : w.heap.size < w3.heap.size := World.block_lt_of_cell? _ _ c0
    have HK3 : Hid (Keeps [] w w3) := HK2.out.trans hk (fun _ _ h => h)
    unfold valV
    dsimp only
    clear hk hr d0 d1 d2
    go_wp2_with fail
    refine (HS5.out _).mono ?_
    rintro e w4 ⟨rfl, hk⟩
    have d0 : w4.cell? ⟨w.heap.size, 0, none⟩ = some (.int .i64 k) := hk.cellSome (by go_simp) (by simp)
    have d1 : w4.cell? ⟨w.heap.size, 1, none⟩ = some (.int .i64 n) := hk.cellSome (by go_simp) (by simp)
    have d2 : w4.cell? ⟨w.heap.size, 2, none⟩ = some (.string s) := hk.cellSome (by go_simp) (by simp)
    have e0 : w4.cell? ⟨w3.heap.size, 0, none⟩ = some (.int .i64 k) := hk.cellSome (by go_simp) (by simp)
    have e1 : w4.cell? ⟨w3.heap.size, 1, none⟩ = some (.int .i64 n) := hk.cellSome (by go_simp) (by simp)
    have e2 : w4.cell? ⟨w3.heap.size, 2, none⟩ = some (.string s) := hk.cellSome (by go_simp) (by simp)
    have HK4 : Hid (Keeps [] w w4) := (HK3.out.trans (G := []) (by exact Keeps.K) (fun _ _ h => h)).trans hk (fun _ _ h => h)
    clear hk c0 c1 c2
    go_wp2_with fail
    refine (awake5_any _ (HT.out.k HK4.out)).mono ?_
    rintro e w5 ⟨rfl, hk⟩
    have HK5 : Hid (Keeps [] w w5) := HK4.out.trans hk (fun _ _ h => h)
    clear hk
    go_wp2_with fail
    go_ret
    exact ⟨rfl, HK5.out⟩

end Go.Proofs.YtnekkkppjofdlaaDoor
