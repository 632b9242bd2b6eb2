/- Joined of CmC, CmF. -/
import Derived.Test.YtnjdepojmnniaaaGreatDoorQ21
import Derived.Test.YtnjdepojmnniaaaGreatDoorCmE

set_option linter.unusedSimpArgs false
set_option linter.unusedVariables false

/- May a reply be: both. -/
namespace Go.Proofs.YtnjdepojmnniaaaGreatDoor
open Go Go.RowKit

theorem blk5 {w : World} {b : Nat} {x0 x1 x2 x3 x4 : Value} {t : TypeId} (h : w.heap[b]? = some (.cells #[x0, x1, x2, x3, x4] t (0, 0))) :
    (w.cell? ⟨b, 0, none⟩ = some x0 ∧ w.cell? ⟨b, 1, none⟩ = some x1 ∧ w.cell? ⟨b, 2, none⟩ = some x2 ∧ w.cell? ⟨b, 3, none⟩ = some x3 ∧ w.cell? ⟨b, 4, none⟩ = some x4) ∧ ∀ i, w.frozen? ⟨b, i, none⟩ = false :=
  ⟨⟨cell_of_block h 0, cell_of_block h 1, cell_of_block h 2, cell_of_block h 3, cell_of_block h 4⟩, fun i => frozen_of_row w b i _ _ h⟩

set_option maxRecDepth 100000 in
set_option maxHeartbeats 8000000 in
theorem cmCheckR_any (r : ReplyD) (w : World) (hT : Tabs w) (hs : r.value.s.size ≤ 9223372036854775806) : Calls Tryz.prog 46 #[replyV r] w fun e w' => e = .returned (.bool (checkR r)) ∧ Keeps [] w w' := by
  obtain ⟨er, n, vk, vn, vs⟩ := r
  have HC5 := hid (fun w1 hT1 => vCheck_any ⟨vk, vn, vs⟩ w1 hT1 hs)
  unfold valV at HC5
  have HD : Hid (checkR ⟨er, n, ⟨vk, vn, vs⟩⟩ = (decide (0 ≤ er) && decide (er ≤ 24) && countsD n 0 && checkD ⟨vk, vn, vs⟩)) := rfl
  obtain ⟨b5, hb5⟩ : ∃ b5, checkD ⟨vk, vn, vs⟩ = b5 := ⟨_, rfl⟩
  have HT := hid hT
  rw [hb5] at HC5 HD
  dsimp only at HC5
  have hcs : (checkR ⟨er, n, ⟨vk, vn, vs⟩⟩ = false ∧ (er < 0 ∨ (0 ≤ er ∧ 24 < er) ∨ (0 ≤ er ∧ er ≤ 24 ∧ n < 0) ∨ (0 ≤ er ∧ er ≤ 24 ∧ 0 ≤ n ∧ 1099511627776 < n))) ∨ (checkR ⟨er, n, ⟨vk, vn, vs⟩⟩ = b5 ∧ 0 ≤ er ∧ er ≤ 24 ∧ 0 ≤ n ∧ n ≤ 1099511627776) := by
    by_cases h : 0 ≤ er ∧ er ≤ 24 ∧ 0 ≤ n ∧ n ≤ 1099511627776
    · obtain ⟨h1, h2, h3, h4⟩ := h
      exact .inr ⟨by rw [HD.out]; simp [countsD, h1, h2, h3, h4], h1, h2, h3, h4⟩
    · refine .inl ⟨?_, by omega⟩
      rw [HD.out]
      rcases b5 with _ | _
      · simp
      · simp [countsD]
        omega
  unfold replyV
  clear hT hs hb5
  dsimp only
  rcases hcs with ⟨hf, hc⟩ | ⟨hf, q1, q2, q3, q4⟩
  · have HF := hid hf
    clear hf
    rcases hc with q1 | ⟨q1, q2⟩ | ⟨q1, q2, q3⟩ | ⟨q1, q2, q3, q4⟩
    all_goals
      go_enter Tryz.func46, Tryz.ntmps46
      go_wp2_with fail
      go_ret
      exact ⟨by rw [HF.out]; rfl, by exact Keeps.K⟩
  · have HF := hid hf
    clear hf
    go_enter Tryz.func46, Tryz.ntmps46
    go_wp2_with fail
    refine (HC5.out _ (HT.out.k (by exact Keeps.K))).mono ?_
    rintro e w2 ⟨rfl, hk⟩
    have K : Hid (Keeps [] w w2) := Keeps.trans (G := []) (by exact Keeps.K) hk (fun _ _ h => h)
    clear hk
    go_wp2_with fail
    go_ret
    exact ⟨by rw [HF.out]; rfl, K.out⟩

set_option maxRecDepth 100000 in
set_option maxHeartbeats 8000000 in
theorem r14CheckR_any (r : ReplyD) (w : World) (hT : Tabs w) : Calls Tryz.prog 12 #[replyV r] w fun e w' => e = .returned (.bool (checkR r)) ∧ Keeps [] w w' := by
  obtain ⟨er, n, vk, vn, vs⟩ := r
  obtain ⟨b5, hb5⟩ : ∃ b5, checkD ⟨vk, vn, vs⟩ = b5 := ⟨_, rfl⟩
  obtain ⟨b4, hb4⟩ : ∃ b4, countsD n 0 = b4 := ⟨_, rfl⟩
  have HC5 := hid (fun w1 hT1 => r5check_all ⟨vk, vn, vs⟩ b5 hb5 w1 hT1)
  have HC4 := hid (fun w1 => r14counts_any n 0 w1)
  unfold valV at HC5
  dsimp only at HC5
  have HD : Hid (checkR ⟨er, n, ⟨vk, vn, vs⟩⟩ = (decide (0 ≤ er) && decide (er ≤ 24) && countsD n 0 && checkD ⟨vk, vn, vs⟩)) := rfl
  have HT := hid hT
  rw [hb4] at HC4
  rw [hb4, hb5] at HD
  have hcs : (checkR ⟨er, n, ⟨vk, vn, vs⟩⟩ = false ∧ (er < 0 ∨ (0 ≤ er ∧ 24 < er))) ∨ (checkR ⟨er, n, ⟨vk, vn, vs⟩⟩ = (b4 && b5) ∧ 0 ≤ er ∧ er ≤ 24) := by
    by_cases h : 0 ≤ er ∧ er ≤ 24
    · obtain ⟨h1, h2⟩ := h
      exact .inr ⟨by rw [HD.out]; simp [h1, h2], h1, h2⟩
    · refine .inl ⟨?_, by omega⟩
      rw [HD.out]
      by_cases h0 : 0 ≤ er
      · rw [decide_eq_false (show ¬ er ≤ 24 by omega)]; simp
      · rw [decide_eq_false h0]; simp
  unfold replyV
  clear hT hb4 hb5
  dsimp only
  rcases hcs with ⟨hf, hc⟩ | ⟨hf, q1, q2⟩
  · have HF := hid hf
    clear hf
    rcases hc with q1 | ⟨q1, q2⟩
    all_goals
      go_enter Tryz.func12, Tryz.ntmps12
      go_wp2_with fail
      go_ret
      exact ⟨by rw [HF.out]; rfl, by exact Keeps.K⟩
  · have HF := hid hf
    clear hf
    go_enter Tryz.func12, Tryz.ntmps12
    go_wp2_with fail
    refine (HC4.out _).mono ?_
    rintro e w2 ⟨rfl, hk⟩
    have K2 : Hid (Keeps [] w w2) := Keeps.trans (G := []) (by exact Keeps.K) hk (fun _ _ h => h)
    obtain ⟨⟨x0, x1, x2, x3, x4⟩, f0⟩ := blk5 ((hk.block w.heap.size (by simp) (by simp)).trans (heap_alloc_new _ _))
    clear hk
    rcases b4 with _ | _
    · go_wp2_with fail
      go_ret
      exact ⟨by rw [HF.out]; rfl, K2.out⟩
    · go_wp2_with fail
      refine (HC5.out _ (HT.out.k K2.out)).mono ?_
      rintro e w3 ⟨rfl, hk⟩
      have K := hid (K2.out.trans hk (fun _ _ h => h))
      clear hk
      go_wp2_with fail
      go_ret
      exact ⟨by rw [HF.out]; rfl, K.out⟩

end Go.Proofs.YtnjdepojmnniaaaGreatDoor

/- A reply's bytes, as both put them. -/
namespace Go.Proofs.YtnjdepojmnniaaaGreatDoor
open Go Go.RowKit

structure ReplyW (r : ReplyD) : Prop where
  err : I64 r.err
  n : I64 r.n
  vkind : I64 r.value.kind
  vn : I64 r.value.n
  vs : r.value.s.size ≤ 1000000

set_option maxRecDepth 100000 in
set_option maxHeartbeats 8000000 in
theorem r14PutR_any (r : ReplyD) (hr : ReplyW r) (w : World) : Calls Tryz.prog 28 #[replyV r] w (PutPost [] (putR r) w) := by
  obtain ⟨er, n, vk, vn, vs⟩ := r
  have HC := hid hr
  clear hr
  have le := intL_len HC.out.err
  have ln := intL_len HC.out.n
  have hvs := HC.out.vs
  dsimp only at le ln hvs
  unfold replyV
  dsimp only
  go_enter Tryz.func28, Tryz.ntmps28
  go_wp2_with fail
  obtain ⟨wA, hwA⟩ : ∃ wA, w.alloc (.cells #[.int .i64 er, .int .i64 n, .int .i64 vk, .int .i64 vn, .string vs] 40) = wA := ⟨_, rfl⟩
  have KA : Hid (Keeps [] w wA) := by rw [← hwA]; exact Keeps.K
  have HA : Hid (wA.heap[w.heap.size]? = some (.cells #[.int .i64 er, .int .i64 n, .int .i64 vk, .int .i64 vn, .string vs] 40 (0, 0))) := by rw [← hwA]; exact heap_alloc_new _ _
  have HROW : Hid (∀ w', Keeps [] wA w' → w'.heap[w.heap.size]? = some (.cells #[.int .i64 er, .int .i64 n, .int .i64 vk, .int .i64 vn, .string vs] 40 (0, 0))) := fun w' g => (g.block _ (Array.getElem?_eq_some_iff.1 HA.out).1 (by simp)).trans HA.out
  rw [hwA]
  clear hwA
  obtain ⟨⟨x0, x1, x2, x3, x4⟩, f0⟩ := blk5 HA.out
  obtain ⟨ip, hi, hz0, hz1, hz2⟩ := info_parts Tryz.infoU8
  refine Plan.wp_region_plan (fun wx => wx.cell? ⟨w.heap.size, 0, none⟩ = some (.int .i64 er) ∧ wx.cell? ⟨w.heap.size, 1, none⟩ = some (.int .i64 n)) 5 [(true, 0), (true, 1), (true, 3), (true, 4), (false, 2)] (by kernel_rfl) (by as_aux_lemma => kernel_rfl) (by kernel_rfl) (fun _ _ _ _ _ h => h) ?_ (fun hS => ?_)
  (· go_simp)
  simp only [Plan.pick, List.append_eq, List.cons_append, List.nil_append, Plan.g1, Plan.g2, Option.getD_some, List.drop_succ_cons, List.drop_zero]
  iterate 4 (first | refine Plan.tA ?_ | refine Plan.tY ?_ | refine Plan.pN ?_ | refine Plan.pU ?_ | fail)
  clear hS
  refine Plan.step ?_
  go_wp2_with fail
  refine (r3Int_any er HC.out.err _).mono ?_
  intro e w1 hp
  obtain ⟨a1, q1, rfl, h1, h2⟩ := hp
  rw [List.nil_append] at h1 ⊢
  obtain ⟨l1, hl1⟩ : ∃ l1, intL er = l1 := ⟨_, rfl⟩
  have HL1 : Hid (intL er = l1) := hl1
  have hz1' : l1.length ≤ 10 := by rw [← hl1]; exact le
  rw [hl1] at h1 ⊢
  have O1 : Hid (w1.ownsRow wA.heap.size 5 1 (.slice a1 l1.length q1) l1.length (u8s l1)) := h1
  have KD1 : Hid (Keeps [] wA w1) := Keeps.trans (G := []) (by exact Keeps.K) h2 (fun _ _ h => h)
  clear h1 h2 hl1 x0 x1 x2 x3 x4 f0
  obtain ⟨⟨x0, x1, x2, x3, x4⟩, f0⟩ := blk5 (HROW.out _ KD1.out)
  go_wp2_with fail
  refine ⟨?_, ?_⟩
  (· go_simp)
  refine Plan.fin ?_
  go_wp2_with fail
  refine (r3Int_any n HC.out.n _).mono ?_
  intro e wC2 hp
  obtain ⟨b2, c2, rfl, h1, h2⟩ := hp
  rw [List.nil_append] at h1 ⊢
  obtain ⟨m2, hm⟩ : ∃ m2, intL n = m2 := ⟨_, rfl⟩
  have HM2 := hid hm
  have hmz2 : m2.length ≤ 10 := by rw [← hm]; exact ln
  rw [hm] at h1 ⊢
  have KC2 : Hid (Keeps [] wA wC2) := KD1.out.trans (Keeps.trans (G := []) (by exact Keeps.K) h2 (fun _ _ h => h)) (fun _ _ h => h)
  have R2 : Hid (Reads wC2 1 (.slice b2 m2.length c2) m2.length (u8s m2)) := Reads.ofOwn h1
  have O1' : Hid (wC2.ownsRow wA.heap.size 5 1 (.slice a1 l1.length q1) l1.length (u8s l1)) := ownsRow_keeps O1.out (Keeps.trans (G := []) (by exact Keeps.K) h2 (fun _ _ h => h)) (fun _ _ h => by cases h)
  have hwC2M : wA.heap.size ≤ wC2.heap.size := KC2.out.size
  clear h1 h2 hm
  clear x0 x1 x2 x3 x4 f0
  obtain ⟨⟨x0, x1, x2, x3, x4⟩, f0⟩ := blk5 (HROW.out _ KC2.out)
  have HR2 : Hid (∀ wx wD, Keeps [] wC2 wx → Hid (∀ w0 : World, w0.heap.size ≤ wA.heap.size → Keeps [] w0 wx → Keeps [] w0 wD) → wD.heap[w.heap.size]? = some (.cells #[.int .i64 er, .int .i64 n, .int .i64 vk, .int .i64 vn, .string vs] 40 (0, 0))) := fun wx wD g h => HROW.out wD (h.out wA (Nat.le_refl _) (KC2.out.trans g (fun _ _ h => h)))
  go_wp2_with (at_builtin; go_must (refine wpList_putRow _ (by rfl) _ _ (by rfl) wA.heap.size ip hi hz0 hz1 hz2 (.slice a1 l1.length q1) (by rfl) l1 l1.length rfl O1'.out (.slice b2 m2.length c2) (by rfl) m2 R2.out (by omega) (by omega) ?_; intro a2 q2 wD2 ho hk; have xr := blk5 (HR2.out _ _ (by exact Keeps.K) hk); obtain ⟨⟨x0, x1, x2, x3, x4⟩, f0⟩ := xr))
  obtain ⟨l2, hl⟩ : ∃ l2, l1 ++ m2 = l2 := ⟨_, rfl⟩
  have HL2 : Hid (l1 ++ m2 = l2) := hl
  have hln2 : l1.length + m2.length = l2.length := by rw [← hl, List.length_append]
  have O2 : Hid (wD2.ownsRow wA.heap.size 5 1 (.slice a2 l2.length q2) l2.length (u8s l2)) := by
    have h := ho.out
    rw [hl, hln2] at h
    exact h
  have KD2 : Hid (Keeps [] wA wD2) := hk.out wA (Nat.le_refl _) (by have kk := KC2.out; exact Keeps.K)
  rw [hln2]
  clear ho hk hl
  go_wp2_with fail
  refine (r5Put_any ⟨vk, vn, vs⟩ _ hvs HC.out.vkind HC.out.vn).mono ?_
  intro e wC3 hp
  obtain ⟨b3, c3, rfl, h1, h2⟩ := hp
  rw [List.nil_append] at h1 ⊢
  obtain ⟨m3, hm⟩ : ∃ m3, putL ⟨vk, vn, vs⟩ = m3 := ⟨_, rfl⟩
  have HM3 := hid hm
  have hmz3 : m3.length ≤ 1000030 := by rw [← hm]; have := intL_len (show I64 (vs.size : Int) from ⟨by omega, by omega⟩); have := intL_len HC.out.vkind; have := intL_len HC.out.vn; have e : vs.data.toList.length = vs.size := (by rw [Array.length_toList]; rfl); dsimp only at *; unfold putL textL; simp only [List.length_append, e]; omega
  rw [hm] at h1 ⊢
  have KC3 : Hid (Keeps [] wA wC3) := KD2.out.trans (Keeps.trans (G := []) (by exact Keeps.K) h2 (fun _ _ h => h)) (fun _ _ h => h)
  have R3 : Hid (Reads wC3 1 (.slice b3 m3.length c3) m3.length (u8s m3)) := Reads.ofOwn h1
  have O2' : Hid (wC3.ownsRow wA.heap.size 5 1 (.slice a2 l2.length q2) l2.length (u8s l2)) := ownsRow_keeps O2.out (Keeps.trans (G := []) (by exact Keeps.K) h2 (fun _ _ h => h)) (fun _ _ h => by cases h)
  have hwC3M : wA.heap.size ≤ wC3.heap.size := KC3.out.size
  clear h1 h2 hm
  clear x0 x1 x2 x3 x4 f0
  obtain ⟨⟨x0, x1, x2, x3, x4⟩, f0⟩ := blk5 (HROW.out _ KC3.out)
  have HR3 : Hid (∀ wx wD, Keeps [] wC3 wx → Hid (∀ w0 : World, w0.heap.size ≤ wA.heap.size → Keeps [] w0 wx → Keeps [] w0 wD) → wD.heap[w.heap.size]? = some (.cells #[.int .i64 er, .int .i64 n, .int .i64 vk, .int .i64 vn, .string vs] 40 (0, 0))) := fun wx wD g h => HROW.out wD (h.out wA (Nat.le_refl _) (KC3.out.trans g (fun _ _ h => h)))
  go_wp2_with (at_builtin; go_must (refine wpList_putRow _ (by rfl) _ _ (by rfl) wA.heap.size ip hi hz0 hz1 hz2 (.slice a2 l2.length q2) (by rfl) l2 l2.length rfl O2'.out (.slice b3 m3.length c3) (by rfl) m3 R3.out (by omega) (by omega) ?_; intro a3 q3 wD3 ho hk; have xr := blk5 (HR3.out _ _ (by exact Keeps.K) hk); obtain ⟨⟨x0, x1, x2, x3, x4⟩, f0⟩ := xr))
  obtain ⟨l3, hl⟩ : ∃ l3, l2 ++ m3 = l3 := ⟨_, rfl⟩
  have HL3 : Hid (l2 ++ m3 = l3) := hl
  have hln3 : l2.length + m3.length = l3.length := by rw [← hl, List.length_append]
  have O3 : Hid (wD3.ownsRow wA.heap.size 5 1 (.slice a3 l3.length q3) l3.length (u8s l3)) := by
    have h := ho.out
    rw [hl, hln3] at h
    exact h
  have KD3 : Hid (Keeps [] wA wD3) := hk.out wA (Nat.le_refl _) (by have kk := KC3.out; exact Keeps.K)
  rw [hln3]
  clear ho hk hl
  go_ret
  exact PutPost.is (by rw [← HL3.out, ← HL2.out, ← HL1.out, ← HM2.out, ← HM3.out]; unfold putR; simp) (ownsRow_base O3.out KA.out.size) (KA.out.trans KD3.out (fun _ _ h => h))

end Go.Proofs.YtnjdepojmnniaaaGreatDoor
