/- A command's bytes, as the document puts them. (Printed by gen_cme.py.) -/
import Derived.Test.YtnjdepojmnniaaaGreatDoorQ21

set_option linter.unusedSimpArgs false
set_option linter.unusedVariables false
namespace Go.Proofs.YtnjdepojmnniaaaGreatDoor
open Go Go.RowKit

set_option maxRecDepth 100000 in
set_option maxHeartbeats 8000000 in
theorem r14Put_any (c : CmdD) (hc : CmdW c) (w : World) : Calls Tryz.prog 70 #[cmdV c] w (PutPost [] (putC c) w) := by
  obtain ⟨kd, se, sq, fd, vr, vk, vn, vs⟩ := c
  have HC := hid hc
  clear hc
  have lk := intL_len HC.out.kind
  have ls := intL_len HC.out.session
  have lq := intL_len HC.out.seq
  have lv := intL_len HC.out.version
  have hfd := HC.out.field
  have hvs := HC.out.vs
  dsimp only at lk ls lq lv hfd hvs
  unfold cmdV
  dsimp only
  go_enter Tryz.func70, Tryz.ntmps70
  go_wp2_with fail
  obtain ⟨wA, hwA⟩ : ∃ wA, w.alloc (.cells #[.int .i64 kd, .int .i64 se, .int .i64 sq, .string fd, .int .i64 vr, .int .i64 vk, .int .i64 vn, .string vs] 34) = wA := ⟨_, rfl⟩
  have KA : Hid (Keeps [] w wA) := by rw [← hwA]; exact Keeps.K
  have HA : Hid (wA.heap[w.heap.size]? = some (.cells #[.int .i64 kd, .int .i64 se, .int .i64 sq, .string fd, .int .i64 vr, .int .i64 vk, .int .i64 vn, .string vs] 34 (0, 0))) := by rw [← hwA]; exact heap_alloc_new _ _
  have HROW : Hid (∀ w', Keeps [] wA w' → w'.heap[w.heap.size]? = some (.cells #[.int .i64 kd, .int .i64 se, .int .i64 sq, .string fd, .int .i64 vr, .int .i64 vk, .int .i64 vn, .string vs] 34 (0, 0))) := fun w' g => (g.block _ (Array.getElem?_eq_some_iff.1 HA.out).1 (by simp)).trans HA.out
  rw [hwA]
  clear hwA
  obtain ⟨ip, hi, hz0, hz1, hz2⟩ := info_parts Tryz.infoU8
  refine (r3Int_any kd HC.out.kind wA).mono ?_
  intro e w1 hp
  obtain ⟨a1, q1, rfl, h1, h2⟩ := hp
  rw [List.nil_append] at h1 ⊢
  obtain ⟨l1, hl1⟩ : ∃ l1, intL kd = l1 := ⟨_, rfl⟩
  have HL1 : Hid (intL kd = l1) := hl1
  have hz1' : l1.length ≤ 10 := by rw [← hl1]; exact lk
  rw [hl1] at h1 ⊢
  have O1 : Hid (w1.ownsRow wA.heap.size 5 1 (.slice a1 l1.length q1) l1.length (u8s l1)) := h1
  have KD1 := hid h2
  obtain ⟨⟨x0, x1, x2, x3, x4, x5, x6, x7⟩, f0⟩ := blk8 (HROW.out _ h2)
  clear h1 h2 hl1
  by_cases k1 : kd = 1
  · subst k1
    go_wp2_with fail
    go_ret
    exact PutPost.is (by rw [← HL1.out]; unfold putC; simp) (ownsRow_base O1.out KA.out.size) (KA.out.trans KD1.out (fun _ _ h => h))
  · have n1 : (kd == 1) = false := by simp; exact k1
    by_cases k2 : kd = 2
    · subst k2
      clear k1 n1
      go_wp2_with fail
      refine Plan.wp_region_plan (fun wx => wx.cell? ⟨w.heap.size, 1, none⟩ = some (.int .i64 se) ∧ wx.cell? ⟨w.heap.size, 2, none⟩ = some (.int .i64 sq)) 7 [(true, 0), (true, 1), (true, 2), (true, 5), (true, 6), (false, 3), (false, 4)] (by kernel_rfl) (by as_aux_lemma => kernel_rfl) (by kernel_rfl) (fun _ _ _ _ _ h => h) ?_ (fun hS => ?_)
      (· go_simp)
      simp only [Plan.pick, List.append_eq, List.cons_append, List.nil_append, Plan.g1, Plan.g2, Option.getD_some, List.drop_succ_cons, List.drop_zero]
      iterate 5 (first | refine Plan.tA ?_ | refine Plan.tY ?_ | refine Plan.pN ?_ | refine Plan.pU ?_ | fail)
      clear hS
      refine Plan.step ?_
      go_wp2_with fail
      refine (r3Int_any se HC.out.session _).mono ?_
      intro e wC2 hp
      obtain ⟨b2, c2, rfl, h1, h2⟩ := hp
      rw [List.nil_append] at h1 ⊢
      obtain ⟨m2, hm⟩ : ∃ m2, intL se = m2 := ⟨_, rfl⟩
      have HM2 := hid hm
      have hmz2 : m2.length ≤ 10 := by rw [← hm]; exact ls
      rw [hm] at h1 ⊢
      have KC2 : Hid (Keeps [] wA wC2) := KD1.out.trans (Keeps.trans (G := []) (by exact Keeps.K) h2 (fun _ _ h => h)) (fun _ _ h => h)
      have R2 : Hid (Reads wC2 1 (.slice b2 m2.length c2) m2.length (u8s m2)) := Reads.ofOwn h1
      have O1' : Hid (wC2.ownsRow wA.heap.size 5 1 (.slice a1 l1.length q1) l1.length (u8s l1)) := ownsRow_keeps O1.out (Keeps.trans (G := []) (by exact Keeps.K) h2 (fun _ _ h => h)) (fun _ _ h => by cases h)
      have hwC2M : wA.heap.size ≤ wC2.heap.size := KC2.out.size
      clear h1 h2 hm
      clear x0 x1 x2 x3 x4 x5 x6 x7 f0
      obtain ⟨⟨x0, x1, x2, x3, x4, x5, x6, x7⟩, f0⟩ := blk8 (HROW.out _ KC2.out)
      go_wp2_with fail
      refine ⟨?_, ?_⟩
      (· go_simp)
      refine Plan.step ?_
      go_wp2_with (at_builtin; go_must (refine wpList_putRow _ (by rfl) _ _ (by rfl) wA.heap.size ip hi hz0 hz1 hz2 (.slice a1 l1.length q1) (by rfl) l1 l1.length rfl O1'.out (.slice b2 m2.length c2) (by rfl) m2 R2.out (by omega) (by omega) ?_; intro a2 q2 wD2 ho hk))
      obtain ⟨l2, hl⟩ : ∃ l2, l1 ++ m2 = l2 := ⟨_, rfl⟩
      have HL2 : Hid (l1 ++ m2 = l2) := hl
      have hln2 : l1.length + m2.length = l2.length := by rw [← hl, List.length_append]
      have O2 : Hid (wD2.ownsRow wA.heap.size 5 1 (.slice a2 l2.length q2) l2.length (u8s l2)) := by
        have h := ho.out
        rw [hl, hln2] at h
        exact h
      have KD2 : Hid (Keeps [] wA wD2) := hk.out wA (Nat.le_refl _) (by have kk := KC2.out; exact Keeps.K)
      rw [hln2]
      clear ho hk hl
      clear x0 x1 x2 x3 x4 x5 x6 x7 f0
      obtain ⟨⟨x0, x1, x2, x3, x4, x5, x6, x7⟩, f0⟩ := blk8 (HROW.out _ KD2.out)
      refine ⟨?_, ?_⟩
      (· go_simp)
      refine Plan.fin ?_
      go_wp2_with fail
      refine (r3Int_any sq HC.out.seq _).mono ?_
      intro e wC3 hp
      obtain ⟨b3, c3, rfl, h1, h2⟩ := hp
      rw [List.nil_append] at h1 ⊢
      obtain ⟨m3, hm⟩ : ∃ m3, intL sq = m3 := ⟨_, rfl⟩
      have HM3 := hid hm
      have hmz3 : m3.length ≤ 10 := by rw [← hm]; exact lq
      rw [hm] at h1 ⊢
      have KC3 : Hid (Keeps [] wA wC3) := KD2.out.trans (Keeps.trans (G := []) (by exact Keeps.K) h2 (fun _ _ h => h)) (fun _ _ h => h)
      have R3 : Hid (Reads wC3 1 (.slice b3 m3.length c3) m3.length (u8s m3)) := Reads.ofOwn h1
      have O2' : Hid (wC3.ownsRow wA.heap.size 5 1 (.slice a2 l2.length q2) l2.length (u8s l2)) := ownsRow_keeps O2.out (Keeps.trans (G := []) (by exact Keeps.K) h2 (fun _ _ h => h)) (fun _ _ h => by cases h)
      have hwC3M : wA.heap.size ≤ wC3.heap.size := KC3.out.size
      clear h1 h2 hm
      clear x0 x1 x2 x3 x4 x5 x6 x7 f0
      obtain ⟨⟨x0, x1, x2, x3, x4, x5, x6, x7⟩, f0⟩ := blk8 (HROW.out _ KC3.out)
      have HR3 : Hid (∀ wx wD, Keeps [] wC3 wx → Hid (∀ w0 : World, w0.heap.size ≤ wA.heap.size → Keeps [] w0 wx → Keeps [] w0 wD) → wD.heap[w.heap.size]? = some (.cells #[.int .i64 2, .int .i64 se, .int .i64 sq, .string fd, .int .i64 vr, .int .i64 vk, .int .i64 vn, .string vs] 34 (0, 0))) := fun wx wD g h => HROW.out wD (h.out wA (Nat.le_refl _) (KC3.out.trans g (fun _ _ h => h)))
      go_wp2_with (at_builtin; go_must (refine wpList_putRow _ (by rfl) _ _ (by rfl) wA.heap.size ip hi hz0 hz1 hz2 (.slice a2 l2.length q2) (by rfl) l2 l2.length rfl O2'.out (.slice b3 m3.length c3) (by rfl) m3 R3.out (by omega) (by omega) ?_; intro a3 q3 wD3 ho hk; have xr := blk8 (HR3.out _ _ (by exact Keeps.K) hk); obtain ⟨⟨x0, x1, x2, x3, x4, x5, x6, x7⟩, f0⟩ := xr))
      obtain ⟨l3, hl⟩ : ∃ l3, l2 ++ m3 = l3 := ⟨_, rfl⟩
      have HL3 : Hid (l2 ++ m3 = l3) := hl
      have hln3 : l2.length + m3.length = l3.length := by rw [← hl, List.length_append]
      have O3 : Hid (wD3.ownsRow wA.heap.size 5 1 (.slice a3 l3.length q3) l3.length (u8s l3)) := by
        have h := ho.out
        rw [hl, hln3] at h
        exact h
      have KD3 : Hid (Keeps [] wA wD3) := hk.out wA (Nat.le_refl _) (by have kk := KC3.out; exact Keeps.K)
      rw [hln3]
      clear ho hk hl
      have hz3 : l3.length ≤ 30 := by omega
      have HL3' : Hid (intL 2 ++ intL se ++ intL sq = l3) := by show _ = _; rw [← HL3.out, ← HL2.out, HL1.out, HM2.out, HM3.out]
      refine Plan.wp_region_plan (fun wx => wx.cell? ⟨w.heap.size, 3, none⟩ = some (.string fd) ∧ wx.cell? ⟨w.heap.size, 4, none⟩ = some (.int .i64 vr)) 7 [(true, 0), (true, 1), (true, 2), (true, 5), (true, 6), (false, 3), (false, 4)] (by kernel_rfl) (by as_aux_lemma => kernel_rfl) (by kernel_rfl) (fun _ _ _ _ _ h => h) ?_ (fun hS => ?_)
      (· go_simp)
      simp only [Plan.pick, List.append_eq, List.cons_append, List.nil_append, Plan.g1, Plan.g2, Option.getD_some, List.drop_succ_cons, List.drop_zero]
      iterate 5 (first | refine Plan.tA ?_ | refine Plan.tY ?_ | refine Plan.pN ?_ | refine Plan.pU ?_ | fail)
      clear hS
      refine Plan.step ?_
      go_wp2_with fail
      refine (r3Text_any fd _ hfd).mono ?_
      intro e wC4 hp
      obtain ⟨b4, c4, rfl, h1, h2⟩ := hp
      rw [List.nil_append] at h1 ⊢
      obtain ⟨m4, hm⟩ : ∃ m4, textL fd = m4 := ⟨_, rfl⟩
      have HM4 := hid hm
      have hmz4 : m4.length ≤ 1000010 := by rw [← hm]; have := intL_len (show I64 (fd.size : Int) from ⟨by omega, by omega⟩); have e : fd.data.toList.length = fd.size := (by rw [Array.length_toList]; rfl); unfold textL; rw [List.length_append, e]; omega
      rw [hm] at h1 ⊢
      have KC4 : Hid (Keeps [] wA wC4) := KD3.out.trans (Keeps.trans (G := []) (by exact Keeps.K) h2 (fun _ _ h => h)) (fun _ _ h => h)
      have R4 : Hid (Reads wC4 1 (.slice b4 m4.length c4) m4.length (u8s m4)) := Reads.ofOwn h1
      have O3' : Hid (wC4.ownsRow wA.heap.size 5 1 (.slice a3 l3.length q3) l3.length (u8s l3)) := ownsRow_keeps O3.out (Keeps.trans (G := []) (by exact Keeps.K) h2 (fun _ _ h => h)) (fun _ _ h => by cases h)
      have hwC4M : wA.heap.size ≤ wC4.heap.size := KC4.out.size
      clear h1 h2 hm
      clear x0 x1 x2 x3 x4 x5 x6 x7 f0
      obtain ⟨⟨x0, x1, x2, x3, x4, x5, x6, x7⟩, f0⟩ := blk8 (HROW.out _ KC4.out)
      go_wp2_with fail
      refine ⟨?_, ?_⟩
      (· go_simp)
      refine Plan.step ?_
      go_wp2_with (at_builtin; go_must (refine wpList_putRow _ (by rfl) _ _ (by rfl) wA.heap.size ip hi hz0 hz1 hz2 (.slice a3 l3.length q3) (by rfl) l3 l3.length rfl O3'.out (.slice b4 m4.length c4) (by rfl) m4 R4.out (by omega) (by omega) ?_; intro a4 q4 wD4 ho hk))
      obtain ⟨l4, hl⟩ : ∃ l4, l3 ++ m4 = l4 := ⟨_, rfl⟩
      have HL4 : Hid (l3 ++ m4 = l4) := hl
      have hln4 : l3.length + m4.length = l4.length := by rw [← hl, List.length_append]
      have O4 : Hid (wD4.ownsRow wA.heap.size 5 1 (.slice a4 l4.length q4) l4.length (u8s l4)) := by
        have h := ho.out
        rw [hl, hln4] at h
        exact h
      have KD4 : Hid (Keeps [] wA wD4) := hk.out wA (Nat.le_refl _) (by have kk := KC4.out; exact Keeps.K)
      rw [hln4]
      clear ho hk hl
      clear x0 x1 x2 x3 x4 x5 x6 x7 f0
      obtain ⟨⟨x0, x1, x2, x3, x4, x5, x6, x7⟩, f0⟩ := blk8 (HROW.out _ KD4.out)
      refine ⟨?_, ?_⟩
      (· go_simp)
      refine Plan.fin ?_
      go_wp2_with fail
      refine (r3Int_any vr HC.out.version _).mono ?_
      intro e wC5 hp
      obtain ⟨b5, c5, rfl, h1, h2⟩ := hp
      rw [List.nil_append] at h1 ⊢
      obtain ⟨m5, hm⟩ : ∃ m5, intL vr = m5 := ⟨_, rfl⟩
      have HM5 := hid hm
      have hmz5 : m5.length ≤ 10 := by rw [← hm]; exact lv
      rw [hm] at h1 ⊢
      have KC5 : Hid (Keeps [] wA wC5) := KD4.out.trans (Keeps.trans (G := []) (by exact Keeps.K) h2 (fun _ _ h => h)) (fun _ _ h => h)
      have R5 : Hid (Reads wC5 1 (.slice b5 m5.length c5) m5.length (u8s m5)) := Reads.ofOwn h1
      have O4' : Hid (wC5.ownsRow wA.heap.size 5 1 (.slice a4 l4.length q4) l4.length (u8s l4)) := ownsRow_keeps O4.out (Keeps.trans (G := []) (by exact Keeps.K) h2 (fun _ _ h => h)) (fun _ _ h => by cases h)
      have hwC5M : wA.heap.size ≤ wC5.heap.size := KC5.out.size
      clear h1 h2 hm
      clear x0 x1 x2 x3 x4 x5 x6 x7 f0
      obtain ⟨⟨x0, x1, x2, x3, x4, x5, x6, x7⟩, f0⟩ := blk8 (HROW.out _ KC5.out)
      have HR5 : Hid (∀ wx wD, Keeps [] wC5 wx → Hid (∀ w0 : World, w0.heap.size ≤ wA.heap.size → Keeps [] w0 wx → Keeps [] w0 wD) → wD.heap[w.heap.size]? = some (.cells #[.int .i64 2, .int .i64 se, .int .i64 sq, .string fd, .int .i64 vr, .int .i64 vk, .int .i64 vn, .string vs] 34 (0, 0))) := fun wx wD g h => HROW.out wD (h.out wA (Nat.le_refl _) (KC5.out.trans g (fun _ _ h => h)))
      go_wp2_with (at_builtin; go_must (refine wpList_putRow _ (by rfl) _ _ (by rfl) wA.heap.size ip hi hz0 hz1 hz2 (.slice a4 l4.length q4) (by rfl) l4 l4.length rfl O4'.out (.slice b5 m5.length c5) (by rfl) m5 R5.out (by omega) (by omega) ?_; intro a5 q5 wD5 ho hk; have xr := blk8 (HR5.out _ _ (by exact Keeps.K) hk); obtain ⟨⟨x0, x1, x2, x3, x4, x5, x6, x7⟩, f0⟩ := xr))
      obtain ⟨l5, hl⟩ : ∃ l5, l4 ++ m5 = l5 := ⟨_, rfl⟩
      have HL5 : Hid (l4 ++ m5 = l5) := hl
      have hln5 : l4.length + m5.length = l5.length := by rw [← hl, List.length_append]
      have O5 : Hid (wD5.ownsRow wA.heap.size 5 1 (.slice a5 l5.length q5) l5.length (u8s l5)) := by
        have h := ho.out
        rw [hl, hln5] at h
        exact h
      have KD5 : Hid (Keeps [] wA wD5) := hk.out wA (Nat.le_refl _) (by have kk := KC5.out; exact Keeps.K)
      rw [hln5]
      clear ho hk hl
      go_wp2_with fail
      refine (r5Put_any ⟨vk, vn, vs⟩ _ hvs HC.out.vkind HC.out.vn).mono ?_
      intro e wC6 hp
      obtain ⟨b6, c6, rfl, h1, h2⟩ := hp
      rw [List.nil_append] at h1 ⊢
      obtain ⟨m6, hm⟩ : ∃ m6, putL ⟨vk, vn, vs⟩ = m6 := ⟨_, rfl⟩
      have HM6 := hid hm
      have hmz6 : m6.length ≤ 1000030 := by rw [← hm]; have := intL_len (show I64 (vs.size : Int) from ⟨by omega, by omega⟩); have := intL_len HC.out.vkind; have := intL_len HC.out.vn; have e : vs.data.toList.length = vs.size := (by rw [Array.length_toList]; rfl); dsimp only at *; unfold putL textL; simp only [List.length_append, e]; omega
      rw [hm] at h1 ⊢
      have KC6 : Hid (Keeps [] wA wC6) := KD5.out.trans (Keeps.trans (G := []) (by exact Keeps.K) h2 (fun _ _ h => h)) (fun _ _ h => h)
      have R6 : Hid (Reads wC6 1 (.slice b6 m6.length c6) m6.length (u8s m6)) := Reads.ofOwn h1
      have O5' : Hid (wC6.ownsRow wA.heap.size 5 1 (.slice a5 l5.length q5) l5.length (u8s l5)) := ownsRow_keeps O5.out (Keeps.trans (G := []) (by exact Keeps.K) h2 (fun _ _ h => h)) (fun _ _ h => by cases h)
      have hwC6M : wA.heap.size ≤ wC6.heap.size := KC6.out.size
      clear h1 h2 hm
      clear x0 x1 x2 x3 x4 x5 x6 x7 f0
      obtain ⟨⟨x0, x1, x2, x3, x4, x5, x6, x7⟩, f0⟩ := blk8 (HROW.out _ KC6.out)
      have HR6 : Hid (∀ wx wD, Keeps [] wC6 wx → Hid (∀ w0 : World, w0.heap.size ≤ wA.heap.size → Keeps [] w0 wx → Keeps [] w0 wD) → wD.heap[w.heap.size]? = some (.cells #[.int .i64 2, .int .i64 se, .int .i64 sq, .string fd, .int .i64 vr, .int .i64 vk, .int .i64 vn, .string vs] 34 (0, 0))) := fun wx wD g h => HROW.out wD (h.out wA (Nat.le_refl _) (KC6.out.trans g (fun _ _ h => h)))
      go_wp2_with (at_builtin; go_must (refine wpList_putRow _ (by rfl) _ _ (by rfl) wA.heap.size ip hi hz0 hz1 hz2 (.slice a5 l5.length q5) (by rfl) l5 l5.length rfl O5'.out (.slice b6 m6.length c6) (by rfl) m6 R6.out (by omega) (by omega) ?_; intro a6 q6 wD6 ho hk; have xr := blk8 (HR6.out _ _ (by exact Keeps.K) hk); obtain ⟨⟨x0, x1, x2, x3, x4, x5, x6, x7⟩, f0⟩ := xr))
      obtain ⟨l6, hl⟩ : ∃ l6, l5 ++ m6 = l6 := ⟨_, rfl⟩
      have HL6 : Hid (l5 ++ m6 = l6) := hl
      have hln6 : l5.length + m6.length = l6.length := by rw [← hl, List.length_append]
      have O6 : Hid (wD6.ownsRow wA.heap.size 5 1 (.slice a6 l6.length q6) l6.length (u8s l6)) := by
        have h := ho.out
        rw [hl, hln6] at h
        exact h
      have KD6 : Hid (Keeps [] wA wD6) := hk.out wA (Nat.le_refl _) (by have kk := KC6.out; exact Keeps.K)
      rw [hln6]
      clear ho hk hl
      go_ret
      exact PutPost.is (by rw [← HL6.out, ← HL5.out, ← HL4.out, ← HL3'.out, ← HM4.out, ← HM5.out, ← HM6.out]; unfold putC; simp) (ownsRow_base O6.out KA.out.size) (KA.out.trans KD6.out (fun _ _ h => h))
    · have n2 : (kd == 2) = false := by simp; exact k2
      by_cases k4 : kd = 4
      · subst k4
        clear k1 n1 k2 n2
        go_wp2_with fail
        refine Plan.wp_region_plan (fun wx => wx.cell? ⟨w.heap.size, 1, none⟩ = some (.int .i64 se) ∧ wx.cell? ⟨w.heap.size, 2, none⟩ = some (.int .i64 sq)) 7 [(true, 0), (true, 1), (true, 2), (true, 5), (true, 6), (false, 3), (false, 4)] (by kernel_rfl) (by as_aux_lemma => kernel_rfl) (by kernel_rfl) (fun _ _ _ _ _ h => h) ?_ (fun hS => ?_)
        (· go_simp)
        simp only [Plan.pick, List.append_eq, List.cons_append, List.nil_append, Plan.g1, Plan.g2, Option.getD_some, List.drop_succ_cons, List.drop_zero]
        iterate 5 (first | refine Plan.tA ?_ | refine Plan.tY ?_ | refine Plan.pN ?_ | refine Plan.pU ?_ | fail)
        clear hS
        refine Plan.step ?_
        go_wp2_with fail
        refine (r3Int_any se HC.out.session _).mono ?_
        intro e wC2 hp
        obtain ⟨b2, c2, rfl, h1, h2⟩ := hp
        rw [List.nil_append] at h1 ⊢
        obtain ⟨m2, hm⟩ : ∃ m2, intL se = m2 := ⟨_, rfl⟩
        have HM2 := hid hm
        have hmz2 : m2.length ≤ 10 := by rw [← hm]; exact ls
        rw [hm] at h1 ⊢
        have KC2 : Hid (Keeps [] wA wC2) := KD1.out.trans (Keeps.trans (G := []) (by exact Keeps.K) h2 (fun _ _ h => h)) (fun _ _ h => h)
        have R2 : Hid (Reads wC2 1 (.slice b2 m2.length c2) m2.length (u8s m2)) := Reads.ofOwn h1
        have O1' : Hid (wC2.ownsRow wA.heap.size 5 1 (.slice a1 l1.length q1) l1.length (u8s l1)) := ownsRow_keeps O1.out (Keeps.trans (G := []) (by exact Keeps.K) h2 (fun _ _ h => h)) (fun _ _ h => by cases h)
        have hwC2M : wA.heap.size ≤ wC2.heap.size := KC2.out.size
        clear h1 h2 hm
        clear x0 x1 x2 x3 x4 x5 x6 x7 f0
        obtain ⟨⟨x0, x1, x2, x3, x4, x5, x6, x7⟩, f0⟩ := blk8 (HROW.out _ KC2.out)
        go_wp2_with fail
        refine ⟨?_, ?_⟩
        (· go_simp)
        refine Plan.step ?_
        go_wp2_with (at_builtin; go_must (refine wpList_putRow _ (by rfl) _ _ (by rfl) wA.heap.size ip hi hz0 hz1 hz2 (.slice a1 l1.length q1) (by rfl) l1 l1.length rfl O1'.out (.slice b2 m2.length c2) (by rfl) m2 R2.out (by omega) (by omega) ?_; intro a2 q2 wD2 ho hk))
        obtain ⟨l2, hl⟩ : ∃ l2, l1 ++ m2 = l2 := ⟨_, rfl⟩
        have HL2 : Hid (l1 ++ m2 = l2) := hl
        have hln2 : l1.length + m2.length = l2.length := by rw [← hl, List.length_append]
        have O2 : Hid (wD2.ownsRow wA.heap.size 5 1 (.slice a2 l2.length q2) l2.length (u8s l2)) := by
          have h := ho.out
          rw [hl, hln2] at h
          exact h
        have KD2 : Hid (Keeps [] wA wD2) := hk.out wA (Nat.le_refl _) (by have kk := KC2.out; exact Keeps.K)
        rw [hln2]
        clear ho hk hl
        clear x0 x1 x2 x3 x4 x5 x6 x7 f0
        obtain ⟨⟨x0, x1, x2, x3, x4, x5, x6, x7⟩, f0⟩ := blk8 (HROW.out _ KD2.out)
        refine ⟨?_, ?_⟩
        (· go_simp)
        refine Plan.fin ?_
        go_wp2_with fail
        refine (r3Int_any sq HC.out.seq _).mono ?_
        intro e wC3 hp
        obtain ⟨b3, c3, rfl, h1, h2⟩ := hp
        rw [List.nil_append] at h1 ⊢
        obtain ⟨m3, hm⟩ : ∃ m3, intL sq = m3 := ⟨_, rfl⟩
        have HM3 := hid hm
        have hmz3 : m3.length ≤ 10 := by rw [← hm]; exact lq
        rw [hm] at h1 ⊢
        have KC3 : Hid (Keeps [] wA wC3) := KD2.out.trans (Keeps.trans (G := []) (by exact Keeps.K) h2 (fun _ _ h => h)) (fun _ _ h => h)
        have R3 : Hid (Reads wC3 1 (.slice b3 m3.length c3) m3.length (u8s m3)) := Reads.ofOwn h1
        have O2' : Hid (wC3.ownsRow wA.heap.size 5 1 (.slice a2 l2.length q2) l2.length (u8s l2)) := ownsRow_keeps O2.out (Keeps.trans (G := []) (by exact Keeps.K) h2 (fun _ _ h => h)) (fun _ _ h => by cases h)
        have hwC3M : wA.heap.size ≤ wC3.heap.size := KC3.out.size
        clear h1 h2 hm
        clear x0 x1 x2 x3 x4 x5 x6 x7 f0
        obtain ⟨⟨x0, x1, x2, x3, x4, x5, x6, x7⟩, f0⟩ := blk8 (HROW.out _ KC3.out)
        have HR3 : Hid (∀ wx wD, Keeps [] wC3 wx → Hid (∀ w0 : World, w0.heap.size ≤ wA.heap.size → Keeps [] w0 wx → Keeps [] w0 wD) → wD.heap[w.heap.size]? = some (.cells #[.int .i64 4, .int .i64 se, .int .i64 sq, .string fd, .int .i64 vr, .int .i64 vk, .int .i64 vn, .string vs] 34 (0, 0))) := fun wx wD g h => HROW.out wD (h.out wA (Nat.le_refl _) (KC3.out.trans g (fun _ _ h => h)))
        go_wp2_with (at_builtin; go_must (refine wpList_putRow _ (by rfl) _ _ (by rfl) wA.heap.size ip hi hz0 hz1 hz2 (.slice a2 l2.length q2) (by rfl) l2 l2.length rfl O2'.out (.slice b3 m3.length c3) (by rfl) m3 R3.out (by omega) (by omega) ?_; intro a3 q3 wD3 ho hk; have xr := blk8 (HR3.out _ _ (by exact Keeps.K) hk); obtain ⟨⟨x0, x1, x2, x3, x4, x5, x6, x7⟩, f0⟩ := xr))
        obtain ⟨l3, hl⟩ : ∃ l3, l2 ++ m3 = l3 := ⟨_, rfl⟩
        have HL3 : Hid (l2 ++ m3 = l3) := hl
        have hln3 : l2.length + m3.length = l3.length := by rw [← hl, List.length_append]
        have O3 : Hid (wD3.ownsRow wA.heap.size 5 1 (.slice a3 l3.length q3) l3.length (u8s l3)) := by
          have h := ho.out
          rw [hl, hln3] at h
          exact h
        have KD3 : Hid (Keeps [] wA wD3) := hk.out wA (Nat.le_refl _) (by have kk := KC3.out; exact Keeps.K)
        rw [hln3]
        clear ho hk hl
        have hz3 : l3.length ≤ 30 := by omega
        have HL3' : Hid (intL 4 ++ intL se ++ intL sq = l3) := by show _ = _; rw [← HL3.out, ← HL2.out, HL1.out, HM2.out, HM3.out]
        go_wp2_with fail
        refine (r3Text_any fd _ hfd).mono ?_
        intro e wC4 hp
        obtain ⟨b4, c4, rfl, h1, h2⟩ := hp
        rw [List.nil_append] at h1 ⊢
        obtain ⟨m4, hm⟩ : ∃ m4, textL fd = m4 := ⟨_, rfl⟩
        have HM4 := hid hm
        have hmz4 : m4.length ≤ 1000010 := by rw [← hm]; have := intL_len (show I64 (fd.size : Int) from ⟨by omega, by omega⟩); have e : fd.data.toList.length = fd.size := (by rw [Array.length_toList]; rfl); unfold textL; rw [List.length_append, e]; omega
        rw [hm] at h1 ⊢
        have KC4 : Hid (Keeps [] wA wC4) := KD3.out.trans (Keeps.trans (G := []) (by exact Keeps.K) h2 (fun _ _ h => h)) (fun _ _ h => h)
        have R4 : Hid (Reads wC4 1 (.slice b4 m4.length c4) m4.length (u8s m4)) := Reads.ofOwn h1
        have O3' : Hid (wC4.ownsRow wA.heap.size 5 1 (.slice a3 l3.length q3) l3.length (u8s l3)) := ownsRow_keeps O3.out (Keeps.trans (G := []) (by exact Keeps.K) h2 (fun _ _ h => h)) (fun _ _ h => by cases h)
        have hwC4M : wA.heap.size ≤ wC4.heap.size := KC4.out.size
        clear h1 h2 hm
        clear x0 x1 x2 x3 x4 x5 x6 x7 f0
        obtain ⟨⟨x0, x1, x2, x3, x4, x5, x6, x7⟩, f0⟩ := blk8 (HROW.out _ KC4.out)
        have HR4 : Hid (∀ wx wD, Keeps [] wC4 wx → Hid (∀ w0 : World, w0.heap.size ≤ wA.heap.size → Keeps [] w0 wx → Keeps [] w0 wD) → wD.heap[w.heap.size]? = some (.cells #[.int .i64 4, .int .i64 se, .int .i64 sq, .string fd, .int .i64 vr, .int .i64 vk, .int .i64 vn, .string vs] 34 (0, 0))) := fun wx wD g h => HROW.out wD (h.out wA (Nat.le_refl _) (KC4.out.trans g (fun _ _ h => h)))
        go_wp2_with (at_builtin; go_must (refine wpList_putRow _ (by rfl) _ _ (by rfl) wA.heap.size ip hi hz0 hz1 hz2 (.slice a3 l3.length q3) (by rfl) l3 l3.length rfl O3'.out (.slice b4 m4.length c4) (by rfl) m4 R4.out (by omega) (by omega) ?_; intro a4 q4 wD4 ho hk; have xr := blk8 (HR4.out _ _ (by exact Keeps.K) hk); obtain ⟨⟨x0, x1, x2, x3, x4, x5, x6, x7⟩, f0⟩ := xr))
        obtain ⟨l4, hl⟩ : ∃ l4, l3 ++ m4 = l4 := ⟨_, rfl⟩
        have HL4 : Hid (l3 ++ m4 = l4) := hl
        have hln4 : l3.length + m4.length = l4.length := by rw [← hl, List.length_append]
        have O4 : Hid (wD4.ownsRow wA.heap.size 5 1 (.slice a4 l4.length q4) l4.length (u8s l4)) := by
          have h := ho.out
          rw [hl, hln4] at h
          exact h
        have KD4 : Hid (Keeps [] wA wD4) := hk.out wA (Nat.le_refl _) (by have kk := KC4.out; exact Keeps.K)
        rw [hln4]
        clear ho hk hl
        go_ret
        exact PutPost.is (by rw [← HL4.out, ← HL3'.out, ← HM4.out]; unfold putC; simp) (ownsRow_base O4.out KA.out.size) (KA.out.trans KD4.out (fun _ _ h => h))
      · have n4 : (kd == 4) = false := by simp; exact k4
        have HE0 : Hid (putC ⟨kd, se, sq, fd, vr, ⟨vk, vn, vs⟩⟩ = intL kd ++ intL se ++ intL sq) := by
          show _ = _
          unfold putC
          simp [k1, k2, k4]
        clear k1 k2 k4
        go_wp2_with fail
        refine Plan.wp_region_plan (fun wx => wx.cell? ⟨w.heap.size, 1, none⟩ = some (.int .i64 se) ∧ wx.cell? ⟨w.heap.size, 2, none⟩ = some (.int .i64 sq)) 7 [(true, 0), (true, 1), (true, 2), (true, 5), (true, 6), (false, 3), (false, 4)] (by kernel_rfl) (by as_aux_lemma => kernel_rfl) (by kernel_rfl) (fun _ _ _ _ _ h => h) ?_ (fun hS => ?_)
        (· go_simp)
        simp only [Plan.pick, List.append_eq, List.cons_append, List.nil_append, Plan.g1, Plan.g2, Option.getD_some, List.drop_succ_cons, List.drop_zero]
        iterate 5 (first | refine Plan.tA ?_ | refine Plan.tY ?_ | refine Plan.pN ?_ | refine Plan.pU ?_ | fail)
        clear hS
        refine Plan.step ?_
        go_wp2_with fail
        refine (r3Int_any se HC.out.session _).mono ?_
        intro e wC2 hp
        obtain ⟨b2, c2, rfl, h1, h2⟩ := hp
        rw [List.nil_append] at h1 ⊢
        obtain ⟨m2, hm⟩ : ∃ m2, intL se = m2 := ⟨_, rfl⟩
        have HM2 := hid hm
        have hmz2 : m2.length ≤ 10 := by rw [← hm]; exact ls
        rw [hm] at h1 ⊢
        have KC2 : Hid (Keeps [] wA wC2) := KD1.out.trans (Keeps.trans (G := []) (by exact Keeps.K) h2 (fun _ _ h => h)) (fun _ _ h => h)
        have R2 : Hid (Reads wC2 1 (.slice b2 m2.length c2) m2.length (u8s m2)) := Reads.ofOwn h1
        have O1' : Hid (wC2.ownsRow wA.heap.size 5 1 (.slice a1 l1.length q1) l1.length (u8s l1)) := ownsRow_keeps O1.out (Keeps.trans (G := []) (by exact Keeps.K) h2 (fun _ _ h => h)) (fun _ _ h => by cases h)
        have hwC2M : wA.heap.size ≤ wC2.heap.size := KC2.out.size
        clear h1 h2 hm
        clear x0 x1 x2 x3 x4 x5 x6 x7 f0
        obtain ⟨⟨x0, x1, x2, x3, x4, x5, x6, x7⟩, f0⟩ := blk8 (HROW.out _ KC2.out)
        go_wp2_with fail
        refine ⟨?_, ?_⟩
        (· go_simp)
        refine Plan.step ?_
        go_wp2_with (at_builtin; go_must (refine wpList_putRow _ (by rfl) _ _ (by rfl) wA.heap.size ip hi hz0 hz1 hz2 (.slice a1 l1.length q1) (by rfl) l1 l1.length rfl O1'.out (.slice b2 m2.length c2) (by rfl) m2 R2.out (by omega) (by omega) ?_; intro a2 q2 wD2 ho hk))
        obtain ⟨l2, hl⟩ : ∃ l2, l1 ++ m2 = l2 := ⟨_, rfl⟩
        have HL2 : Hid (l1 ++ m2 = l2) := hl
        have hln2 : l1.length + m2.length = l2.length := by rw [← hl, List.length_append]
        have O2 : Hid (wD2.ownsRow wA.heap.size 5 1 (.slice a2 l2.length q2) l2.length (u8s l2)) := by
          have h := ho.out
          rw [hl, hln2] at h
          exact h
        have KD2 : Hid (Keeps [] wA wD2) := hk.out wA (Nat.le_refl _) (by have kk := KC2.out; exact Keeps.K)
        rw [hln2]
        clear ho hk hl
        clear x0 x1 x2 x3 x4 x5 x6 x7 f0
        obtain ⟨⟨x0, x1, x2, x3, x4, x5, x6, x7⟩, f0⟩ := blk8 (HROW.out _ KD2.out)
        refine ⟨?_, ?_⟩
        (· go_simp)
        refine Plan.fin ?_
        go_wp2_with fail
        refine (r3Int_any sq HC.out.seq _).mono ?_
        intro e wC3 hp
        obtain ⟨b3, c3, rfl, h1, h2⟩ := hp
        rw [List.nil_append] at h1 ⊢
        obtain ⟨m3, hm⟩ : ∃ m3, intL sq = m3 := ⟨_, rfl⟩
        have HM3 := hid hm
        have hmz3 : m3.length ≤ 10 := by rw [← hm]; exact lq
        rw [hm] at h1 ⊢
        have KC3 : Hid (Keeps [] wA wC3) := KD2.out.trans (Keeps.trans (G := []) (by exact Keeps.K) h2 (fun _ _ h => h)) (fun _ _ h => h)
        have R3 : Hid (Reads wC3 1 (.slice b3 m3.length c3) m3.length (u8s m3)) := Reads.ofOwn h1
        have O2' : Hid (wC3.ownsRow wA.heap.size 5 1 (.slice a2 l2.length q2) l2.length (u8s l2)) := ownsRow_keeps O2.out (Keeps.trans (G := []) (by exact Keeps.K) h2 (fun _ _ h => h)) (fun _ _ h => by cases h)
        have hwC3M : wA.heap.size ≤ wC3.heap.size := KC3.out.size
        clear h1 h2 hm
        clear x0 x1 x2 x3 x4 x5 x6 x7 f0
        obtain ⟨⟨x0, x1, x2, x3, x4, x5, x6, x7⟩, f0⟩ := blk8 (HROW.out _ KC3.out)
        have HR3 : Hid (∀ wx wD, Keeps [] wC3 wx → Hid (∀ w0 : World, w0.heap.size ≤ wA.heap.size → Keeps [] w0 wx → Keeps [] w0 wD) → wD.heap[w.heap.size]? = some (.cells #[.int .i64 kd, .int .i64 se, .int .i64 sq, .string fd, .int .i64 vr, .int .i64 vk, .int .i64 vn, .string vs] 34 (0, 0))) := fun wx wD g h => HROW.out wD (h.out wA (Nat.le_refl _) (KC3.out.trans g (fun _ _ h => h)))
        go_wp2_with (at_builtin; go_must (refine wpList_putRow _ (by rfl) _ _ (by rfl) wA.heap.size ip hi hz0 hz1 hz2 (.slice a2 l2.length q2) (by rfl) l2 l2.length rfl O2'.out (.slice b3 m3.length c3) (by rfl) m3 R3.out (by omega) (by omega) ?_; intro a3 q3 wD3 ho hk; have xr := blk8 (HR3.out _ _ (by exact Keeps.K) hk); obtain ⟨⟨x0, x1, x2, x3, x4, x5, x6, x7⟩, f0⟩ := xr))
        obtain ⟨l3, hl⟩ : ∃ l3, l2 ++ m3 = l3 := ⟨_, rfl⟩
        have HL3 : Hid (l2 ++ m3 = l3) := hl
        have hln3 : l2.length + m3.length = l3.length := by rw [← hl, List.length_append]
        have O3 : Hid (wD3.ownsRow wA.heap.size 5 1 (.slice a3 l3.length q3) l3.length (u8s l3)) := by
          have h := ho.out
          rw [hl, hln3] at h
          exact h
        have KD3 : Hid (Keeps [] wA wD3) := hk.out wA (Nat.le_refl _) (by have kk := KC3.out; exact Keeps.K)
        rw [hln3]
        clear ho hk hl
        have hz3 : l3.length ≤ 30 := by omega
        have HL3' : Hid (intL kd ++ intL se ++ intL sq = l3) := by show _ = _; rw [← HL3.out, ← HL2.out, HL1.out, HM2.out, HM3.out]
        go_ret
        exact PutPost.is (HE0.out.trans HL3'.out) (ownsRow_base O3.out KA.out.size) (KA.out.trans KD3.out (fun _ _ h => h))

end Go.Proofs.YtnjdepojmnniaaaGreatDoor
