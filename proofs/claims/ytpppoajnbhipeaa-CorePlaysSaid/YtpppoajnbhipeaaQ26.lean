/- Joined of RefL, RefI. -/
import Derived.Test.YtpppoajnbhipeaaQ22
import Derived.Test.YtpppoajnbhipeaaRefF
import Derived.Test.YtpppoajnbhipeaaQ18

/- The document's core: take, whole. -/
namespace Go.Proofs.Ytpppoajnbhipeaa
open Go Go.RowKit

set_option maxRecDepth 100000 in
set_option maxHeartbeats 12800000 in
theorem rtake_main (w : World) (B n : Nat) (c : CoreD) (P : Nat → Prop) (lv sv : Value) (m : MsgD) (ea da : Option Addr) (ec dc : Nat) (h : RefAt w B n c P lv sv) (hP : ∀ b, P b → b < w.heap.size) (hl : ListAt entL w P (.slice ea m.entries.length ec) m.entries) (ht : ¬ m.term < c.term) (hr : c.role ≠ 2)
    (ha : 0 ≤ m.a ∧ m.a ≤ 1099511627776) (hc : 0 ≤ m.c ∧ m.c ≤ 1099511627776) (hn : m.entries.length ≤ 8) (hte : ∀ e ∈ m.entries, 0 ≤ e.term ∧ e.term ≤ 1099511627776) (hde : ∀ e ∈ m.entries, e.data.length ≤ 1000000) (hll : lastD c + 8 ≤ 2199023255552) :
    Calls Try.prog 85 #[.pointer (some ⟨n, 0, none⟩), msgV m (.slice ea m.entries.length ec) (.slice da m.data.length dc)] w (RCallPost B n P (appendD (followD c m) m) w) := by
  have h10 : w.cell? ⟨n, 10, none⟩ = some (.int .i64 c.term) := h.blk.cell 10
  have h12 : w.cell? ⟨n, 12, none⟩ = some (.int .i64 c.role) := h.blk.cell 12
  have hlt := h.blk.lt
  have hbs := h.ok.base
  have hls := h.ok.last
  have H := hid h
  have HPB := hid hP
  have HLA := hid hl
  have HTE := hid hte
  have HDE := hid hde
  obtain ⟨a0, a1⟩ := ha
  obtain ⟨c0, c1⟩ := hc
  have hd : decide (m.term < c.term) = false := by simpa using ht
  have hrb : (c.role == 2) = false := by simpa using hr
  have HLL := hid hll
  unfold msgV
  clear h hr ht hP hl hte hde hll
  go_enter Try.func85, Try.ntmps85
  go_wp2_with fail
  go_quiet (fail)
  go_wp2_with fail
  refine (rfollow_any _ B n c P lv sv m ea da ec dc (H.out.k (by exact Keeps.K))).mono ?_
  rintro e w1 ⟨rfl, hc1, hk1⟩
  have K1 : Hid (Keeps [n] w w1) := (Keeps.mono (F := []) (G := [n]) (by exact Keeps.K) (fun _ _ h => by cases h)).trans hk1 (fun _ _ h => h)
  have hbk : ∀ (i : Nat) v, (w.alloc (.cells #[.int .i64 m.kind, .int .i64 m.frm, .int .i64 m.to, .int .i64 m.term, .int .i64 m.a, .int .i64 m.b, .int .i64 m.c, .bool m.ok, .slice ea m.entries.length ec, .slice da m.data.length dc] 40)).cell? ⟨w.heap.size, i, none⟩ = some v → w1.cell? ⟨w.heap.size, i, none⟩ = some v := fun i v hv => hk1.cellSome (by simpa using hv) (by simp; omega)
  have y1 : w1.cell? ⟨w.heap.size, 1, none⟩ = some (.int .i64 m.frm) := hbk 1 _ (by go_simp)
  have y4 : w1.cell? ⟨w.heap.size, 4, none⟩ = some (.int .i64 m.a) := hbk 4 _ (by go_simp)
  have y5 : w1.cell? ⟨w.heap.size, 5, none⟩ = some (.int .i64 m.b) := hbk 5 _ (by go_simp)
  have y6 : w1.cell? ⟨w.heap.size, 6, none⟩ = some (.int .i64 m.c) := hbk 6 _ (by go_simp)
  have y8 : w1.cell? ⟨w.heap.size, 8, none⟩ = some (.slice ea m.entries.length ec) := hbk 8 _ (by go_simp)
  have C1 := hid hc1
  have x15 : w1.cell? ⟨n, 15, none⟩ = some (.int .i64 c.base) := hc1.blk.cell 15
  have x14 : w1.cell? ⟨n, 14, none⟩ = some (.int .i64 c.commit) := hc1.blk.cell 14
  have hz1 : w.heap.size < w1.heap.size := World.block_lt_of_cell? _ _ y1
  clear hc1 hk1 h10 h12 hbk
  go_wp2_with fail
  go_loopw [5, 6] (fun p l wr => ∃ (j x q : Nat) (a : Option Addr), j + x = m.entries.length ∧ p = .int .i64 (m.a + j) ∧ l = .slice a x q ∧ wr = w1 ∧ Hid (ListAt entL w P (.slice a x q) (m.entries.drop j) ∧ (j = 0 ∨ m.a + j ≤ c.base))) (fun p _ _ => (c.base - intOf p).toNat)
  case atStart => exact ⟨0, m.entries.length, ec, ea, by omega, by simp, rfl, rfl, by rw [List.drop_zero]; exact HLA.out, .inl rfl⟩
  case round =>
    obtain ⟨j, x, q, a, hjx, rfl, rfl, hwr, HW⟩ := hrel
    rw [hwr]
    clear hwr
    have j0 : (0 : Int) ≤ (j : Int) := Int.natCast_nonneg _
    have x0' : (0 : Int) ≤ (x : Int) := Int.natCast_nonneg _
    by_cases hA : m.a + (j : Int) < c.base
    · by_cases hx : 0 < x
      · have hx1 : (0 : Int) < (x : Int) := by omega
        have hdl : (m.entries.drop j).length = x := by rw [List.length_drop]; omega
        obtain ⟨g, off, cg, ha, hcg, hcm, _, _⟩ := HW.out.1.addr (fun hn => by rw [hn] at hdl; simp at hdl; omega)
        simp at ha
        obtain ⟨ha, hxx, hcc⟩ := ha
        clear hxx
        subst ha
        subst hcc
        rw [hdl] at hcg
        have wr1 : IntKind.i64.wrap (m.a + (j : Int) + 1) = m.a + (j : Int) + 1 := IntWalk.i64_in _ (by omega)
        have hx2 : (1 : Int) ≤ (x : Int) := by omega
        have hq1 : (x : Int) ≤ (q : Int) := by omega
        have hq2 : (q : Int) ≤ 9223372036854775807 := by unfold maxLen at hcm; omega
        have hq3 : (1 : Int) ≤ (q : Int) := by omega
        have hx3 : 1 ≤ x := by omega
        have hq4 : 1 ≤ q := by omega
        have HPI : Hid (∀ a', (0 < x - 1 → a' = some ⟨g, off + 1 * 3, none⟩) → ListAt entL w P (.slice a' (x - 1) (q - 1)) (m.entries.drop (j + 1)) ∧ (j + 1 = 0 ∨ m.a + ((j + 1 : Nat) : Int) ≤ c.base)) := fun a' ha' => by
          have h1 := HW.out.1
          rw [← hdl] at h1
          have := h1.piece 1 (x - 1) (q - 1) a' (by omega) (by omega) (by omega) ha'
          rw [List.drop_drop, List.take_of_length_le (by rw [List.length_drop]; omega)] at this
          exact ⟨this, .inr (by omega)⟩
        clear hdl hcm
        by_cases hq : q = 1
        · subst hq
          have hx5 : x = 1 := by omega
          subst hx5
          clear x0' hx1 hx2 hq1 hq2 hq3 hx3 hq4 hcg hx
          have HJX := hid hjx
          clear hjx
          go_wp2_with fail
          go_roundw
          case rel => exact ⟨j + 1, 0, 0, some ⟨g, off, none⟩, by have := HJX.out; omega, by go_num, by first | exact trivial | rfl, by first | exact trivial | rfl, by have := HPI.out (some ⟨g, off, none⟩) (fun h => by omega); exact this⟩
          case measure => simp [intOf]; omega
        · go_wp2_with fail
          go_roundw
          case rel => exact ⟨j + 1, x - 1, q - 1, some ⟨g, off + 3, none⟩, by omega, by go_num, by first | exact trivial | rfl, by first | exact trivial | rfl, by have := HPI.out (some ⟨g, off + 3, none⟩) (fun _ => rfl); exact this⟩
          case measure => simp [intOf]; omega
      · have hx0 : x = 0 := by omega
        subst hx0
        have HF : Hid (appendD (followD c m) m = (followD c m, answerD (followD c m) m true c.base)) := take_over (by show m.a + (m.entries.length : Int) < c.base; omega)
        go_wp2_with fail
        refine Plan.wp_region_plan (fun wx => wx.cell? ⟨w.heap.size, 1, none⟩ = some (.int .i64 m.frm) ∧ wx.cell? ⟨n, 15, none⟩ = some (.int .i64 c.base)) 7 [(true, 0), (true, 1), (true, 2), (true, 3), (true, 4), (true, 5), (true, 6)] (by kernel_rfl) (by as_aux_lemma => kernel_rfl) (by kernel_rfl) (fun _ _ _ _ _ h => h) ?_ (fun hS => ?_)
        (· go_simp)
        simp only [Plan.pick, List.append_eq, List.cons_append, List.nil_append, Plan.g1, Plan.g2, Option.getD_some, List.drop_succ_cons, List.drop_zero]
        iterate 7 (first | refine Plan.tA ?_ | refine Plan.tY ?_ | refine Plan.pN ?_ | refine Plan.pU ?_ | fail)
        refine Plan.fin ?_
        go_wp2_with fail
        refine calls_fold (fun wx => Keeps [] w1 wx) (by exact Keeps.K) ?_
        intro w5 k5
        have K5 := hid k5
        clear k5
        refine (ranswer_any _ B n (followD c m) P lv sv m true c.base (C1.out.k K5.out)).mono ?_
        rintro e w6 ⟨a, q, rfl, hf, hk⟩
        have HP : Hid (RCallPost B n P (appendD (followD c m) m) w (.returned (.slice a (answerD (followD c m) m true c.base).length q)) w6) := by
          show RCallPost _ _ _ _ _ _ _
          rw [HF.out]
          exact RCallPost.tells ((C1.out.k K5.out).toGr hlt) hlt (K1.out.trans K5.out (fun _ _ h => by cases h)) (RMsgsPost.of ⟨a, q, rfl, hf, hk⟩)
        clear hf hk
        go_wp2_with fail
        go_ret
        exact HP.out
    · obtain ⟨A, hAj⟩ : ∃ A : Int, m.a + (j : Int) = A := ⟨_, rfl⟩
      have HAP : Hid (appendD (followD c m) m = appendAt (followD c m) m A (m.entries.drop j) (decide (m.a < c.base))) := by
        show _ = _
        rw [← hAj]
        exact take_pass (c := followD c m) (by omega) HW.out.2 (by show c.base ≤ _; omega) hbs.2
      rw [hAj] at hA ⊢
      have hA0 : c.base ≤ A := by omega
      have hA1 : A ≤ 1099511627784 := by omega
      have ib1 : -4611686018427387904 ≤ A := by omega
      have ib2 : A ≤ 4611686018427387904 := by omega
      have hdA : decide (A < c.base) = false := by simp; omega
      have wr1 : IntKind.i64.wrap (A - 1) = A - 1 := IntWalk.i64_in _ (by omega)
      have wr2 : IntKind.i64.wrap (A + (x : Int)) = A + (x : Int) := IntWalk.i64_in _ (by omega)
      have HDL : Hid ((m.entries.drop j).length = x) := by show _ = _; rw [List.length_drop]; omega
      have HLD : Hid (ListAt entL w P (.slice a x q) (m.entries.drop j)) := HW.out.1
      have hx8 : x ≤ 8 := by omega
      obtain ⟨T, okT, hT⟩ : ∃ t o, atD (followD c m) A = (t, o) := ⟨_, _, rfl⟩
      have HT := hid hT
      obtain ⟨L, hL⟩ : ∃ L, lastD (followD c m) = L := ⟨_, rfl⟩
      have HL := hid hL
      have HAL : Hid (okT = true → A ≤ L) := fun hk => by
        subst hk
        unfold atD at hT
        split at hT
        · have : c.base ≤ lastD (followD c m) := by show c.base ≤ c.base + (c.l.length : Int); omega
          have e1 : A = c.base := by assumption
          omega
        · split at hT
          · simp at hT
          · have : ¬ (A < (followD c m).base ∨ lastD (followD c m) < A) := by assumption
            omega
      obtain ⟨pb, hpb⟩ : ∃ pb, decide (m.a < c.base) = pb := ⟨_, rfl⟩
      rw [hpb]
      have HPBB := hid hpb
      clear hT hL hAj hpb hjx hA
      have hcase : (okT = false ∨ (okT = true ∧ pb = false ∧ (T != m.b) = true)) ∨ (okT = true ∧ (pb = true ∨ (pb = false ∧ (T != m.b) = false))) := by
        cases okT
        · exact .inl (.inl rfl)
        · cases pb
          · cases h : (T != m.b)
            · exact .inr ⟨rfl, .inr ⟨rfl, rfl⟩⟩
            · exact .inl (.inr ⟨rfl, rfl, rfl⟩)
          · exact .inr ⟨rfl, .inl rfl⟩
      rcases hcase with hno | hyes
      · obtain ⟨V, hV⟩ : ∃ V, max c.commit (min L (A - 1)) = V := ⟨_, rfl⟩
        have HV := hid hV
        have HF : Hid (appendD (followD c m) m = (followD c m, answerD (followD c m) m false V)) := by
          show _ = _
          rw [HAP.out, HPBB.out]
          unfold appendAt
          rw [if_neg (by
            unfold fitD
            rw [HT.out]
            rcases hno with rfl | ⟨rfl, rfl, h⟩
            · simp
            · simp at h ⊢
              exact h), HL.out]
          show _ = (_, answerD _ m false V)
          rw [← hV]
          rfl
        clear hV
        rcases hno with rfl | ⟨rfl, rfl, hne⟩
        all_goals
          go_wp2_with fail
          first
            | (refine (rAt_is _ B n _ P lv sv C1.out A T false ib1 ib2 HT.out).mono ?_)
            | (refine (rAt_is _ B n _ P lv sv C1.out A T true ib1 ib2 HT.out).mono ?_)
          rintro e w' ⟨rfl, kk, rfl⟩
          go_wp2_with fail
          refine Plan.wp_region_plan (fun wx => wx.cell? ⟨w.heap.size, 1, none⟩ = some (.int .i64 m.frm) ∧ wx.cell? ⟨n, 14, none⟩ = some (.int .i64 c.commit)) 13 [(true, 0), (true, 1), (true, 2), (true, 3), (true, 4), (true, 5), (true, 6), (true, 7), (true, 9), (true, 10), (false, 8), (true, 11), (true, 12)] (by kernel_rfl) (by as_aux_lemma => kernel_rfl) (by kernel_rfl) (fun _ _ _ _ _ h => h) ?_ (fun hS => ?_)
          (· go_simp)
          simp only [Plan.pick, List.append_eq, List.cons_append, List.nil_append, Plan.g1, Plan.g2, Option.getD_some, List.drop_succ_cons, List.drop_zero]
          iterate 10 (first | refine Plan.tA ?_ | refine Plan.tY ?_ | refine Plan.pN ?_ | refine Plan.pU ?_ | fail)
          refine Plan.step ?_
          go_wp2_with fail
          refine (rLast_is _ B n _ P lv sv (C1.out.k (by exact Keeps.K)) L HL.out).mono ?_
          rintro e w' ⟨rfl, kl, rfl⟩
          go_wp2_with fail
          refine ⟨?_, ?_⟩
          (· go_simp)
          iterate 2 (first | refine Plan.tA ?_ | refine Plan.tY ?_ | refine Plan.pN ?_ | refine Plan.pU ?_ | fail)
          refine Plan.fin ?_
          go_wp2_with fail
          all_goals
            refine (ranswer_is _ B n (followD c m) P lv sv m false _ V (by have := HV.out; omega) (C1.out.k (by exact Keeps.K))).mono ?_
            rintro e w6 ⟨a, q, rfl, hf, hk⟩
            have HP : Hid (RCallPost B n P (appendD (followD c m) m) w (.returned (.slice a (answerD (followD c m) m false V).length q)) w6) := by
              show RCallPost _ _ _ _ _ _ _
              rw [HF.out]
              exact RCallPost.tells ((C1.out.k (by exact Keeps.K)).toGr hlt) hlt (K1.out.trans (G := []) (by exact Keeps.K) (fun _ _ h => by cases h)) (RMsgsPost.of ⟨a, q, rfl, hf, hk⟩)
            clear hf hk
            go_wp2_with fail
            go_ret
            exact HP.out
      · obtain ⟨rfl, hyes⟩ := hyes
        have hAL := HAL.out rfl
        have HPUT : Hid (∀ wx, Keeps [] w1 wx → Calls Try.prog 92 #[.pointer (some ⟨n, 0, none⟩), .int .i64 A, .slice a x q] wx (RPutPost B n P (followD c m) lv sv (putsD (followD c m) A (m.entries.drop j)) wx)) := fun wx k => by
          have h1 := ((HLD.out.keep K1.out (fun b hb hb' => by simp at hb'; subst hb'; exact H.out.apart hb)).k k)
          have h2 := HDL.out
          have := rput_any wx B n (followD c m) P lv sv A (m.entries.drop j) a q (C1.out.k k) (fun b hb => Nat.lt_of_lt_of_le (HPB.out b hb) (Nat.le_trans K1.out.size k.size)) (by rw [h2]; exact h1) hA0 (by rw [HL.out]; exact hAL) (by omega) (fun e he => HTE.out e (List.mem_of_mem_drop he)) (fun e he => HDE.out e (List.mem_of_mem_drop he)) HLL.out
          rw [h2] at this
          exact this
        have HFIT : Hid (fitD (followD c m) A m.b pb = true) := by
          show _ = _
          unfold fitD
          rw [HT.out]
          rcases hyes with rfl | ⟨rfl, h⟩
          · simp
          · simp at h ⊢
            exact h
        have HAT : Hid (appendD (followD c m) m = appendAt (followD c m) m A (m.entries.drop j) pb) := by show _ = _; rw [HAP.out, HPBB.out]
        obtain ⟨R, hR⟩ : ∃ R, putsD (followD c m) A (m.entries.drop j) = R := ⟨_, rfl⟩
        have HR := hid hR
        clear hR
        have hyes' : pb = true ∨ (pb = false ∧ (T != m.b) = false) := hyes
        clear hyes
        rcases hyes' with rfl | ⟨rfl, hne⟩
        all_goals
          go_wp2_with fail
          refine (rAt_is _ B n _ P lv sv C1.out A T true ib1 ib2 HT.out).mono ?_
          rintro e w' ⟨rfl, kk, rfl⟩
          go_wp2_with fail
          refine (HPUT.out _ (by exact Keeps.K)).mono ?_
          rw [HR.out]
          rintro e w2 hp
          cases R with
          | none =>
            obtain ⟨rfl, hr2, hk2⟩ := hp
            have HF : Hid (appendD (followD c m) m = (followD c m, [])) := by
              show _ = _
              rw [HAT.out]
              unfold appendAt
              rw [if_pos HFIT.out, HR.out]
            have HR2 := hid hr2
            have K2 : Hid (Keeps [] w1 w2) := ((Keeps.refl [] w1).drewN kk).trans hk2 (fun _ _ h => h)
            clear hr2 hk2
            go_wp2_with fail
            go_ret
            rw [HF.out]
            exact RCallPost.silent rfl (HR2.out.toGr hlt) (K1.out.trans K2.out (fun _ _ h => by cases h))
          | some c2 =>
            obtain ⟨rfl, ⟨lv2, hr2⟩, hk2⟩ := hp
            obtain ⟨hsm, hlast⟩ := putsD_some _ _ _ _ HR.out hA0 (by rw [HL.out]; exact hAL)
            rw [HDL.out] at hlast
            obtain ⟨V, hV⟩ : ∃ V, max c.commit (min m.c (A + x)) = V := ⟨_, rfl⟩
            have HV := hid hV
            have HF : Hid (appendD (followD c m) m = ({ c2 with commit := V }, answerD (followD c m) m true (A + x))) := by
              show _ = _
              rw [HAT.out]
              unfold appendAt
              rw [if_pos HFIT.out, HR.out, HDL.out]
              show (({ c2 with commit := max c.commit (min m.c (A + x)) } : CoreD), _) = _
              rw [hV]
            have HR2 := hid hr2
            have K2 : Hid (Keeps [n] w1 w2) := (((Keeps.refl [n] w1).drewN kk)).trans hk2 (fun _ _ h => h)
            have HSM := hid hsm
            have z1 := K2.out.cellSome y1 (by simp; omega)
            have z6 := K2.out.cellSome y6 (by simp; omega)
            have x14' : w2.cell? ⟨n, 14, none⟩ = some (.int .i64 c.commit) := by
              have := hr2.blk.cell 14
              rw [this]
              show some (Value.int .i64 c2.commit) = _
              rw [hsm.commit]
              rfl
            have f14 : w2.frozen? ⟨n, 14, none⟩ = false := hr2.blk.free 14
            have hn2 : n < w2.heap.size := hr2.blk.lt
            have HOK : Hid (CoreOk { c2 with commit := V }) := commitT_ok hr2.ok (by
              have h1 : c2.base = c.base := hsm.base
              have h2 := hr2.ok.commit
              have h3 : c2.commit = c.commit := hsm.commit
              unfold lastD at hlast
              omega)
            have HX : Hid (∀ v, v = V → RefAt ((w2.setCell ⟨n, 14, none⟩ (.int .i64 v)).drew) B n { c2 with commit := V } (Gr P w ((w2.setCell ⟨n, 14, none⟩ (.int .i64 v)).drew)) lv2 sv ∧ Keeps [n] w ((w2.setCell ⟨n, 14, none⟩ (.int .i64 v)).drew)) := fun v hv => by
              subst hv
              have hr3 : RefAt w2 B n c2 (Gr P w w2) lv2 sv := hr2.mono (fun b _ hb => Gr.late (by have := K1.out.size; simpa using this) hb) (fun hb => by
                rcases hb with hb | hb
                · exact H.out.apart hb
                · omega)
              obtain ⟨r1, k1⟩ := hr3.set (c' := { c2 with commit := v }) 14 (.int .i64 v) rfl rfl rfl HOK.out
              have kd : Keeps [] (w2.setCell ⟨n, 14, none⟩ (.int .i64 v)) ((w2.setCell ⟨n, 14, none⟩ (.int .i64 v)).drew) := (Keeps.refl [] _).drew
              refine ⟨(r1.k kd).mono (fun b _ hb => Gr.old (by simp) hb) (fun hb => ?_), ((K1.out.trans K2.out (fun _ _ h => h)).trans k1 (fun _ _ h => h)).drew⟩
              rcases hb with hb | hb
              · exact H.out.apart hb
              · omega
            clear hr2 hk2 hsm hlast hV
            go_wp2_with fail
            refine Plan.wp_region_plan (fun wx => wx.cell? ⟨w.heap.size, 6, none⟩ = some (.int .i64 m.c) ∧ wx.cell? ⟨n, 14, none⟩ = some (.int .i64 c.commit)) 10 [(true, 0), (true, 1), (true, 2), (true, 3), (true, 4), (true, 5), (true, 6), (true, 7), (true, 8), (true, 9)] (by kernel_rfl) (by as_aux_lemma => kernel_rfl) (by kernel_rfl) (fun _ _ _ _ _ h => h) ?_ (fun hS => ?_)
            (· go_simp)
            simp only [Plan.pick, List.append_eq, List.cons_append, List.nil_append, Plan.g1, Plan.g2, Option.getD_some, List.drop_succ_cons, List.drop_zero]
            iterate 10 (first | refine Plan.tA ?_ | refine Plan.tY ?_ | refine Plan.pN ?_ | refine Plan.pU ?_ | fail)
            refine Plan.fin ?_
            go_wp2_with fail
            all_goals
              refine (ranswer_is _ B n { c2 with commit := V } _ lv2 sv m true _ (A + x) rfl (HX.out _ ?_).1).mono ?_
              (· have := HV.out; omega)
              rintro e w6 ⟨a, q, rfl, hf, hk⟩
              have HP : Hid (RCallPost B n P (appendD (followD c m) m) w (.returned (.slice a (answerD { c2 with commit := V } m true (A + x)).length q)) w6) := by
                show RCallPost _ _ _ _ _ _ _
                rw [HF.out, ← answerD_same (c' := { c2 with commit := V }) HSM.out.id HSM.out.term]
                refine RCallPost.tells (HX.out _ ?_).1 hlt (HX.out _ ?_).2 (RMsgsPost.of ⟨a, q, rfl, hf, hk⟩)
                · have := HV.out; omega
                · have := HV.out; omega
              clear hf hk
              go_wp2_with fail
              go_ret
              exact HP.out

def takeD (c : CoreD) (m : MsgD) : CoreD × List MsgD :=
  if m.term < c.term then (c, answerD c m false (lastD c)) else if c.role = 2 then (c, []) else appendD (followD c m) m
theorem rtake_any (w : World) (B n : Nat) (c : CoreD) (P : Nat → Prop) (lv sv : Value) (m : MsgD) (ea da : Option Addr) (ec dc : Nat) (h : RefAt w B n c P lv sv) (hP : ∀ b, P b → b < w.heap.size) (hl : ListAt entL w P (.slice ea m.entries.length ec) m.entries)
    (ha : 0 ≤ m.a ∧ m.a ≤ 1099511627776) (hc : 0 ≤ m.c ∧ m.c ≤ 1099511627776) (hn : m.entries.length ≤ 8) (hte : ∀ e ∈ m.entries, 0 ≤ e.term ∧ e.term ≤ 1099511627776) (hde : ∀ e ∈ m.entries, e.data.length ≤ 1000000) (hll : lastD c + 8 ≤ 2199023255552) :
    Calls Try.prog 85 #[.pointer (some ⟨n, 0, none⟩), msgV m (.slice ea m.entries.length ec) (.slice da m.data.length dc)] w (RCallPost B n P (takeD c m) w) := by
  unfold takeD
  by_cases ht : m.term < c.term
  · rw [if_pos ht]
    exact rtake_old w B n c P lv sv m ea da ec dc h ht
  · rw [if_neg ht]
    by_cases hr : c.role = 2
    · rw [if_pos hr]
      exact rtake_leads w B n c P lv sv m ea da ec dc h ht hr
    · rw [if_neg hr]
      exact rtake_main w B n c P lv sv m ea da ec dc h hP hl ht hr ha hc hn hte hde hll

end Go.Proofs.Ytpppoajnbhipeaa

/- The document's core: voted. -/
namespace Go.Proofs.Ytpppoajnbhipeaa
open Go Go.RowKit

/-- A call behind others of its own. -/
theorem RCallPost.after {B n : Nat} {P : Nat → Prop} {r : CoreD × List MsgD} {w wm w' : World} {e : Ending} (k : Keeps [n] w wm) (hn : n < w.heap.size) (h : RCallPost B n (Gr P w wm) r wm e w') : RCallPost B n P r w e w' := by
  obtain ⟨a, q, lv, sv, he, h1, h2, h3⟩ := h
  refine ⟨a, q, lv, sv, he, h1.mono (fun b _ hb => Gr.trans k.size h3.size hb) (fun hb => ?_), ?_, k.trans h3 (fun _ _ h => h)⟩
  · rcases hb with hb | hb
    · exact h1.apart (.inl (.inl hb))
    · omega
  · exact OwnAt.mono (OwnAt.base h2 k.size) (fun b hb0 hb => ⟨by
      rcases hb.1 with (h1 | h1) | h1
      · exact .inl h1
      · exact .inr h1.1
      · exact .inr (Nat.le_trans k.size h1), hb.2⟩)

/-- How many of the places 1 to k hold a vote. -/
def rcount (l : List Bool) : Nat → Nat
  | 0 => 0
  | k + 1 => rcount l k + (if l.getD (k + 1) false then 1 else 0)
theorem rcount_le (l : List Bool) : ∀ k, rcount l k ≤ k
  | 0 => Nat.le_refl _
  | k + 1 => by
    have := rcount_le l k
    rw [rcount]
    split <;> omega
def rvotedD (c : CoreD) (m : MsgD) : CoreD × List MsgD :=
  if m.term ≠ c.term ∨ c.role ≠ 1 ∨ m.ok = false then (c, [])
  else if 2 * (rcount (votedC c m).votes c.conf.nodes.toNat : Int) ≤ c.conf.nodes then (votedC c m, [])
  else (rleadD (votedC c m), othersD (rleadD (votedC c m)) (sendD (rleadD (votedC c m))))
theorem rvotedD_no {c : CoreD} {m : MsgD} (h : m.term ≠ c.term ∨ c.role ≠ 1 ∨ m.ok = false) : rvotedD c m = (c, []) := by unfold rvotedD; rw [if_pos h]

set_option maxRecDepth 100000 in
set_option maxHeartbeats 3200000 in
theorem rvoted_no (w : World) (B n : Nat) (c : CoreD) (P : Nat → Prop) (lv sv : Value) (m : MsgD) (ea da : Option Addr) (ec dc : Nat) (h : RefAt w B n c P lv sv) (hn : m.term ≠ c.term ∨ c.role ≠ 1 ∨ m.ok = false) :
    Calls Try.prog 84 #[.pointer (some ⟨n, 0, none⟩), msgV m (.slice ea m.entries.length ec) (.slice da m.data.length dc)] w (RCallPost B n P (rvotedD c m) w) := by
  rw [rvotedD_no hn]
  have h10 : w.cell? ⟨n, 10, none⟩ = some (.int .i64 c.term) := h.blk.cell 10
  have h12 : w.cell? ⟨n, 12, none⟩ = some (.int .i64 c.role) := h.blk.cell 12
  have hlt := h.blk.lt
  have H := hid h
  have HE : Hid (∀ w', Keeps [] w w' → RCallPost B n P (c, []) w (.returned (.slice none 0 0)) w') := fun w' k => RCallPost.silent rfl ((h.k k).toGr hlt) (k.mono (fun _ _ h => by cases h))
  unfold msgV
  clear h
  rcases hb2 : c.role != 1 with _ | _
  rotate_left 1
  · clear hn
    go_enter Try.func84, Try.ntmps84
    go_wp2_with fail
    go_quiet (fail)
    go_wp2_with fail
    go_ret
    exact HE.out _ (by exact Keeps.K)
  rcases hb1 : m.term != c.term with _ | _
  rotate_left 1
  · clear hn
    go_enter Try.func84, Try.ntmps84
    go_wp2_with fail
    go_quiet (fail)
    go_wp2_with fail
    go_ret
    exact HE.out _ (by exact Keeps.K)
  have hok : m.ok = false := by
    simp at hb1 hb2
    rcases hn with h | h | h
    · exact absurd hb1 h
    · exact absurd hb2 h
    · exact h
  clear hn
  go_enter Try.func84, Try.ntmps84
  go_wp2_with fail
  go_quiet (fail)
  go_wp2_with fail
  go_ret
  exact HE.out _ (by exact Keeps.K)

set_option maxRecDepth 100000 in
set_option maxHeartbeats 3200000 in
theorem rvoted_yes (w : World) (B n : Nat) (c : CoreD) (P : Nat → Prop) (lv sv : Value) (m : MsgD) (ea da : Option Addr) (ec dc : Nat) (h : RefAt w B n c P lv sv) (hP : ∀ b, P b → b < w.heap.size) (ht : m.term = c.term) (hr : c.role = 1) (hok : m.ok = true) (hf : 1 ≤ m.frm ∧ m.frm ≤ 7) (hll : lastD c + 1 ≤ 2199023255552) :
    Calls Try.prog 84 #[.pointer (some ⟨n, 0, none⟩), msgV m (.slice ea m.entries.length ec) (.slice da m.data.length dc)] w (RCallPost B n P (rvotedD c m) w) := by
  have hm := (ConfD.may_iff c.conf).1 h.ok.may
  have h0 : w.cell? ⟨n, 0, none⟩ = some (.int .i64 c.conf.nodes) := h.blk.cell 0
  have h10 : w.cell? ⟨n, 10, none⟩ = some (.int .i64 c.term) := h.blk.cell 10
  have h12 : w.cell? ⟨n, 12, none⟩ = some (.int .i64 c.role) := h.blk.cell 12
  have hlt := h.blk.lt
  have HPB := hid hP
  have n2 := hm.1.2
  have HN : Hid ((c.conf.nodes.toNat : Int) = c.conf.nodes) := by show _ = _; have := hm.1.1; omega
  obtain ⟨f0, f7⟩ := hf
  have f0' : 0 ≤ m.frm := by omega
  have f8 : m.frm < 8 := by omega
  have ft : m.frm.toNat < 8 := by omega
  have hv := rvotes_cell h.blk h.ok.votes m.frm.toNat ft
  have fv : w.frozen? ⟨n, 21 + m.frm.toNat, none⟩ = false := h.blk.free _
  have hb1 : (m.term != c.term) = false := by simpa using ht
  have hb2 : (c.role != 1) = false := by simpa using hr
  have H := hid h
  have HD : Hid (rvotedD c m = if 2 * (rcount (votedC c m).votes c.conf.nodes.toNat : Int) ≤ c.conf.nodes then (votedC c m, []) else (rleadD (votedC c m), othersD (rleadD (votedC c m)) (sendD (rleadD (votedC c m))))) := by
    show _ = _
    unfold rvotedD
    rw [if_neg (by rw [hok]; simp [ht, hr])]
  have HLL := hid hll
  unfold msgV
  clear h hm hP hll
  go_enter Try.func84, Try.ntmps84
  go_wp2_with fail
  go_quiet (fail)
  go_wp2_with fail
  refine Plan.wp_region_plan (fun wx => wx.cell? ⟨w.heap.size, 1, none⟩ = some (.int .i64 m.frm)) 7 [(true, 0), (true, 1), (true, 2), (true, 3), (true, 4), (true, 5), (false, 6)] (by kernel_rfl) (by as_aux_lemma => kernel_rfl) (by kernel_rfl) (fun _ _ _ _ _ h => h) ?_ (fun hS => ?_)
  (· go_simp)
  simp only [Plan.pick, List.append_eq, List.cons_append, List.nil_append, Plan.g1, Plan.g2, Option.getD_some, List.drop_succ_cons, List.drop_zero]
  iterate 6 (first | refine Plan.tA ?_ | refine Plan.tY ?_ | refine Plan.pN ?_ | refine Plan.pU ?_ | fail)
  refine Plan.step ?_
  go_wp2_with fail
  refine ⟨?_, ?_⟩
  (· go_simp)
  refine Plan.fin ?_
  go_wp2_with fail
  have HX : Hid (∀ w1, Keeps [] w w1 → ∃ w5, w5 = w1.setCell ⟨n, 21 + m.frm.toNat, none⟩ (.bool true) ∧ RefAt w5 B n (votedC c m) P lv sv ∧ Keeps [n] w w5) := fun w1 k => by
    obtain ⟨r1, k1⟩ := (H.out.k k).set (c' := votedC c m) (21 + m.frm.toNat) (.bool true) (by rw [rset21, rtail_votes c H.out.ok.votes _ ft]; rfl) rfl rfl (votedC_ok H.out.ok m)
    exact ⟨_, rfl, r1, (k.mono (G := [n]) (fun _ _ h => by cases h)).trans k1 (fun _ _ h => h)⟩
  obtain ⟨w5, hw5, hc5, hk5⟩ := HX.out _ (((Keeps.refl [] w).alloc (.cells #[.int .i64 m.kind, .int .i64 m.frm, .int .i64 m.to, .int .i64 c.term, .int .i64 m.a, .int .i64 m.b, .int .i64 m.c, .bool true, .slice ea m.entries.length ec, .slice da m.data.length dc] 40)).drewN (nq + 1))
  rw [← hw5]
  have C5 := hid hc5
  have K5 := hid hk5
  have x0 : w5.cell? ⟨n, 0, none⟩ = some (.int .i64 c.conf.nodes) := hc5.blk.cell 0
  obtain ⟨V, hV⟩ : ∃ V, (votedC c m).votes = V := ⟨_, rfl⟩
  have HV := hid hV
  have V8 : V.length = 8 := by rw [← hV]; exact hc5.ok.votes
  have HVC : Hid (∀ i : Nat, i < 8 → w5.cell? ⟨n, 21 + i, none⟩ = some (.bool (V.getD i false))) := fun i hi => by rw [← hV]; exact rvotes_cell hc5.blk hc5.ok.votes i hi
  clear hw5 hc5 hk5 HX h0 h10 h12 hv fv hS hb1 hb2 hV
  go_loopw [5, 6] (fun cn i wr => ∃ (k : Nat) (q : Nat), k ≤ c.conf.nodes.toNat ∧ q ≤ k ∧ cn = .int .i64 q ∧ i = .int .i64 ((k : Int) + 1) ∧ wr = w5 ∧ Hid (rcount V k = q)) (fun _ i _ => (c.conf.nodes + 1 - intOf i).toNat)
  case atStart => exact ⟨0, 0, Nat.zero_le _, Nat.le_refl _, rfl, rfl, rfl, rfl⟩
  case round =>
    obtain ⟨k, q, hk, hq, rfl, rfl, rfl, HW⟩ := hrel
    have q0 : (0 : Int) ≤ (q : Int) := Int.natCast_nonneg _
    by_cases hlt' : k < c.conf.nodes.toNat
    · obtain ⟨i, hi⟩ : ∃ i : Int, (k : Int) + 1 = i := ⟨_, rfl⟩
      rw [hi]
      have hle : i ≤ c.conf.nodes := by have := HN.out; omega
      have t0 : 0 ≤ i := by omega
      have t8 : i < 8 := by omega
      have ti : i.toNat = k + 1 := by omega
      have ht8 : i.toNat < 8 := by omega
      have xv := HVC.out i.toNat ht8
      have HI := hid hi
      have HTI := hid ti
      have wq : IntKind.i64.wrap ((q : Int) + 1) = (q : Int) + 1 := IntWalk.i64_in _ (by omega)
      clear hi ti
      rcases hb : V.getD i.toNat false with _ | _
      · rw [hb] at xv
        have HC : Hid (rcount V (k + 1) = q) := by
          show _ = _
          rw [rcount, ← HTI.out, hb, HW.out]
          rfl
        clear hb
        go_wp2_with fail
        go_roundw
        case rel => exact ⟨k + 1, q, by omega, by omega, rfl, by rw [← HI.out]; go_num, by first | exact trivial | rfl, HC⟩
        case measure => simp [intOf]; omega
      · rw [hb] at xv
        have HC : Hid (rcount V (k + 1) = q + 1) := by
          show _ = _
          rw [rcount, ← HTI.out, hb, HW.out]
          rfl
        clear hb
        go_wp2_with fail
        go_roundw
        case rel => exact ⟨k + 1, q + 1, by omega, by omega, by go_num, by rw [← HI.out]; go_num, by first | exact trivial | rfl, HC⟩
        case measure => simp [intOf]; omega
    · have hkn : k = c.conf.nodes.toNat := by omega
      have hge : c.conf.nodes < (k : Int) + 1 := by have := HN.out; omega
      have HQ : Hid (rcount V c.conf.nodes.toNat = q) := by rw [← hkn]; exact HW
      have hq7 : q ≤ 7 := by omega
      have wq : IntKind.i64.wrap (2 * (q : Int)) = 2 * (q : Int) := IntWalk.i64_in _ (by omega)
      clear hkn HW
      by_cases hh : 2 * (q : Int) ≤ c.conf.nodes
      · go_wp2_with fail
        go_ret
        rw [HD.out, HV.out, HQ.out, if_pos hh]
        exact RCallPost.silent rfl (C5.out.toGr hlt) K5.out
      · have HNH : Hid (¬ 2 * (q : Int) ≤ c.conf.nodes) := hh
        have hh2 : c.conf.nodes < 2 * (q : Int) := by omega
        clear hh
        go_wp2_with fail
        refine (rlead_any _ B n (votedC c m) (Gr P w wr) lv sv (C5.out.toGr hlt) (Gr.lt HPB.out K5.out.size) HLL.out).mono ?_
        rintro e w6 ⟨a, qq, lv', sv', rfl, h6, m6, k6⟩
        have HP : Hid (RCallPost B n P (rvotedD c m) w (.returned (.slice a (othersD (rleadD (votedC c m)) (sendD (rleadD (votedC c m)))).length qq)) w6) := by
          rw [HD.out, HV.out, HQ.out, if_neg (by have := HNH.out; omega)]
          exact RCallPost.after K5.out hlt ⟨a, qq, lv', sv', rfl, h6, m6, k6⟩
        clear h6 m6 k6
        go_wp2_with fail
        go_ret
        exact HP.out

end Go.Proofs.Ytpppoajnbhipeaa
