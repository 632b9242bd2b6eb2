/- append: entries that fit. Printed by gen_append.py. -/
import Derived.Test.YtpppoajnbhipeaaQ20
namespace Go.Proofs.Ytpppoajnbhipeaa
open Go Go.RowKit

theorem wpl_fold2 {P : Program} {ops : Array Oper} {Q : Exit → Act → World → Prop} {l : List Oper} {a : Act} {w : World} (F : World → Prop) (hF : F w) (h : ∀ wx, F wx → wpList P ops Q l a wx) : wpList P ops Q l a w := h w hF
theorem code_fold {P : Program} {cd : Code} {Q : Exit → Act → World → Prop} {a : Act} {w : World} (F : World → Prop) (hF : F w) (h : ∀ wx, F wx → Code.wp P cd Q a wx) : Code.wp P cd Q a w := h w hF
theorem own_caps {w : World} {B : Nat} {P : Nat → Prop} {lv : Value} {l : List Ent} {la : Option Addr} {lq : Nat} (h : OwnAt entL 59 w B P lv l) (hv : lv = .slice la l.length lq) : l.length ≤ lq ∧ lq ≤ maxLen := by
  obtain ⟨css, _, h2⟩ := h
  rcases h2.2 with ⟨h0, h1⟩ | ⟨g, cap, cur, h0, _, _, h3, h4, _⟩
  · rw [hv] at h0
    simp at h0
    rw [h0.2.2]
    unfold maxLen
    omega
  · rw [hv] at h0
    simp at h0
    rw [h0.2]
    exact ⟨h3, h4⟩

theorem own_addr {w : World} {B : Nat} {P : Nat → Prop} {lv : Value} {l : List Ent} {la : Option Addr} {lq : Nat} (h : OwnAt entL 59 w B P lv l) (hv : lv = .slice la l.length lq) : la = none ∨ ∃ gl, la = some ⟨gl, 0, none⟩ := by
  obtain ⟨css, _, h2⟩ := h
  rcases h2.2 with ⟨h0, _⟩ | ⟨g, cap, cur, h0, _⟩
  · rw [hv] at h0
    simp at h0
    exact .inl h0.1
  · rw [hv] at h0
    simp at h0
    exact .inr ⟨g, h0.1⟩

set_option maxRecDepth 100000 in
set_option maxHeartbeats 12800000 in
theorem append_fit (w : World) (B n : Nat) (c : CoreD) (lv sv : Value) (m : MsgD) (ea da : Option Addr) (ec dc : Nat) (P : Nat → Prop) (h : CoreAt w B n c lv sv) (hP : ∀ b, P b → Off n lv b) (hl : ListAt entL w P (.slice ea m.entries.length ec) m.entries) (he8 : m.entries.length ≤ 8) (het : ∀ e ∈ m.entries, 0 ≤ e.term ∧ e.term ≤ 1099511627776) (hed : ∀ e ∈ m.entries, e.data.length ≤ 1000000) (hll : lastD c + 8 ≤ 2199023255552)
    (hb : c.base ≤ m.a) (hf : fitD c m.a m.b false = true) :
    Calls Try.prog 59 #[.pointer (some ⟨n, 0, none⟩), msgV m (.slice ea m.entries.length ec) (.slice da m.data.length dc)] w (CallPost B n lv (appEnd c m m.a m.entries) w) := by
  have h14 : w.cell? ⟨n, 14, none⟩ = some (.int .i64 c.commit) := h.blk.cell 14
  have h15 : w.cell? ⟨n, 15, none⟩ = some (.int .i64 c.base) := h.blk.cell 15
  obtain ⟨la, lq, hlv⟩ := h.form
  have h17 : w.cell? ⟨n, 17, none⟩ = some (.slice la c.l.length lq) := (h.blk.cell 17).trans (by rw [hlv]; rfl)
  have hcap : c.l.length ≤ lq ∧ lq ≤ maxLen := own_caps h.own hlv
  have HLA : Hid (ListAt entL w (fun b => b ≠ n ∧ ¬ c.ban b) (.slice la c.l.length lq) c.l) := by
    show ListAt _ _ _ _ _
    rw [← hlv]
    exact h.own.list (fun b _ hb => ⟨hb.1.1, hb.2⟩) (fun b hb => ⟨fun e => h.apart (by rw [← e]; exact hb), h.free.2 b hb⟩)
  have HLV := hid hlv
  have HLAF : Hid (la = none ∨ ∃ gl, la = some ⟨gl, 0, none⟩) := own_addr h.own hlv
  have hlt := h.blk.lt
  have hbs := h.ok.base
  have hcm := h.ok.commit
  have hlen5 := h.ok.len
  have hbd := lastD_bd h
  have hla : lastD c = c.base + c.l.length := rfl
  have H := hid h
  have HPO := hid hP
  have hat : atD c m.a = (m.b, true) := by
    unfold fitD at hf
    simp at hf
    rw [← hf.1, ← hf.2]
  have HAT := hid hat
  have hal : m.a ≤ lastD c := by
    have h2 : (atD c m.a).2 = true := by rw [hat]
    unfold atD at h2
    split at h2
    · omega
    · split at h2
      · cases h2
      · omega
  have a0 : 0 ≤ m.a := by omega
  have d1 : decide (m.a < c.base) = false := by simp; omega
  have ib1 : -4611686018427387904 ≤ m.a := by omega
  have ib2 : m.a ≤ 4611686018427387904 := by omega
  have HL : Hid (ListAt entL w P (.slice ea m.entries.length ec) m.entries) := hl
  have n8 : m.entries.length ≤ 8 := he8
  have HET := hid het
  have HED := hid hed
  clear hf hat hb hl het hed
  clear h hP hlv
  clear he8
  have HLL := hid hll
  have wl : IntKind.i64.wrap (m.a + ((m.entries.length : Nat) : Int)) = m.a + ((m.entries.length : Nat) : Int) := IntWalk.i64_in _ (by omega)
  have wa : IntKind.i64.wrap (m.a + 1) = m.a + 1 := IntWalk.i64_in _ (by omega)
  unfold msgV
  go_enter Try.func59, Try.ntmps59
  go_wp2_with fail
  go_step3
  go_wp2_with fail
  go_quiet (fail)
  go_wp2_with fail
  refine (cAt_is _ B n c lv sv (H.out.k (by exact Keeps.K)) m.a m.b true ib1 ib2 HAT.out).mono ?_
  rintro e w' ⟨rfl, kk, rfl⟩
  go_wp2_with fail
  go_step3
  go_wp2_with fail
  refine code_fold (fun wx => Keeps [] (w.alloc (.cells #[.int .i64 m.kind, .int .i64 m.frm, .int .i64 m.to, .int .i64 m.term, .int .i64 m.a, .int .i64 m.b, .int .i64 m.c, .bool m.ok, .slice ea m.entries.length ec, .slice da m.data.length dc] 40)) wx) (by exact Keeps.K) ?_
  intro w1 hk1
  obtain ⟨wB, hwB⟩ : ∃ x, x = w.alloc (.cells #[.int .i64 m.kind, .int .i64 m.frm, .int .i64 m.to, .int .i64 m.term, .int .i64 m.a, .int .i64 m.b, .int .i64 m.c, .bool m.ok, .slice ea m.entries.length ec, .slice da m.data.length dc] 40) := ⟨_, rfl⟩
  rw [← hwB] at hk1
  have K1 := hid hk1
  have KB : Hid (Keeps [] w wB) := by
    show Keeps _ _ _
    rw [hwB]
    exact Keeps.K
  have HBB : Hid (wB.heap[w.heap.size]? = some (.cells #[.int .i64 m.kind, .int .i64 m.frm, .int .i64 m.to, .int .i64 m.term, .int .i64 m.a, .int .i64 m.b, .int .i64 m.c, .bool m.ok, .slice ea m.entries.length ec, .slice da m.data.length dc] 40 (0, 0))) := by
    show _ = _
    rw [hwB]
    exact heap_alloc_new w (.cells #[.int .i64 m.kind, .int .i64 m.frm, .int .i64 m.to, .int .i64 m.term, .int .i64 m.a, .int .i64 m.b, .int .i64 m.c, .bool m.ok, .slice ea m.entries.length ec, .slice da m.data.length dc] 40)
  have hzB : w.heap.size < wB.heap.size := by rw [hwB]; simp
  clear hk1 hwB
  go_loopw [91] (fun iv wr => ∃ i : Nat, i ≤ m.entries.length ∧ iv = .int .i64 i ∧ m.a + i ≤ lastD c ∧ Hid (Keeps [] wB wr ∧ putsD c m.a m.entries = putsD c (m.a + i) (List.drop i m.entries))) (fun iv _ => m.entries.length - (intOf iv).toNat)
  case atStart => exact ⟨0, Nat.zero_le _, rfl, by simpa using hal, K1.out, by simp⟩
  case round =>
    obtain ⟨i, hi, rfl, hai, HW⟩ := hrel
    have i0 : (0 : Int) ≤ (i : Int) := Int.natCast_nonneg _
    have KW : Hid (Keeps [] w wr) := KB.out.trans HW.out.1 (fun _ _ h => h)
    have x14 := KW.out.cellSome h14 (by simp)
    have x15 := KW.out.cellSome h15 (by simp)
    have x17 := KW.out.cellSome h17 (by simp)
    have HBX := hid ((HW.out.1.block w.heap.size hzB (by simp)).trans HBB.out)
    have hnr : n < wr.heap.size := Nat.lt_of_lt_of_le hlt KW.out.size
    by_cases hlt : i < m.entries.length
    · have i1 : (i : Int) < ((m.entries.length : Nat) : Int) := by omega
      obtain ⟨e, he⟩ : ∃ e, (m.entries)[i]? = some e := ⟨(m.entries)[i]'(by have hx : (m.entries).length = m.entries.length := rfl; omega), List.getElem?_eq_getElem _⟩
      obtain ⟨g, off, hxa, hxc, hcl⟩ := list_elems HL.out rfl (by omega)
      obtain ⟨va, vc, hcl0⟩ := hcl i e he
      obtain ⟨y0, y1, y2, yr⟩ := hcl0 [] wr KW.out (by simp)
      have HCL := hid hcl
      clear hcl0
      have HXC := hid hxc
      have YR := hid yr
      clear hcl hxc yr
      cases hxa
      have HDR := hid (drop_cons he)
      have HLD : Hid ((List.drop (i + 1) (m.entries)).length = m.entries.length - i - 1) := by show _ = _; have hx : (m.entries).length = m.entries.length := rfl; rw [List.length_drop, hx]; omega
      have ib3 : -4611686018427387904 ≤ m.a + 1 + (i : Int) := by omega
      have ib4 : m.a + 1 + (i : Int) ≤ 4611686018427387904 := by omega
      obtain ⟨T, okT, hT⟩ : ∃ t o, atD c (m.a + 1 + (i : Int)) = (t, o) := ⟨_, _, rfl⟩
      have HTT := hid hT
      have HE := hid he
      clear hT he
      by_cases hmt : okT = true ∧ T = e.term
      · obtain ⟨ho, hte⟩ := hmt
        subst ho
        subst hte
        have HST : Hid (putsD c m.a (m.entries) = putsD c (m.a + ((i + 1 : Nat) : Int)) (List.drop (i + 1) (m.entries)) ∧ m.a + ((i + 1 : Nat) : Int) ≤ lastD c) := by
          have e1 : m.a + (i : Int) + 1 = m.a + 1 + (i : Int) := by omega
          have e2 : m.a + ((i + 1 : Nat) : Int) = m.a + (i : Int) + 1 := by omega
          refine ⟨?_, ?_⟩
          · rw [HW.out.2, HDR.out, puts_match (by rw [e1, HTT.out]; exact ⟨rfl, rfl⟩), e2]
          · have h2 : (atD c (m.a + 1 + (i : Int))).2 = true := by rw [HTT.out]
            unfold atD at h2
            split at h2
            · omega
            · split at h2
              · cases h2
              · omega
        go_wp2_with fail
        refine (cAt_is _ B n c lv sv (H.out.k (Keeps.trans (F := []) KW.out (by exact Keeps.K) (fun _ _ h => h))) (m.a + 1 + (i : Int)) e.term true ib3 ib4 HTT.out).mono ?_
        rintro x w' ⟨rfl, k2, rfl⟩
        have HWN : Hid (Keeps [] wB ((wr.alloc (.cells #[.int .i64 e.term, .bool e.cmd, .slice va e.data.length vc] 59)).drewN k2)) := HW.out.1.trans (by exact Keeps.K) (fun _ _ h => h)
        go_wp2_with fail
        go_roundw
        case rel => exact ⟨i + 1, by omega, by go_num, HST.out.2, HWN.out, HST.out.1⟩
        case measure => simp [intOf]; omega
      · have hmm : okT = false ∨ (okT = true ∧ (T == e.term) = false) := by
          cases okT
          · exact .inl rfl
          · exact .inr ⟨rfl, by simpa using hmt⟩
        have HMT : Hid (¬ ((atD c (m.a + (i : Int) + 1)).2 = true ∧ (atD c (m.a + (i : Int) + 1)).1 = e.term)) := by
          show ¬ _
          rw [show m.a + (i : Int) + 1 = m.a + 1 + (i : Int) by omega, HTT.out]
          exact hmt
        clear hmt
        by_cases hcn : m.a + 1 + (i : Int) ≤ c.commit
        · have HRN : Hid (appEnd c m m.a (m.entries) = (c, [])) := appEnd_none (by rw [HW.out.2, HDR.out]; exact puts_none HMT.out (.inl (by omega)))
          rcases hmm with rfl | ⟨rfl, hne⟩
          all_goals
            go_wp2_with fail
            first
              | (refine (cAt_is _ B n c lv sv (H.out.k (Keeps.trans (F := []) KW.out (by exact Keeps.K) (fun _ _ h => h))) (m.a + 1 + (i : Int)) T false ib3 ib4 HTT.out).mono ?_)
              | (refine (cAt_is _ B n c lv sv (H.out.k (Keeps.trans (F := []) KW.out (by exact Keeps.K) (fun _ _ h => h))) (m.a + 1 + (i : Int)) T true ib3 ib4 HTT.out).mono ?_)
            rintro x w' ⟨rfl, k2, rfl⟩
            have HWN : Hid (Keeps [] w ((wr.alloc (.cells #[.int .i64 e.term, .bool e.cmd, .slice va e.data.length vc] 59)).drewN k2)) := KW.out.trans (by exact Keeps.K) (fun _ _ h => h)
            go_wp2_with fail
            rw [Exit.noGoto_ret]
            go_ret
            rw [HRN.out]
            exact CallPost.silent rfl (H.out.k HWN.out) (HWN.out.mono (fun _ _ h => by cases h))
        · by_cases hbig : 5096 < m.a + (i : Int) - c.base + (((m.entries.length : Nat) : Int) - (i : Int))
          · have HRN : Hid (appEnd c m m.a (m.entries) = (c, [])) := appEnd_none (by rw [HW.out.2, HDR.out]; exact puts_none HMT.out (.inr (by rw [HLD.out]; omega)))
            have hcn2 : c.commit < m.a + 1 + (i : Int) := by omega
            clear hcn
            rcases hmm with rfl | ⟨rfl, hne⟩
            all_goals
              go_wp2_with fail
              first
                | (refine (cAt_is _ B n c lv sv (H.out.k (Keeps.trans (F := []) KW.out (by exact Keeps.K) (fun _ _ h => h))) (m.a + 1 + (i : Int)) T false ib3 ib4 HTT.out).mono ?_)
                | (refine (cAt_is _ B n c lv sv (H.out.k (Keeps.trans (F := []) KW.out (by exact Keeps.K) (fun _ _ h => h))) (m.a + 1 + (i : Int)) T true ib3 ib4 HTT.out).mono ?_)
              rintro x w' ⟨rfl, k2, rfl⟩
              have HWN : Hid (Keeps [] w ((wr.alloc (.cells #[.int .i64 e.term, .bool e.cmd, .slice va e.data.length vc] 59)).drewN k2)) := KW.out.trans (by exact Keeps.K) (fun _ _ h => h)
              go_wp2_with fail
              rw [Exit.noGoto_ret]
              go_ret
              rw [HRN.out]
              exact CallPost.silent rfl (H.out.k HWN.out) (HWN.out.mono (fun _ _ h => by cases h))
          · obtain ⟨d, hd⟩ : ∃ d : Nat, m.a + (i : Int) = c.base + d := ⟨(m.a + (i : Int) - c.base).toNat, by omega⟩
            have hcn2 : c.commit < m.a + 1 + (i : Int) := by omega
            have hdl : d ≤ c.l.length := by omega
            have hdc : c.commit ≤ c.base + d := by omega
            have d0 : (0 : Int) ≤ (d : Int) := Int.natCast_nonneg _
            have d2 : (d : Int) ≤ (c.l.length : Int) := by omega
            have d3 : (d : Int) ≤ (lq : Int) := by omega
            have d4 : d ≤ lq := by omega
            have d5 : (lq : Int) ≤ 9223372036854775807 := by have := hcap.2; unfold maxLen at this; omega
            have wd1 : IntKind.i64.wrap (m.a + 1 + (i : Int) - c.base) = (d : Int) + 1 := by rw [IntWalk.i64_in _ (by omega)]; omega
            have wd2 : IntKind.i64.wrap ((d : Int) + 1 - 1) = (d : Int) := by rw [IntWalk.i64_in _ (by omega)]; omega
            have wd3 : IntKind.i64.wrap (d : Int) = (d : Int) := IntWalk.i64_in _ (by omega)
            have hb3 : (d : Int) + ((m.entries.length : Nat) : Int) - (i : Int) ≤ 5096 := by omega
            have HNEW : Hid (d + (m.entries.length - i) ≤ 5096 ∧ c.base + (d : Int) + ((m.entries.length - i : Nat) : Int) ≤ 2199023255552 ∧ m.a + ((m.entries.length : Nat) : Int) = c.base + (d : Int) + ((m.entries.length - i : Nat) : Int)) := by show _ ∧ _ ∧ _; omega
            have HRS : Hid (appEnd c m m.a (m.entries) = ({ (List.drop i (m.entries)).foldl putD { c with l := c.l.take d } with commit := max c.commit (min m.c (m.a + ((m.entries.length : Nat) : Int))) }, answerD c m true (m.a + ((m.entries.length : Nat) : Int)))) := by
              have hx : (m.entries).length = m.entries.length := rfl
              have h1 : putsD c m.a (m.entries) = some ((List.drop i (m.entries)).foldl putD { c with l := c.l.take d }) := by
                rw [HW.out.2, HDR.out, puts_some HMT.out (by rw [HLD.out]; omega), show (m.a + (i : Int) - c.base).toNat = d by omega]
              show _ = _
              rw [appEnd_some h1, hx]
            have HCUT : Hid (∀ wx, Keeps [] w wx → ∃ w4, w4 = wx.setCell ⟨n, 17, none⟩ (.slice la d d) ∧ CoreCut w4 B n { c with l := c.l.take d } (.slice la d d) sv ∧ Keeps [n] wx w4) := fun wx k =>
              ⟨_, rfl, (H.out.cut HLV.out hdl hdc k).1, (Keeps.refl _ _).setCell (.inl (by simp)) _⟩
            have i2 : (i : Int) ≤ ((m.entries.length : Nat) : Int) := by omega
            have xc1 := HXC.out.1
            have xc2 := HXC.out.2
            have i3 : (i : Int) ≤ ((ec : Nat) : Int) := by omega
            have i4 : ((ec : Nat) : Int) ≤ 9223372036854775807 := by unfold maxLen at xc2; omega
            have i5 : ¬ ec = i := by omega
            clear hcn hbig hd xc1 xc2
            rcases hmm with rfl | ⟨rfl, hne⟩
            all_goals
              go_wp2_with fail
              first
                | (refine (cAt_is _ B n c lv sv (H.out.k (Keeps.trans (F := []) KW.out (by exact Keeps.K) (fun _ _ h => h))) (m.a + 1 + (i : Int)) T false ib3 ib4 HTT.out).mono ?_)
                | (refine (cAt_is _ B n c lv sv (H.out.k (Keeps.trans (F := []) KW.out (by exact Keeps.K) (fun _ _ h => h))) (m.a + 1 + (i : Int)) T true ib3 ib4 HTT.out).mono ?_)
              rintro x w' ⟨rfl, k2, rfl⟩
              go_wp2_with fail
              refine Plan.wp_region_plan (fun wx => wx.cell? ⟨n, 17, none⟩ = some (.slice la c.l.length lq) ∧ wx.cell? ⟨n, 15, none⟩ = some (.int .i64 c.base)) 20 [(true, 0), (true, 1), (true, 2), (true, 3), (true, 4), (true, 5), (true, 6), (true, 7), (true, 8), (true, 9), (true, 10), (true, 11), (true, 12), (true, 13), (true, 14), (true, 15), (true, 16), (true, 17), (true, 18), (true, 19)] (by kernel_rfl) (by as_aux_lemma => kernel_rfl) (by kernel_rfl) (fun _ _ _ _ _ h => h) ?_ (fun hS => ?_)
              (· go_simp)
              simp only [Plan.pick, List.append_eq, List.cons_append, List.nil_append, Plan.g1, Plan.g2, Option.getD_some, List.drop_succ_cons, List.drop_zero]
              iterate 19 (first | refine Plan.tA ?_ | refine Plan.tY ?_ | refine Plan.pN ?_ | refine Plan.pU ?_ | fail)
              refine Plan.take (v := .slice la d d) (a' := ?_) (Plan.want_all (by rfl)) ?_ ?_ ?_
              rotate_left 1
              (· intro w' hS'
                 (try dsimp only at hS')
                 rcases HLAF.out with hx | ⟨gl, hx⟩ <;> subst hx <;> go_simp)
              (· simp only [Act.put, List.setIfInBounds_toArray, List.set_cons_zero, List.set_cons_succ]
                 try with_reducible rfl)
              refine Plan.fin ?_
              refine wpl_fold2 (fun wx => Keeps [] wr wx) (by exact Keeps.K) ?_
              intro w5 hk5
              have KW5 : Hid (Keeps [] w w5) := KW.out.trans hk5 (fun _ _ h => h)
              have u17 := hk5.cellSome x17 (by simp)
              have uf17 : w5.frozen? ⟨n, 17, none⟩ = false := (H.out.k KW5.out).blk.free 17
              obtain ⟨w6, hw6, hc6, hk6⟩ := HCUT.out w5 KW5.out
              have HC6 := hid hc6
              have HW6 := hid hw6
              have KB6 : Hid (Keeps (n :: ownB lv) wB w6) := ((HW.out.1.trans hk5 (fun _ _ h => h)).mono (G := n :: ownB lv) (fun _ _ h => by cases h)).trans hk6 (fun b _ h => by simp at h; simp [h])
              clear hk5 hw6 hc6 hk6
              go_wp2_with fail
              rw [← HW6.out]
              obtain ⟨rest, hrest⟩ : ∃ r, r = List.drop i (m.entries) := ⟨_, rfl⟩
              have HRL : Hid (rest.length = m.entries.length - i) := by
                show _ = _
                have hx : (m.entries).length = m.entries.length := rfl
                rw [hrest, List.length_drop, hx]
              have HRE : Hid (∀ j e', rest[j]? = some e' → (m.entries)[i + j]? = some e') := fun j e' h => by
                rw [hrest, List.getElem?_drop] at h
                exact h
              rw [← hrest] at HRS
              have HFX : Hid (∀ b, P b → b ∉ n :: ownB lv) := fun b hb hb' => by
                rcases List.mem_cons.1 hb' with h1 | h1
                · exact (HPO.out b hb).1 h1
                · exact (HPO.out b hb).2 h1
              have HNB : Hid (w.heap.size ∉ n :: ownB lv) := fun hb' => by have := (H.out.lt _ hb').2; omega
              obtain ⟨c0, hc0⟩ : ∃ c0 : CoreD, c0 = { c with l := c.l.take d } := ⟨_, rfl⟩
              have HC0 : Hid (c0.l.length = d ∧ c0.base = c.base ∧ c0.ban = c.ban ∧ SameBut c c0) := by
                show _ ∧ _ ∧ _ ∧ _
                rw [hc0]
                exact ⟨by show (c.l.take d).length = d; simp; omega, rfl, rfl, ⟨rfl, rfl, rfl, rfl, rfl, rfl⟩⟩
              rw [← hc0] at HRS HC6
              have HNI : Hid (0 < m.entries.length - i) := by show _ < _; omega
              clear hrest hc0 HCUT x14 x15 x17 u17 uf17 y0 y1 y2 wd1 wd2 wd3 hb3 d2 d3 d5 hcn2 hdc
              go_loopw [160] (fun jv wj => ∃ j : Nat, jv = .int .i64 j ∧ j ≤ m.entries.length - i ∧ Hid (Keeps (n :: ownB lv) wB wj ∧ ((j = 0 ∧ CoreCut wj B n c0 (.slice la d d) sv) ∨ (0 < j ∧ ∃ lvj, CoreAt wj B n ((rest.take j).foldl putD c0) lvj sv ∧ ∀ b ∈ ownB lvj, wB.heap.size ≤ b)))) (fun jv _ => m.entries.length - i - (intOf jv).toNat)
              case atStart => exact ⟨0, rfl, Nat.zero_le _, KB6.out, .inl ⟨rfl, HC6.out⟩⟩
              case round =>
                obtain ⟨j, rfl, hj, HJ⟩ := hrel
                have j0 : (0 : Int) ≤ (j : Int) := Int.natCast_nonneg _
                have KWJ : Hid (Keeps (n :: ownB lv) w wr) := (KB.out.mono (G := n :: ownB lv) (fun _ _ h => by cases h)).trans HJ.out.1 (fun _ _ h => h)
                by_cases hjl : j < m.entries.length - i
                · have j1 : (j : Int) < ((m.entries.length - i : Nat) : Int) := by omega
                  obtain ⟨ej, hej⟩ : ∃ ej, rest[j]? = some ej := ⟨rest[j]'(by rw [HRL.out]; exact hjl), List.getElem?_eq_getElem _⟩
                  have hLj := HRE.out j ej hej
                  obtain ⟨va2, vc2, hcj⟩ := HCL.out (i + j) ej hLj
                  obtain ⟨z0, z1, z2, zr⟩ := hcj _ wr KWJ.out HFX.out
                  rw [show off + (i + j) * 3 = off + i * 3 + j * 3 by omega] at z0 z1 z2
                  have ZR : Hid (∀ F wx, Keeps F w wx → (∀ b, P b → b ∉ F) → Reads wx 1 (.slice va2 ej.data.length vc2) ej.data.length (u8s ej.data)) := fun F wx k hF => (hcj F wx k hF).2.2.2
                  have ETJ := HET.out ej (List.mem_of_getElem? hLj)
                  have EDJ : ej.data.length ≤ 1000000 := HED.out ej (List.mem_of_getElem? hLj)
                  have HTK : Hid (rest.take (j + 1) = rest.take j ++ [ej]) := by show _ = _; rw [List.take_add_one, hej]; rfl
                  have HTL : Hid ((rest.take j).length = j) := by show _ = _; rw [List.length_take, HRL.out]; omega
                  clear hcj zr hej hLj
                  go_wp2_with fail
                  refine (own_any ej (.slice va2 ej.data.length vc2) _ (ZR.out (n :: ownB lv) _ (KWJ.out.alloc _) HFX.out) (by omega)).mono ?_
                  rintro x w7 ⟨a7, q7, rfl, ho7, hk7⟩
                  unfold entV
                  have K7 : Hid (Keeps [] wr w7) := Keeps.trans (by exact Keeps.K) hk7 (fun _ _ h => h)
                  have ho7z : wr.heap.size + 1 ≤ w7.heap.size := by have := hk7.size; simpa using this
                  have HO7 : Hid (∀ Q : Nat → Prop, (∀ b, wr.heap.size ≤ b → Q b) → BytesAt w7 Q (.slice a7 ej.data.length q7) ej.data) := fun Q hQ => BytesAt.ofOwn ho7 rfl (fun b hb _ => hQ b (by simp at hb; omega))
                  clear ho7 hk7 z0 z1 z2
                  have HNJ : Hid (∀ b, wr.heap.size ≤ b → b ≠ n ∧ ¬ c.ban b) := fun b hb => by
                    have hz := KWJ.out.size
                    exact ⟨by omega, fun h => by have := H.out.old b h; omega⟩
                  rcases HJ.out.2 with ⟨hj0, hcut⟩ | ⟨hj0, lvj, hcj, hvj⟩
                  · have HCJ := hid (hcut.k K7.out)
                    have HPC := hid (put_cut w7 B n c0 (.slice la d d) sv ej a7 q7 (hcut.k K7.out) (HO7.out _ (fun b hb => by have := HNJ.out b hb; rw [HC0.out.2.2.1]; exact this)) (by rw [HC0.out.1]; have := HNEW.out.1; omega) (by show c0.base + (c0.l.length : Int) + 1 ≤ _; rw [HC0.out.1, HC0.out.2.1]; have := HNEW.out.2.1; omega) ETJ EDJ)
                    have HJ0 := hid hj0
                    clear hcut hj0
                    go_wp2_with fail
                    refine HPC.out.mono ?_
                    rintro x w8 ⟨lv8, rfl, hc8, hk8, hv8⟩
                    have HN8 : Hid (Keeps (n :: ownB lv) wB w8 ∧ ∃ lvj, CoreAt w8 B n ((rest.take (j + 1)).foldl putD c0) lvj sv ∧ ∀ b ∈ ownB lvj, wB.heap.size ≤ b) := by
                      have hz1 := HJ.out.1.size
                      have hz2 := K7.out.size
                      refine ⟨(HJ.out.1.trans K7.out (fun _ _ h => by cases h)).trans hk8 (fun b _ h => by simp at h; simp [h]), lv8, ?_, fun b hb => by have := hv8 b hb; omega⟩
                      rw [HTK.out, HJ0.out]
                      exact hc8
                    clear hc8 hk8 hv8
                    go_wp2_with fail
                    go_roundw
                    case rel => exact ⟨j + 1, by go_num, by omega, HN8.out.1, .inr ⟨by omega, HN8.out.2⟩⟩
                    case measure => simp [intOf]; omega
                  · have hsm := fold_same (rest.take j) c0
                    have hlen : ((rest.take j).foldl putD c0).l.length = d + j := by rw [hsm.2, List.length_append, HC0.out.1, HTL.out]
                    have HPC := hid (put_any w7 B n ((rest.take j).foldl putD c0) lvj sv ej a7 q7 (hcj.k K7.out) (HO7.out _ (fun b hb => ⟨⟨(HNJ.out b hb).1, fun h => by have := (hcj.lt b (List.mem_cons_of_mem _ h)).2; omega⟩, by rw [hsm.1.ban, HC0.out.2.2.1]; exact (HNJ.out b hb).2⟩)) (by rw [hlen]; have := HNEW.out.1; omega) (by show ((rest.take j).foldl putD c0).base + (((rest.take j).foldl putD c0).l.length : Int) + 1 ≤ _; rw [hlen, hsm.1.base, HC0.out.2.1]; have := HNEW.out.2.1; omega) ETJ EDJ)
                    have HVJ := hid hvj
                    clear hcj hj0 hsm hlen hvj
                    go_wp2_with fail
                    refine HPC.out.mono ?_
                    rintro x w8 ⟨lv8, rfl, hc8, hk8, hv8⟩
                    have HN8 : Hid (Keeps (n :: ownB lv) wB w8 ∧ ∃ lvj, CoreAt w8 B n ((rest.take (j + 1)).foldl putD c0) lvj sv ∧ ∀ b ∈ ownB lvj, wB.heap.size ≤ b) := by
                      have hz1 := HJ.out.1.size
                      have hz2 := K7.out.size
                      refine ⟨(HJ.out.1.trans K7.out (fun _ _ h => by cases h)).trans hk8 (fun b hb h => by
                        rcases List.mem_cons.1 h with h | h
                        · simp [h]
                        · have := HVJ.out b h; omega), lv8, ?_, fun b hb => by
                        rcases hv8 b hb with h | h
                        · exact HVJ.out b h
                        · omega⟩
                      rw [HTK.out, fold_snoc]
                      exact hc8
                    clear hc8 hk8 hv8
                    go_wp2_with fail
                    go_roundw
                    case rel => exact ⟨j + 1, by go_num, by omega, HN8.out.1, .inr ⟨by omega, HN8.out.2⟩⟩
                    case measure => simp [intOf]; omega
                · have hjN : j = m.entries.length - i := by omega
                  have j1 : ((m.entries.length - i : Nat) : Int) ≤ (j : Int) := by omega
                  obtain ⟨ct, hct⟩ : ∃ ct, ct = rest.foldl putD c0 := ⟨_, rfl⟩
                  obtain ⟨lvt, h1, h2⟩ : ∃ lvj, CoreAt wr B n ct lvj sv ∧ ∀ b ∈ ownB lvj, wB.heap.size ≤ b := by
                    rcases HJ.out.2 with ⟨h0, _⟩ | ⟨_, lvj, h3, h4⟩
                    · have := HNI.out; omega
                    · rw [List.take_of_length_le (by rw [HRL.out, hjN]; exact Nat.le_refl _)] at h3
                      exact ⟨lvj, by rw [hct]; exact h3, h4⟩
                  have HT : Hid (CoreAt wr B n ct lvt sv ∧ Keeps (n :: ownB lv) w wr ∧ (∀ b ∈ ownB lvt, b ∈ ownB lv ∨ w.heap.size ≤ b) ∧ SameBut c ct ∧ m.a + ((m.entries.length : Nat) : Int) ≤ lastD ct) := by
                    have hsm := fold_same rest c0
                    have hs0 := HC0.out.2.2.2
                    refine ⟨h1, KWJ.out, fun b hb => .inr (by have := h2 b hb; omega), ?_, ?_⟩
                    · rw [hct]
                      exact ⟨hsm.1.conf.trans hs0.conf, hsm.1.id.trans hs0.id, hsm.1.term.trans hs0.term, hsm.1.commit.trans hs0.commit, hsm.1.base.trans hs0.base, hsm.1.ban.trans hs0.ban⟩
                    · have e : lastD ct = c.base + ((d : Int) + ((m.entries.length - i : Nat) : Int)) := by
                        unfold lastD
                        rw [hct, hsm.1.base, hsm.2, List.length_append, HC0.out.1, HC0.out.2.1, HRL.out]
                        omega
                      rw [e]
                      have := HNEW.out.2.2
                      omega
                  rw [← hct] at HRS
                  have HBT := hid ((HJ.out.1.block w.heap.size hzB HNB.out).trans HBB.out)
                  clear hjN hct h1 h2
                  obtain ⟨V, hV⟩ : ∃ V, max c.commit (min m.c (m.a + ((m.entries.length : Nat) : Int))) = V := ⟨_, rfl⟩
                  have HV := hid hV
                  obtain ⟨⟨b0, b1, b2, b3, b4, b5, b6, b7, b8, b9⟩, bf⟩ := blk10 HBT.out
                  have t14 : wr.cell? ⟨n, 14, none⟩ = some (.int .i64 c.commit) := by
                    have := HT.out.1.blk.cell 14
                    rw [← HT.out.2.2.2.1.commit]
                    exact this
                  have tf14 : wr.frozen? ⟨n, 14, none⟩ = false := HT.out.1.blk.free 14
                  have hnw : n ≠ w.heap.size := by omega
                  have tlt := HT.out.1.blk.lt
                  clear hV
                  go_wp2_with fail
                  refine Plan.wp_region_plan (fun wx => wx.cell? ⟨n, 14, none⟩ = some (.int .i64 c.commit) ∧ wx.cell? ⟨w.heap.size, 6, none⟩ = some (.int .i64 m.c)) 10 [(true, 0), (true, 1), (true, 2), (true, 3), (true, 4), (true, 5), (true, 6), (true, 7), (true, 8), (true, 9)] (by kernel_rfl) (by as_aux_lemma => kernel_rfl) (by kernel_rfl) (fun _ _ _ _ _ h => h) ?_ (fun hS => ?_)
                  (· go_simp)
                  simp only [Plan.pick, List.append_eq, List.cons_append, List.nil_append, Plan.g1, Plan.g2, Option.getD_some, List.drop_succ_cons, List.drop_zero]
                  iterate 10 (first | refine Plan.tA ?_ | refine Plan.tY ?_ | refine Plan.pN ?_ | refine Plan.pU ?_ | fail)
                  refine Plan.fin ?_
                  refine wpl_fold2 (fun wx => Keeps [] wr wx) (by exact Keeps.K) ?_
                  intro w5 hk5
                  obtain ⟨⟨b0, b1, b2, b3, b4, b5, b6, b7, b8, b9⟩, bf⟩ := blk10 ((hk5.block w.heap.size (Array.getElem?_eq_some_iff.1 HBT.out).1 (by simp)).trans HBT.out)
                  have u14 := hk5.cellSome t14 (by simp)
                  have uf14 : w5.frozen? ⟨n, 14, none⟩ = false := (hk5.frozen (a := ⟨n, 14, none⟩) tlt (by simp)).trans tf14
                  have HG : Hid (∃ w6, w6 = w5.setCell ⟨n, 14, none⟩ (.int .i64 V) ∧ ∃ lvt, CoreAt w6 B n { ct with commit := max c.commit (min m.c (m.a + ((m.entries.length : Nat) : Int))) } lvt sv ∧ Keeps (n :: ownB lv) w w6 ∧ ∀ b ∈ ownB lvt, b ∈ ownB lv ∨ w.heap.size ≤ b) := by
                    obtain ⟨h1, h2, h3, h4, h5⟩ := HT.out
                    have k1 : Keeps [n] w5 (w5.setCell ⟨n, 14, none⟩ (.int .i64 V)) := (Keeps.refl _ _).setCell (.inl (by simp)) _
                    have hv := HV.out
                    have hc1 := h1.k hk5
                    have hb1 := h4.base
                    have hcc := h4.commit
                    have hls : lastD ct = ct.base + ct.l.length := rfl
                    refine ⟨_, rfl, lvt, ?_, ((h2.trans hk5 (fun _ _ h => by cases h)).trans k1 (fun b _ hb => by simp at hb; simp [hb])), h3⟩
                    rw [hv]
                    refine hc1.wrote k1 (hc1.blk.set 14 _ rfl) rfl rfl (commitT_ok hc1.ok ⟨?_, ?_⟩)
                    · rw [hb1]; omega
                    · have := hc1.ok.commit
                      omega
                  obtain ⟨w6, hw6, lvt2, h61, h62, h63⟩ := HG.out
                  have HW6 := hid hw6
                  have H61 := hid h61
                  have H62 : Hid (∃ lv', CoreAt w6 B n { ct with commit := max c.commit (min m.c (m.a + ((m.entries.length : Nat) : Int))) } lv' sv ∧ Keeps (n :: ownB lv) w w6 ∧ ∀ b ∈ ownB lv', b ∈ ownB lv ∨ w.heap.size ≤ b) := ⟨lvt2, h61, h62, h63⟩
                  clear hk5 hw6 h61 h62 h63 HG t14 tf14
                  go_wp2_with fail
                  all_goals
                    first
                      | rw [show w5.setCell ⟨n, 14, none⟩ (.int .i64 c.commit) = w6 by have := HV.out; rw [HW6.out, show V = c.commit by omega]]
                      | rw [show w5.setCell ⟨n, 14, none⟩ (.int .i64 m.c) = w6 by have := HV.out; rw [HW6.out, show V = m.c by omega]]
                      | rw [show w5.setCell ⟨n, 14, none⟩ (.int .i64 (m.a + ((m.entries.length : Nat) : Int))) = w6 by have := HV.out; rw [HW6.out, show V = m.a + ((m.entries.length : Nat) : Int) by omega]]
                    refine (answer_any _ B n _ lvt2 sv m _ da _ dc true (m.a + ((m.entries.length : Nat) : Int)) H61.out).mono ?_
                    rintro x w7 hp
                    have HP : Hid (CallPost B n lv (appEnd c m m.a (m.entries)) w x w7) := by
                      rw [HRS.out]
                      exact ap_last HT.out.2.2.2.1 H62.out hp
                    obtain ⟨a, q, lv7, sv7, rfl, hp7⟩ := HP.out
                    have HP7 := hid hp7
                    clear hp hp7 HP
                    go_wp2_with fail
                    rw [Exit.noGoto_ret]
                    go_ret
                    exact ⟨a, q, lv7, sv7, rfl, HP7.out⟩
    · have hiN : i = m.entries.length := by omega
      have i1 : ((m.entries.length : Nat) : Int) ≤ (i : Int) := by omega
      obtain ⟨ct, hct⟩ : ∃ ct, ct = c := ⟨_, rfl⟩
      obtain ⟨lvt, hlvt⟩ : ∃ lvt, lvt = lv := ⟨_, rfl⟩
      have HT : Hid (CoreAt wr B n ct lvt sv ∧ Keeps (n :: ownB lv) w wr ∧ (∀ b ∈ ownB lvt, b ∈ ownB lv ∨ w.heap.size ≤ b) ∧ SameBut c ct ∧ m.a + ((m.entries.length : Nat) : Int) ≤ lastD ct) := by
        rw [hct, hlvt]
        exact ⟨H.out.k KW.out, KW.out.mono (fun _ _ h => by cases h), fun _ h => .inl h, ⟨rfl, rfl, rfl, rfl, rfl, rfl⟩, by omega⟩
      have HRS : Hid (appEnd c m m.a (m.entries) = ({ ct with commit := max c.commit (min m.c (m.a + ((m.entries.length : Nat) : Int))) }, answerD c m true (m.a + ((m.entries.length : Nat) : Int)))) := by
        have hx : (m.entries).length = m.entries.length := rfl
        have h1 : putsD c m.a (m.entries) = some c := by
          rw [HW.out.2, List.drop_eq_nil_of_le (by omega)]
          rfl
        show _ = _
        rw [hct, appEnd_some h1, hx]
      have HBT := hid HBX.out
      clear hiN hct hlvt x14 x15 x17
      obtain ⟨V, hV⟩ : ∃ V, max c.commit (min m.c (m.a + ((m.entries.length : Nat) : Int))) = V := ⟨_, rfl⟩
      have HV := hid hV
      obtain ⟨⟨b0, b1, b2, b3, b4, b5, b6, b7, b8, b9⟩, bf⟩ := blk10 HBT.out
      have t14 : wr.cell? ⟨n, 14, none⟩ = some (.int .i64 c.commit) := by
        have := HT.out.1.blk.cell 14
        rw [← HT.out.2.2.2.1.commit]
        exact this
      have tf14 : wr.frozen? ⟨n, 14, none⟩ = false := HT.out.1.blk.free 14
      have hnw : n ≠ w.heap.size := by omega
      have tlt := HT.out.1.blk.lt
      clear hV
      go_wp2_with fail
      refine Plan.wp_region_plan (fun wx => wx.cell? ⟨n, 14, none⟩ = some (.int .i64 c.commit) ∧ wx.cell? ⟨w.heap.size, 6, none⟩ = some (.int .i64 m.c)) 10 [(true, 0), (true, 1), (true, 2), (true, 3), (true, 4), (true, 5), (true, 6), (true, 7), (true, 8), (true, 9)] (by kernel_rfl) (by as_aux_lemma => kernel_rfl) (by kernel_rfl) (fun _ _ _ _ _ h => h) ?_ (fun hS => ?_)
      (· go_simp)
      simp only [Plan.pick, List.append_eq, List.cons_append, List.nil_append, Plan.g1, Plan.g2, Option.getD_some, List.drop_succ_cons, List.drop_zero]
      iterate 10 (first | refine Plan.tA ?_ | refine Plan.tY ?_ | refine Plan.pN ?_ | refine Plan.pU ?_ | fail)
      refine Plan.fin ?_
      refine wpl_fold2 (fun wx => Keeps [] wr wx) (by exact Keeps.K) ?_
      intro w5 hk5
      obtain ⟨⟨b0, b1, b2, b3, b4, b5, b6, b7, b8, b9⟩, bf⟩ := blk10 ((hk5.block w.heap.size (Array.getElem?_eq_some_iff.1 HBT.out).1 (by simp)).trans HBT.out)
      have u14 := hk5.cellSome t14 (by simp)
      have uf14 : w5.frozen? ⟨n, 14, none⟩ = false := (hk5.frozen (a := ⟨n, 14, none⟩) tlt (by simp)).trans tf14
      have HG : Hid (∃ w6, w6 = w5.setCell ⟨n, 14, none⟩ (.int .i64 V) ∧ ∃ lvt, CoreAt w6 B n { ct with commit := max c.commit (min m.c (m.a + ((m.entries.length : Nat) : Int))) } lvt sv ∧ Keeps (n :: ownB lv) w w6 ∧ ∀ b ∈ ownB lvt, b ∈ ownB lv ∨ w.heap.size ≤ b) := by
        obtain ⟨h1, h2, h3, h4, h5⟩ := HT.out
        have k1 : Keeps [n] w5 (w5.setCell ⟨n, 14, none⟩ (.int .i64 V)) := (Keeps.refl _ _).setCell (.inl (by simp)) _
        have hv := HV.out
        have hc1 := h1.k hk5
        have hb1 := h4.base
        have hcc := h4.commit
        have hls : lastD ct = ct.base + ct.l.length := rfl
        refine ⟨_, rfl, lvt, ?_, ((h2.trans hk5 (fun _ _ h => by cases h)).trans k1 (fun b _ hb => by simp at hb; simp [hb])), h3⟩
        rw [hv]
        refine hc1.wrote k1 (hc1.blk.set 14 _ rfl) rfl rfl (commitT_ok hc1.ok ⟨?_, ?_⟩)
        · rw [hb1]; omega
        · have := hc1.ok.commit
          omega
      obtain ⟨w6, hw6, lvt2, h61, h62, h63⟩ := HG.out
      have HW6 := hid hw6
      have H61 := hid h61
      have H62 : Hid (∃ lv', CoreAt w6 B n { ct with commit := max c.commit (min m.c (m.a + ((m.entries.length : Nat) : Int))) } lv' sv ∧ Keeps (n :: ownB lv) w w6 ∧ ∀ b ∈ ownB lv', b ∈ ownB lv ∨ w.heap.size ≤ b) := ⟨lvt2, h61, h62, h63⟩
      clear hk5 hw6 h61 h62 h63 HG t14 tf14
      go_wp2_with fail
      all_goals
        first
          | rw [show w5.setCell ⟨n, 14, none⟩ (.int .i64 c.commit) = w6 by have := HV.out; rw [HW6.out, show V = c.commit by omega]]
          | rw [show w5.setCell ⟨n, 14, none⟩ (.int .i64 m.c) = w6 by have := HV.out; rw [HW6.out, show V = m.c by omega]]
          | rw [show w5.setCell ⟨n, 14, none⟩ (.int .i64 (m.a + ((m.entries.length : Nat) : Int))) = w6 by have := HV.out; rw [HW6.out, show V = m.a + ((m.entries.length : Nat) : Int) by omega]]
        refine (answer_any _ B n _ lvt2 sv m _ da _ dc true (m.a + ((m.entries.length : Nat) : Int)) H61.out).mono ?_
        rintro x w7 hp
        have HP : Hid (CallPost B n lv (appEnd c m m.a (m.entries)) w x w7) := by
          rw [HRS.out]
          exact ap_last HT.out.2.2.2.1 H62.out hp
        obtain ⟨a, q, lv7, sv7, rfl, hp7⟩ := HP.out
        have HP7 := hid hp7
        clear hp hp7 HP
        go_wp2_with fail
        rw [Exit.noGoto_ret]
        go_ret
        exact ⟨a, q, lv7, sv7, rfl, HP7.out⟩

end Go.Proofs.Ytpppoajnbhipeaa
