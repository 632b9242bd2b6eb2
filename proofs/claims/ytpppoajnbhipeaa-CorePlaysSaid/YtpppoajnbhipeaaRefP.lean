/- The document's core: snap, whole. -/
import Derived.Test.YtpppoajnbhipeaaQ24
namespace Go.Proofs.Ytpppoajnbhipeaa
open Go Go.RowKit

set_option maxRecDepth 100000 in
set_option maxHeartbeats 12800000 in
theorem rsnap_main (w : World) (B n : Nat) (c : CoreD) (P : Nat → Prop) (lv sv : Value) (m : MsgD) (ea da : Option Addr) (ec dc : Nat) (h : RefAt w B n c P lv sv) (hP : ∀ b, P b → b < w.heap.size) (hdt : BytesAt w P (.slice da m.data.length dc) m.data) (ht : ¬ m.term < c.term) (hr : c.role ≠ 2) (hs : rsnapNo m = false)
    (ha : m.a ≤ 1099511627776) (hb : 0 ≤ m.b ∧ m.b ≤ 1099511627776) (hdl : m.data.length ≤ 1000000) :
    Calls Try.prog 87 #[.pointer (some ⟨n, 0, none⟩), msgV m (.slice ea m.entries.length ec) (.slice da m.data.length dc)] w (RCallPost B n P (takesD (followD c m) m) w) := by
  have h10 : w.cell? ⟨n, 10, none⟩ = some (.int .i64 c.term) := h.blk.cell 10
  have h12 : w.cell? ⟨n, 12, none⟩ = some (.int .i64 c.role) := h.blk.cell 12
  have hlt := h.blk.lt
  have hbs := h.ok.base
  have hls := h.ok.last
  have hcm := h.ok.commit
  have H := hid h
  have HPB := hid hP
  have HDT := hid hdt
  have F1 : Hid (inD m.a 1 549755813888 = true) := by
    show _ = _
    unfold rsnapNo at hs
    cases h2 : inD m.a 1 549755813888 with
    | true => rfl
    | false => rw [h2] at hs; simp at hs
  have F2 : Hid (inD m.b 1 m.term = true) := by
    show _ = _
    unfold rsnapNo at hs
    rw [F1.out] at hs
    simpa using hs
  have hma : 1 ≤ m.a ∧ m.a ≤ 549755813888 := by
    have := F1.out
    simp only [inD, Bool.and_eq_true, decide_eq_true_eq] at this
    exact this
  obtain ⟨a1, a2⟩ := hma
  have hd : decide (m.term < c.term) = false := by simpa using ht
  have hrb : (c.role == 2) = false := by simpa using hr
  unfold msgV
  clear h hr ht hP hdt hs
  go_enter Try.func87, Try.ntmps87
  go_wp2_with fail
  go_quiet (fail)
  go_wp2_with fail
  refine (rin_is true _ _ _ _ F1.out).mono ?_
  rintro z w3 ⟨rfl, hw3⟩
  subst hw3
  go_wp2_with fail
  refine (rin_is true _ _ _ _ F2.out).mono ?_
  rintro z w3 ⟨rfl, hw3⟩
  subst hw3
  go_wp2_with fail
  refine (rfollow_any _ B n c P lv sv m ea da ec dc (H.out.k (by exact Keeps.K))).mono ?_
  rintro e w1 ⟨rfl, hc1, hk1⟩
  have K1 : Hid (Keeps [n] w w1) := (Keeps.mono (F := []) (G := [n]) (by exact Keeps.K) (fun _ _ h => by cases h)).trans hk1 (fun _ _ h => h)
  have hbx : w1.heap[w.heap.size]? = some (.cells #[.int .i64 m.kind, .int .i64 m.frm, .int .i64 m.to, .int .i64 m.term, .int .i64 m.a, .int .i64 m.b, .int .i64 m.c, .bool m.ok, .slice ea m.entries.length ec, .slice da m.data.length dc] 40 (0, 0)) := by
    have e1 := heap_alloc_new w (.cells #[.int .i64 m.kind, .int .i64 m.frm, .int .i64 m.to, .int .i64 m.term, .int .i64 m.a, .int .i64 m.b, .int .i64 m.c, .bool m.ok, .slice ea m.entries.length ec, .slice da m.data.length dc] 40)
    refine (hk1.block w.heap.size (by simp) (by simp; omega)).trans ?_
    first
      | exact e1
      | exact (((Keeps.refl [] (w.alloc (.cells #[.int .i64 m.kind, .int .i64 m.frm, .int .i64 m.to, .int .i64 m.term, .int .i64 m.a, .int .i64 m.b, .int .i64 m.c, .bool m.ok, .slice ea m.entries.length ec, .slice da m.data.length dc] 40))).drewN _).block w.heap.size (by simp) (by simp)).trans e1
      | exact (((Keeps.refl [] (w.alloc (.cells #[.int .i64 m.kind, .int .i64 m.frm, .int .i64 m.to, .int .i64 m.term, .int .i64 m.a, .int .i64 m.b, .int .i64 m.c, .bool m.ok, .slice ea m.entries.length ec, .slice da m.data.length dc] 40))).drew).block w.heap.size (by simp) (by simp)).trans e1
  have HBX := hid hbx
  obtain ⟨⟨y0, y1, y2, y3, y4, y5, y6, y7, y8, y9⟩, _⟩ := blk10 hbx
  have C1 := hid hc1
  have x14 : w1.cell? ⟨n, 14, none⟩ = some (.int .i64 c.commit) := hc1.blk.cell 14
  have hz1 : w.heap.size < w1.heap.size := World.block_lt_of_cell? _ _ y1
  clear hc1 hk1 h10 h12 hbx
  by_cases hcc : m.a ≤ c.commit
  · have hd1 : decide (m.a ≤ c.commit) = true := by simpa using hcc
    have HF : Hid (takesD (followD c m) m = (followD c m, answerD (followD c m) m true c.commit)) := takesD_no hcc
    clear hcc
    go_wp2_with fail
    go_quiet (fail)
    go_wp2_with fail
    refine Plan.wp_region_plan (fun wx => wx.cell? ⟨w.heap.size, 1, none⟩ = some (.int .i64 m.frm) ∧ wx.cell? ⟨n, 14, none⟩ = some (.int .i64 c.commit)) 7 [(true, 0), (true, 1), (true, 2), (true, 3), (true, 4), (true, 5), (true, 6)] (by kernel_rfl) (by as_aux_lemma => kernel_rfl) (by kernel_rfl) (fun _ _ _ _ _ h => h) ?_ (fun hS => ?_)
    (· go_simp)
    simp only [Plan.pick, List.append_eq, List.cons_append, List.nil_append, Plan.g1, Plan.g2, Option.getD_some, List.drop_succ_cons, List.drop_zero]
    iterate 7 (first | refine Plan.tA ?_ | refine Plan.tY ?_ | refine Plan.pN ?_ | refine Plan.pU ?_ | fail)
    refine Plan.fin ?_
    go_wp2_with fail
    refine calls_fold (fun wx => Keeps [] w1 wx) (by exact Keeps.K) ?_
    intro w5 k5
    have K5 := hid k5
    clear k5
    refine (ranswer_any _ B n (followD c m) P lv sv m true c.commit (C1.out.k K5.out)).mono ?_
    rintro e w6 ⟨a, q, rfl, hf, hk⟩
    have HP : Hid (RCallPost B n P (takesD (followD c m) m) w (.returned (.slice a (answerD (followD c m) m true c.commit).length q)) w6) := by
      show RCallPost _ _ _ _ _ _ _
      rw [HF.out]
      exact RCallPost.tells ((C1.out.k K5.out).toGr hlt) hlt (K1.out.trans K5.out (fun _ _ h => by cases h)) (RMsgsPost.of ⟨a, q, rfl, hf, hk⟩)
    clear hf hk
    go_wp2_with fail
    go_ret
    exact HP.out
  · have hd1 : decide (m.a ≤ c.commit) = false := by simpa using hcc
    have ib1 : -4611686018427387904 ≤ m.a := by omega
    have ib2 : m.a ≤ 4611686018427387904 := by omega
    have wr1 : IntKind.i64.wrap (m.a + 1) = m.a + 1 := IntWalk.i64_in _ (by omega)
    obtain ⟨T, okT, hT⟩ : ∃ t o, atD (followD c m) m.a = (t, o) := ⟨_, _, rfl⟩
    have HT := hid hT
    have hmm : (okT = true ∧ (T == m.b) = true) ∨ (okT = false ∨ (okT = true ∧ (T == m.b) = false)) := by
      cases okT
      · exact .inr (.inl rfl)
      · cases h : (T == m.b)
        · exact .inr (.inr ⟨rfl, rfl⟩)
        · exact .inl ⟨rfl, rfl⟩
    clear hT
    have HRB : Hid (∀ wx, Keeps [n] w wx → Reads wx 1 (.slice da m.data.length dc) m.data.length (u8s m.data)) := fun wx k => (HDT.out.keep k (fun b hb hb' => by simp at hb'; subst hb'; exact H.out.apart hb)).1
    have HKW : Hid (∀ (w2 : World) (fa : Option Addr) (fc : Nat) (F : List Ent), Keeps [] w1 w2 → Keeps [n] w (((w2.setCell ⟨n, 18, none⟩ (.slice fa F.length fc)).setCell ⟨n, 15, none⟩ (.int .i64 m.a)).setCell ⟨n, 16, none⟩ (.int .i64 m.b)) ∧ Keeps [n] w2 (((w2.setCell ⟨n, 18, none⟩ (.slice fa F.length fc)).setCell ⟨n, 15, none⟩ (.int .i64 m.a)).setCell ⟨n, 16, none⟩ (.int .i64 m.b))) := fun w2 fa fc F k2 => by
      have k : Keeps [n] w2 (((w2.setCell ⟨n, 18, none⟩ (.slice fa F.length fc)).setCell ⟨n, 15, none⟩ (.int .i64 m.a)).setCell ⟨n, 16, none⟩ (.int .i64 m.b)) := (((Keeps.refl _ _).setCell (.inl (by simp)) _).setCell (.inl (by simp)) _).setCell (.inl (by simp)) _
      exact ⟨(K1.out.trans k2 (fun _ _ h => by cases h)).trans k (fun _ _ h => h), k⟩
    have HREL : Hid (∀ (w2 wz : World) (fa : Option Addr) (fc : Nat) (F : List Ent) (qa : Option Addr) (qc : Nat), Keeps [] w1 w2 → ListAt entL w2 (fun b => P b ∨ w1.heap.size ≤ b) (.slice fa F.length fc) F → Keeps [] (((w2.setCell ⟨n, 18, none⟩ (.slice fa F.length fc)).setCell ⟨n, 15, none⟩ (.int .i64 m.a)).setCell ⟨n, 16, none⟩ (.int .i64 m.b)) wz → BytesAt wz (fun b => (((w2.setCell ⟨n, 18, none⟩ (.slice fa F.length fc)).setCell ⟨n, 15, none⟩ (.int .i64 m.a)).setCell ⟨n, 16, none⟩ (.int .i64 m.b)).heap.size ≤ b) (.slice qa m.data.length qc) m.data → CoreOk ({ followD c m with l := F, base := m.a, baseTerm := m.b, snap := m.data, commit := m.a, tsnap := true } : CoreD) →
        RefBlk wz n { followD c m with l := F, base := m.a, baseTerm := m.b } (.slice fa F.length fc) sv ∧ wz.heap[w.heap.size]? = some (.cells #[.int .i64 m.kind, .int .i64 m.frm, .int .i64 m.to, .int .i64 m.term, .int .i64 m.a, .int .i64 m.b, .int .i64 m.c, .bool m.ok, .slice ea m.entries.length ec, .slice da m.data.length dc] 40 (0, 0)) ∧ ∃ w4, w4 = (((wz.setCell ⟨n, 17, none⟩ (.slice qa m.data.length qc)).setCell ⟨n, 14, none⟩ (.int .i64 m.a)).setCell ⟨n, 46, none⟩ (.bool true)) ∧ RefAt w4 B n { followD c m with l := F, base := m.a, baseTerm := m.b, snap := m.data, commit := m.a, tsnap := true } (Gr P w w4) (.slice fa F.length fc) (.slice qa m.data.length qc) ∧ Keeps [n] w w4) := fun w2 wz fa fc F qa qc k2 hl kz hbz ok => by
      obtain ⟨kw, kw2⟩ := HKW.out w2 fa fc F k2
      have b1 := ((C1.out.k k2).blk.set (c' := { followD c m with l := F }) (lv' := .slice fa F.length fc) (sv' := sv) 18 (.slice fa F.length fc) rfl)
      have b2 := b1.set (c' := { followD c m with l := F, base := m.a }) (lv' := .slice fa F.length fc) (sv' := sv) 15 (.int .i64 m.a) rfl
      have b3 := b2.set (c' := { followD c m with l := F, base := m.a, baseTerm := m.b }) (lv' := .slice fa F.length fc) (sv' := sv) 16 (.int .i64 m.b) rfl
      have bz := b3.keep kz (by simp)
      have k4 : Keeps [n] wz (((wz.setCell ⟨n, 17, none⟩ (.slice qa m.data.length qc)).setCell ⟨n, 14, none⟩ (.int .i64 m.a)).setCell ⟨n, 46, none⟩ (.bool true)) := (((Keeps.refl _ _).setCell (.inl (by simp)) _).setCell (.inl (by simp)) _).setCell (.inl (by simp)) _
      have c1' := bz.set (c' := { followD c m with l := F, base := m.a, baseTerm := m.b, snap := m.data }) (lv' := .slice fa F.length fc) (sv' := .slice qa m.data.length qc) 17 (.slice qa m.data.length qc) rfl
      have c2' := c1'.set (c' := { followD c m with l := F, base := m.a, baseTerm := m.b, snap := m.data, commit := m.a }) (lv' := .slice fa F.length fc) (sv' := .slice qa m.data.length qc) 14 (.int .i64 m.a) rfl
      have c3' : RefBlk (((wz.setCell ⟨n, 17, none⟩ (.slice qa m.data.length qc)).setCell ⟨n, 14, none⟩ (.int .i64 m.a)).setCell ⟨n, 46, none⟩ (.bool true)) n { followD c m with l := F, base := m.a, baseTerm := m.b, snap := m.data, commit := m.a, tsnap := true } (.slice fa F.length fc) (.slice qa m.data.length qc) := c2'.tsnap ok.votes ok.next ok.matc true
      have kwz : Keeps [n] w wz := kw.trans kz (fun _ _ h => by cases h)
      have zz := kw.size
      have nP : ¬ P n := H.out.apart
      refine ⟨bz, ?_, _, rfl, ?_, kwz.trans k4 (fun _ _ h => h)⟩
      · exact (kz.block w.heap.size (Nat.lt_of_lt_of_le hz1 (Nat.le_trans k2.size kw2.size)) (by simp)).trans ((kw2.block w.heap.size (Nat.lt_of_lt_of_le hz1 k2.size) (by simp; omega)).trans ((k2.block w.heap.size hz1 (by simp)).trans HBX.out))
      · have k24 : Keeps [n] w2 (((wz.setCell ⟨n, 17, none⟩ (.slice qa m.data.length qc)).setCell ⟨n, 14, none⟩ (.int .i64 m.a)).setCell ⟨n, 46, none⟩ (.bool true)) := (kw2.trans kz (fun _ _ h => by cases h)).trans k4 (fun _ _ h => h)
        refine { blk := c3', log := ?_, snap := ?_, apart := ?_, base := H.out.base, ok := ok }
        · refine (hl.keep k24 (fun b hb hb' => ?_)).mono (fun b h1 h2 => ?_)
          · simp at hb'
            subst hb'
            rcases hb with hb | hb
            · exact nP hb
            · have := K1.out.size; omega
          · rcases h2 with h2 | h2
            · exact .inl h2
            · exact .inr ⟨Nat.le_trans K1.out.size h2, h1⟩
        · refine (hbz.keep k4 (fun b hb hb' => ?_)).mono (fun b h1 h2 => .inr ⟨Nat.le_trans zz h2, h1⟩)
          simp at hb'
          omega
        · intro h
          rcases h with h | h
          · exact nP h
          · omega
    have HAN : Hid (∀ (w4 : World) (F : List Ent) (lv' sv' : Value), RefAt w4 B n { followD c m with l := F, base := m.a, baseTerm := m.b, snap := m.data, commit := m.a, tsnap := true } (Gr P w w4) lv' sv' → Keeps [n] w w4 → takesD (followD c m) m = ({ followD c m with l := F, base := m.a, baseTerm := m.b, snap := m.data, commit := m.a, tsnap := true }, answerD (followD c m) m true m.a) → ∀ e w6, MsgsPost (answerD { followD c m with l := F, base := m.a, baseTerm := m.b, snap := m.data, commit := m.a, tsnap := true } m true m.a) w4 e w6 → RCallPost B n P (takesD (followD c m) m) w e w6) := fun w4 F lv' sv' hr4 k4 hF e w6 hp => by
      rw [hF]
      exact RCallPost.tells hr4 hlt k4 (RMsgsPost.of hp)
    rcases hmm with ⟨rfl, hTb⟩ | hno
    · have HF : Hid (takesD (followD c m) m = ({ standsD (followD c m) m.a m.data with commit := m.a, tsnap := true }, answerD (followD c m) m true m.a)) := takesD_fit hcc (by rw [HT.out]; exact ⟨rfl, by simpa using hTb⟩)
      obtain ⟨F, hFd⟩ : ∃ F, (followD c m).l.drop (m.a - c.base).toNat = F := ⟨_, rfl⟩
      have HFR : Hid (fromD (followD c m) (m.a + 1) = F) := by
        show (followD c m).l.drop (max (m.a + 1) (c.base + 1) - c.base - 1).toNat = _
        rw [show (max (m.a + 1) (c.base + 1) - c.base - 1) = m.a - c.base by omega]
        exact hFd
      have hTe : T = m.b := by simpa using hTb
      have hlast : m.a ≤ lastD (followD c m) := by
        have := HT.out
        unfold atD at this
        split at this
        · have e1 : m.a = c.base := by assumption
          omega
        · split at this
          · simp at this
          · omega
      have HDF : Hid (takesD (followD c m) m = ({ followD c m with l := F, base := m.a, baseTerm := m.b, snap := m.data, commit := m.a, tsnap := true }, answerD (followD c m) m true m.a)) := by
        show _ = _
        rw [HF.out]
        unfold standsD
        rw [HT.out, hTe]
        show (({ followD c m with l := (followD c m).l.drop (m.a - c.base).toNat, base := m.a, baseTerm := m.b, snap := m.data, commit := m.a, tsnap := true } : CoreD), _) = _
        rw [hFd]
      have HOKD : Hid (CoreOk ({ followD c m with l := F, base := m.a, baseTerm := m.b, snap := m.data, commit := m.a, tsnap := true } : CoreD)) := by
        have := standsT_ok (c := followD c m) (i := m.a) (data := m.data) C1.out.ok ⟨by show c.base < m.a; omega, hlast⟩ (by show c.commit < m.a; omega) (by rw [HT.out]; show 0 ≤ T ∧ T ≤ _; omega) hdl
        unfold standsD at this
        rw [HT.out, hTe] at this
        show CoreOk _
        rw [← hFd]
        exact this
      clear hFd hTe hlast
      go_wp2_with fail
      go_quiet (fail)
      go_wp2_with fail
      refine (rAt_is _ B n _ P lv sv (C1.out.k (by exact Keeps.K)) m.a T true ib1 ib2 HT.out).mono ?_
      rintro e w' ⟨rfl, kk, rfl⟩
      go_wp2_with fail
      refine (rFrom_any _ B n _ P lv sv (C1.out.k (by exact Keeps.K)) (m.a + 1) (by omega) (by omega)).mono ?_
      rw [HFR.out]
      rintro e w2 ⟨fa, fc, rfl, hfr, hk2⟩
      have K2 : Hid (Keeps [] w1 w2) := Keeps.trans (by exact Keeps.K) hk2 (fun _ _ h => h)
      have HL2 : Hid (ListAt entL w2 (fun b => P b ∨ w1.heap.size ≤ b) (.slice fa F.length fc) F) := hfr.mono (fun b _ hb => by
        rcases hb with hb | hb
        · exact .inl hb
        · exact .inr (by simpa using hb))
      have q18 : w2.cell? ⟨n, 18, none⟩ = some lv := (C1.out.k K2.out).blk.cell 18
      have q15 : w2.cell? ⟨n, 15, none⟩ = some (.int .i64 c.base) := (C1.out.k K2.out).blk.cell 15
      have q16 : w2.cell? ⟨n, 16, none⟩ = some (.int .i64 c.baseTerm) := (C1.out.k K2.out).blk.cell 16
      have fz2 : ∀ i, w2.frozen? ⟨n, i, none⟩ = false := fun i => (C1.out.k K2.out).blk.free i
      have q4 := K2.out.cellSome y4 (by simp)
      have q5 := K2.out.cellSome y5 (by simp)
      have q9 := K2.out.cellSome y9 (by simp)
      have hn2 : n < w2.heap.size := (C1.out.k K2.out).blk.lt
      have hz2' : w.heap.size < w2.heap.size := Nat.lt_of_lt_of_le hz1 K2.out.size
      have hnz : ¬ n = w.heap.size := by omega
      have hnz' : ¬ w.heap.size = n := by omega
      clear hfr hk2 y0 y1 y2 y3 y4 y5 y6 y7 y8 y9 x14
      go_wp2_with (at_builtin; go_must (refine wpB_append _ (by rfl) (.tmp 94) (by rfl) (.slice da m.data.length dc) m.data (by rfl) (HRB.out _ (HKW.out w2 fa fc F K2.out).1) (by omega) ?_; intro qa qc wz hbz hkz; obtain ⟨bz, hbox, w4, hw4, hr4, hk4⟩ := HREL.out w2 wz fa fc F qa qc K2.out HL2.out hkz.out hbz.out HOKD.out; have HR4 := hid hr4; have HK4 := hid hk4; have HW4 := hid hw4; obtain ⟨⟨p0, p1, p2, p3, p4, p5, p6, p7, p8, p9⟩, _⟩ := blk10 hbox; have p14 : wz.cell? ⟨n, 14, none⟩ = some (.int .i64 c.commit) := bz.cell 14; have p17 : wz.cell? ⟨n, 17, none⟩ = some sv := bz.cell 17; have p46 : wz.cell? ⟨n, 46, none⟩ = some (.bool c.tsnap) := (bz.cell 46).trans ((rget21 _ _ _ 25).trans (rtail_get { followD c m with l := F, base := m.a, baseTerm := m.b } HOKD.out.votes HOKD.out.next HOKD.out.matc).2.1); have fz4 : ∀ i, wz.frozen? ⟨n, i, none⟩ = false := fun i => bz.free i; have hnz4 : n < wz.heap.size := bz.lt; clear hr4 hk4 hw4 hbz hkz bz hbox))
      rw [← HW4.out]
      refine (ranswer_any _ B n { followD c m with l := F, base := m.a, baseTerm := m.b, snap := m.data, commit := m.a, tsnap := true } _ _ _ m true m.a HR4.out).mono ?_
      rintro e w6 ⟨a, q, rfl, hf, hk⟩
      have HP : Hid (RCallPost B n P (takesD (followD c m) m) w (.returned (.slice a (answerD { followD c m with l := F, base := m.a, baseTerm := m.b, snap := m.data, commit := m.a, tsnap := true } m true m.a).length q)) w6) := HAN.out w4 F _ _ HR4.out HK4.out HDF.out _ _ ⟨a, q, rfl, hf, hk⟩
      clear hf hk
      go_wp2_with fail
      go_ret
      exact HP.out
    · have HDF : Hid (takesD (followD c m) m = ({ followD c m with l := [], base := m.a, baseTerm := m.b, snap := m.data, commit := m.a, tsnap := true }, answerD (followD c m) m true m.a)) := takesD_new hcc (by
        rw [HT.out]
        rcases hno with rfl | ⟨rfl, h⟩
        · simp
        · simpa using h)
      have HOKD : Hid (CoreOk ({ followD c m with l := [], base := m.a, baseTerm := m.b, snap := m.data, commit := m.a, tsnap := true } : CoreD)) := takesN_ok C1.out.ok hcc ha hb hdl
      have q18 : w1.cell? ⟨n, 18, none⟩ = some lv := C1.out.blk.cell 18
      have q15 : w1.cell? ⟨n, 15, none⟩ = some (.int .i64 c.base) := C1.out.blk.cell 15
      have q16 : w1.cell? ⟨n, 16, none⟩ = some (.int .i64 c.baseTerm) := C1.out.blk.cell 16
      have fz2 : ∀ i, w1.frozen? ⟨n, i, none⟩ = false := fun i => C1.out.blk.free i
      have hn1 : n < w1.heap.size := C1.out.blk.lt
      have hnz : ¬ n = w.heap.size := by omega
      have hnz' : ¬ w.heap.size = n := by omega
      rcases hno with rfl | ⟨rfl, hTb⟩
      all_goals
        go_wp2_with fail
        go_quiet (fail)
        go_wp2_with fail
        first
          | (refine (rAt_is _ B n _ P lv sv (C1.out.k (by exact Keeps.K)) m.a T false ib1 ib2 HT.out).mono ?_)
          | (refine (rAt_is _ B n _ P lv sv (C1.out.k (by exact Keeps.K)) m.a T true ib1 ib2 HT.out).mono ?_)
        rintro e w' ⟨rfl, kk, rfl⟩
        go_wp2_with (at_builtin; go_must (refine wpB_append _ (by rfl) (.tmp 94) (by rfl) (.slice da m.data.length dc) m.data (by rfl) (HRB.out _ (HKW.out _ none 0 [] (by exact Keeps.K)).1) (by omega) ?_; intro qa qc wz hbz hkz; obtain ⟨bz, hbox, w4, hw4, hr4, hk4⟩ := HREL.out _ wz none 0 [] qa qc (by exact Keeps.K) (ListAt.nil _ _ _ _) hkz.out hbz.out HOKD.out; have HR4 := hid hr4; have HK4 := hid hk4; have HW4 := hid hw4; obtain ⟨⟨p0, p1, p2, p3, p4, p5, p6, p7, p8, p9⟩, _⟩ := blk10 hbox; have p14 : wz.cell? ⟨n, 14, none⟩ = some (.int .i64 c.commit) := bz.cell 14; have p17 : wz.cell? ⟨n, 17, none⟩ = some sv := bz.cell 17; have p46 : wz.cell? ⟨n, 46, none⟩ = some (.bool c.tsnap) := (bz.cell 46).trans ((rget21 _ _ _ 25).trans (rtail_get { followD c m with l := [], base := m.a, baseTerm := m.b } HOKD.out.votes HOKD.out.next HOKD.out.matc).2.1); have fz4 : ∀ i, wz.frozen? ⟨n, i, none⟩ = false := fun i => bz.free i; have hnz4 : n < wz.heap.size := bz.lt; clear hr4 hk4 hw4 hbz hkz bz hbox))
        rw [← HW4.out]
        refine (ranswer_any _ B n { followD c m with l := [], base := m.a, baseTerm := m.b, snap := m.data, commit := m.a, tsnap := true } _ _ _ m true m.a HR4.out).mono ?_
        rintro e w6 ⟨a, q, rfl, hf, hk⟩
        have HP : Hid (RCallPost B n P (takesD (followD c m) m) w (.returned (.slice a (answerD { followD c m with l := [], base := m.a, baseTerm := m.b, snap := m.data, commit := m.a, tsnap := true } m true m.a).length q)) w6) := HAN.out w4 [] _ _ HR4.out HK4.out HDF.out _ _ ⟨a, q, rfl, hf, hk⟩
        clear hf hk
        go_wp2_with fail
        go_ret
        exact HP.out

theorem rsnap_any (w : World) (B n : Nat) (c : CoreD) (P : Nat → Prop) (lv sv : Value) (m : MsgD) (ea da : Option Addr) (ec dc : Nat) (h : RefAt w B n c P lv sv) (hP : ∀ b, P b → b < w.heap.size) (hdt : BytesAt w P (.slice da m.data.length dc) m.data)
    (ha : m.a ≤ 1099511627776) (hb : 0 ≤ m.b ∧ m.b ≤ 1099511627776) (hdl : m.data.length ≤ 1000000) :
    Calls Try.prog 87 #[.pointer (some ⟨n, 0, none⟩), msgV m (.slice ea m.entries.length ec) (.slice da m.data.length dc)] w (RCallPost B n P (rsnapD c m) w) := by
  unfold rsnapD
  by_cases ht : m.term < c.term
  · rw [if_pos ht]
    exact rsnap_old w B n c P lv sv m ea da ec dc h ht
  · rw [if_neg ht]
    by_cases hr : c.role = 2 ∨ rsnapNo m = true
    · rw [if_pos hr]
      exact rsnap_no w B n c P lv sv m ea da ec dc h ht hr
    · rw [if_neg hr]
      exact rsnap_main w B n c P lv sv m ea da ec dc h hP hdt ht (fun e => hr (.inl e)) (by
        cases e : rsnapNo m with
        | false => rfl
        | true => exact absurd (.inr e) hr) ha hb hdl

end Go.Proofs.Ytpppoajnbhipeaa
