/- Joined of ChanA, RefR, PlayA, CoreT, Strs. -/
import Derived.Test.YtpppoajnbhipeaaQ24
import Derived.Test.YtpppoajnbhipeaaQ29
import Derived.Test.YtpppoajnbhipeaaQ05
import Derived.Test.YtpppoajnbhipeaaQ00

/- Changes: what was turned, once. -/
namespace Go.Proofs.Ytpppoajnbhipeaa
open Go Go.RowKit

theorem tail_new (c : CoreD) (hv : c.votes.length = 8) (hn : c.next.length = 8) (hm : c.matc.length = 8) : (((tailCells c).set 24 (.bool false)).set 25 (.int .i64 0)).set 26 (.bool false) = tailCells { c with hard := false, frm := 0, tsnap := false } := by
  rw [tail_hard c hv hn hm, tail_frm { c with hard := false } hv hn hm, tail_tsnap { c with hard := false, frm := 0 } hv hn hm]
theorem changesD_ok {c : CoreD} (h : CoreOk c) : CoreOk { c with hard := false, frm := 0, tsnap := false } :=
  { may := h.may, id := h.id, term := h.term, base := h.base, baseTerm := h.baseTerm, len := h.len, last := h.last, commit := h.commit, draw := h.draw, votes := h.votes, next := h.next, matc := h.matc, nexts := h.nexts, matcs := h.matcs, ents := h.ents, frm := by show (0:Int) ≤ 0 ∧ (0:Int) ≤ _; omega, data := h.data, snap := h.snap }
def ChangesPost (B n : Nat) (c : CoreD) (lv sv : Value) (w : World) (e : Ending) (w' : World) : Prop :=
  e = .returned (.agg #[.bool (changesD c).2.1, .int .i64 (changesD c).2.2.1, .bool (changesD c).2.2.2]) ∧ CoreAt w' B n (changesD c).1 lv sv ∧ Keeps [n] w w'

set_option maxRecDepth 100000 in
set_option maxHeartbeats 3200000 in
theorem changes_any (w : World) (B n : Nat) (c : CoreD) (lv sv : Value) (h : CoreAt w B n c lv sv) : Calls Try.prog 37 #[.pointer (some ⟨n, 0, none⟩)] w (ChangesPost B n c lv sv w) := by
  have h15 : w.cell? ⟨n, 15, none⟩ = some (.int .i64 c.base) := h.blk.cell 15
  have tg := tail_get c h.ok.votes h.ok.next h.ok.matc
  have h45 : w.cell? ⟨n, 45, none⟩ = some (.bool c.hard) := (h.blk.cell (21 + 24)).trans ((get21 _ _ _ 24).trans tg.1)
  have h46 : w.cell? ⟨n, 46, none⟩ = some (.int .i64 c.frm) := (h.blk.cell (21 + 25)).trans ((get21 _ _ _ 25).trans tg.2.1)
  have h47 : w.cell? ⟨n, 47, none⟩ = some (.bool c.tsnap) := (h.blk.cell (21 + 26)).trans ((get21 _ _ _ 26).trans tg.2.2)
  have fz : ∀ j, w.frozen? ⟨n, j, none⟩ = false := fun j => h.blk.free j
  have hlt := h.blk.lt
  have hnz : n ≠ w.heap.size := by omega
  have hnz1 : n ≠ w.heap.size + 1 := by omega
  have hbs := h.ok.base
  have hcm := h.ok.commit
  have hls := h.ok.last
  have hfr := h.ok.frm
  have b0 : 0 ≤ c.base := hbs.1
  have b1 : c.base ≤ 2199023255552 := by omega
  have wr1 : IntKind.i64.wrap (c.base + 1) = c.base + 1 := IntWalk.i64_in _ (by omega)
  have H := hid h
  have HF : Hid (∀ wx, Keeps [] w wx → CoreAt (((wx.setCell ⟨n, 45, none⟩ (.bool false)).setCell ⟨n, 46, none⟩ (.int .i64 0)).setCell ⟨n, 47, none⟩ (.bool false)) B n (changesD c).1 lv sv ∧ Keeps [n] w (((wx.setCell ⟨n, 45, none⟩ (.bool false)).setCell ⟨n, 46, none⟩ (.int .i64 0)).setCell ⟨n, 47, none⟩ (.bool false))) := fun wx k0 => by
    have k1 : Keeps [n] wx (((wx.setCell ⟨n, 45, none⟩ (.bool false)).setCell ⟨n, 46, none⟩ (.int .i64 0)).setCell ⟨n, 47, none⟩ (.bool false)) := by exact Keeps.K
    refine ⟨(h.k k0).wrote k1 ((((h.k k0).blk.set (c' := { c with hard := false }) (lv' := lv) (sv' := sv) (21 + 24) _ ?_).set (c' := { c with hard := false, frm := 0 }) (lv' := lv) (sv' := sv) (21 + 25) _ ?_).set (21 + 26) _ ?_) rfl rfl (changesD_ok h.ok), (k0.mono (G := [n]) (fun _ _ h => by cases h)).trans k1 (fun _ _ h => h)⟩
    · rw [set21, tail_hard c h.ok.votes h.ok.next h.ok.matc]; rfl
    · rw [set21, tail_frm { c with hard := false } h.ok.votes h.ok.next h.ok.matc]; rfl
    · rw [set21, tail_tsnap { c with hard := false, frm := 0 } h.ok.votes h.ok.next h.ok.matc]; rfl
  by_cases hf : 0 < c.frm
  · obtain ⟨F, hF⟩ : ∃ F, max c.frm (c.base + 1) = F := ⟨_, rfl⟩
    have HR : Hid ((changesD c).2.2.1 = F) := by show _ = _; unfold changesD; simp only []; rw [if_pos hf, hF]
    have HFF := hid hF
    clear h tg hbs hcm hls hfr hF
    go_enter Try.func37, Try.ntmps37
    go_wp2_with fail
    refine Plan.wp_region_plan (fun wx => wx.cell? ⟨w.heap.size + 1, 1, none⟩ = some (.int .i64 c.frm) ∧ wx.cell? ⟨n, 15, none⟩ = some (.int .i64 c.base)) 7 [(true, 0), (true, 1), (true, 2), (true, 3), (true, 4), (true, 5), (true, 6)] (by kernel_rfl) (by as_aux_lemma => kernel_rfl) (by kernel_rfl) (fun _ _ _ _ _ h => h) ?_ (fun hS => ?_)
    (· go_simp)
    simp only [Plan.pick, List.append_eq, List.cons_append, List.nil_append, Plan.g1, Plan.g2, Option.getD_some, List.drop_succ_cons, List.drop_zero]
    iterate 7 (first | refine Plan.tA ?_ | refine Plan.tY ?_ | refine Plan.pN ?_ | refine Plan.pU ?_ | fail)
    refine Plan.fin ?_
    go_wp2_with fail
    all_goals
      refine bodyPost_ret (v := .agg #[.bool c.hard, .int .i64 F, .bool c.tsnap]) ?_ rfl ?_
      (· have := HFF.out
         first
           | (rw [show F = c.base + 1 by omega]; simp [results, Try.results37, go_sem])
           | (rw [show F = c.frm by omega]; simp [results, Try.results37, go_sem]))
      refine ⟨?_, (HF.out w (Keeps.refl [] w)).1.k (by exact Keeps.K), (HF.out w (Keeps.refl [] w)).2.trans (G := []) (by exact Keeps.K) (fun _ _ h => by cases h)⟩
      rw [HR.out]
      rfl
  · have hfz : c.frm ≤ 0 := by omega
    have HR : Hid ((changesD c).2.2.1 = c.frm) := by show _ = _; unfold changesD; simp only []; rw [if_neg hf]
    clear h tg hbs hcm hls hfr hf
    go_enter Try.func37, Try.ntmps37
    go_wp2_with fail
    refine bodyPost_ret (v := .agg #[.bool c.hard, .int .i64 c.frm, .bool c.tsnap]) (by simp [results, Try.results37, go_sem]) rfl ?_
    refine ⟨?_, (HF.out w (Keeps.refl [] w)).1.k (by exact Keeps.K), (HF.out w (Keeps.refl [] w)).2.trans (G := []) (by exact Keeps.K) (fun _ _ h => by cases h)⟩
    rw [HR.out]
    rfl

end Go.Proofs.Ytpppoajnbhipeaa

/- The document's core: Compact, Changes. -/
namespace Go.Proofs.Ytpppoajnbhipeaa
open Go Go.RowKit

def RCompPost (B n : Nat) (P : Nat → Prop) (r : CoreD × Int) (w : World) (e : Ending) (w' : World) : Prop :=
  e = .returned (.int .i64 r.2) ∧ ∃ lv' sv', RefAt w' B n r.1 (Gr P w w') lv' sv' ∧ Keeps [n] w w'
theorem compactD_no {c : CoreD} {i : Int} {data : List UInt8} (h : i ≤ c.base ∨ c.commit < i) : compactD c i data = (c, 1) := by unfold compactD; rw [if_pos h]
theorem standsC_ok {c : CoreD} {i : Int} {data : List UInt8} (h : CoreOk c) (hi : c.base < i ∧ i ≤ c.commit) (ht : 0 ≤ (atD c i).1 ∧ (atD c i).1 ≤ 1099511627776) (hd : data.length ≤ 1000000) : CoreOk (standsD c i data) := by
  have h1 := h.base
  have h2 := h.len
  have h3 := h.last
  have h4 := h.commit
  have e : ((c.l.drop (i - c.base).toNat).length : Int) = c.base + c.l.length - i := by simp; omega
  exact { may := h.may, id := h.id, term := h.term, base := ⟨by show 0 ≤ i; omega, hi.2⟩, baseTerm := ht, len := by show (c.l.drop _).length ≤ _; simp; omega, last := by show i + ((c.l.drop (i - c.base).toNat).length : Int) ≤ _; omega,
          commit := by show c.commit ≤ i + ((c.l.drop (i - c.base).toNat).length : Int); omega, draw := h.draw, votes := h.votes, next := h.next, matc := h.matc, nexts := h.nexts, matcs := h.matcs, ents := fun e he => h.ents e (List.mem_of_mem_drop he), frm := h.frm, data := fun e he => h.data e (List.mem_of_mem_drop he), snap := hd }
theorem atD_in {c : CoreD} (h : CoreOk c) {i : Int} (hi : c.base < i ∧ i ≤ lastD c) : ∃ T, atD c i = (T, true) ∧ 0 ≤ T ∧ T ≤ 1099511627776 := by
  have hj : (i - c.base - 1).toNat < c.l.length := by unfold lastD at hi; omega
  refine ⟨(c.l[(i - c.base - 1).toNat]).term, ?_, h.ents _ (List.getElem_mem hj)⟩
  unfold atD
  rw [if_neg (by omega), if_neg (by omega), List.getElem?_eq_getElem hj]
  rfl

set_option maxRecDepth 100000 in
set_option maxHeartbeats 6400000 in
theorem rcompact_any (w : World) (B n : Nat) (c : CoreD) (P : Nat → Prop) (lv sv : Value) (i : Int) (data : List UInt8) (da : Option Addr) (dc : Nat) (h : RefAt w B n c P lv sv) (hP : ∀ b, P b → b < w.heap.size) (hdt : BytesAt w P (.slice da data.length dc) data) (hdl : data.length ≤ 1000000) :
    Calls Try.prog 72 #[.pointer (some ⟨n, 0, none⟩), .int .i64 i, .slice da data.length dc] w (RCompPost B n P (compactD c i data) w) := by
  have h14 : w.cell? ⟨n, 14, none⟩ = some (.int .i64 c.commit) := h.blk.cell 14
  have h15 : w.cell? ⟨n, 15, none⟩ = some (.int .i64 c.base) := h.blk.cell 15
  have h16 : w.cell? ⟨n, 16, none⟩ = some (.int .i64 c.baseTerm) := h.blk.cell 16
  have hlt := h.blk.lt
  have hbs := h.ok.base
  have hls := h.ok.last
  have hcm := h.ok.commit
  have H := hid h
  have HPB := hid hP
  have HDT := hid hdt
  by_cases hno : i ≤ c.base ∨ c.commit < i
  · rw [compactD_no hno]
    have hcs : decide (i ≤ c.base) = true ∨ (decide (i ≤ c.base) = false ∧ decide (c.commit < i) = true) := by
      by_cases e : i ≤ c.base
      · exact .inl (by simpa using e)
      · exact .inr ⟨by simpa using e, by simp; omega⟩
    clear h hP hdt hno
    rcases hcs with hd | ⟨hd, hd2⟩
    all_goals
      go_enter Try.func72, Try.ntmps72
      go_wp2_with fail
      go_ret
      exact ⟨rfl, lv, sv, H.out.toGr hlt, (Keeps.refl [n] _)⟩
  · have hd : decide (i ≤ c.base) = false := by simp; omega
    have hd2 : decide (c.commit < i) = false := by simp; omega
    obtain ⟨T, hT, hTb⟩ := atD_in (i := i) h.ok ⟨by omega, by unfold lastD; omega⟩
    have HT := hid hT
    obtain ⟨F, hFd⟩ : ∃ F, c.l.drop (i - c.base).toNat = F := ⟨_, rfl⟩
    have HFR : Hid (fromD c (i + 1) = F) := by
      show c.l.drop (max (i + 1) (c.base + 1) - c.base - 1).toNat = _
      rw [show (max (i + 1) (c.base + 1) - c.base - 1) = i - c.base by omega]
      exact hFd
    have HDF : Hid (compactD c i data = ({ c with l := F, base := i, baseTerm := T, snap := data }, 0)) := by
      show _ = _
      unfold compactD
      rw [if_neg hno]
      unfold standsD
      rw [hT, hFd]
    have HOKD : Hid (CoreOk ({ c with l := F, base := i, baseTerm := T, snap := data } : CoreD)) := by
      have := standsC_ok (i := i) (data := data) h.ok ⟨by omega, by omega⟩ (by rw [hT]; exact hTb) hdl
      unfold standsD at this
      rw [hT, hFd] at this
      exact this
    have ib1 : -4611686018427387904 ≤ i := by omega
    have ib2 : i ≤ 4611686018427387904 := by omega
    have ib3 : -4611686018427387904 ≤ i + 1 := by omega
    have ib4 : i + 1 ≤ 4611686018427387904 := by omega
    have wr1 : IntKind.i64.wrap (i + 1) = i + 1 := IntWalk.i64_in _ (by omega)
    have HRB : Hid (∀ wx, Keeps [n] w wx → Reads wx 1 (.slice da data.length dc) data.length (u8s data)) := fun wx k => (HDT.out.keep k (fun b hb hb' => by simp at hb'; subst hb'; exact H.out.apart hb)).1
    have HKW : Hid (∀ (w2 : World) (fa : Option Addr) (fc : Nat), Keeps [] w w2 → Keeps [n] w (((w2.setCell ⟨n, 18, none⟩ (.slice fa F.length fc)).setCell ⟨n, 15, none⟩ (.int .i64 i)).setCell ⟨n, 16, none⟩ (.int .i64 T)) ∧ Keeps [n] w2 (((w2.setCell ⟨n, 18, none⟩ (.slice fa F.length fc)).setCell ⟨n, 15, none⟩ (.int .i64 i)).setCell ⟨n, 16, none⟩ (.int .i64 T))) := fun w2 fa fc k2 => by
      have k : Keeps [n] w2 (((w2.setCell ⟨n, 18, none⟩ (.slice fa F.length fc)).setCell ⟨n, 15, none⟩ (.int .i64 i)).setCell ⟨n, 16, none⟩ (.int .i64 T)) := (((Keeps.refl _ _).setCell (.inl (by simp)) _).setCell (.inl (by simp)) _).setCell (.inl (by simp)) _
      exact ⟨(k2.mono (G := [n]) (fun _ _ h => by cases h)).trans k (fun _ _ h => h), k⟩
    have HREL : Hid (∀ (w2 wz : World) (fa : Option Addr) (fc : Nat) (qa : Option Addr) (qc : Nat), Keeps [] w w2 → ListAt entL w2 (fun b => P b ∨ w.heap.size ≤ b) (.slice fa F.length fc) F → Keeps [] (((w2.setCell ⟨n, 18, none⟩ (.slice fa F.length fc)).setCell ⟨n, 15, none⟩ (.int .i64 i)).setCell ⟨n, 16, none⟩ (.int .i64 T)) wz → BytesAt wz (fun b => (((w2.setCell ⟨n, 18, none⟩ (.slice fa F.length fc)).setCell ⟨n, 15, none⟩ (.int .i64 i)).setCell ⟨n, 16, none⟩ (.int .i64 T)).heap.size ≤ b) (.slice qa data.length qc) data →
        RefBlk wz n { c with l := F, base := i, baseTerm := T } (.slice fa F.length fc) sv ∧ RefAt (wz.setCell ⟨n, 17, none⟩ (.slice qa data.length qc)) B n { c with l := F, base := i, baseTerm := T, snap := data } (Gr P w (wz.setCell ⟨n, 17, none⟩ (.slice qa data.length qc))) (.slice fa F.length fc) (.slice qa data.length qc) ∧ Keeps [n] w (wz.setCell ⟨n, 17, none⟩ (.slice qa data.length qc))) := fun w2 wz fa fc qa qc k2 hl kz hbz => by
      obtain ⟨kw, kw2⟩ := HKW.out w2 fa fc k2
      have b1 := ((H.out.k k2).blk.set (c' := { c with l := F }) (lv' := .slice fa F.length fc) (sv' := sv) 18 (.slice fa F.length fc) rfl)
      have b2 := b1.set (c' := { c with l := F, base := i }) (lv' := .slice fa F.length fc) (sv' := sv) 15 (.int .i64 i) rfl
      have b3 := b2.set (c' := { c with l := F, base := i, baseTerm := T }) (lv' := .slice fa F.length fc) (sv' := sv) 16 (.int .i64 T) rfl
      have bz := b3.keep kz (by simp)
      have k4 : Keeps [n] wz (wz.setCell ⟨n, 17, none⟩ (.slice qa data.length qc)) := (Keeps.refl _ _).setCell (.inl (by simp)) _
      have c1' := bz.set (c' := { c with l := F, base := i, baseTerm := T, snap := data }) (lv' := .slice fa F.length fc) (sv' := .slice qa data.length qc) 17 (.slice qa data.length qc) rfl
      have kwz : Keeps [n] w wz := kw.trans kz (fun _ _ h => by cases h)
      have zz := kw.size
      have nP : ¬ P n := H.out.apart
      refine ⟨bz, ?_, kwz.trans k4 (fun _ _ h => h)⟩
      have k24 : Keeps [n] w2 (wz.setCell ⟨n, 17, none⟩ (.slice qa data.length qc)) := (kw2.trans kz (fun _ _ h => by cases h)).trans k4 (fun _ _ h => h)
      refine { blk := c1', log := ?_, snap := ?_, apart := ?_, base := H.out.base, ok := HOKD.out }
      · refine (hl.keep k24 (fun b hb hb' => ?_)).mono (fun b h1 h2 => ?_)
        · simp at hb'
          subst hb'
          rcases hb with hb | hb
          · exact nP hb
          · omega
        · rcases h2 with h2 | h2
          · exact .inl h2
          · exact .inr ⟨h2, h1⟩
      · refine (hbz.keep k4 (fun b hb hb' => ?_)).mono (fun b h1 h2 => .inr ⟨Nat.le_trans zz h2, h1⟩)
        simp at hb'
        omega
      · intro h
        rcases h with h | h
        · exact nP h
        · omega
    clear h hP hdt hno hT hFd hTb
    go_enter Try.func72, Try.ntmps72
    go_wp2_with fail
    refine (rAt_is _ B n _ P lv sv H.out i T true ib1 ib2 HT.out).mono ?_
    rintro e w' ⟨rfl, kk, rfl⟩
    go_wp2_with fail
    refine (rFrom_any _ B n _ P lv sv (H.out.k (by exact Keeps.K)) (i + 1) ib3 ib4).mono ?_
    rw [HFR.out]
    rintro e w2 ⟨fa, fc, rfl, hfr, hk2⟩
    have K2 : Hid (Keeps [] w w2) := Keeps.trans (by exact Keeps.K) hk2 (fun _ _ h => h)
    have HL2 : Hid (ListAt entL w2 (fun b => P b ∨ w.heap.size ≤ b) (.slice fa F.length fc) F) := hfr.mono (fun b _ hb => by
      rcases hb with hb | hb
      · exact .inl hb
      · exact .inr (by simpa using hb))
    have q18 : w2.cell? ⟨n, 18, none⟩ = some lv := (H.out.k K2.out).blk.cell 18
    have q15 : w2.cell? ⟨n, 15, none⟩ = some (.int .i64 c.base) := (H.out.k K2.out).blk.cell 15
    have q16 : w2.cell? ⟨n, 16, none⟩ = some (.int .i64 c.baseTerm) := (H.out.k K2.out).blk.cell 16
    have fz2 : ∀ i, w2.frozen? ⟨n, i, none⟩ = false := fun i => (H.out.k K2.out).blk.free i
    have hn2 : n < w2.heap.size := (H.out.k K2.out).blk.lt
    clear hfr hk2 h14 h15 h16
    go_wp2_with (at_builtin; go_must (refine wpB_append _ (by rfl) (.tmp 45) (by rfl) (.slice da data.length dc) data (by rfl) (HRB.out _ (HKW.out w2 fa fc K2.out).1) (by omega) ?_; intro qa qc wz hbz hkz; obtain ⟨bz, hr4, hk4⟩ := HREL.out w2 wz fa fc qa qc K2.out HL2.out hkz.out hbz.out; have HR4 := hid hr4; have HK4 := hid hk4; have p17 : wz.cell? ⟨n, 17, none⟩ = some sv := bz.cell 17; have fz4 : ∀ i, wz.frozen? ⟨n, i, none⟩ = false := fun i => bz.free i; clear hr4 hk4 hbz hkz bz))
    go_ret
    rw [HDF.out]
    exact ⟨rfl, _, _, HR4.out, HK4.out⟩

theorem RefBlk.least {w : World} {n : Nat} {c : CoreD} {lv sv : Value} (h : RefBlk w n c lv sv) (h1 : c.votes.length = 8) (h2 : c.next.length = 8) (h3 : c.matc.length = 8) (b : Int) : RefBlk (w.setCell ⟨n, 47, none⟩ (.int .i64 b)) n { c with frm := b } lv sv :=
  h.set 47 _ (by rw [show 47 = 21 + 26 from rfl, rset21, rtail_frm c h1 h2 h3]; rfl)
def RChangesPost (B n : Nat) (P : Nat → Prop) (c : CoreD) (lv sv : Value) (w : World) (e : Ending) (w' : World) : Prop :=
  e = .returned (.agg #[.bool (changesD c).2.1, .int .i64 (changesD c).2.2.1, .bool (changesD c).2.2.2]) ∧ RefAt w' B n (changesD c).1 P lv sv ∧ Keeps [n] w w'

set_option maxRecDepth 100000 in
set_option maxHeartbeats 3200000 in
theorem rchanges_any (w : World) (B n : Nat) (c : CoreD) (P : Nat → Prop) (lv sv : Value) (h : RefAt w B n c P lv sv) : Calls Try.prog 44 #[.pointer (some ⟨n, 0, none⟩)] w (RChangesPost B n P c lv sv w) := by
  have h15 : w.cell? ⟨n, 15, none⟩ = some (.int .i64 c.base) := h.blk.cell 15
  have tg := rtail_get c h.ok.votes h.ok.next h.ok.matc
  have h45 : w.cell? ⟨n, 45, none⟩ = some (.bool c.hard) := (h.blk.cell (21 + 24)).trans ((rget21 _ _ _ 24).trans tg.1)
  have h46 : w.cell? ⟨n, 46, none⟩ = some (.bool c.tsnap) := (h.blk.cell (21 + 25)).trans ((rget21 _ _ _ 25).trans tg.2.1)
  have h47 : w.cell? ⟨n, 47, none⟩ = some (.int .i64 c.frm) := (h.blk.cell (21 + 26)).trans ((rget21 _ _ _ 26).trans tg.2.2)
  have fz : ∀ j, w.frozen? ⟨n, j, none⟩ = false := fun j => h.blk.free j
  have hlt := h.blk.lt
  have hnz : n ≠ w.heap.size := by omega
  have hnz1 : n ≠ w.heap.size + 1 := by omega
  have hbs := h.ok.base
  have hcm := h.ok.commit
  have hls := h.ok.last
  have hfr := h.ok.frm
  have b0 : 0 ≤ c.base := hbs.1
  have b1 : c.base ≤ 2199023255552 := by omega
  have wr1 : IntKind.i64.wrap (c.base + 1) = c.base + 1 := IntWalk.i64_in _ (by omega)
  have HF : Hid (∀ wx, Keeps [] w wx → RefAt (((wx.setCell ⟨n, 45, none⟩ (.bool false)).setCell ⟨n, 47, none⟩ (.int .i64 0)).setCell ⟨n, 46, none⟩ (.bool false)) B n (changesD c).1 P lv sv ∧ Keeps [n] w (((wx.setCell ⟨n, 45, none⟩ (.bool false)).setCell ⟨n, 47, none⟩ (.int .i64 0)).setCell ⟨n, 46, none⟩ (.bool false))) := fun wx k0 => by
    have k1 : Keeps [n] wx (((wx.setCell ⟨n, 45, none⟩ (.bool false)).setCell ⟨n, 47, none⟩ (.int .i64 0)).setCell ⟨n, 46, none⟩ (.bool false)) := by exact Keeps.K
    have r0 := h.k k0
    have c1 := r0.blk.hard h.ok.votes h.ok.next h.ok.matc false
    have c2 := c1.least h.ok.votes h.ok.next h.ok.matc 0
    have c3 := c2.tsnap h.ok.votes h.ok.next h.ok.matc false
    exact ⟨r0.wrote k1 c3 rfl rfl (changesD_ok h.ok), (k0.mono (G := [n]) (fun _ _ h => by cases h)).trans k1 (fun _ _ h => h)⟩
  by_cases hf : 0 < c.frm
  · obtain ⟨F, hF⟩ : ∃ F, max c.frm (c.base + 1) = F := ⟨_, rfl⟩
    have HR : Hid ((changesD c).2.2.1 = F) := by show _ = _; unfold changesD; simp only []; rw [if_pos hf, hF]
    have HFF := hid hF
    clear h tg hbs hcm hls hfr hF
    go_enter Try.func44, Try.ntmps44
    go_wp2_with fail
    refine Plan.wp_region_plan (fun wx => wx.cell? ⟨n, 45, none⟩ = some (.bool c.hard) ∧ wx.cell? ⟨n, 46, none⟩ = some (.bool c.tsnap) ∧ wx.cell? ⟨n, 47, none⟩ = some (.int .i64 c.frm)) 15 [(true, 0), (true, 1), (true, 2), (true, 3), (true, 4), (true, 5), (true, 6), (true, 7), (true, 8), (true, 9), (true, 10), (true, 11), (true, 12), (false, 13), (false, 14)] (by kernel_rfl) (by as_aux_lemma => kernel_rfl) (by kernel_rfl) (fun _ _ _ _ _ h => h) ?_ (fun hS => ?_)
    (· go_simp)
    simp only [Plan.pick, List.append_eq, List.cons_append, List.nil_append, Plan.g1, Plan.g2, Option.getD_some, List.drop_succ_cons, List.drop_zero]
    iterate 13 (first | refine Plan.tA ?_ | refine Plan.tY ?_ | refine Plan.pN ?_ | refine Plan.pU ?_ | fail)
    refine Plan.step ?_
    go_wp2_with fail
    refine ⟨?_, ?_⟩
    (· go_simp)
    refine Plan.step ?_
    go_wp2_with fail
    refine ⟨?_, ?_⟩
    (· go_simp)
    refine Plan.fin ?_
    go_wp2_with fail
    refine Plan.wp_region_plan (fun wx => wx.cell? ⟨w.heap.size + 1, 1, none⟩ = some (.int .i64 c.frm) ∧ wx.cell? ⟨n, 15, none⟩ = some (.int .i64 c.base)) 7 [(true, 0), (true, 1), (true, 2), (true, 3), (true, 4), (true, 5), (true, 6)] (by kernel_rfl) (by as_aux_lemma => kernel_rfl) (by kernel_rfl) (fun _ _ _ _ _ h => h) ?_ (fun hS => ?_)
    (· go_simp)
    simp only [Plan.pick, List.append_eq, List.cons_append, List.nil_append, Plan.g1, Plan.g2, Option.getD_some, List.drop_succ_cons, List.drop_zero]
    iterate 7 (first | refine Plan.tA ?_ | refine Plan.tY ?_ | refine Plan.pN ?_ | refine Plan.pU ?_ | fail)
    refine Plan.fin ?_
    go_wp2_with fail
    all_goals
      refine bodyPost_ret (v := .agg #[.bool c.hard, .int .i64 F, .bool c.tsnap]) ?_ rfl ?_
      (· have := HFF.out
         first
           | (rw [show F = c.base + 1 by omega]; simp [results, Try.results44, go_sem])
           | (rw [show F = c.frm by omega]; simp [results, Try.results44, go_sem]))
      refine ⟨?_, (HF.out w (Keeps.refl [] w)).1.k (by exact Keeps.K), (HF.out w (Keeps.refl [] w)).2.trans (G := []) (by exact Keeps.K) (fun _ _ h => by cases h)⟩
      rw [HR.out]
      rfl
  · have hfz : c.frm ≤ 0 := by omega
    have HR : Hid ((changesD c).2.2.1 = c.frm) := by show _ = _; unfold changesD; simp only []; rw [if_neg hf]
    clear h tg hbs hcm hls hfr hf
    go_enter Try.func44, Try.ntmps44
    go_wp2_with fail
    refine Plan.wp_region_plan (fun wx => wx.cell? ⟨n, 45, none⟩ = some (.bool c.hard) ∧ wx.cell? ⟨n, 46, none⟩ = some (.bool c.tsnap) ∧ wx.cell? ⟨n, 47, none⟩ = some (.int .i64 c.frm)) 15 [(true, 0), (true, 1), (true, 2), (true, 3), (true, 4), (true, 5), (true, 6), (true, 7), (true, 8), (true, 9), (true, 10), (true, 11), (true, 12), (false, 13), (false, 14)] (by kernel_rfl) (by as_aux_lemma => kernel_rfl) (by kernel_rfl) (fun _ _ _ _ _ h => h) ?_ (fun hS => ?_)
    (· go_simp)
    simp only [Plan.pick, List.append_eq, List.cons_append, List.nil_append, Plan.g1, Plan.g2, Option.getD_some, List.drop_succ_cons, List.drop_zero]
    iterate 13 (first | refine Plan.tA ?_ | refine Plan.tY ?_ | refine Plan.pN ?_ | refine Plan.pU ?_ | fail)
    refine Plan.step ?_
    go_wp2_with fail
    refine ⟨?_, ?_⟩
    (· go_simp)
    refine Plan.step ?_
    go_wp2_with fail
    refine ⟨?_, ?_⟩
    (· go_simp)
    refine Plan.fin ?_
    go_wp2_with fail
    refine bodyPost_ret (v := .agg #[.bool c.hard, .int .i64 c.frm, .bool c.tsnap]) (by simp [results, Try.results44, go_sem]) rfl ?_
    refine ⟨?_, (HF.out w (Keeps.refl [] w)).1.k (by exact Keeps.K), (HF.out w (Keeps.refl [] w)).2.trans (G := []) (by exact Keeps.K) (fun _ _ h => by cases h)⟩
    rw [HR.out]
    rfl

end Go.Proofs.Ytpppoajnbhipeaa

/- CorePlays: the core's Compact. -/
namespace Go.Proofs.Ytpppoajnbhipeaa
open Go Go.RowKit

def CompPost (B n : Nat) (lv : Value) (r : CoreD × Int) (w : World) (e : Ending) (w' : World) : Prop :=
  e = .returned (.int .i64 r.2) ∧ ∃ lv' sv', CoreAt w' B n r.1 lv' sv' ∧ Keeps (n :: ownB lv) w w' ∧ ∀ b ∈ ownB lv', b ∈ ownB lv ∨ w.heap.size ≤ b

set_option maxRecDepth 100000 in
set_option maxHeartbeats 3200000 in
theorem compact_any (w : World) (B n : Nat) (c : CoreD) (lv sv : Value) (i : Int) (data : List UInt8) (da : Option Addr) (dc : Nat) (P : Nat → Prop) (h : CoreAt w B n c lv sv) (hd : BytesAt w P (.slice da data.length dc) data) (hdl : data.length ≤ 1000000) (hPn : ∀ b, P b → b ≠ n) :
    Calls Try.prog 71 #[.pointer (some ⟨n, 0, none⟩), .int .i64 i, .slice da data.length dc] w (CompPost B n lv (compactD c i data) w) := by
  have h14 : w.cell? ⟨n, 14, none⟩ = some (.int .i64 c.commit) := h.blk.cell 14
  have h15 : w.cell? ⟨n, 15, none⟩ = some (.int .i64 c.base) := h.blk.cell 15
  have hlt := h.blk.lt
  have hcm := h.ok.commit
  have H := hid h
  by_cases hno : i ≤ c.base ∨ c.commit < i
  · rw [compactD_no hno]
    have hcs : decide (i ≤ c.base) = true ∨ (decide (i ≤ c.base) = false ∧ decide (c.commit < i) = true) := by
      by_cases e : i ≤ c.base
      · exact .inl (by simpa using e)
      · exact .inr ⟨by simpa using e, by simp; omega⟩
    clear h hno
    rcases hcs with hd1 | ⟨hd1, hd2⟩
    all_goals
      go_enter Try.func71, Try.ntmps71
      go_wp2_with fail
      go_ret
      exact ⟨rfl, lv, sv, H.out, Keeps.refl _ _, fun _ h => .inl h⟩
  · have hd1 : decide (i ≤ c.base) = false := by simp; omega
    have hd2 : decide (c.commit < i) = false := by simp; omega
    obtain ⟨T, hT, hTb⟩ := atD_in (i := i) h.ok ⟨by omega, by unfold lastD; omega⟩
    have HOK : Hid (CoreOk (standsD c i data)) := standsC_ok h.ok ⟨by omega, by omega⟩ (by rw [hT]; exact hTb) hdl
    have HDF : Hid (compactD c i data = (standsD c i data, 0)) := by show _ = _; unfold compactD; rw [if_neg hno]
    have HC := hid (stands_any w B n c lv sv i data da dc P h ⟨by omega, by unfold lastD; omega⟩ hd hdl hPn)
    clear h hno hT hTb hd
    go_enter Try.func71, Try.ntmps71
    go_wp2_with fail
    refine HC.out.mono ?_
    rintro e w2 ⟨lv', sv', rfl, hr, hk, hv⟩
    have HP : Hid (CoreAt w2 B n (standsD c i data) lv' sv' ∧ Keeps [n] w w2 ∧ ∀ b ∈ ownB lv', w.heap.size ≤ b) := ⟨hr.at_ HOK.out, hk, hv⟩
    clear hr hk hv
    go_wp2_with fail
    go_ret
    rw [HDF.out]
    exact ⟨rfl, lv', sv', HP.out.1, HP.out.2.1.mono (fun b _ hb => by simp at hb; simp [hb]), fun b hb => .inr (HP.out.2.2 b hb)⟩

end Go.Proofs.Ytpppoajnbhipeaa

/- New of the document's core, the good way; both, whole. (Printed by gen_new.py.) -/
namespace Go.Proofs.Ytpppoajnbhipeaa
open Go Go.RowKit

def RNewYes (cf : ConfD) (id term vote base baseTerm : Int) (l : List Ent) (P : Nat → Prop) (w : World) (e : Ending) (w' : World) : Prop :=
  ∃ n lv sv, e = .returned (.tuple #[.pointer (some ⟨n, 0, none⟩), .int .i64 0]) ∧ RefAt w' w.heap.size n (newD cf id term vote base baseTerm l) (fun b => (P b ∧ b < w.heap.size) ∨ (w.heap.size ≤ b ∧ b ≠ n)) lv sv ∧ Keeps [] w w'
def RNewPost (cf : ConfD) (id term vote base baseTerm : Int) (l : List Ent) (P : Nat → Prop) (w : World) (e : Ending) (w' : World) : Prop :=
  (mayNewD cf id term vote base baseTerm l = true ∧ RNewYes cf id term vote base baseTerm l P w e w') ∨ (mayNewD cf id term vote base baseTerm l = false ∧ NewNo w e w')

set_option maxRecDepth 100000 in
set_option maxHeartbeats 3200000 in
theorem rNew_body (cf : ConfD) (id term vote base baseTerm : Int) (l : List Ent) (a : Option Addr) (cap : Nat) (P : Nat → Prop) (w : World) (hl : ListAt entL w P (.slice a l.length cap) l) (hd : ∀ e ∈ l, e.data.length ≤ 1000000) (h : headD cf id term vote base baseTerm l.length = true) :
    Calls Try.prog 15 #[confV cf, .int .i64 id, .int .i64 term, .int .i64 vote, .int .i64 base, .int .i64 baseTerm, .slice a l.length cap] w (RNewPost cf id term vote base baseTerm l P w) := by
  obtain ⟨it, hi0, hz0, hz1, hz2⟩ := info_parts Try.infoEnt
  have HH := hid h
  have HLA : Hid (ListAt entL w (fun b => P b ∧ b < w.heap.size) (.slice a l.length cap) l) := hl.mono (fun b h1 h2 => ⟨h2, h1⟩)
  have HDA := hid hd
  simp only [headD, Bool.and_eq_true, decide_eq_true_eq] at h
  obtain ⟨⟨⟨⟨⟨⟨h0, h1⟩, h2⟩, h3⟩, h4⟩, h5⟩, h6⟩ := h
  have hm := (ConfD.may_iff cf).1 h0
  have F0 := hid h0
  have F1 := hid h1
  have F2 := hid h2
  have F5 := hid h3
  have F3 := hid h4
  have F4 := hid h5
  have hl5 : (l.length : Int) ≤ 5096 := by omega
  simp only [inD, Bool.and_eq_true, decide_eq_true_eq] at h1 h4
  have b1 : 1 ≤ id := h1.1
  have b2 : id ≤ 7 := by omega
  have b3 : 1 ≤ cf.heart := hm.2.2.1.1
  have b4 : cf.heart ≤ 100 := hm.2.2.1.2
  have p1 : 0 ≤ (id - 1) * (cf.heart + 6) := Int.mul_nonneg (by omega) (by omega)
  have p2 : (id - 1) * (cf.heart + 6) ≤ 6 * 106 := Int.mul_le_mul (by omega) (by omega) (by omega) (by omega)
  have HB : Hid (∀ (w1 : World) d lv, d = min ((id - 1) * (cf.heart + 6)) cf.range → ∃ cs, cs = #[.int .i64 cf.nodes, .int .i64 cf.clients, .int .i64 cf.heart, .int .i64 cf.lo, .int .i64 cf.range, .int .i64 cf.sessions, .int .i64 cf.snap, .int .i64 cf.room, .int .i64 cf.retry, .int .i64 id, .int .i64 term, .int .i64 vote, .int .i64 0, .int .i64 0, .int .i64 base, .int .i64 base, .int .i64 baseTerm, .slice none 0 0, lv, .int .i64 0, .int .i64 d,
      .bool false, .bool false, .bool false, .bool false, .bool false, .bool false, .bool false, .bool false, .int .i64 0, .int .i64 0, .int .i64 0, .int .i64 0, .int .i64 0, .int .i64 0, .int .i64 0, .int .i64 0, .int .i64 0, .int .i64 0, .int .i64 0, .int .i64 0, .int .i64 0, .int .i64 0, .int .i64 0, .int .i64 0, .bool false, .bool false, .int .i64 0] ∧
      RefBlk (w1.alloc (.cells cs 92)) w1.heap.size (newD cf id term vote base baseTerm l) lv (.slice none 0 0)) := fun w1 d lv hd => by
    refine ⟨_, rfl, ?_⟩
    subst hd
    exact heap_alloc_new _ _
  clear hl hd h0 h1 h2 h3 h4 h5 h6 hm
  rcases (show (id - 1) * (cf.heart + 6) ≤ cf.range ∨ cf.range < (id - 1) * (cf.heart + 6) by omega) with hmin | hmin
  all_goals
    unfold confV
    go_enter Try.func15, Try.ntmps15
    go_wp2_with fail
    refine (rMay_is true cf _ F0.out).mono ?_
    rintro e w1 ⟨rfl, k1⟩
    have K1 : Hid (Keeps [] w w1) := (((Keeps.refl [] w).alloc _).trans k1 (fun _ _ h => h))
    obtain ⟨⟨c0, c1, c2, c3, c4, c5, c6, c7, c8⟩, f1⟩ := blk9 ((k1.block w.heap.size (by simp) (by simp)).trans (heap_alloc_new w _))
    clear k1
    go_wp2_with fail
    refine (rin_is true _ _ _ _ F1.out).mono ?_
    rintro e w' ⟨rfl, hw'⟩
    subst hw'
    go_wp2_with fail
    refine (rin_is true _ _ _ _ F2.out).mono ?_
    rintro e w' ⟨rfl, hw'⟩
    subst hw'
    go_wp2_with fail
    refine (rin_is true _ _ _ _ F3.out).mono ?_
    rintro e w' ⟨rfl, hw'⟩
    subst hw'
    go_wp2_with fail
    refine (rin_is true _ _ _ _ F4.out).mono ?_
    rintro e w' ⟨rfl, hw'⟩
    subst hw'
    go_wp2_with fail
    refine (rin_is true _ _ _ _ F5.out).mono ?_
    rintro e w' ⟨rfl, hw'⟩
    subst hw'
    have hlen : (l.length : Int) ≤ 5096 := hl5
    go_wp2_with fail
    go_loopw [16] (fun i wr => ∃ k : Nat, k ≤ l.length ∧ i = .int .i64 k ∧ wr = w' ∧ Hid (∀ e ∈ l.take k, inD e.term 1 1099511627776 = true)) (fun i _ => l.length - (intOf i).toNat)
    case atStart => exact ⟨0, Nat.zero_le _, rfl, rfl, by show ∀ _, _; simp⟩
    case round =>
      obtain ⟨k, hk, rfl, rfl, HAL⟩ := hrel
      by_cases hlt : k < l.length
      · have i0 : (0 : Int) ≤ (k : Int) := Int.natCast_nonneg _
        have i1 : (k : Int) < (l.length : Int) := by omega
        obtain ⟨e, he⟩ : ∃ e, l[k]? = some e := ⟨l[k], List.getElem?_eq_getElem hlt⟩
        obtain ⟨g, off, cg, av, cv, ha, _, _, y0, _⟩ := (HLA.out.k K1.out).ent he
        simp at ha
        obtain ⟨ha, hcc⟩ := ha
        subst ha
        subst hcc
        have HE := hid he
        clear he
        rcases hq : inD e.term 1 1099511627776 with _ | _
        · have HF : Hid (mayNewD cf id term vote base baseTerm l = false) := by
            show _ = _
            rw [mayNew_head, HH.out]
            simp only [Bool.true_and, List.all_eq_false]
            exact ⟨e, List.mem_of_getElem? HE.out, by simp [hq]⟩
          have HQ := hid hq
          clear hq
          go_wp2_with fail
          refine (rin_is false _ _ _ _ HQ.out).mono ?_
          rintro z w3 ⟨rfl, hw3⟩
          subst hw3
          go_wp2_with fail
          go_ret2
          exact .inr ⟨HF.out, rfl, K1.out⟩
        · have HQ := hid hq
          clear hq
          have HA2 : Hid (∀ e ∈ l.take (k + 1), inD e.term 1 1099511627776 = true) := by
            show ∀ _, _
            rw [List.take_add_one, HE.out]
            intro x hx
            rcases List.mem_append.1 hx with hx | hx
            · exact HAL.out x hx
            · simp at hx; subst hx; exact HQ.out
          go_wp2_with fail
          refine (rin_is true _ _ _ _ HQ.out).mono ?_
          rintro z w3 ⟨rfl, hw3⟩
          subst hw3
          go_wp2_with fail
          go_roundw
          case rel => exact ⟨k + 1, by omega, by go_num, by first | rfl | trivial, HA2.out⟩
          case measure => simp [intOf]; omega
      · have hkl : k = l.length := by omega
        have HT : Hid (mayNewD cf id term vote base baseTerm l = true) := by
          have := HAL.out
          rw [hkl, List.take_length] at this
          exact mayNew_take HH.out (Nat.le_refl _) this
        have i1 : (l.length : Int) ≤ (k : Int) := by omega
        clear hkl
        obtain ⟨css, hel, hrd, _⟩ := HLA.out.k K1.out
        have HEL := hid hel
        have HRD := hid hrd
        clear hel hrd
        have q1 : IntKind.i64.wrap (id - 1) = id - 1 := IntWalk.i64_in _ (by omega)
        have q2 : IntKind.i64.wrap (cf.heart + 6) = cf.heart + 6 := IntWalk.i64_in _ (by omega)
        have q3 : IntKind.i64.wrap ((id - 1) * (cf.heart + 6)) = (id - 1) * (cf.heart + 6) := IntWalk.i64_in _ (by omega)
        go_wp2_with fail
        refine Plan.wp_region_plan (fun wx => wx.cell? ⟨w.heap.size, 0, none⟩ = some (.int .i64 cf.nodes) ∧ wx.cell? ⟨w.heap.size, 1, none⟩ = some (.int .i64 cf.clients) ∧ wx.cell? ⟨w.heap.size, 2, none⟩ = some (.int .i64 cf.heart) ∧ wx.cell? ⟨w.heap.size, 3, none⟩ = some (.int .i64 cf.lo) ∧ wx.cell? ⟨w.heap.size, 4, none⟩ = some (.int .i64 cf.range) ∧ wx.cell? ⟨w.heap.size, 5, none⟩ = some (.int .i64 cf.sessions) ∧ wx.cell? ⟨w.heap.size, 6, none⟩ = some (.int .i64 cf.snap) ∧ wx.cell? ⟨w.heap.size, 7, none⟩ = some (.int .i64 cf.room) ∧ wx.cell? ⟨w.heap.size, 8, none⟩ = some (.int .i64 cf.retry)) 18 [(true, 0), (true, 1), (true, 2), (true, 3), (true, 4), (true, 5), (true, 6), (true, 7), (true, 8), (true, 9), (true, 10), (true, 11), (true, 12), (true, 13), (true, 14), (true, 15), (true, 16), (false, 17)] (by kernel_rfl) (by as_aux_lemma => kernel_rfl) (by kernel_rfl) (fun _ _ _ _ _ h => h) ?_ (fun hS => ?_)
        (· exact ⟨c0, c1, c2, c3, c4, c5, c6, c7, c8⟩)
        simp only [Plan.pick, List.append_eq, List.cons_append, List.nil_append, Plan.g1, Plan.g2, Option.getD_some, List.drop_succ_cons, List.drop_zero]
        repeat (first | (refine Plan.take (v := ?_) (a' := ?_) (by rfl) ?_ ?_ ?_; rotate_left 2; (· (intro w' hS'; (try dsimp only at hS'); go_simp; try with_reducible rfl)); (· (simp only [Act.put, List.setIfInBounds_toArray, List.set_cons_zero, List.set_cons_succ]; try with_reducible rfl))) | (refine Plan.pass (a' := ?_) (by rfl) ?_ ?_; rotate_left 1; (· (simp only [Act.put, List.setIfInBounds_toArray, List.set_cons_zero, List.set_cons_succ]; try with_reducible rfl))))
        refine Plan.step ?_
        go_wp2_with (at_builtin; go_must (refine wpList_append_copy _ rfl (.tmp 83) 35 rfl 59 it _ 3 40 Try.underlying35 hi0 hz0 hz1 hz2 rfl (by decide) (.slice a l.length cap) l.length css.flatten rfl (by exact HRD.out) HEL.out.one (by omega) (le_maxLen (by omega)) ?_; intro v' wz g1 g2; obtain ⟨qa, qc, hv⟩ := len_form g1; subst hv; have HO := hid g1; have HK := hid ((Keeps.refl [] wr).grown g2 rfl rfl rfl rfl (fun _ h => by cases h)); clear g1 g2))
        have d0 := HK.out.cellSome c0 (by simp)
        have d1 := HK.out.cellSome c1 (by simp)
        have d2 := HK.out.cellSome c2 (by simp)
        have d3 := HK.out.cellSome c3 (by simp)
        have d4 := HK.out.cellSome c4 (by simp)
        have d5 := HK.out.cellSome c5 (by simp)
        have d6 := HK.out.cellSome c6 (by simp)
        have d7 := HK.out.cellSome c7 (by simp)
        have d8 := HK.out.cellSome c8 (by simp)
        refine ⟨⟨d0, d1, d2, d3, d4, d5, d6, d7, d8⟩, ?_⟩
        refine Plan.fin ?_
        clear q1 q2 q3
        go_wp2_with fail
        go_ret2
        have KW : Keeps [] w wz := K1.out.trans HK.out (fun _ _ h => h)
        have hwz : w.heap.size ≤ wz.heap.size := KW.size
        obtain ⟨cs, hcs, hC⟩ := HB.out wz _ (.slice qa l.length qc) rfl
        have hlog : ∀ o, ListAt entL (wz.alloc o) (fun b => (P b ∧ b < w.heap.size) ∨ (w.heap.size ≤ b ∧ b ≠ wz.heap.size)) (.slice qa l.length qc) l := fun o =>
          ((ListAt.copied HEL.out rfl HO.out (Nat.le_refl _) HK.out).mono (fun b h1 h2 => h2.imp (fun h => h) (fun h3 => ⟨Nat.le_trans K1.out.size h3, by omega⟩))).k ((Keeps.refl [] _).alloc _)
        have hok : CoreOk (newD cf id term vote base baseTerm l) := newD_ok HT.out HDA.out
        rw [hcs] at hC
        first
          | (rw [show min ((id - 1) * (cf.heart + 6)) cf.range = (id - 1) * (cf.heart + 6) by omega] at hC; exact .inl ⟨HT.out, wz.heap.size, .slice qa l.length qc, .slice none 0 0, rfl, { blk := hC, log := hlog _, snap := BytesAt.nil _ _ _ _, apart := by simp; omega, base := hwz, ok := hok }, KW.alloc _⟩)
          | (rw [show min ((id - 1) * (cf.heart + 6)) cf.range = cf.range by omega] at hC; exact .inl ⟨HT.out, wz.heap.size, .slice qa l.length qc, .slice none 0 0, rfl, { blk := hC, log := hlog _, snap := BytesAt.nil _ _ _ _, apart := by simp; omega, base := hwz, ok := hok }, KW.alloc _⟩)

theorem cNew_any (cf : ConfD) (id term vote base baseTerm : Int) (l : List Ent) (a : Option Addr) (cap : Nat) (P : Nat → Prop) (w : World) (hl : ListAt entL w P (.slice a l.length cap) l) (hd : ∀ e ∈ l, e.data.length ≤ 1000000) :
    Calls Try.prog 14 #[confV cf, .int .i64 id, .int .i64 term, .int .i64 vote, .int .i64 base, .int .i64 baseTerm, .slice a l.length cap] w (NewPost cf id term vote base baseTerm l w) := by
  rcases h : headD cf id term vote base baseTerm l.length with _ | _
  · exact (cNew_head cf id term vote base baseTerm l a cap w h).mono fun e w' hx => .inr ⟨by rw [mayNew_head, h]; rfl, hx⟩
  · exact cNew_body cf id term vote base baseTerm l a cap P w hl hd h
theorem rNew_any (cf : ConfD) (id term vote base baseTerm : Int) (l : List Ent) (a : Option Addr) (cap : Nat) (P : Nat → Prop) (w : World) (hl : ListAt entL w P (.slice a l.length cap) l) (hd : ∀ e ∈ l, e.data.length ≤ 1000000) :
    Calls Try.prog 15 #[confV cf, .int .i64 id, .int .i64 term, .int .i64 vote, .int .i64 base, .int .i64 baseTerm, .slice a l.length cap] w (RNewPost cf id term vote base baseTerm l P w) := by
  rcases h : headD cf id term vote base baseTerm l.length with _ | _
  · exact (rNew_head cf id term vote base baseTerm l a cap w h).mono fun e w' hx => .inr ⟨by rw [mayNew_head, h]; rfl, hx⟩
  · exact rNew_body cf id term vote base baseTerm l a cap P w hl hd h

end Go.Proofs.Ytpppoajnbhipeaa

/- Bytes made a text. No program is named here. -/
namespace Go.Proofs.Ytpppoajnbhipeaa
open Go Go.RowKit

/-- Bytes as a text. -/
def str (l : List UInt8) : ByteArray := ⟨l.toArray⟩
@[simp] theorem str_toList (l : List UInt8) : (str l).toList = l := ByteArray.toList_mk l
theorem foldl_push (l : List UInt8) : ∀ s : ByteArray, (l.map fun b => (b.toNat : Int)).foldl (fun r n => r.push (UInt8.ofNat n.toNat)) s = ⟨(s.data.toList ++ l).toArray⟩ := by
  induction l with
  | nil => intro s; simp
  | cons b l ih =>
    intro s
    simp only [List.map_cons, List.foldl_cons]
    rw [ih]
    simp [ByteArray.push]

theorem run_convert_str {P : Program} (w : World) (src dst e : TypeId) (v : Value) (bs : List UInt8) (hs : P.underlying src = some (.slice e)) (he : P.underlying e = some (.int .u8)) (hd : P.underlying dst = some .string)
    (hr : Reads w 1 v bs.length (u8s bs)) : (convert src dst v).run P w = .ok (.string (str bs)) w := by
  obtain ⟨hl, ⟨h0, a, c, rfl⟩ | ⟨hp, b, off, c, rfl, hnc, hc, hb, hx⟩⟩ := hr
  · obtain rfl : bs = [] := List.eq_nil_of_length_eq_zero h0
    rw [run_convert_bytes_string w src dst e a 0 c hs he hd]
    cases a with
    | none => rfl
    | some a =>
      rw [run_bytesToString w a 0 c [] (by simp [loadCells, loadCellsFrom])]
      rfl
  · rw [run_convert_bytes_string w src dst e _ _ c hs he hd]
    have hld : (loadCells ⟨b, off, none⟩ bs.length).run P w = .ok ((bs.map fun b => (b.toNat : Int)).map (Value.int .u8)).toArray w := by
      have := run_loadCells_list (P := P) w ⟨b, off, none⟩ (u8s bs) (fun j u hu => by rw [addr_add]; exact hx j u hu)
      rw [u8s_length] at this
      rw [this]
      simp [u8s, Function.comp_def]
    rw [run_bytesToString w _ _ c _ hld, foldl_push]
    rfl

end Go.Proofs.Ytpppoajnbhipeaa
