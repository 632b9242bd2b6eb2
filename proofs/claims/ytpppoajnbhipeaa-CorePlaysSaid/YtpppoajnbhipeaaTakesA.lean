/- stands: the base becomes an index of the log. -/
import Derived.Test.YtpppoajnbhipeaaSendA
namespace Go.Proofs.Ytpppoajnbhipeaa
open Go Go.RowKit

/-- A core whose numbers may be between two stores. -/
structure CoreRaw (w : World) (B n : Nat) (c : CoreD) (lv sv : Value) : Prop where
  blk : CoreBlk w n c lv sv
  own : OwnAt entL 59 w B (fun b => Off n lv b ∧ ¬ c.ban b) lv c.l
  snap : BytesAt w (fun b => Off n lv b ∧ ¬ c.ban b) sv c.snap
  apart : n ∉ ownB lv
  base : B ≤ n
  old : ∀ b, c.ban b → b < w.heap.size
  free : ¬ c.ban n ∧ ∀ b ∈ ownB lv, ¬ c.ban b

theorem CoreAt.raw {w : World} {B n : Nat} {c : CoreD} {lv sv : Value} (h : CoreAt w B n c lv sv) : CoreRaw w B n c lv sv := ⟨h.blk, h.own, h.snap, h.apart, h.base, h.old, h.free⟩
theorem CoreRaw.at_ {w : World} {B n : Nat} {c : CoreD} {lv sv : Value} (h : CoreRaw w B n c lv sv) (ok : CoreOk c) : CoreAt w B n c lv sv := ⟨h.blk, h.own, h.snap, h.apart, h.base, h.old, h.free, ok⟩
theorem CoreRaw.wrote {w w' : World} {B n : Nat} {c c' : CoreD} {lv sv : Value} (h : CoreRaw w B n c lv sv) (k : Keeps [n] w w') (hb : CoreBlk w' n c' lv sv) (hl : c'.l = c.l) (hs : c'.snap = c.snap) (hban : c'.ban = c.ban := by rfl) : CoreRaw w' B n c' lv sv :=
  { blk := hb, own := by rw [hl, hban]; exact h.own.keep k (fun b h1 h2 => by simp at h2; rw [h2] at h1; exact h.apart h1) (fun b h1 h2 => by simp at h2; exact h1.1.1 h2),
    snap := by rw [hs, hban]; exact h.snap.keep k (fun b h1 h2 => by simp at h2; exact h1.1.1 h2), apart := h.apart, base := h.base, old := fun b h1 => by rw [hban] at h1; exact Nat.lt_of_lt_of_le (h.old b h1) k.size, free := by rw [hban]; exact h.free }
/-- A new log, a new snapshot. -/
theorem CoreAt.relaid {w w' : World} {B n : Nat} {c c' : CoreD} {lv sv lv' sv' : Value} (h : CoreAt w B n c lv sv) (hz : w.heap.size ≤ w'.heap.size) (hb : CoreBlk w' n c' lv' sv') (ho : OwnAt entL 59 w' B (fun b => (b ≠ n ∧ ¬ c.ban b) ∧ b ∉ ownB lv') lv' c'.l) (hs : BytesAt w' (fun b => (b ≠ n ∧ ¬ c.ban b) ∧ b ∉ ownB lv') sv' c'.snap) (hv : ∀ b ∈ ownB lv', w.heap.size ≤ b) (hban : c'.ban = c.ban := by rfl) : CoreRaw w' B n c' lv' sv' :=
  { blk := hb, own := by rw [hban]; exact ho.mono (fun b _ hb => ⟨⟨hb.1.1, hb.2⟩, hb.1.2⟩), snap := by rw [hban]; exact hs.mono (fun b _ hb => ⟨⟨hb.1.1, hb.2⟩, hb.1.2⟩),
    apart := fun hb => by have := hv n hb; have := h.blk.lt; omega
    base := h.base, old := fun b hb => by rw [hban] at hb; exact Nat.lt_of_lt_of_le (h.old b hb) hz
    free := by rw [hban]; exact ⟨h.free.1, fun b hb hb' => by have := hv b hb; have := h.old b hb'; omega⟩ }

def StandsPost (B n : Nat) (c' : CoreD) (lv : Value) (w : World) (x : Ending) (w' : World) : Prop :=
  ∃ lv' sv', x = .returned (.tuple #[]) ∧ CoreRaw w' B n c' lv' sv' ∧ Keeps [n] w w' ∧ ∀ b ∈ ownB lv', w.heap.size ≤ b

set_option maxRecDepth 100000 in
set_option maxHeartbeats 3200000 in
theorem stands_any (w : World) (B n : Nat) (c : CoreD) (lv sv : Value) (i : Int) (data : List UInt8) (da : Option Addr) (dc : Nat) (P : Nat → Prop) (h : CoreAt w B n c lv sv) (hi : c.base < i ∧ i ≤ lastD c) (hd : BytesAt w P (.slice da data.length dc) data) (hdl : data.length ≤ 1000000) (hPn : ∀ b, P b → b ≠ n) :
    Calls Try.prog 75 #[.pointer (some ⟨n, 0, none⟩), .int .i64 i, .slice da data.length dc] w (StandsPost B n (standsD c i data) lv w) := by
  obtain ⟨it, hi0, hz0, hz1, hz2⟩ := info_parts Try.infoEnt
  have hbd := lastD_bd h
  have hcb := h.ok.base.1
  obtain ⟨d, hdd⟩ : ∃ d : Nat, i = c.base + d := ⟨(i - c.base).toNat, by omega⟩
  have hdl1 : 1 ≤ d ∧ d ≤ c.l.length := by unfold lastD at hi; omega
  obtain ⟨e0, he0⟩ : ∃ e, c.l[0]? = some e := ⟨c.l[0]'(by omega), List.getElem?_eq_getElem _⟩
  obtain ⟨g, cap, v0, hf, hcl, hcm, ec, _⟩ := h.own.ent he0
  obtain ⟨T, okT, hT⟩ : ∃ t o, atD c i = (t, o) := ⟨_, _, rfl⟩
  have HST : Hid (standsD c i data = { c with l := c.l.drop d, base := i, baseTerm := T, snap := data }) := by
    show _ = _
    unfold standsD
    rw [hT, show (i - c.base).toNat = d by omega]
  have HT := hid hT
  have h15 : w.cell? ⟨n, 15, none⟩ = some (.int .i64 c.base) := h.blk.cell 15
  have h16 : w.cell? ⟨n, 16, none⟩ = some (.int .i64 c.baseTerm) := h.blk.cell 16
  have h17 : w.cell? ⟨n, 17, none⟩ = some (.slice (some ⟨g, 0, none⟩) c.l.length cap) := (h.blk.cell 17).trans (by rw [hf]; rfl)
  have h18 : w.cell? ⟨n, 18, none⟩ = some sv := h.blk.cell 18
  have fz : ∀ j, w.frozen? ⟨n, j, none⟩ = false := fun j => h.blk.free j
  have hlt := h.blk.lt
  have H := hid h
  have HF := hid hf
  have HRB : Hid (∀ wx, Keeps [n] w wx → Reads wx 1 (.slice da data.length dc) data.length (u8s data)) := fun wx k => (hd.keep k (fun b hb hb' => hPn b hb (by simpa using hb'))).1
  have hcl5 : c.l.length ≤ 5096 := h.ok.len
  have HLA : Hid (ListAt entL w (fun b => (b ≠ n ∧ ¬ c.ban b) ∧ b < w.heap.size) (.slice (some ⟨g, 0, none⟩) c.l.length cap) c.l) := by
    have h1 := OwnAt.list (P' := fun b => (b ≠ n ∧ ¬ c.ban b) ∧ b < w.heap.size) h.own (fun b h1 h2 => ⟨⟨h2.1.1, h2.2⟩, h1⟩) (fun b hb => ⟨⟨fun e => h.apart (by rw [← e]; exact hb), h.free.2 b hb⟩, (h.own.ge b hb).2⟩)
    rw [hf] at h1
    exact h1
  obtain ⟨d1, d2⟩ := hdl1
  have s0 : (0 : Int) ≤ (d : Int) := Int.natCast_nonneg _
  have s1 : (d : Int) ≤ (c.l.length : Int) := by omega
  have s2 : (d : Int) ≤ (cap : Int) := by omega
  have s3 : d ≤ cap := by omega
  have hc63 : (cap : Int) ≤ 9223372036854775807 := by unfold maxLen at hcm; omega
  have wr1 : IntKind.i64.wrap (i - c.base) = (d : Int) := by rw [IntWalk.i64_in _ (by omega)]; omega
  have ib1 : -4611686018427387904 ≤ i := by omega
  have ib2 : i ≤ 4611686018427387904 := by omega
  have HPC : Hid (∀ m c' a, c.l.length = d + m → m ≤ c' → c' ≤ maxLen → (0 < m → a = some ⟨g, 0 + d * 3, none⟩) → ∃ css, ElemsAt entL w (fun b => (b ≠ n ∧ ¬ c.ban b) ∧ b < w.heap.size) css (c.l.drop d) ∧ Reads w 3 (.slice a m c') m css.flatten ∧ ∀ u ∈ css.flatten, u.oneCell' = true) := fun m c' a h1 h2 h3 h4 => by
    have h5 := HLA.out.piece d m c' a (by omega) h2 h3 h4
    have e : (c.l.drop d).take m = c.l.drop d := List.take_of_length_le (by simp; omega)
    have e2 : (c.l.drop d).length = m := by simp; omega
    rw [e] at h5
    obtain ⟨css, h6, h7, _⟩ := h5
    rw [e2] at h7
    exact ⟨css, h6, h7, h6.one⟩
  have HM : Hid (∃ m, c.l.length = d + m) := ⟨c.l.length - d, by omega⟩
  have hcmx := hcm
  have HFIN : Hid (∀ (wz : World) (m : Nat) (qa : Option Addr) (qc : Nat) (css : List (List Value)), c.l.length = d + m → Keeps [] w wz → ElemsAt entL w (fun b => (b ≠ n ∧ ¬ c.ban b) ∧ b < w.heap.size) css (c.l.drop d) → wz.ownsRow w.heap.size 59 3 (.slice qa m qc) m css.flatten →
      ∃ w4, w4 = wz.setCell ⟨n, 17, none⟩ (.slice qa m qc) ∧ Keeps [n] w w4 ∧ (∀ j, w4.frozen? ⟨n, j, none⟩ = false) ∧ w4.cell? ⟨n, 15, none⟩ = some (.int .i64 c.base) ∧ w4.cell? ⟨n, 16, none⟩ = some (.int .i64 c.baseTerm) ∧ w4.cell? ⟨n, 18, none⟩ = some sv ∧ n < w4.heap.size ∧
        ∀ (w5 : World) (a6 : Option Addr) (q6 : Nat), Keeps [] w4 w5 → BytesAt w5 (fun b => w4.heap.size ≤ b) (.slice a6 data.length q6) data → ∃ w6, w6 = ((w5.setCell ⟨n, 15, none⟩ (.int .i64 i)).setCell ⟨n, 16, none⟩ (.int .i64 T)).setCell ⟨n, 18, none⟩ (.slice a6 data.length q6) ∧ StandsPost B n (standsD c i data) lv w (.returned (.tuple #[])) w6) := fun wz m qa qc css hm k he ho => by
    have hb0 := h.blk.keep k (by simp)
    have hb1 : CoreBlk (wz.setCell ⟨n, 17, none⟩ (.slice qa m qc)) n { c with l := c.l.drop d } (.slice qa m qc) sv := hb0.set 17 _ rfl
    have k1 : Keeps [n] wz (wz.setCell ⟨n, 17, none⟩ (.slice qa m qc)) := (Keeps.refl _ _).setCell (.inl (by simp)) _
    have kw : Keeps [n] w (wz.setCell ⟨n, 17, none⟩ (.slice qa m qc)) := (k.mono (G := [n]) (fun _ _ h => by cases h)).trans k1 (fun _ _ h => h)
    refine ⟨_, rfl, kw, fun j => hb1.free j, hb1.cell 15, hb1.cell 16, hb1.cell 18, hb1.lt, fun w5 a6 q6 k5 hbs => ?_⟩
    have hv : ∀ b ∈ ownB (.slice qa m qc), w.heap.size ≤ b ∧ b < wz.heap.size := fun b hb => ownB_ge ho b hb
    have hnz : n < w.heap.size := h.blk.lt
    have k6 : Keeps [n] w5 (((w5.setCell ⟨n, 15, none⟩ (.int .i64 i)).setCell ⟨n, 16, none⟩ (.int .i64 T)).setCell ⟨n, 18, none⟩ (.slice a6 data.length q6)) := (((Keeps.refl _ _).setCell (.inl (by simp)) _).setCell (.inl (by simp)) _).setCell (.inl (by simp)) _
    have kz5 : Keeps [n] wz w5 := k1.trans k5 (fun b h1 h2 => by cases h2)
    have kz6 : Keeps [n] wz (((w5.setCell ⟨n, 15, none⟩ (.int .i64 i)).setCell ⟨n, 16, none⟩ (.int .i64 T)).setCell ⟨n, 18, none⟩ (.slice a6 data.length q6)) := kz5.trans k6 (fun _ _ h => h)
    have kw6 : Keeps [n] w (((w5.setCell ⟨n, 15, none⟩ (.int .i64 i)).setCell ⟨n, 16, none⟩ (.int .i64 T)).setCell ⟨n, 18, none⟩ (.slice a6 data.length q6)) := (k.mono (G := [n]) (fun _ _ h => by cases h)).trans kz6 (fun _ _ h => h)
    have hb6 : CoreBlk (((w5.setCell ⟨n, 15, none⟩ (.int .i64 i)).setCell ⟨n, 16, none⟩ (.int .i64 T)).setCell ⟨n, 18, none⟩ (.slice a6 data.length q6)) n { c with l := c.l.drop d, base := i, baseTerm := T, snap := data } (.slice qa m qc) (.slice a6 data.length q6) :=
      (((hb1.keep k5 (by simp)).set (c' := { c with l := c.l.drop d, base := i }) (sv' := sv) 15 _ rfl).set (c' := { c with l := c.l.drop d, base := i, baseTerm := T }) (sv' := sv) 16 _ rfl).set 18 _ rfl
    refine ⟨_, rfl, .slice qa m qc, .slice a6 data.length q6, rfl, ?_, kw6, fun b hb => (hv b hb).1⟩
    rw [HST.out]
    refine h.relaid kw6.size hb6 ?_ ?_ (fun b hb => (hv b hb).1)
    · refine ⟨css, ((he.keep k (fun _ _ h => by cases h)).keep kz6 (fun b hb hb' => by simp at hb'; exact hb.1.1 hb')).mono (fun b _ hb => ⟨hb.1, fun h2 => by have := (hv b h2).1; omega⟩), ?_⟩
      have el : (c.l.drop d).length = m := by simp; omega
      show World.ownsRow _ B 59 3 _ (c.l.drop d).length _
      rw [el]
      exact ownsRow_base (ownsRow_keeps ho kz6 (fun b hb hb' => by simp at hb'; have := (hv b hb).1; omega)) (Nat.le_trans h.base (Nat.le_of_lt hnz))
    · refine (hbs.keep k6 (fun b hb hb' => by simp at hb'; have := k1.size; have := k.size; omega)).mono (fun b _ hb => ?_)
      have z1 := k1.size
      have z2 := k.size
      refine ⟨⟨by omega, fun h2 => by have := h.old b h2; omega⟩, fun h2 => by have := (hv b h2).2; omega⟩
  clear h hf he0 ec hcm hT hi hdd hbd HLA
  obtain ⟨m, hm⟩ := HM.out
  have HMM := hid hm
  clear hd
  rcases Nat.eq_or_lt_of_le s3 with hdc | hdc
  · have hm0 : m = 0 := by omega
    subst hm0
    have sc : cap = d := by omega
    obtain ⟨css, hel, hrd, hon⟩ := HPC.out 0 0 (some ⟨g, 0, none⟩) hm (by omega) (by unfold maxLen; omega) (fun h => by omega)
    have HEL := hid hel
    have HRD := hid hrd
    have HON := hid hon
    have hld : c.l.length - d = 0 := by omega
    have hld2 : d = c.l.length := by omega
    clear hel hrd hon hm hdc
    go_enter Try.func75, Try.ntmps75
    go_wp2_with fail
    refine (cAt_is _ B n c lv sv H.out i T okT ib1 ib2 HT.out).mono ?_
    rintro e w' ⟨rfl, kk, rfl⟩
    go_wp2_with fail
    refine Plan.wp_region_plan (fun wx => wx.cell? ⟨n, 15, none⟩ = some (.int .i64 c.base) ∧ wx.cell? ⟨n, 17, none⟩ = some (.slice (some ⟨g, 0, none⟩) c.l.length cap)) 13 [(true, 0), (true, 1), (true, 2), (true, 3), (true, 4), (true, 5), (true, 6), (true, 7), (true, 8), (true, 9), (true, 10), (true, 11), (false, 12)] (by kernel_rfl) (by as_aux_lemma => kernel_rfl) (by kernel_rfl) (fun _ _ _ _ _ h => h) ?_ (fun hS => ?_)
    (· go_simp)
    simp only [Plan.pick, List.append_eq, List.cons_append, List.nil_append, Plan.g1, Plan.g2, Option.getD_some, List.drop_succ_cons, List.drop_zero]
    iterate 12 (first | refine Plan.tA ?_ | refine Plan.tY ?_ | refine Plan.pN ?_ | refine Plan.pU ?_ | fail)
    refine Plan.step ?_
    go_wp2_with (at_builtin; go_must (refine wpList_append_copy _ rfl (.tmp 25) 35 rfl 59 it _ 3 40 Try.underlying35 hi0 hz0 hz1 hz2 rfl (by decide) (.slice (some ⟨g, 0, none⟩) 0 0) 0 css.flatten rfl (by exact HRD.out) HON.out (by omega) (le_maxLen (by omega)) ?_; intro v' wz g1 g2; obtain ⟨qa, qc, hv⟩ := len_form g1; subst hv; have HO := hid g1; have HK := hid (Keeps.grown (((Keeps.refl [] w).drewN kk).drew) g2 rfl rfl rfl rfl (fun _ h => by cases h)); clear g1 g2))
    have x15 := HK.out.cellSome h15 (by simp)
    have x17 := HK.out.cellSome h17 (by simp)
    have f17 : wz.frozen? ⟨n, 17, none⟩ = false := (HK.out.frozen (a := ⟨n, 17, none⟩) hlt (by simp)).trans (fz 17)
    refine ⟨⟨x15, by first | exact x17 | (rw [x17, sc, hld2])⟩, ?_⟩
    refine Plan.fin ?_
    have HX := hid (HFIN.out wz 0 qa qc css HMM.out HK.out HEL.out (ownsRow_base HO.out (by simp)))
    go_wp2_with fail
    obtain ⟨w4, hw4, hk4, f4, y15, y16, y18, hz4, hfin⟩ := HX.out
    rw [← hw4]
    have HFN := hid hfin
    have K4 := hid hk4
    clear hw4 hk4 hfin HX x15 x17 f17
    refine (listB_any (.slice da data.length dc) data _ (HRB.out _ K4.out) (by omega)).mono ?_
    rintro e w5 ⟨a6, q6, rfl, ho5, hk5⟩
    have HG6 := hid (HFN.out w5 a6 q6 hk5 (BytesAt.ofOwn ho5 rfl (fun b hb _ => hb)))
    have v15 := hk5.cellSome y15 (by simp)
    have v16 := hk5.cellSome y16 (by simp)
    have v18 := hk5.cellSome y18 (by simp)
    have u15 : w5.frozen? ⟨n, 15, none⟩ = false := (hk5.frozen (a := ⟨n, 15, none⟩) hz4 (by simp)).trans (f4 15)
    have u16 : w5.frozen? ⟨n, 16, none⟩ = false := (hk5.frozen (a := ⟨n, 16, none⟩) hz4 (by simp)).trans (f4 16)
    have u18 : w5.frozen? ⟨n, 18, none⟩ = false := (hk5.frozen (a := ⟨n, 18, none⟩) hz4 (by simp)).trans (f4 18)
    clear ho5 hk5 y15 y16 y18 f4
    go_wp2_with fail
    obtain ⟨w6, hw6, hp6⟩ := HG6.out
    rw [← hw6]
    exact bodyPost_end (by simp [results, Try.results75, go_sem]) rfl hp6
  · have sc : ¬ cap = d := by omega
    obtain ⟨css, hel, hrd, hon⟩ := HPC.out (c.l.length - d) (cap - d) (some ⟨g, d * 3, none⟩) (by omega) (by omega) (by omega) (fun _ => by simp)
    have hmd : c.l.length - d = m := by omega
    rw [hmd] at hrd
    have HEL := hid hel
    have HRD := hid hrd
    have HON := hid hon
    have hm5 : m ≤ 5096 := by omega
    have HMD := hid hmd
    clear hel hrd hon hm hdc hmd
    go_enter Try.func75, Try.ntmps75
    go_wp2_with fail
    refine (cAt_is _ B n c lv sv H.out i T okT ib1 ib2 HT.out).mono ?_
    rintro e w' ⟨rfl, kk, rfl⟩
    go_wp2_with fail
    refine Plan.wp_region_plan (fun wx => wx.cell? ⟨n, 15, none⟩ = some (.int .i64 c.base) ∧ wx.cell? ⟨n, 17, none⟩ = some (.slice (some ⟨g, 0, none⟩) c.l.length cap)) 13 [(true, 0), (true, 1), (true, 2), (true, 3), (true, 4), (true, 5), (true, 6), (true, 7), (true, 8), (true, 9), (true, 10), (true, 11), (false, 12)] (by kernel_rfl) (by as_aux_lemma => kernel_rfl) (by kernel_rfl) (fun _ _ _ _ _ h => h) ?_ (fun hS => ?_)
    (· go_simp)
    simp only [Plan.pick, List.append_eq, List.cons_append, List.nil_append, Plan.g1, Plan.g2, Option.getD_some, List.drop_succ_cons, List.drop_zero]
    iterate 12 (first | refine Plan.tA ?_ | refine Plan.tY ?_ | refine Plan.pN ?_ | refine Plan.pU ?_ | fail)
    rw [HMD.out]
    refine Plan.step ?_
    go_wp2_with (at_builtin; go_must (refine wpList_append_copy _ rfl (.tmp 25) 35 rfl 59 it _ 3 40 Try.underlying35 hi0 hz0 hz1 hz2 rfl (by decide) (.slice (some ⟨g, d * 3, none⟩) m (cap - d)) m css.flatten rfl (by exact HRD.out) HON.out (by omega) (le_maxLen (by omega)) ?_; intro v' wz g1 g2; obtain ⟨qa, qc, hv⟩ := len_form g1; subst hv; have HO := hid g1; have HK := hid (Keeps.grown (((Keeps.refl [] w).drewN kk).drew) g2 rfl rfl rfl rfl (fun _ h => by cases h)); clear g1 g2))
    have x15 := HK.out.cellSome h15 (by simp)
    have x17 := HK.out.cellSome h17 (by simp)
    have f17 : wz.frozen? ⟨n, 17, none⟩ = false := (HK.out.frozen (a := ⟨n, 17, none⟩) hlt (by simp)).trans (fz 17)
    refine ⟨⟨x15, x17⟩, ?_⟩
    refine Plan.fin ?_
    have HX := hid (HFIN.out wz m qa qc css HMM.out HK.out HEL.out (ownsRow_base HO.out (by simp)))
    go_wp2_with fail
    obtain ⟨w4, hw4, hk4, f4, y15, y16, y18, hz4, hfin⟩ := HX.out
    rw [← hw4]
    have HFN := hid hfin
    have K4 := hid hk4
    clear hw4 hk4 hfin HX x15 x17 f17
    refine (listB_any (.slice da data.length dc) data _ (HRB.out _ K4.out) (by omega)).mono ?_
    rintro e w5 ⟨a6, q6, rfl, ho5, hk5⟩
    have HG6 := hid (HFN.out w5 a6 q6 hk5 (BytesAt.ofOwn ho5 rfl (fun b hb _ => hb)))
    have v15 := hk5.cellSome y15 (by simp)
    have v16 := hk5.cellSome y16 (by simp)
    have v18 := hk5.cellSome y18 (by simp)
    have u15 : w5.frozen? ⟨n, 15, none⟩ = false := (hk5.frozen (a := ⟨n, 15, none⟩) hz4 (by simp)).trans (f4 15)
    have u16 : w5.frozen? ⟨n, 16, none⟩ = false := (hk5.frozen (a := ⟨n, 16, none⟩) hz4 (by simp)).trans (f4 16)
    have u18 : w5.frozen? ⟨n, 18, none⟩ = false := (hk5.frozen (a := ⟨n, 18, none⟩) hz4 (by simp)).trans (f4 18)
    clear ho5 hk5 y15 y16 y18 f4
    go_wp2_with fail
    obtain ⟨w6, hw6, hp6⟩ := HG6.out
    rw [← hw6]
    exact bodyPost_end (by simp [results, Try.results75, go_sem]) rfl hp6

end Go.Proofs.Ytpppoajnbhipeaa
