/- List of entries; send: what a node is to have next. -/
import Derived.Test.YtpppoajnbhipeaaQ07
import Derived.Test.YtpppoajnbhipeaaCoreP
namespace Go.Proofs.Ytpppoajnbhipeaa
open Go Go.RowKit

theorem listE_any (w : World) (l : List Ent) (a0 : Option Addr) (c0 : Nat) (P : Nat → Prop) (hl : ListAt entL w P (.slice a0 l.length c0) l) (hn : l.length ≤ 100000) :
    Calls Try.prog 76 #[.slice a0 l.length c0] w fun e w' => ∃ a q, e = .returned (.slice a l.length q) ∧ OwnAt entL 59 w' w.heap.size P (.slice a l.length q) l ∧ Keeps [] w w' := by
  obtain ⟨it, hi0, hz0, hz1, hz2⟩ := info_parts Try.infoEnt
  obtain ⟨css, he, hr, _⟩ := hl
  have HE := hid he
  have HR := hid hr
  have HO := hid he.one
  clear he hr
  go_enter Try.func76, Try.ntmps76
  go_wp2_with (at_builtin; refine wpList_append_copy _ rfl (.tmp 3) 35 rfl 59 it _ 3 40 Try.underlying35 hi0 hz0 hz1 hz2 rfl (by decide) (.slice a0 l.length c0) l.length css.flatten rfl HR.out HO.out (by omega) (le_maxLen (by omega)) ?_)
  intro v' w' h1 h2
  obtain ⟨a, c, hv⟩ := len_form h1
  subst hv
  have H1 := hid h1
  have K := hid ((Keeps.refl [] w).grown h2 rfl rfl rfl rfl (fun _ h => by cases h))
  clear h1 h2
  go_wp2
  go_ret
  exact ⟨a, c, rfl, ⟨css, HE.out.keep K.out (fun _ _ h => by cases h), H1.out⟩, K.out⟩

theorem listE_is (w : World) (l : List Ent) (nn : Nat) (a0 : Option Addr) (c0 : Nat) (P : Nat → Prop) (hl : ListAt entL w P (.slice a0 nn c0) l) (he : l.length = nn) (hn : nn ≤ 100000) :
    Calls Try.prog 76 #[.slice a0 nn c0] w fun e w' => ∃ a q, e = .returned (.slice a nn q) ∧ OwnAt entL 59 w' w.heap.size P (.slice a nn q) l ∧ Keeps [] w w' := by
  subst he
  exact listE_any w l a0 c0 P hl hn

/-- One message, as a call returns it, in new memory. -/
def SendPost (m : MsgD) (w : World) (e : Ending) (w' : World) : Prop :=
  ∃ ea ec da dc, e = .returned (msgV m (.slice ea m.entries.length ec) (.slice da m.data.length dc)) ∧ ListAt entL w' (fun b => w.heap.size ≤ b) (.slice ea m.entries.length ec) m.entries ∧ BytesAt w' (fun b => w.heap.size ≤ b) (.slice da m.data.length dc) m.data ∧ Keeps [] w w'

theorem next_cell {w : World} {n : Nat} {c : CoreD} {lv sv : Value} (h : CoreBlk w n c lv sv) (hv : c.votes.length = 8) (hn : c.next.length = 8) (i : Nat) (hi : i < 8) : w.cell? ⟨n, 29 + i, none⟩ = some (.int .i64 (c.next.getD i 0)) := by
  rw [h.cell, show 29 + i = 21 + (8 + i) by omega, get21]
  unfold tailCells bools ints
  rw [List.getElem?_append_right (by simp; omega), List.getElem?_append_left (by simp; omega)]
  simp [hv, List.getD, show i < c.next.length by omega]
theorem matc_cell {w : World} {n : Nat} {c : CoreD} {lv sv : Value} (h : CoreBlk w n c lv sv) (hv : c.votes.length = 8) (hn : c.next.length = 8) (hm : c.matc.length = 8) (i : Nat) (hi : i < 8) : w.cell? ⟨n, 37 + i, none⟩ = some (.int .i64 (c.matc.getD i 0)) := by
  rw [h.cell, show 37 + i = 21 + (16 + i) by omega, get21]
  unfold tailCells bools ints
  rw [List.getElem?_append_right (by simp; omega), List.getElem?_append_right (by simp; omega), List.getElem?_append_left (by simp; omega)]
  simp [hv, hn, List.getD, show 16 + i - 8 - 8 = i by omega, show i < c.matc.length by omega]

theorem heap10 {w : World} {b : Nat} {x0 x1 x2 x3 x4 x5 x6 x7 x8 x9 y0 y1 y2 y3 y4 y5 y6 y7 y8 y9 : Value} {t : TypeId} (h : w.heap[b]? = some (.cells #[x0, x1, x2, x3, x4, x5, x6, x7, x8, x9] t (0, 0))) :
    ((((((((((w.setCell ⟨b, 0, none⟩ y0).setCell ⟨b, 1, none⟩ y1).setCell ⟨b, 2, none⟩ y2).setCell ⟨b, 3, none⟩ y3).setCell ⟨b, 4, none⟩ y4).setCell ⟨b, 5, none⟩ y5).setCell ⟨b, 6, none⟩ y6).setCell ⟨b, 7, none⟩ y7).setCell ⟨b, 8, none⟩ y8).setCell ⟨b, 9, none⟩ y9).heap[b]? = some (.cells #[y0, y1, y2, y3, y4, y5, y6, y7, y8, y9] t (0, 0)) := by
  have h9 := heap_setCell_same _ _ 9 _ _ y9 (heap_setCell_same _ _ 8 _ _ y8 (heap_setCell_same _ _ 7 _ _ y7 (heap_setCell_same _ _ 6 _ _ y6 (heap_setCell_same _ _ 5 _ _ y5 (heap_setCell_same _ _ 4 _ _ y4 (heap_setCell_same _ _ 3 _ _ y3 (heap_setCell_same _ _ 2 _ _ y2 (heap_setCell_same _ _ 1 _ _ y1 (heap_setCell_same _ _ 0 _ _ y0 h)))))))))
  simp only [List.setIfInBounds_toArray, List.set_cons_zero, List.set_cons_succ] at h9
  exact h9

/-- It stands on a base that the other one has not: the snapshot is sent. -/
theorem sendD_snap {c : CoreD} {to : Int} (h : c.next.getD to.toNat 0 ≤ c.base) : sendD c to = { kind := 5, frm := c.id, to := to, term := c.term, a := c.base, b := c.baseTerm, c := 0, ok := false, entries := [], data := c.snap } := by
  unfold sendD
  rw [if_pos h]
  rfl
theorem sendD_ents {c : CoreD} {to : Int} (h : ¬ c.next.getD to.toNat 0 ≤ c.base) : sendD c to = { kind := 3, frm := c.id, to := to, term := c.term, a := c.next.getD to.toNat 0 - 1, b := (atD c (c.next.getD to.toNat 0 - 1)).1, c := c.commit, ok := false, entries := (fromD c (c.next.getD to.toNat 0)).take 8, data := [] } := by
  unfold sendD
  rw [if_neg h]
  rfl

set_option maxRecDepth 100000 in
set_option maxHeartbeats 3200000 in
theorem send_snap (w : World) (B n : Nat) (c : CoreD) (lv sv : Value) (to : Int) (h : CoreAt w B n c lv sv) (ht : 0 ≤ to ∧ to < 8) (hs : c.next.getD to.toNat 0 ≤ c.base) :
    Calls Try.prog 63 #[.pointer (some ⟨n, 0, none⟩), .int .i64 to] w (SendPost (sendD c to) w) := by
  obtain ⟨nx, hnx⟩ : ∃ nx, c.next.getD to.toNat 0 = nx := ⟨_, rfl⟩
  have hcell := next_cell h.blk h.ok.votes h.ok.next to.toNat (by omega)
  rw [sendD_snap hs]
  rw [hnx] at hs hcell
  have h9 : w.cell? ⟨n, 9, none⟩ = some (.int .i64 c.id) := h.blk.cell 9
  have h10 : w.cell? ⟨n, 10, none⟩ = some (.int .i64 c.term) := h.blk.cell 10
  have h15 : w.cell? ⟨n, 15, none⟩ = some (.int .i64 c.base) := h.blk.cell 15
  have h16 : w.cell? ⟨n, 16, none⟩ = some (.int .i64 c.baseTerm) := h.blk.cell 16
  have hlt := h.blk.lt
  have H := hid h
  obtain ⟨t0, t8⟩ := ht
  have ht8 : to.toNat < 8 := by omega
  clear h hnx
  go_enter Try.func63, Try.ntmps63
  go_wp2_with fail
  refine Plan.wp_region_plan (fun wx => wx.cell? ⟨n, 15, none⟩ = some (.int .i64 c.base) ∧ wx.cell? ⟨n, 16, none⟩ = some (.int .i64 c.baseTerm)) 13 [(true, 0), (true, 1), (true, 2), (true, 3), (true, 4), (true, 5), (true, 6), (true, 7), (true, 8), (true, 9), (true, 12), (false, 10), (true, 11)] (by kernel_rfl) (by as_aux_lemma => kernel_rfl) (by kernel_rfl) (fun _ _ _ _ _ h => h) ?_ (fun hS => ?_)
  (· go_simp)
  simp only [Plan.pick, List.append_eq, List.cons_append, List.nil_append, Plan.g1, Plan.g2, Option.getD_some, List.drop_succ_cons, List.drop_zero]
  iterate 11 (first | refine Plan.tA ?_ | refine Plan.tY ?_ | refine Plan.pN ?_ | refine Plan.pU ?_ | fail)
  refine Plan.step ?_
  go_wp2_with fail
  refine (cSnapshot_any _ B n c lv sv (H.out.k ?_)).mono ?_
  (· exact Keeps.K)
  rintro e w2 ⟨da, dc, rfl, ho, hk⟩
  have HZ0 : Hid (w2.heap[w.heap.size]? = some (.cells #[.int .i64 0, .int .i64 0, .int .i64 0, .int .i64 0, .int .i64 0, .int .i64 0, .int .i64 0, .bool false, .slice none 0 0, .slice none 0 0] 40 (0, 0))) := (hk.block w.heap.size (by simp) (by simp)).trans (heap_alloc_new w _)
  have HD : Hid (BytesAt w2 (fun b => w.heap.size ≤ b ∧ b ≠ w.heap.size) (.slice da c.snap.length dc) c.snap) := BytesAt.ofOwn ho rfl (fun b hb _ => by simp at hb; omega)
  have HK : Hid (Keeps [] w w2) := Keeps.trans (by exact Keeps.K) hk (fun _ _ h => h)
  have x15 := HK.out.cellSome h15 (by simp)
  have x16 := HK.out.cellSome h16 (by simp)
  have x9 := HK.out.cellSome h9 (by simp)
  have x10 := HK.out.cellSome h10 (by simp)
  have hz2 : w.heap.size < w2.heap.size := (Array.getElem?_eq_some_iff.1 HZ0.out).1
  clear ho hk h9 h10 h15 h16 hcell
  go_wp2_with fail
  refine ⟨⟨x15, x16⟩, ?_⟩
  iterate 1 (first | refine Plan.tA ?_ | refine Plan.tY ?_ | refine Plan.pN ?_ | refine Plan.pU ?_ | fail)
  refine Plan.fin ?_
  go_wp2_with fail
  refine (says_any _ n c.id c.term _ _ _ _ _ _ _ _ _ _ _ _ _ _ _ ?_ ?_ ?_).mono ?_
  (· go_simp)
  (· go_simp)
  (· omega)
  rintro e w3 ⟨rfl, hk3⟩
  have HZ3 : Hid (w3.heap[w.heap.size]? = some (.cells #[.int .i64 0, .int .i64 0, .int .i64 0, .int .i64 0, .int .i64 0, .int .i64 0, .int .i64 0, .bool false, .slice none 0 0, .slice none 0 0] 40 (0, 0))) := (hk3.block w.heap.size (by omega) (by simp)).trans HZ0.out
  have HK3 : Hid (Keeps [] w w3) := HK.out.trans hk3 (fun _ _ h => h)
  have HD3 : Hid (BytesAt w3 (fun b => w.heap.size ≤ b ∧ b ≠ w.heap.size) (.slice da c.snap.length dc) c.snap) := HD.out.k hk3
  obtain ⟨⟨c0, c1, c2, c3, c4, c5, c6, c7, c8, c9⟩, f3⟩ := blk10 HZ3.out
  clear hk3 x15 x16 x9 x10
  go_wp2_with fail
  have HZ4 := heap10 (y0 := .int .i64 5) (y1 := .int .i64 c.id) (y2 := .int .i64 to) (y3 := .int .i64 c.term) (y4 := .int .i64 c.base) (y5 := .int .i64 c.baseTerm) (y6 := .int .i64 0) (y7 := .bool false) (y8 := .slice none 0 0) (y9 := .slice da c.snap.length dc) HZ3.out
  have k4 : Keeps [w.heap.size] w3 ((((((((((w3.setCell ⟨w.heap.size, 0, none⟩ (.int .i64 5)).setCell ⟨w.heap.size, 1, none⟩ (.int .i64 c.id)).setCell ⟨w.heap.size, 2, none⟩ (.int .i64 to)).setCell ⟨w.heap.size, 3, none⟩ (.int .i64 c.term)).setCell ⟨w.heap.size, 4, none⟩ (.int .i64 c.base)).setCell ⟨w.heap.size, 5, none⟩ (.int .i64 c.baseTerm)).setCell ⟨w.heap.size, 6, none⟩ (.int .i64 0)).setCell ⟨w.heap.size, 7, none⟩ (.bool false)).setCell ⟨w.heap.size, 8, none⟩ (.slice none 0 0)).setCell ⟨w.heap.size, 9, none⟩ (.slice da c.snap.length dc)) := by exact Keeps.K
  refine bodyPost_ret (v := .agg #[.int .i64 5, .int .i64 c.id, .int .i64 to, .int .i64 c.term, .int .i64 c.base, .int .i64 c.baseTerm, .int .i64 0, .bool false, .slice none 0 0, .slice da c.snap.length dc]) (results_cell_row rfl _ _ w.heap.size 40 _ (0, 0) _ rfl HZ4 Try.underlying40 rfl (by kernel_rfl)) rfl ⟨none, 0, da, dc, rfl, ListAt.nil _ _ _ _, ?_, ?_⟩
  · exact (HD3.out.keep k4 (fun b hb hb' => by simp at hb'; exact hb.2 hb')).mono (fun b _ hb => hb.1)
  · exact HK3.out.trans k4 (fun b hb hb' => by simp at hb'; omega)

set_option maxRecDepth 100000 in
set_option maxHeartbeats 3200000 in
theorem send_ents (w : World) (B n : Nat) (c : CoreD) (lv sv : Value) (to : Int) (h : CoreAt w B n c lv sv) (ht : 0 ≤ to ∧ to < 8) (hs : ¬ c.next.getD to.toNat 0 ≤ c.base) :
    Calls Try.prog 63 #[.pointer (some ⟨n, 0, none⟩), .int .i64 to] w (SendPost (sendD c to) w) := by
  obtain ⟨nx, hnx⟩ : ∃ nx, c.next.getD to.toNat 0 = nx := ⟨_, rfl⟩
  have hcell := next_cell h.blk h.ok.votes h.ok.next to.toNat (by omega)
  have hnb : 0 ≤ nx ∧ nx ≤ 2199023255553 := by
    have h1 : to.toNat < c.next.length := by rw [h.ok.next]; omega
    have h2 : c.next.getD to.toNat 0 = c.next[to.toNat] := by simp [List.getD, h1]
    rw [← hnx, h2]
    exact h.ok.nexts _ (List.getElem_mem h1)
  rw [sendD_ents hs]
  rw [hnx] at hs hcell ⊢
  have hgt : c.base < nx := by omega
  obtain ⟨T, okT, hT⟩ : ∃ t o, atD c (nx - 1) = (t, o) := ⟨_, _, rfl⟩
  rw [hT]
  obtain ⟨F, hF⟩ : ∃ F, fromD c nx = F := ⟨_, rfl⟩
  rw [hF]
  have hFl : F.length ≤ 5096 := by rw [← hF]; exact Nat.le_trans (by unfold fromD; simp) h.ok.len
  have HT := hid hT
  have HF := hid hF
  have h6 : w.cell? ⟨n, 14, none⟩ = some (.int .i64 c.commit) := h.blk.cell 14
  have h9 : w.cell? ⟨n, 9, none⟩ = some (.int .i64 c.id) := h.blk.cell 9
  have h10 : w.cell? ⟨n, 10, none⟩ = some (.int .i64 c.term) := h.blk.cell 10
  have h15 : w.cell? ⟨n, 15, none⟩ = some (.int .i64 c.base) := h.blk.cell 15
  have hlt := h.blk.lt
  have H := hid h
  obtain ⟨t0, t8⟩ := ht
  have ht8 : to.toNat < 8 := by omega
  obtain ⟨n0, n1⟩ := hnb
  have wr1 : IntKind.i64.wrap (nx - 1) = nx - 1 := IntWalk.i64_in _ (by omega)
  obtain ⟨m, hm⟩ : ∃ m, m = min F.length 8 := ⟨_, rfl⟩
  have hm8 : m ≤ 8 := by omega
  have hmF : m ≤ F.length := by omega
  have HMM : Hid ((F.take 8).length = m) := by show _ = _; rw [List.length_take]; omega
  have hmin : (F.length ≤ 8 ∧ m = F.length) ∨ (8 < F.length ∧ m = 8) := by omega
  clear h hnx hs hT hF hm
  go_enter Try.func63, Try.ntmps63
  go_wp2_with fail
  refine (cAt_is _ B n c lv sv (H.out.k ?_) (nx - 1) T okT (by omega) (by omega) HT.out).mono ?_
  (· exact Keeps.K)
  rintro e w' ⟨rfl, kk, rfl⟩
  go_wp2_with fail
  refine (cFrom_any _ B n c lv sv (H.out.k ?_) nx (by omega) (by omega)).mono ?_
  (· exact Keeps.K)
  rw [HF.out]
  rintro e w2 ⟨fa, fc, rfl, hfr, hk⟩
  have HFR : Hid (OwnAt entL 59 w2 (w.heap.size + 1) (fun b => w.heap.size + 1 ≤ b) (.slice fa F.length fc) F) := by
    have := OwnAt.mono (P' := fun b => w.heap.size + 1 ≤ b) hfr (fun b _ hb => by have := hb.1; simp at this; exact this)
    exact OwnAt.base this (by simp)
  have HZ2 : Hid (w2.heap[w.heap.size]? = some (.cells #[.int .i64 0, .int .i64 0, .int .i64 0, .int .i64 0, .int .i64 0, .int .i64 0, .int .i64 0, .bool false, .slice none 0 0, .slice none 0 0] 40 (0, 0))) := (hk.block w.heap.size (by simp) (by simp)).trans (heap_alloc_new w _)
  have HK2 : Hid (Keeps [] w w2) := Keeps.trans (by exact Keeps.K) hk (fun _ _ h => h)
  have x14 := HK2.out.cellSome h6 (by simp)
  have x9 := HK2.out.cellSome h9 (by simp)
  have x10 := HK2.out.cellSome h10 (by simp)
  have hz2 : w.heap.size < w2.heap.size := (Array.getElem?_eq_some_iff.1 HZ2.out).1
  clear hfr hk h6 h9 h10 h15 hcell
  have HLF : Hid (ListAt entL w2 (fun b => w.heap.size + 1 ≤ b) (.slice fa F.length fc) F) := OwnAt.list HFR.out (fun _ _ h => h) (fun b hb => (OwnAt.ge HFR.out b hb).1)
  have HFC : Hid ((fa = none ∧ fc = 0 ∧ F.length = 0) ∨ ∃ g, fa = some ⟨g, 0, none⟩ ∧ F.length ≤ fc ∧ fc ≤ maxLen) := by
    obtain ⟨css, _, _, ho⟩ := HFR.out
    rcases ho with ⟨h1, h2⟩ | ⟨g, cap, cur, h1, _, _, h4, h5, _⟩
    · simp at h1
      exact .inl ⟨h1.1, h1.2.2, h2⟩
    · simp at h1
      obtain ⟨h1, h2⟩ := h1
      subst h2
      exact .inr ⟨g, h1, h4, h5⟩
  have key : ∀ v, (v = .slice none 0 0 ∧ m = 0 ∨ ∃ g, v = .slice (some ⟨g, 0, none⟩) m fc ∧ fa = some ⟨g, 0, none⟩ ∧ F.length ≤ fc ∧ fc ≤ maxLen) → ListAt entL w2 (fun b => w.heap.size + 1 ≤ b) v (F.take 8) := fun v hv => by
    rcases hv with ⟨rfl, h0⟩ | ⟨g, rfl, h1, h2, h3⟩
    · have : F.take 8 = [] := List.eq_nil_of_length_eq_zero (by rw [HMM.out, h0])
      rw [this]
      exact ListAt.nil _ _ _ _
    · have h4 := HLF.out
      rw [h1] at h4
      have := h4.piece 0 m fc (some ⟨g, 0, none⟩) (by omega) (by omega) h3 (fun _ => by simp)
      have e : (F.drop 0).take m = F.take 8 := by
        rw [List.drop_zero]
        rcases hmin with ⟨h5, h6⟩ | ⟨h5, h6⟩
        · rw [h6, List.take_of_length_le (Nat.le_refl _), List.take_of_length_le h5]
        · rw [h6]
      rw [e] at this
      exact this
  have KEY := hid key
  clear key
  have fin : ∀ vv, Hid (ListAt entL w2 (fun b => w.heap.size + 1 ≤ b) vv (F.take 8)) → Hid (∃ a q, vv = .slice a m q) := fun vv h => by
    obtain ⟨a, q, e⟩ := h.out.form
    rw [HMM.out] at e
    exact ⟨a, q, e⟩
  have FIN := hid fin
  clear fin
  rcases HFC.out with ⟨rfl, rfl, hF0⟩ | ⟨g, rfl, hc1, hc2⟩
  · have hm0 : m = 0 := by omega
    have hfl : F = [] := List.eq_nil_of_length_eq_zero hF0
    subst hfl
    subst hm0
    have HV := hid (KEY.out (.slice none 0 0) (.inl ⟨rfl, rfl⟩))
    clear hmin hFl hF0 HFC
    go_wp2_with fail
    refine Plan.wp_region_plan (fun wx => wx.cell? ⟨n, 14, none⟩ = some (.int .i64 c.commit)) 12 [(true, 0), (true, 1), (true, 2), (true, 3), (true, 4), (true, 5), (true, 6), (true, 7), (true, 8), (true, 11), (false, 9), (true, 10)] (by kernel_rfl) (by as_aux_lemma => kernel_rfl) (by kernel_rfl) (fun _ _ _ _ _ h => h) ?_ (fun hS => ?_)
    (· exact x14)
    simp only [Plan.pick, List.append_eq, List.cons_append, List.nil_append, Plan.g1, Plan.g2, Option.getD_some, List.drop_succ_cons, List.drop_zero]
    iterate 10 (first | refine Plan.tA ?_ | refine Plan.tY ?_ | refine Plan.pN ?_ | refine Plan.pU ?_ | fail)
    refine Plan.step ?_
    go_wp2_with fail
    refine (listE_is _ (([] : List Ent).take 8) 0 none 0 (fun b => w.heap.size + 1 ≤ b) (HV.out.k (by exact Keeps.K)) HMM.out (by omega)).mono ?_
    rintro e w3 ⟨a3, q3, rfl, ho3, hk3⟩
    have K23 : Hid (Keeps [] w2 w3) := Keeps.trans (by exact Keeps.K) hk3 (fun _ _ h => h)
    have K3 : Hid (Keeps [] w w3) := HK2.out.trans K23.out (fun _ _ h => h)
    have L3 : Hid (ListAt entL w3 (fun b => w.heap.size + 1 ≤ b) (.slice a3 0 q3) (([] : List Ent).take 8)) := OwnAt.list ho3 (fun _ _ h => h) (fun b hb => by have := (OwnAt.ge ho3 b hb).1; simp at this; omega)
    have HZ3 : Hid (w3.heap[w.heap.size]? = some (.cells #[.int .i64 0, .int .i64 0, .int .i64 0, .int .i64 0, .int .i64 0, .int .i64 0, .int .i64 0, .bool false, .slice none 0 0, .slice none 0 0] 40 (0, 0))) := (K23.out.block w.heap.size hz2 (by simp)).trans HZ2.out
    have y14 := K23.out.cellSome x14 (by simp)
    have y9 := K23.out.cellSome x9 (by simp)
    have y10 := K23.out.cellSome x10 (by simp)
    have hz3 : w.heap.size < w3.heap.size := (Array.getElem?_eq_some_iff.1 HZ3.out).1
    clear ho3 hk3 x14 x9 x10
    go_wp2_with fail
    refine ⟨y14, ?_⟩
    iterate 1 (first | refine Plan.tA ?_ | refine Plan.tY ?_ | refine Plan.pN ?_ | refine Plan.pU ?_ | fail)
    refine Plan.fin ?_
    go_wp2_with fail
    refine (says_any _ n c.id c.term _ _ _ _ _ _ _ _ _ _ _ _ _ _ _ ?_ ?_ ?_).mono ?_
    (· go_simp)
    (· go_simp)
    (· omega)
    rintro e w4 ⟨rfl, hk4⟩
    have HZ4 : Hid (w4.heap[w.heap.size]? = some (.cells #[.int .i64 0, .int .i64 0, .int .i64 0, .int .i64 0, .int .i64 0, .int .i64 0, .int .i64 0, .bool false, .slice none 0 0, .slice none 0 0] 40 (0, 0))) := (hk4.block w.heap.size (by omega) (by simp)).trans HZ3.out
    have HK4 : Hid (Keeps [] w w4) := K3.out.trans hk4 (fun _ _ h => h)
    have L4 : Hid (ListAt entL w4 (fun b => w.heap.size + 1 ≤ b) (.slice a3 0 q3) (([] : List Ent).take 8)) := L3.out.k hk4
    obtain ⟨⟨c0, c1, c2, c3, c4, c5, c6, c7, c8, c9⟩, f3⟩ := blk10 HZ4.out
    clear hk4 y14 y9 y10
    go_wp2_with fail
    have HZ5 := heap10 (y0 := .int .i64 3) (y1 := .int .i64 c.id) (y2 := .int .i64 to) (y3 := .int .i64 c.term) (y4 := .int .i64 (nx - 1)) (y5 := .int .i64 T) (y6 := .int .i64 c.commit) (y7 := .bool false) (y8 := .slice a3 0 q3) (y9 := .slice none 0 0) HZ4.out
    have k4 : Keeps [w.heap.size] w4 ((((((((((w4.setCell ⟨w.heap.size, 0, none⟩ (.int .i64 3)).setCell ⟨w.heap.size, 1, none⟩ (.int .i64 c.id)).setCell ⟨w.heap.size, 2, none⟩ (.int .i64 to)).setCell ⟨w.heap.size, 3, none⟩ (.int .i64 c.term)).setCell ⟨w.heap.size, 4, none⟩ (.int .i64 (nx - 1))).setCell ⟨w.heap.size, 5, none⟩ (.int .i64 T)).setCell ⟨w.heap.size, 6, none⟩ (.int .i64 c.commit)).setCell ⟨w.heap.size, 7, none⟩ (.bool false)).setCell ⟨w.heap.size, 8, none⟩ (.slice a3 0 q3)).setCell ⟨w.heap.size, 9, none⟩ (.slice none 0 0)) := by exact Keeps.K
    refine bodyPost_ret (v := .agg #[.int .i64 3, .int .i64 c.id, .int .i64 to, .int .i64 c.term, .int .i64 (nx - 1), .int .i64 T, .int .i64 c.commit, .bool false, .slice a3 0 q3, .slice none 0 0]) (results_cell_row rfl _ _ w.heap.size 40 _ (0, 0) _ rfl HZ5 Try.underlying40 rfl (by kernel_rfl)) rfl ⟨a3, q3, none, 0, ?_, ?_, BytesAt.nil _ _ _ _, ?_⟩
    · show _ = Ending.returned (msgV _ (.slice a3 (([] : List Ent).take 8).length q3) _)
      rw [HMM.out]
      rfl
    · have h1 := (L4.out.keep k4 (fun b hb hb' => by simp at hb'; omega)).mono (P' := fun b => w.heap.size ≤ b) (fun b _ hb => by omega)
      show ListAt entL _ _ (.slice a3 (([] : List Ent).take 8).length q3) (([] : List Ent).take 8)
      rw [HMM.out]
      exact h1
    · exact HK4.out.trans k4 (fun b hb hb' => by simp at hb'; omega)
  · have hc3 : (F.length : Int) ≤ (fc : Int) := by omega
    have hc4 : (fc : Int) ≤ 9223372036854775807 := by unfold maxLen at hc2; omega
    have HV := hid (KEY.out (.slice (some ⟨g, 0, none⟩) m fc) (.inr ⟨g, rfl, rfl, hc1, hc2⟩))
    rcases hmin with ⟨h1, h2⟩ | ⟨h1, h2⟩
    · have h3 : (F.length : Int) ≤ 8 := by omega
      subst h2
      go_wp2_with fail
      refine Plan.wp_region_plan (fun wx => wx.cell? ⟨n, 14, none⟩ = some (.int .i64 c.commit)) 12 [(true, 0), (true, 1), (true, 2), (true, 3), (true, 4), (true, 5), (true, 6), (true, 7), (true, 8), (true, 11), (false, 9), (true, 10)] (by kernel_rfl) (by as_aux_lemma => kernel_rfl) (by kernel_rfl) (fun _ _ _ _ _ h => h) ?_ (fun hS => ?_)
      (· exact x14)
      simp only [Plan.pick, List.append_eq, List.cons_append, List.nil_append, Plan.g1, Plan.g2, Option.getD_some, List.drop_succ_cons, List.drop_zero]
      iterate 10 (first | refine Plan.tA ?_ | refine Plan.tY ?_ | refine Plan.pN ?_ | refine Plan.pU ?_ | fail)
      refine Plan.step ?_
      go_wp2_with fail
      refine (listE_is _ (F.take 8) F.length (some ⟨g, 0, none⟩) fc (fun b => w.heap.size + 1 ≤ b) (HV.out.k (by exact Keeps.K)) HMM.out (by omega)).mono ?_
      rintro e w3 ⟨a3, q3, rfl, ho3, hk3⟩
      have K23 : Hid (Keeps [] w2 w3) := Keeps.trans (by exact Keeps.K) hk3 (fun _ _ h => h)
      have K3 : Hid (Keeps [] w w3) := HK2.out.trans K23.out (fun _ _ h => h)
      have L3 : Hid (ListAt entL w3 (fun b => w.heap.size + 1 ≤ b) (.slice a3 F.length q3) (F.take 8)) := OwnAt.list ho3 (fun _ _ h => h) (fun b hb => by have := (OwnAt.ge ho3 b hb).1; simp at this; omega)
      have HZ3 : Hid (w3.heap[w.heap.size]? = some (.cells #[.int .i64 0, .int .i64 0, .int .i64 0, .int .i64 0, .int .i64 0, .int .i64 0, .int .i64 0, .bool false, .slice none 0 0, .slice none 0 0] 40 (0, 0))) := (K23.out.block w.heap.size hz2 (by simp)).trans HZ2.out
      have y14 := K23.out.cellSome x14 (by simp)
      have y9 := K23.out.cellSome x9 (by simp)
      have y10 := K23.out.cellSome x10 (by simp)
      have hz3 : w.heap.size < w3.heap.size := (Array.getElem?_eq_some_iff.1 HZ3.out).1
      clear ho3 hk3 x14 x9 x10
      go_wp2_with fail
      refine ⟨y14, ?_⟩
      iterate 1 (first | refine Plan.tA ?_ | refine Plan.tY ?_ | refine Plan.pN ?_ | refine Plan.pU ?_ | fail)
      refine Plan.fin ?_
      go_wp2_with fail
      refine (says_any _ n c.id c.term _ _ _ _ _ _ _ _ _ _ _ _ _ _ _ ?_ ?_ ?_).mono ?_
      (· go_simp)
      (· go_simp)
      (· omega)
      rintro e w4 ⟨rfl, hk4⟩
      have HZ4 : Hid (w4.heap[w.heap.size]? = some (.cells #[.int .i64 0, .int .i64 0, .int .i64 0, .int .i64 0, .int .i64 0, .int .i64 0, .int .i64 0, .bool false, .slice none 0 0, .slice none 0 0] 40 (0, 0))) := (hk4.block w.heap.size (by omega) (by simp)).trans HZ3.out
      have HK4 : Hid (Keeps [] w w4) := K3.out.trans hk4 (fun _ _ h => h)
      have L4 : Hid (ListAt entL w4 (fun b => w.heap.size + 1 ≤ b) (.slice a3 F.length q3) (F.take 8)) := L3.out.k hk4
      obtain ⟨⟨c0, c1, c2, c3, c4, c5, c6, c7, c8, c9⟩, f3⟩ := blk10 HZ4.out
      clear hk4 y14 y9 y10
      go_wp2_with fail
      have HZ5 := heap10 (y0 := .int .i64 3) (y1 := .int .i64 c.id) (y2 := .int .i64 to) (y3 := .int .i64 c.term) (y4 := .int .i64 (nx - 1)) (y5 := .int .i64 T) (y6 := .int .i64 c.commit) (y7 := .bool false) (y8 := .slice a3 F.length q3) (y9 := .slice none 0 0) HZ4.out
      have k4 : Keeps [w.heap.size] w4 ((((((((((w4.setCell ⟨w.heap.size, 0, none⟩ (.int .i64 3)).setCell ⟨w.heap.size, 1, none⟩ (.int .i64 c.id)).setCell ⟨w.heap.size, 2, none⟩ (.int .i64 to)).setCell ⟨w.heap.size, 3, none⟩ (.int .i64 c.term)).setCell ⟨w.heap.size, 4, none⟩ (.int .i64 (nx - 1))).setCell ⟨w.heap.size, 5, none⟩ (.int .i64 T)).setCell ⟨w.heap.size, 6, none⟩ (.int .i64 c.commit)).setCell ⟨w.heap.size, 7, none⟩ (.bool false)).setCell ⟨w.heap.size, 8, none⟩ (.slice a3 F.length q3)).setCell ⟨w.heap.size, 9, none⟩ (.slice none 0 0)) := by exact Keeps.K
      refine bodyPost_ret (v := .agg #[.int .i64 3, .int .i64 c.id, .int .i64 to, .int .i64 c.term, .int .i64 (nx - 1), .int .i64 T, .int .i64 c.commit, .bool false, .slice a3 F.length q3, .slice none 0 0]) (results_cell_row rfl _ _ w.heap.size 40 _ (0, 0) _ rfl HZ5 Try.underlying40 rfl (by kernel_rfl)) rfl ⟨a3, q3, none, 0, ?_, ?_, BytesAt.nil _ _ _ _, ?_⟩
      · show _ = Ending.returned (msgV _ (.slice a3 (F.take 8).length q3) _)
        rw [HMM.out]
        rfl
      · have h1 := (L4.out.keep k4 (fun b hb hb' => by simp at hb'; omega)).mono (P' := fun b => w.heap.size ≤ b) (fun b _ hb => by omega)
        show ListAt entL _ _ (.slice a3 (F.take 8).length q3) (F.take 8)
        rw [HMM.out]
        exact h1
      · exact HK4.out.trans k4 (fun b hb hb' => by simp at hb'; omega)
    · have h3 : 8 < (F.length : Int) := by omega
      subst h2
      go_wp2_with fail
      refine Plan.wp_region_plan (fun wx => wx.cell? ⟨n, 14, none⟩ = some (.int .i64 c.commit)) 12 [(true, 0), (true, 1), (true, 2), (true, 3), (true, 4), (true, 5), (true, 6), (true, 7), (true, 8), (true, 11), (false, 9), (true, 10)] (by kernel_rfl) (by as_aux_lemma => kernel_rfl) (by kernel_rfl) (fun _ _ _ _ _ h => h) ?_ (fun hS => ?_)
      (· exact x14)
      simp only [Plan.pick, List.append_eq, List.cons_append, List.nil_append, Plan.g1, Plan.g2, Option.getD_some, List.drop_succ_cons, List.drop_zero]
      iterate 10 (first | refine Plan.tA ?_ | refine Plan.tY ?_ | refine Plan.pN ?_ | refine Plan.pU ?_ | fail)
      refine Plan.step ?_
      go_wp2_with fail
      refine (listE_is _ (F.take 8) 8 (some ⟨g, 0, none⟩) fc (fun b => w.heap.size + 1 ≤ b) (HV.out.k (by exact Keeps.K)) HMM.out (by omega)).mono ?_
      rintro e w3 ⟨a3, q3, rfl, ho3, hk3⟩
      have K23 : Hid (Keeps [] w2 w3) := Keeps.trans (by exact Keeps.K) hk3 (fun _ _ h => h)
      have K3 : Hid (Keeps [] w w3) := HK2.out.trans K23.out (fun _ _ h => h)
      have L3 : Hid (ListAt entL w3 (fun b => w.heap.size + 1 ≤ b) (.slice a3 8 q3) (F.take 8)) := OwnAt.list ho3 (fun _ _ h => h) (fun b hb => by have := (OwnAt.ge ho3 b hb).1; simp at this; omega)
      have HZ3 : Hid (w3.heap[w.heap.size]? = some (.cells #[.int .i64 0, .int .i64 0, .int .i64 0, .int .i64 0, .int .i64 0, .int .i64 0, .int .i64 0, .bool false, .slice none 0 0, .slice none 0 0] 40 (0, 0))) := (K23.out.block w.heap.size hz2 (by simp)).trans HZ2.out
      have y14 := K23.out.cellSome x14 (by simp)
      have y9 := K23.out.cellSome x9 (by simp)
      have y10 := K23.out.cellSome x10 (by simp)
      have hz3 : w.heap.size < w3.heap.size := (Array.getElem?_eq_some_iff.1 HZ3.out).1
      clear ho3 hk3 x14 x9 x10
      go_wp2_with fail
      refine ⟨y14, ?_⟩
      iterate 1 (first | refine Plan.tA ?_ | refine Plan.tY ?_ | refine Plan.pN ?_ | refine Plan.pU ?_ | fail)
      refine Plan.fin ?_
      go_wp2_with fail
      refine (says_any _ n c.id c.term _ _ _ _ _ _ _ _ _ _ _ _ _ _ _ ?_ ?_ ?_).mono ?_
      (· go_simp)
      (· go_simp)
      (· omega)
      rintro e w4 ⟨rfl, hk4⟩
      have HZ4 : Hid (w4.heap[w.heap.size]? = some (.cells #[.int .i64 0, .int .i64 0, .int .i64 0, .int .i64 0, .int .i64 0, .int .i64 0, .int .i64 0, .bool false, .slice none 0 0, .slice none 0 0] 40 (0, 0))) := (hk4.block w.heap.size (by omega) (by simp)).trans HZ3.out
      have HK4 : Hid (Keeps [] w w4) := K3.out.trans hk4 (fun _ _ h => h)
      have L4 : Hid (ListAt entL w4 (fun b => w.heap.size + 1 ≤ b) (.slice a3 8 q3) (F.take 8)) := L3.out.k hk4
      obtain ⟨⟨c0, c1, c2, c3, c4, c5, c6, c7, c8, c9⟩, f3⟩ := blk10 HZ4.out
      clear hk4 y14 y9 y10
      go_wp2_with fail
      have HZ5 := heap10 (y0 := .int .i64 3) (y1 := .int .i64 c.id) (y2 := .int .i64 to) (y3 := .int .i64 c.term) (y4 := .int .i64 (nx - 1)) (y5 := .int .i64 T) (y6 := .int .i64 c.commit) (y7 := .bool false) (y8 := .slice a3 8 q3) (y9 := .slice none 0 0) HZ4.out
      have k4 : Keeps [w.heap.size] w4 ((((((((((w4.setCell ⟨w.heap.size, 0, none⟩ (.int .i64 3)).setCell ⟨w.heap.size, 1, none⟩ (.int .i64 c.id)).setCell ⟨w.heap.size, 2, none⟩ (.int .i64 to)).setCell ⟨w.heap.size, 3, none⟩ (.int .i64 c.term)).setCell ⟨w.heap.size, 4, none⟩ (.int .i64 (nx - 1))).setCell ⟨w.heap.size, 5, none⟩ (.int .i64 T)).setCell ⟨w.heap.size, 6, none⟩ (.int .i64 c.commit)).setCell ⟨w.heap.size, 7, none⟩ (.bool false)).setCell ⟨w.heap.size, 8, none⟩ (.slice a3 8 q3)).setCell ⟨w.heap.size, 9, none⟩ (.slice none 0 0)) := by exact Keeps.K
      refine bodyPost_ret (v := .agg #[.int .i64 3, .int .i64 c.id, .int .i64 to, .int .i64 c.term, .int .i64 (nx - 1), .int .i64 T, .int .i64 c.commit, .bool false, .slice a3 8 q3, .slice none 0 0]) (results_cell_row rfl _ _ w.heap.size 40 _ (0, 0) _ rfl HZ5 Try.underlying40 rfl (by kernel_rfl)) rfl ⟨a3, q3, none, 0, ?_, ?_, BytesAt.nil _ _ _ _, ?_⟩
      · show _ = Ending.returned (msgV _ (.slice a3 (F.take 8).length q3) _)
        rw [HMM.out]
        rfl
      · have h1 := (L4.out.keep k4 (fun b hb hb' => by simp at hb'; omega)).mono (P' := fun b => w.heap.size ≤ b) (fun b _ hb => by omega)
        show ListAt entL _ _ (.slice a3 (F.take 8).length q3) (F.take 8)
        rw [HMM.out]
        exact h1
      · exact HK4.out.trans k4 (fun b hb hb' => by simp at hb'; omega)

theorem send_any (w : World) (B n : Nat) (c : CoreD) (lv sv : Value) (to : Int) (h : CoreAt w B n c lv sv) (ht : 0 ≤ to ∧ to < 8) : Calls Try.prog 63 #[.pointer (some ⟨n, 0, none⟩), .int .i64 to] w (SendPost (sendD c to) w) := by
  by_cases hs : c.next.getD to.toNat 0 ≤ c.base
  · exact send_snap w B n c lv sv to h ht hs
  · exact send_ents w B n c lv sv to h ht hs

end Go.Proofs.Ytpppoajnbhipeaa
