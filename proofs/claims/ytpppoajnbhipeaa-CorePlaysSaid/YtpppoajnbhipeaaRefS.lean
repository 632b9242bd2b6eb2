/- The document's core: Ask. -/
import Derived.Test.YtpppoajnbhipeaaQ30
import Derived.Test.YtpppoajnbhipeaaQ32
namespace Go.Proofs.Ytpppoajnbhipeaa
open Go Go.RowKit

def RAskPost (B n : Nat) (P : Nat → Prop) (r : CoreD × Int × List MsgD × Int) (w : World) (e : Ending) (w' : World) : Prop :=
  ∃ a q lv' sv', e = .returned (.tuple #[.int .i64 r.2.1, .slice a r.2.2.1.length q, .int .i64 r.2.2.2]) ∧ RefAt w' B n r.1 (Gr P w w') lv' sv' ∧ RMsgs P w w' (.slice a r.2.2.1.length q) r.2.2.1 ∧ Keeps [n] w w'

set_option maxRecDepth 100000 in
set_option maxHeartbeats 3200000 in
theorem rask_no (w : World) (B n : Nat) (c : CoreD) (P : Nat → Prop) (lv sv : Value) (data : List UInt8) (da : Option Addr) (dc : Nat) (h : RefAt w B n c P lv sv) (hn : c.role ≠ 2 ∨ 4096 ≤ c.l.length) :
    Calls Try.prog 70 #[.pointer (some ⟨n, 0, none⟩), .slice da data.length dc] w (RAskPost B n P (askD c data) w) := by
  obtain ⟨la, lc, hlv⟩ := h.form
  have h12 : w.cell? ⟨n, 12, none⟩ = some (.int .i64 c.role) := h.blk.cell 12
  have h18 : w.cell? ⟨n, 18, none⟩ = some (.slice la c.l.length lc) := (h.blk.cell 18).trans (by rw [hlv]; rfl)
  have hlt := h.blk.lt
  have H := hid h
  by_cases hr : c.role = 2
  · have hl : 4096 ≤ c.l.length := by
      rcases hn with h1 | h1
      · exact absurd hr h1
      · exact h1
    have HF : Hid (askD c data = (c, 0, [], 2)) := by show _ = _; unfold askD; rw [if_neg (by simp [hr]), if_pos hl]
    have hb : (c.role != 2) = false := by simpa using hr
    have hd : (4096 : Int) ≤ (c.l.length : Int) := by omega
    clear h hn hr hlv hl
    go_enter Try.func70, Try.ntmps70
    go_wp2_with fail
    refine bodyPost_ret (v := .tuple #[.int .i64 0, .slice none 0 0, .int .i64 2]) (by simp [results, Try.results70, go_sem]) rfl ?_
    rw [HF.out]
    exact ⟨none, 0, lv, sv, rfl, H.out.toGr hlt, OwnAt.nil _ _ _ _, Keeps.refl _ _⟩
  · have HF : Hid (askD c data = (c, 0, [], 24)) := by show _ = _; unfold askD; rw [if_pos hr]
    have hb : (c.role != 2) = true := by simpa using hr
    clear h hn hr hlv
    go_enter Try.func70, Try.ntmps70
    go_wp2_with fail
    refine bodyPost_ret (v := .tuple #[.int .i64 0, .slice none 0 0, .int .i64 24]) (by simp [results, Try.results70, go_sem]) rfl ?_
    rw [HF.out]
    exact ⟨none, 0, lv, sv, rfl, H.out.toGr hlt, OwnAt.nil _ _ _ _, Keeps.refl _ _⟩

set_option maxRecDepth 100000 in
set_option maxHeartbeats 6400000 in
theorem rask_yes (w : World) (B n : Nat) (c : CoreD) (P : Nat → Prop) (lv sv : Value) (data : List UInt8) (da : Option Addr) (dc : Nat) (h : RefAt w B n c P lv sv) (hP : ∀ b, P b → b < w.heap.size) (hdt : BytesAt w P (.slice da data.length dc) data) (hdl : data.length ≤ 1000000) (hr : c.role = 2) (hl : c.l.length < 4096) (hll : lastD c + 1 ≤ 2199023255552) :
    Calls Try.prog 70 #[.pointer (some ⟨n, 0, none⟩), .slice da data.length dc] w (RAskPost B n P (askD c data) w) := by
  obtain ⟨it, hi0, hz0, hz1, hz2⟩ := info_parts Try.infoEnt
  obtain ⟨la, lc, hlv⟩ := h.form
  have h10 : w.cell? ⟨n, 10, none⟩ = some (.int .i64 c.term) := h.blk.cell 10
  have h12 : w.cell? ⟨n, 12, none⟩ = some (.int .i64 c.role) := h.blk.cell 12
  have h18 : w.cell? ⟨n, 18, none⟩ = some (.slice la c.l.length lc) := (h.blk.cell 18).trans (by rw [hlv]; rfl)
  have f18 : w.frozen? ⟨n, 18, none⟩ = false := h.blk.free 18
  have hlt := h.blk.lt
  have HPB := hid hP
  have H := hid h
  have hbb := h.ok.base
  obtain ⟨L, hL⟩ : ∃ L, lastD c = L := ⟨_, rfl⟩
  have HL := hid hL
  have hlb : 0 ≤ L := by rw [← hL]; unfold lastD; omega
  rw [hL] at hll
  obtain ⟨E, hE⟩ : ∃ E : Ent, E = { term := c.term, cmd := true, data := data } := ⟨_, rfl⟩
  have HE := hid hE
  have HF : Hid (askD c data = (putD c E, L + 1, othersD (putD c E) (sendD (putD c E)), 0)) := by
    show _ = _
    unfold askD askC
    rw [if_neg (by simp [hr]), if_neg (by omega), ← hE, ← hL]
    have : lastD (putD c E) = lastD c + 1 := by
      show c.base + ((c.l ++ [E]).length : Int) = c.base + (c.l.length : Int) + 1
      rw [List.length_append]
      simp
      omega
    rw [this]
  have HOK : Hid (CoreOk { c with l := c.l ++ [E] }) := putL_ok h.ok (by omega) (by rw [hL]; exact hll) (by rw [hE]; exact h.ok.term) (by rw [hE]; exact hdl)
  obtain ⟨css, hel, hrd, _⟩ := h.log
  rw [hlv] at hrd
  have HEL : Hid (ElemsAt entL w P css c.l) := hel
  have HRD : Hid (Reads w 3 (.slice la c.l.length lc) c.l.length css.flatten) := hrd
  have HDT := hid hdt.1
  have hb : (c.role != 2) = false := by simpa using hr
  have hd : decide ((4096 : Int) ≤ (c.l.length : Int)) = false := by simp; omega
  have hd' : ¬ (4096 : Int) ≤ (c.l.length : Int) := by omega
  have hl5 : c.l.length ≤ 5096 := by omega
  clear h hP hdt hr hlv hbb hL hE hel hrd
  go_enter Try.func70, Try.ntmps70
  go_wp2_with fail
  refine Plan.wp_region_plan (fun wx => wx.cell? ⟨n, 18, none⟩ = some (.slice la c.l.length lc) ∧ wx.cell? ⟨n, 10, none⟩ = some (.int .i64 c.term)) 15 [(true, 0), (true, 1), (true, 2), (true, 3), (true, 4), (true, 6), (true, 7), (true, 8), (true, 9), (true, 10), (false, 5), (false, 11), (true, 12), (false, 13), (false, 14)] (by kernel_rfl) (by as_aux_lemma => kernel_rfl) (by kernel_rfl) (fun _ _ _ _ _ h => h) ?_ (fun hS => ?_)
  (· exact ⟨h18, h10⟩)
  simp only [Plan.pick, List.append_eq, List.cons_append, List.nil_append, Plan.g1, Plan.g2, Option.getD_some, List.drop_succ_cons, List.drop_zero]
  iterate 10 (first | refine Plan.tA ?_ | refine Plan.tY ?_ | refine Plan.pN ?_ | refine Plan.pU ?_ | fail)
  refine Plan.step ?_
  go_wp2_with (at_builtin; go_must (refine wpList_append_off (L := entL) (PB := P) _ (by rfl) _ _ _ (by rfl) w.heap.size 59 it _ 40 Try.underlying35 hi0 hz0 hz1 hz2 rfl (R := fun b => P b ∨ w.heap.size ≤ b) (.slice none 0 0) (by rfl) [] c.l 0 rfl css (OwnAt.nil _ _ _ _) (.slice la c.l.length lc) (by rfl) c.l.length rfl (HEL.out.keep ((Keeps.refl [] w).drew) (fun _ _ h => by cases h)) (HRD.out.keeps ((Keeps.refl [] w).drew) (fun _ _ h => by cases h)) (by omega) (le_maxLen (by omega)) (by exact Nat.le_refl _) (fun b _ hb => ⟨.inl hb, fun h => by simp [mem_ownB, Value.ownBlock] at h⟩) ?_; intro a4 q4 w4 ho4 hk4 hv4; rw [Nat.zero_add] at ho4 hv4 ⊢))
  have K4 : Hid (Keeps [] w w4) := ((Keeps.refl [] w).drew).trans (hk4.out.mono (G := []) (fun b _ hb => by simp [mem_ownB, Value.ownBlock] at hb)) (fun _ _ h => h)
  have y18 := K4.out.cellSome h18 (by simp)
  have y10 := K4.out.cellSome h10 (by simp)
  refine ⟨⟨y18, y10⟩, ?_⟩
  refine Plan.step ?_
  go_wp2_with (at_builtin; go_must (refine wpB_append _ (by rfl) (.tmp 28) (by rfl) (.slice da data.length dc) data (by rfl) (HDT.out.keeps K4.out (fun _ _ h => by cases h)) (by omega) ?_; intro qa qc w5 hb5 hk5))
  have K5 : Hid (Keeps [] w w5) := K4.out.trans hk5.out (fun _ _ h => h)
  have z18 := hk5.out.cellSome y18 (by simp)
  have z10 := hk5.out.cellSome y10 (by simp)
  have hn5 : n < w5.heap.size := Nat.lt_of_lt_of_le hlt K5.out.size
  refine ⟨⟨z18, z10⟩, ?_⟩
  iterate 1 (first | refine Plan.tA ?_ | refine Plan.tY ?_ | refine Plan.pN ?_ | refine Plan.pU ?_ | fail)
  refine Plan.step ?_
  go_wp2_with fail
  refine ⟨?_, ?_⟩
  (· go_simp)
  refine Plan.step ?_
  have HNW : Hid ((w5.alloc (.cells #[.int .i64 c.term, .bool true, .slice qa data.length qc] 59)).heap[w5.heap.size]? = some (.cells #[.int .i64 c.term, .bool true, .slice qa data.length qc] 59 (0, 0))) := heap_alloc_new _ _
  have KA : Hid (Keeps [] w5 (w5.alloc (.cells #[.int .i64 c.term, .bool true, .slice qa data.length qc] 59))) := (Keeps.refl [] w5).alloc _
  have HEN : Hid (entL.at_ (w5.alloc (.cells #[.int .i64 c.term, .bool true, .slice qa data.length qc] 59)) (fun b => w4.heap.size ≤ b) [.int .i64 c.term, .bool true, .slice qa data.length qc] E) := by
    show entL.at_ _ _ _ _
    rw [HE.out]
    exact ⟨_, rfl, hb5.out.k KA.out⟩
  have HB4 : Hid (∀ b ∈ ownB (.slice a4 c.l.length q4), w.heap.size ≤ b ∧ b < w4.heap.size) := fun b hb => OwnAt.ge ho4.out b hb
  have HO5 : Hid (OwnAt entL 59 w5 w.heap.size (fun b => (P b ∨ w.heap.size ≤ b) ∧ b ∉ ownB (.slice a4 c.l.length q4)) (.slice a4 c.l.length q4) c.l) := OwnAt.k ho4.out hk5.out
  have HZ4 : Hid (w.heap.size ≤ w4.heap.size) := K4.out.size
  go_wp2_with (at_builtin; go_must (refine wpList_append_off (L := entL) (PB := fun b => w4.heap.size ≤ b) _ (by rfl) _ _ _ (by rfl) w.heap.size 59 it _ 40 Try.underlying35 hi0 hz0 hz1 hz2 rfl (R := fun b => P b ∨ w.heap.size ≤ b) (.slice a4 c.l.length q4) (by rfl) c.l [E] c.l.length rfl [[.int .i64 c.term, .bool true, .slice qa data.length qc]] (OwnAt.k HO5.out KA.out) (.slice (some ⟨w5.heap.size, 0, none⟩) 1 1) (by rfl) 1 rfl (ElemsAt.one1 HEN.out) (Reads.one1 HNW.out rfl) (by omega) (le_maxLen (by omega)) (Nat.le_trans K5.out.size KA.out.size) (fun b _ hb => ⟨.inr (Nat.le_trans HZ4.out hb), fun h => by have := (HB4.out b h).2; omega⟩) ?_; intro a6 q6 w6 ho6 hk6 hv6))
  have K6 : Hid (Keeps [] w w6) := (K5.out.trans KA.out (fun _ _ h => h)).trans hk6.out (fun b hb hb' => by have := (HB4.out b hb').1; omega)
  have u18 := K6.out.cellSome h18 (by simp)
  have u10 := K6.out.cellSome h10 (by simp)
  have e18 : w6.frozen? ⟨n, 18, none⟩ = false := (K6.out.frozen (a := ⟨n, 18, none⟩) hlt (by simp)).trans f18
  have hn6 : n < w6.heap.size := Nat.lt_of_lt_of_le hlt K6.out.size
  have HX : Hid (∃ w7, w7 = w6.setCell ⟨n, 18, none⟩ (.slice a6 (c.l.length + 1) q6) ∧ RefAt w7 B n { c with l := c.l ++ [E] } (Gr P w w7) (.slice a6 (c.l.length + 1) q6) sv ∧ Keeps [n] w w7) := by
    obtain ⟨r1, k1⟩ := H.out.relog (l' := c.l ++ [E]) (lv' := .slice a6 (c.l.length + 1) q6) (R := fun b => P b ∨ w.heap.size ≤ b) K6.out (fun _ h => .inl h) (fun hb => by
      rcases hb with hb | hb
      · exact H.out.apart hb
      · omega) (OwnAt.list ho6.out (fun _ _ h => h.1) (fun b hb => .inr (OwnAt.ge ho6.out b hb).1)) HOK.out
    refine ⟨_, rfl, r1.mono (fun b h1 h2 => ?_) (fun hb => ?_), k1⟩
    · rcases h2 with h2 | h2
      · exact .inl h2
      · exact .inr ⟨h2, h1⟩
    · rcases hb with hb | hb
      · exact H.out.apart hb
      · omega
  clear hk4 hv4 ho4 hb5 hk5 ho6 hk6 hv6 y18 y10 z18 z10 HNW HEN
  refine ⟨⟨u18, u10⟩, ?_⟩
  refine Plan.fin ?_
  go_wp2_with fail
  obtain ⟨w7, hw7, hc7, hk7⟩ := HX.out
  rw [← hw7]
  have C7 := hid hc7
  have K7 := hid hk7
  have HLL : Hid (lastD { c with l := c.l ++ [E] } = L + 1) := by
    show c.base + ((c.l ++ [E]).length : Int) = L + 1
    have := HL.out
    unfold lastD at this
    rw [List.length_append]
    simp
    omega
  clear hw7 hc7 hk7 HX u18 u10 e18
  refine (rLast_is _ B n _ _ _ sv C7.out (L + 1) HLL.out).mono ?_
  rintro e w' ⟨rfl, kk, rfl⟩
  go_wp2_with fail
  refine (rturned_any _ B n _ _ _ sv (L + 1) (C7.out.k ((Keeps.refl [] _).drewN kk)) ⟨by omega, by omega⟩).mono ?_
  rintro e w8 ⟨rfl, hc8, hk8⟩
  have C8 : Hid (RefAt w8 B n (putD c E) (Gr P w w8) (.slice a6 (c.l.length + 1) q6) sv) := by
    have e : turnD { c with l := c.l ++ [E] } (L + 1) = putD c E := by
      unfold putD
      rw [HL.out]
    rw [e] at hc8
    exact hc8.mono (fun b _ hb => Gr.old (Nat.le_trans ((Keeps.refl [] w7).drewN kk).size hk8.size) hb) (fun hb => by
      rcases hb with hb | hb
      · exact H.out.apart hb
      · omega)
  have K8 : Hid (Keeps [n] w w8) := (K7.out.drewN kk).trans hk8 (fun _ _ h => h)
  clear hc8 hk8
  go_wp2_with fail
  refine (rLast_is _ B n _ _ _ sv C8.out (L + 1) HLL.out).mono ?_
  rintro e w' ⟨rfl, k2, rfl⟩
  go_wp2_with fail
  refine (rall_any _ B n _ _ _ sv (C8.out.k ((Keeps.refl [] _).drewN k2)) (fun b hb => Nat.lt_of_lt_of_le (Gr.lt HPB.out K8.out.size b hb) ((Keeps.refl [] _).drewN k2).size)).mono ?_
  rintro x w9 ⟨a, q, rfl, hf, hk⟩
  have HP : Hid (RCallPost B n P (putD c E, othersD (putD c E) (sendD (putD c E))) w (.returned (.slice a (othersD (putD c E) (sendD (putD c E))).length q)) w9) := by
    have kd := (Keeps.refl [] w8).drewN k2
    refine RCallPost.tells (wm := w8.drewN k2) (C8.out.gr kd hlt) hlt (K8.out.trans kd (fun _ _ h => by cases h)) ⟨a, q, rfl, ?_, hk⟩
    exact OwnAt.mono hf (fun b _ hb => ⟨hb.1.imp (fun h => Gr.old kd.size h) (fun h => h), hb.2⟩)
  clear hf hk
  go_wp2_with fail
  refine bodyPost_ret (v := .tuple #[.int .i64 (L + 1), .slice a (othersD (putD c E) (sendD (putD c E))).length q, .int .i64 0]) (by simp [results, Try.results70, go_sem]) rfl ?_
  rw [HF.out]
  obtain ⟨a', q', lv', sv', he, h1, h2, h3⟩ := HP.out
  simp at he
  obtain ⟨rfl, rfl⟩ := he
  exact ⟨a, q, lv', sv', rfl, h1, h2, h3⟩

theorem rask_any (w : World) (B n : Nat) (c : CoreD) (P : Nat → Prop) (lv sv : Value) (data : List UInt8) (da : Option Addr) (dc : Nat) (h : RefAt w B n c P lv sv) (hP : ∀ b, P b → b < w.heap.size) (hdt : BytesAt w P (.slice da data.length dc) data) (hdl : data.length ≤ 1000000) (hll : lastD c + 1 ≤ 2199023255552) :
    Calls Try.prog 70 #[.pointer (some ⟨n, 0, none⟩), .slice da data.length dc] w (RAskPost B n P (askD c data) w) := by
  by_cases hn : c.role ≠ 2 ∨ 4096 ≤ c.l.length
  · exact rask_no w B n c P lv sv data da dc h hn
  · exact rask_yes w B n c P lv sv data da dc h hP hdt hdl (Classical.byContradiction fun h => hn (.inl h)) (by omega) hll

end Go.Proofs.Ytpppoajnbhipeaa
