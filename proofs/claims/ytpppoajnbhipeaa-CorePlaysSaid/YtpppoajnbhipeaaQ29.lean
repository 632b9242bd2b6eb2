/- Joined of HearA, RefQ. -/
import Derived.Test.YtpppoajnbhipeaaCoreV
import Derived.Test.YtpppoajnbhipeaaQ19
import Derived.Test.YtpppoajnbhipeaaQ24
import Derived.Test.YtpppoajnbhipeaaRefP
import Derived.Test.YtpppoajnbhipeaaQ26
import Derived.Test.YtpppoajnbhipeaaRefH

/- Hear, but for the entries that a leader sends. -/
namespace Go.Proofs.Ytpppoajnbhipeaa
open Go Go.RowKit

theorem voted_any (w : World) (B n : Nat) (c : CoreD) (lv sv : Value) (m : MsgD) (ea da : Option Addr) (ec dc : Nat) (h : CoreAt w B n c lv sv) (hf : 1 ≤ m.frm ∧ m.frm ≤ 7) (hll : lastD c + 1 ≤ 2199023255552) :
    Calls Try.prog 55 #[.pointer (some ⟨n, 0, none⟩), msgV m (.slice ea m.entries.length ec) (.slice da m.data.length dc)] w (CallPost B n lv (votedD c m) w) := by
  by_cases hn : m.term ≠ c.term ∨ c.role ≠ 1 ∨ m.ok = false
  · exact voted_no w B n c lv sv m ea da ec dc h hn
  · exact voted_yes w B n c lv sv m ea da ec dc h (Classical.byContradiction fun h => hn (.inl h)) (Classical.byContradiction fun h => hn (.inr (.inl h))) (by rcases e : m.ok with _ | _; exact absurd (Or.inr (Or.inr e)) hn; rfl) hf hll
theorem stepD_last (c : CoreD) (m : MsgD) : lastD (stepD c m) = lastD c := by unfold stepD; split <;> rfl

/-- Any message but entries: entries by what append does with them. -/
theorem hear_but (w : World) (B n : Nat) (c : CoreD) (lv sv : Value) (m : MsgD) (ea da : Option Addr) (ec dc : Nat) (h : CoreAt w B n c lv sv) (hl : ListAt entL w (Off n lv) (.slice ea m.entries.length ec) m.entries) (hd : BytesAt w (Off n lv) (.slice da m.data.length dc) m.data)
    (hdl : m.data.length ≤ 1000000) (hll : lastD c + 1 ≤ 2199023255552) (H3 : wrongD c m = false → m.kind = 3 → (stepD c m).term ≤ m.term → (stepD c m).role ≠ 2 → HearC 59 appendD B n (followD (stepD c m) m) lv sv m ea da ec dc) :
    Calls Try.prog 22 #[.pointer (some ⟨n, 0, none⟩), msgV m (.slice ea m.entries.length ec) (.slice da m.data.length dc)] w (CallPost B n lv (hearD c m) w) := by
  rcases hw : wrongD c m with _ | _
  rotate_left 1
  · exact hear_wrong w B n c lv sv m ea da ec dc h hl hw
  have hz := hw
  unfold wrongD at hz
  simp only [Bool.or_eq_false_iff] at hz
  obtain ⟨⟨k1, k5⟩, hto, ⟨f1, fn⟩, hfi, ⟨t1, t2⟩, ⟨a0, a1⟩, ⟨b0, b1⟩, ⟨c0, c1⟩, hen⟩ := wrongHead_no hz.1
  have hnn := ((ConfD.may_iff c.conf).1 h.ok.may).1
  have hf : 1 ≤ m.frm ∧ m.frm ≤ 7 := by omega
  by_cases e1 : m.kind = 1
  · exact hear_1 w B n c _ lv sv m ea da ec dc h hl hd hw rfl e1
  by_cases e2 : m.kind = 2
  · exact hear_2 w B n c _ lv sv m ea da ec dc h hl hd hw rfl e2 (fun w1 h1 _ _ => voted_any w1 B n _ lv sv m ea da ec dc h1 hf (by rw [stepD_last]; exact hll))
  by_cases e4 : m.kind = 4
  · exact hear_4 w B n c _ lv sv m ea da ec dc h hl hd hw rfl e4 (fun w1 h1 _ _ => appended_any w1 B n _ lv sv m ea da ec dc h1 hf ⟨a0, a1⟩)
  by_cases e3 : m.kind = 3
  · by_cases ht : m.term < (stepD c m).term
    · exact hear_3A w B n c _ lv sv m ea da ec dc h hl hd hw rfl e3 ht
    · by_cases hr : (stepD c m).role = 2
      · exact hear_3B w B n c _ lv sv m ea da ec dc h hl hd hw rfl e3 (by omega) hr
      · exact hear_3C w B n c _ lv sv m ea da ec dc h hl hd hw rfl e3 (by omega) hr (H3 hw e3 (by omega) hr)
  have e5 : m.kind = 5 := by omega
  by_cases ht : m.term < (stepD c m).term
  · exact hear_5A w B n c _ lv sv m ea da ec dc h hl hd hw rfl e5 ht
  · by_cases hr : (stepD c m).role = 2
    · exact hear_5B w B n c _ lv sv m ea da ec dc h hl hd hw rfl e5 (by omega) hr
    · rcases hi : inD m.a 1 549755813888 with _ | _
      · exact hear_5D w B n c _ lv sv m ea da ec dc h hl hd hw rfl e5 (by omega) hr hi
      · rcases hj : inD m.b 1 m.term with _ | _
        · exact hear_5E w B n c _ lv sv m ea da ec dc h hl hd hw rfl e5 (by omega) hr hi hj
        · exact hear_5F w B n c _ lv sv m ea da ec dc h hl hd hw rfl e5 (by omega) hr hi hj (fun w1 h1 _ hd1 => takes_any w1 B n _ lv sv m ea da ec dc h1 hd1 hdl a1 ⟨b0, b1⟩)

end Go.Proofs.Ytpppoajnbhipeaa

/- The document's core: Hear. -/
namespace Go.Proofs.Ytpppoajnbhipeaa
open Go Go.RowKit

def rheardD (c : CoreD) (m : MsgD) : CoreD × List MsgD :=
  if m.kind = 1 then askedD c m
  else if m.kind = 2 then rvotedD c m
  else if m.kind = 3 then takeD c m
  else if m.kind = 4 then appendedD c m
  else rsnapD c m
def rhearD (c : CoreD) (m : MsgD) : CoreD × List MsgD := if wrongD c m then (c, []) else rheardD (stepD c m) m
theorem rvoted_any (w : World) (B n : Nat) (c : CoreD) (P : Nat → Prop) (lv sv : Value) (m : MsgD) (ea da : Option Addr) (ec dc : Nat) (h : RefAt w B n c P lv sv) (hP : ∀ b, P b → b < w.heap.size) (hf : 1 ≤ m.frm ∧ m.frm ≤ 7) (hll : lastD c + 1 ≤ 2199023255552) :
    Calls Try.prog 84 #[.pointer (some ⟨n, 0, none⟩), msgV m (.slice ea m.entries.length ec) (.slice da m.data.length dc)] w (RCallPost B n P (rvotedD c m) w) := by
  by_cases hn : m.term ≠ c.term ∨ c.role ≠ 1 ∨ m.ok = false
  · exact rvoted_no w B n c P lv sv m ea da ec dc h hn
  · exact rvoted_yes w B n c P lv sv m ea da ec dc h hP (Classical.byContradiction fun h => hn (.inl h)) (Classical.byContradiction fun h => hn (.inr (.inl h))) (by rcases e : m.ok with _ | _; exact absurd (Or.inr (Or.inr e)) hn; rfl) hf hll
/-- What a call does with a message. -/
def RHearC (f : Nat) (g : CoreD → MsgD → CoreD × List MsgD) (B n : Nat) (P : Nat → Prop) (c : CoreD) (lv sv : Value) (m : MsgD) (ea da : Option Addr) (ec dc : Nat) (w : World) : Prop :=
  Calls Try.prog f #[.pointer (some ⟨n, 0, none⟩), msgV m (.slice ea m.entries.length ec) (.slice da m.data.length dc)] w (RCallPost B n P (g c m) w)

set_option maxRecDepth 100000 in
set_option maxHeartbeats 12800000 in
theorem rhear_any (w : World) (B n : Nat) (c : CoreD) (P : Nat → Prop) (lv sv : Value) (m : MsgD) (ea da : Option Addr) (ec dc : Nat) (h : RefAt w B n c P lv sv) (hP : ∀ b, P b → b < w.heap.size) (hl : ListAt entL w P (.slice ea m.entries.length ec) m.entries) (hdt : BytesAt w P (.slice da m.data.length dc) m.data)
    (hde : ∀ e ∈ m.entries, e.data.length ≤ 1000000) (hdl : m.data.length ≤ 1000000) (hll : lastD c + 8 ≤ 2199023255552) :
    Calls Try.prog 73 #[.pointer (some ⟨n, 0, none⟩), msgV m (.slice ea m.entries.length ec) (.slice da m.data.length dc)] w (RCallPost B n P (rhearD c m) w) := by
  have h10 : w.cell? ⟨n, 10, none⟩ = some (.int .i64 c.term) := h.blk.cell 10
  have h11 : w.cell? ⟨n, 11, none⟩ = some (.int .i64 c.vote) := h.blk.cell 11
  have h12 : w.cell? ⟨n, 12, none⟩ = some (.int .i64 c.role) := h.blk.cell 12
  have h13 : w.cell? ⟨n, 13, none⟩ = some (.int .i64 c.leader) := h.blk.cell 13
  have h45 : w.cell? ⟨n, 45, none⟩ = some (.bool c.hard) := (h.blk.cell 45).trans ((rget21 c lv sv 24).trans (rtail_get c h.ok.votes h.ok.next h.ok.matc).1)
  have fz : ∀ i, w.frozen? ⟨n, i, none⟩ = false := fun i => h.blk.free i
  have hlt := h.blk.lt
  have H := hid h
  have HPB := hid hP
  have HLA := hid hl
  have HDT := hid hdt
  have HDE := hid hde
  rcases hw : wrongD c m with _ | _
  rotate_left 1
  · have HW := hid hw
    have HF : Hid (rhearD c m = (c, [])) := by show _ = _; unfold rhearD; rw [hw]; rfl
    clear h hP hl hdt hde hw
    unfold msgV
    go_enter Try.func73, Try.ntmps73
    go_wp2_with fail
    refine (rmay_is false _ B n c P lv sv m ea da ec dc P (H.out.k (by exact Keeps.K)) (HLA.out.k (by exact Keeps.K)) HW.out).mono ?_
    rintro e w2 ⟨rfl, hk⟩
    have HK := hid hk
    clear hk
    go_wp2_with fail
    go_ret
    rw [HF.out]
    exact RCallPost.silent rfl ((H.out.k (Keeps.trans (F := []) (by exact Keeps.K) HK.out (fun _ _ h => h))).toGr hlt) (Keeps.mono (F := []) (Keeps.trans (F := []) (by exact Keeps.K) HK.out (fun _ _ h => h)) (fun _ _ h => by cases h))
  · have hz := hw
    unfold wrongD at hz
    simp only [Bool.or_eq_false_iff] at hz
    obtain ⟨⟨k1, k5⟩, hto, hf0, hfi, htm, ha, hb, hc, hen⟩ := wrongHead_no hz.1
    have hte : ∀ e ∈ m.entries, 0 ≤ e.term ∧ e.term ≤ 1099511627776 := fun e he => by
      have h1 := hz.2
      rw [List.any_eq_false] at h1
      have h2 := h1 e he
      simp [inD] at h2
      omega
    have hnn := ((ConfD.may_iff c.conf).1 h.ok.may).1
    have hf : 1 ≤ m.frm ∧ m.frm ≤ 7 := by omega
    have HOKS := hid (stepD_ok h.ok hw)
    have HC1 : Hid (∀ wm, RefAt wm B n (stepD c m) P lv sv → Keeps [n] w wm → Calls Try.prog 83 #[.pointer (some ⟨n, 0, none⟩), msgV m (.slice ea m.entries.length ec) (.slice da m.data.length dc)] wm (RCallPost B n P (askedD (stepD c m) m) w)) := fun wm r0 k0 => by
      have r := r0.toGr (w := w) hlt
      have hp := Gr.lt (w' := wm) hP k0.size
      have hl2 : ListAt entL wm (Gr P w wm) (.slice ea m.entries.length ec) m.entries := (hl.keep k0 (fun b hb hb' => by simp at hb'; subst hb'; exact h.apart hb)).mono (fun b _ hb => .inl hb)
      have hd2 : BytesAt wm (Gr P w wm) (.slice da m.data.length dc) m.data := (hdt.keep k0 (fun b hb hb' => by simp at hb'; subst hb'; exact h.apart hb)).mono (fun b _ hb => .inl hb)
      exact (rvote_any wm B n _ _ lv sv m ea da ec dc r).mono (fun e w' hh => RCallPost.after k0 hlt hh)
    have HC2 : Hid (∀ wm, RefAt wm B n (stepD c m) P lv sv → Keeps [n] w wm → Calls Try.prog 84 #[.pointer (some ⟨n, 0, none⟩), msgV m (.slice ea m.entries.length ec) (.slice da m.data.length dc)] wm (RCallPost B n P (rvotedD (stepD c m) m) w)) := fun wm r0 k0 => by
      have r := r0.toGr (w := w) hlt
      have hp := Gr.lt (w' := wm) hP k0.size
      have hl2 : ListAt entL wm (Gr P w wm) (.slice ea m.entries.length ec) m.entries := (hl.keep k0 (fun b hb hb' => by simp at hb'; subst hb'; exact h.apart hb)).mono (fun b _ hb => .inl hb)
      have hd2 : BytesAt wm (Gr P w wm) (.slice da m.data.length dc) m.data := (hdt.keep k0 (fun b hb hb' => by simp at hb'; subst hb'; exact h.apart hb)).mono (fun b _ hb => .inl hb)
      exact (rvoted_any wm B n _ _ lv sv m ea da ec dc r hp hf (by rw [stepD_last]; omega)).mono (fun e w' hh => RCallPost.after k0 hlt hh)
    have HC3 : Hid (∀ wm, RefAt wm B n (stepD c m) P lv sv → Keeps [n] w wm → Calls Try.prog 85 #[.pointer (some ⟨n, 0, none⟩), msgV m (.slice ea m.entries.length ec) (.slice da m.data.length dc)] wm (RCallPost B n P (takeD (stepD c m) m) w)) := fun wm r0 k0 => by
      have r := r0.toGr (w := w) hlt
      have hp := Gr.lt (w' := wm) hP k0.size
      have hl2 : ListAt entL wm (Gr P w wm) (.slice ea m.entries.length ec) m.entries := (hl.keep k0 (fun b hb hb' => by simp at hb'; subst hb'; exact h.apart hb)).mono (fun b _ hb => .inl hb)
      have hd2 : BytesAt wm (Gr P w wm) (.slice da m.data.length dc) m.data := (hdt.keep k0 (fun b hb hb' => by simp at hb'; subst hb'; exact h.apart hb)).mono (fun b _ hb => .inl hb)
      exact (rtake_any wm B n _ _ lv sv m ea da ec dc r hp hl2 ha hc hen hte HDE.out (by rw [stepD_last]; exact hll)).mono (fun e w' hh => RCallPost.after k0 hlt hh)
    have HC4 : Hid (∀ wm, RefAt wm B n (stepD c m) P lv sv → Keeps [n] w wm → Calls Try.prog 86 #[.pointer (some ⟨n, 0, none⟩), msgV m (.slice ea m.entries.length ec) (.slice da m.data.length dc)] wm (RCallPost B n P (appendedD (stepD c m) m) w)) := fun wm r0 k0 => by
      have r := r0.toGr (w := w) hlt
      have hp := Gr.lt (w' := wm) hP k0.size
      have hl2 : ListAt entL wm (Gr P w wm) (.slice ea m.entries.length ec) m.entries := (hl.keep k0 (fun b hb hb' => by simp at hb'; subst hb'; exact h.apart hb)).mono (fun b _ hb => .inl hb)
      have hd2 : BytesAt wm (Gr P w wm) (.slice da m.data.length dc) m.data := (hdt.keep k0 (fun b hb hb' => by simp at hb'; subst hb'; exact h.apart hb)).mono (fun b _ hb => .inl hb)
      exact (rtaken_any wm B n _ _ lv sv m ea da ec dc r hp hf ha).mono (fun e w' hh => RCallPost.after k0 hlt hh)
    have HC5 : Hid (∀ wm, RefAt wm B n (stepD c m) P lv sv → Keeps [n] w wm → Calls Try.prog 87 #[.pointer (some ⟨n, 0, none⟩), msgV m (.slice ea m.entries.length ec) (.slice da m.data.length dc)] wm (RCallPost B n P (rsnapD (stepD c m) m) w)) := fun wm r0 k0 => by
      have r := r0.toGr (w := w) hlt
      have hp := Gr.lt (w' := wm) hP k0.size
      have hl2 : ListAt entL wm (Gr P w wm) (.slice ea m.entries.length ec) m.entries := (hl.keep k0 (fun b hb hb' => by simp at hb'; subst hb'; exact h.apart hb)).mono (fun b _ hb => .inl hb)
      have hd2 : BytesAt wm (Gr P w wm) (.slice da m.data.length dc) m.data := (hdt.keep k0 (fun b hb hb' => by simp at hb'; subst hb'; exact h.apart hb)).mono (fun b _ hb => .inl hb)
      exact (rsnap_any wm B n _ _ lv sv m ea da ec dc r hp hd2 ha.2 hb hdl).mono (fun e w' hh => RCallPost.after k0 hlt hh)
    have HW := hid hw
    have HF0 : Hid (rhearD c m = rheardD (stepD c m) m) := by show _ = _; unfold rhearD; rw [hw]; rfl
    have hkd : (m.kind = 1) ∨ (m.kind = 2) ∨ (m.kind = 3) ∨ (m.kind = 4) ∨ (m.kind = 5) := by omega
    clear hP hl hdt hde hw hz hte hf hf0 hfi hto ha hb hc hen hdl hll hnn k1 k5
    by_cases hst : c.term < m.term
    · have hd : decide (c.term < m.term) = true := by simpa using hst
      have HSD : Hid (stepD c m = { c with term := m.term, vote := 0, hard := true, role := 0, leader := 0 }) := by
        show _ = _
        unfold stepD
        rw [if_pos hst]
        have : (c.hard || m.term != c.term || 0 != c.vote) = true := by
          have : (m.term != c.term) = true := by simp; omega
          rw [this]
          simp
        unfold risesD
        rw [this]
      unfold msgV
      clear h
      rcases hkd with hk | hk | hk | hk | hk
      · have HF : Hid (rhearD c m = askedD (stepD c m) m) := by
          show _ = _
          rw [HF0.out]
          unfold rheardD
          rw [if_pos hk]
        have b1 : (m.kind == 1) = true := by rw [hk]; rfl
        have b2 : (m.kind == 2) = false := by rw [hk]; rfl
        have b3 : (m.kind == 3) = false := by rw [hk]; rfl
        have b4 : (m.kind == 4) = false := by rw [hk]; rfl
        clear hk
        go_enter Try.func73, Try.ntmps73
        go_wp2_with fail
        refine (rmay_is true _ B n c P lv sv m ea da ec dc P (H.out.k (by exact Keeps.K)) (HLA.out.k (by exact Keeps.K)) HW.out).mono ?_
        rintro e w1 ⟨rfl, hk1⟩
        have K1 : Hid (Keeps [] w w1) := Keeps.trans (F := []) (by exact Keeps.K) hk1 (fun _ _ h => h)
        have hbx : w1.heap[w.heap.size]? = some (.cells #[.int .i64 m.kind, .int .i64 m.frm, .int .i64 m.to, .int .i64 m.term, .int .i64 m.a, .int .i64 m.b, .int .i64 m.c, .bool m.ok, .slice ea m.entries.length ec, .slice da m.data.length dc] 40 (0, 0)) := keep10 (heap_alloc_new w _) hk1
        have hz1 : w.heap.size < w1.heap.size := (Array.getElem?_eq_some_iff.1 hbx).1
        obtain ⟨⟨y0, y1, y2, y3, y4, y5, y6, y7, y8, y9⟩, _⟩ := blk10 hbx
        have x10 := K1.out.cellSome h10 (by simp)
        have x11 := K1.out.cellSome h11 (by simp)
        have x12 := K1.out.cellSome h12 (by simp)
        have x13 := K1.out.cellSome h13 (by simp)
        have x45 := K1.out.cellSome h45 (by simp)
        have fz1 : ∀ i, w1.frozen? ⟨n, i, none⟩ = false := fun i => (H.out.k K1.out).blk.free i
        have hn1 : n < w1.heap.size := by omega
        have hnz : ¬ n = w.heap.size := by omega
        have hnz' : ¬ w.heap.size = n := by omega
        clear hk1 hbx
        go_wp2_with fail
        go_quiet (fail)
        go_wp2_with fail
        refine (HC1.out _ ?_ ?_).mono ?_
        · have r0 := H.out.k (w' := w1.drewN nq) (K1.out.trans (by exact Keeps.K) (fun _ _ h => h))
          have b1 := r0.blk.set (c' := { c with term := m.term }) (lv' := lv) (sv' := sv) 10 (.int .i64 m.term) rfl
          have b2 := b1.set (c' := { c with term := m.term, vote := 0 }) (lv' := lv) (sv' := sv) 11 (.int .i64 0) rfl
          have b3 := b2.hard r0.ok.votes r0.ok.next r0.ok.matc true
          have b4 := b3.set (c' := { c with term := m.term, vote := 0, hard := true, role := 0 }) (lv' := lv) (sv' := sv) 12 (.int .i64 0) rfl
          have b5 := b4.set (c' := { c with term := m.term, vote := 0, hard := true, role := 0, leader := 0 }) (lv' := lv) (sv' := sv) 13 (.int .i64 0) rfl
          have e : stepD c m = { c with term := m.term, vote := 0, hard := true, role := 0, leader := 0 } := HSD.out
          have ok := HOKS.out
          rw [e] at ok ⊢
          exact r0.wrote (by exact Keeps.K) b5 rfl rfl ok
        · exact (K1.out.mono (G := [n]) (fun _ _ h => by cases h)).trans (by exact Keeps.K) (fun _ _ h => h)
        rintro e w6 ⟨a, q, lv2, sv2, rfl, h6, m6, k6⟩
        have HP : Hid (RCallPost B n P (rhearD c m) w (.returned (.slice a (askedD (stepD c m) m).2.length q)) w6) := by
          show RCallPost _ _ _ _ _ _ _
          rw [HF.out]
          exact ⟨a, q, lv2, sv2, rfl, h6, m6, k6⟩
        clear h6 m6 k6
        go_wp2_with fail
        go_ret
        exact HP.out
      · have HF : Hid (rhearD c m = rvotedD (stepD c m) m) := by
          show _ = _
          rw [HF0.out]
          unfold rheardD
          rw [if_neg (by omega), if_pos hk]
        have b1 : (m.kind == 1) = false := by rw [hk]; rfl
        have b2 : (m.kind == 2) = true := by rw [hk]; rfl
        have b3 : (m.kind == 3) = false := by rw [hk]; rfl
        have b4 : (m.kind == 4) = false := by rw [hk]; rfl
        clear hk
        go_enter Try.func73, Try.ntmps73
        go_wp2_with fail
        refine (rmay_is true _ B n c P lv sv m ea da ec dc P (H.out.k (by exact Keeps.K)) (HLA.out.k (by exact Keeps.K)) HW.out).mono ?_
        rintro e w1 ⟨rfl, hk1⟩
        have K1 : Hid (Keeps [] w w1) := Keeps.trans (F := []) (by exact Keeps.K) hk1 (fun _ _ h => h)
        have hbx : w1.heap[w.heap.size]? = some (.cells #[.int .i64 m.kind, .int .i64 m.frm, .int .i64 m.to, .int .i64 m.term, .int .i64 m.a, .int .i64 m.b, .int .i64 m.c, .bool m.ok, .slice ea m.entries.length ec, .slice da m.data.length dc] 40 (0, 0)) := keep10 (heap_alloc_new w _) hk1
        have hz1 : w.heap.size < w1.heap.size := (Array.getElem?_eq_some_iff.1 hbx).1
        obtain ⟨⟨y0, y1, y2, y3, y4, y5, y6, y7, y8, y9⟩, _⟩ := blk10 hbx
        have x10 := K1.out.cellSome h10 (by simp)
        have x11 := K1.out.cellSome h11 (by simp)
        have x12 := K1.out.cellSome h12 (by simp)
        have x13 := K1.out.cellSome h13 (by simp)
        have x45 := K1.out.cellSome h45 (by simp)
        have fz1 : ∀ i, w1.frozen? ⟨n, i, none⟩ = false := fun i => (H.out.k K1.out).blk.free i
        have hn1 : n < w1.heap.size := by omega
        have hnz : ¬ n = w.heap.size := by omega
        have hnz' : ¬ w.heap.size = n := by omega
        clear hk1 hbx
        go_wp2_with fail
        go_quiet (fail)
        go_wp2_with fail
        refine (HC2.out _ ?_ ?_).mono ?_
        · have r0 := H.out.k (w' := w1.drewN nq) (K1.out.trans (by exact Keeps.K) (fun _ _ h => h))
          have b1 := r0.blk.set (c' := { c with term := m.term }) (lv' := lv) (sv' := sv) 10 (.int .i64 m.term) rfl
          have b2 := b1.set (c' := { c with term := m.term, vote := 0 }) (lv' := lv) (sv' := sv) 11 (.int .i64 0) rfl
          have b3 := b2.hard r0.ok.votes r0.ok.next r0.ok.matc true
          have b4 := b3.set (c' := { c with term := m.term, vote := 0, hard := true, role := 0 }) (lv' := lv) (sv' := sv) 12 (.int .i64 0) rfl
          have b5 := b4.set (c' := { c with term := m.term, vote := 0, hard := true, role := 0, leader := 0 }) (lv' := lv) (sv' := sv) 13 (.int .i64 0) rfl
          have e : stepD c m = { c with term := m.term, vote := 0, hard := true, role := 0, leader := 0 } := HSD.out
          have ok := HOKS.out
          rw [e] at ok ⊢
          exact r0.wrote (by exact Keeps.K) b5 rfl rfl ok
        · exact (K1.out.mono (G := [n]) (fun _ _ h => by cases h)).trans (by exact Keeps.K) (fun _ _ h => h)
        rintro e w6 ⟨a, q, lv2, sv2, rfl, h6, m6, k6⟩
        have HP : Hid (RCallPost B n P (rhearD c m) w (.returned (.slice a (rvotedD (stepD c m) m).2.length q)) w6) := by
          show RCallPost _ _ _ _ _ _ _
          rw [HF.out]
          exact ⟨a, q, lv2, sv2, rfl, h6, m6, k6⟩
        clear h6 m6 k6
        go_wp2_with fail
        go_ret
        exact HP.out
      · have HF : Hid (rhearD c m = takeD (stepD c m) m) := by
          show _ = _
          rw [HF0.out]
          unfold rheardD
          rw [if_neg (by omega), if_neg (by omega), if_pos hk]
        have b1 : (m.kind == 1) = false := by rw [hk]; rfl
        have b2 : (m.kind == 2) = false := by rw [hk]; rfl
        have b3 : (m.kind == 3) = true := by rw [hk]; rfl
        have b4 : (m.kind == 4) = false := by rw [hk]; rfl
        clear hk
        go_enter Try.func73, Try.ntmps73
        go_wp2_with fail
        refine (rmay_is true _ B n c P lv sv m ea da ec dc P (H.out.k (by exact Keeps.K)) (HLA.out.k (by exact Keeps.K)) HW.out).mono ?_
        rintro e w1 ⟨rfl, hk1⟩
        have K1 : Hid (Keeps [] w w1) := Keeps.trans (F := []) (by exact Keeps.K) hk1 (fun _ _ h => h)
        have hbx : w1.heap[w.heap.size]? = some (.cells #[.int .i64 m.kind, .int .i64 m.frm, .int .i64 m.to, .int .i64 m.term, .int .i64 m.a, .int .i64 m.b, .int .i64 m.c, .bool m.ok, .slice ea m.entries.length ec, .slice da m.data.length dc] 40 (0, 0)) := keep10 (heap_alloc_new w _) hk1
        have hz1 : w.heap.size < w1.heap.size := (Array.getElem?_eq_some_iff.1 hbx).1
        obtain ⟨⟨y0, y1, y2, y3, y4, y5, y6, y7, y8, y9⟩, _⟩ := blk10 hbx
        have x10 := K1.out.cellSome h10 (by simp)
        have x11 := K1.out.cellSome h11 (by simp)
        have x12 := K1.out.cellSome h12 (by simp)
        have x13 := K1.out.cellSome h13 (by simp)
        have x45 := K1.out.cellSome h45 (by simp)
        have fz1 : ∀ i, w1.frozen? ⟨n, i, none⟩ = false := fun i => (H.out.k K1.out).blk.free i
        have hn1 : n < w1.heap.size := by omega
        have hnz : ¬ n = w.heap.size := by omega
        have hnz' : ¬ w.heap.size = n := by omega
        clear hk1 hbx
        go_wp2_with fail
        go_quiet (fail)
        go_wp2_with fail
        refine (HC3.out _ ?_ ?_).mono ?_
        · have r0 := H.out.k (w' := w1.drewN nq) (K1.out.trans (by exact Keeps.K) (fun _ _ h => h))
          have b1 := r0.blk.set (c' := { c with term := m.term }) (lv' := lv) (sv' := sv) 10 (.int .i64 m.term) rfl
          have b2 := b1.set (c' := { c with term := m.term, vote := 0 }) (lv' := lv) (sv' := sv) 11 (.int .i64 0) rfl
          have b3 := b2.hard r0.ok.votes r0.ok.next r0.ok.matc true
          have b4 := b3.set (c' := { c with term := m.term, vote := 0, hard := true, role := 0 }) (lv' := lv) (sv' := sv) 12 (.int .i64 0) rfl
          have b5 := b4.set (c' := { c with term := m.term, vote := 0, hard := true, role := 0, leader := 0 }) (lv' := lv) (sv' := sv) 13 (.int .i64 0) rfl
          have e : stepD c m = { c with term := m.term, vote := 0, hard := true, role := 0, leader := 0 } := HSD.out
          have ok := HOKS.out
          rw [e] at ok ⊢
          exact r0.wrote (by exact Keeps.K) b5 rfl rfl ok
        · exact (K1.out.mono (G := [n]) (fun _ _ h => by cases h)).trans (by exact Keeps.K) (fun _ _ h => h)
        rintro e w6 ⟨a, q, lv2, sv2, rfl, h6, m6, k6⟩
        have HP : Hid (RCallPost B n P (rhearD c m) w (.returned (.slice a (takeD (stepD c m) m).2.length q)) w6) := by
          show RCallPost _ _ _ _ _ _ _
          rw [HF.out]
          exact ⟨a, q, lv2, sv2, rfl, h6, m6, k6⟩
        clear h6 m6 k6
        go_wp2_with fail
        go_ret
        exact HP.out
      · have HF : Hid (rhearD c m = appendedD (stepD c m) m) := by
          show _ = _
          rw [HF0.out]
          unfold rheardD
          rw [if_neg (by omega), if_neg (by omega), if_neg (by omega), if_pos hk]
        have b1 : (m.kind == 1) = false := by rw [hk]; rfl
        have b2 : (m.kind == 2) = false := by rw [hk]; rfl
        have b3 : (m.kind == 3) = false := by rw [hk]; rfl
        have b4 : (m.kind == 4) = true := by rw [hk]; rfl
        clear hk
        go_enter Try.func73, Try.ntmps73
        go_wp2_with fail
        refine (rmay_is true _ B n c P lv sv m ea da ec dc P (H.out.k (by exact Keeps.K)) (HLA.out.k (by exact Keeps.K)) HW.out).mono ?_
        rintro e w1 ⟨rfl, hk1⟩
        have K1 : Hid (Keeps [] w w1) := Keeps.trans (F := []) (by exact Keeps.K) hk1 (fun _ _ h => h)
        have hbx : w1.heap[w.heap.size]? = some (.cells #[.int .i64 m.kind, .int .i64 m.frm, .int .i64 m.to, .int .i64 m.term, .int .i64 m.a, .int .i64 m.b, .int .i64 m.c, .bool m.ok, .slice ea m.entries.length ec, .slice da m.data.length dc] 40 (0, 0)) := keep10 (heap_alloc_new w _) hk1
        have hz1 : w.heap.size < w1.heap.size := (Array.getElem?_eq_some_iff.1 hbx).1
        obtain ⟨⟨y0, y1, y2, y3, y4, y5, y6, y7, y8, y9⟩, _⟩ := blk10 hbx
        have x10 := K1.out.cellSome h10 (by simp)
        have x11 := K1.out.cellSome h11 (by simp)
        have x12 := K1.out.cellSome h12 (by simp)
        have x13 := K1.out.cellSome h13 (by simp)
        have x45 := K1.out.cellSome h45 (by simp)
        have fz1 : ∀ i, w1.frozen? ⟨n, i, none⟩ = false := fun i => (H.out.k K1.out).blk.free i
        have hn1 : n < w1.heap.size := by omega
        have hnz : ¬ n = w.heap.size := by omega
        have hnz' : ¬ w.heap.size = n := by omega
        clear hk1 hbx
        go_wp2_with fail
        go_quiet (fail)
        go_wp2_with fail
        refine (HC4.out _ ?_ ?_).mono ?_
        · have r0 := H.out.k (w' := w1.drewN nq) (K1.out.trans (by exact Keeps.K) (fun _ _ h => h))
          have b1 := r0.blk.set (c' := { c with term := m.term }) (lv' := lv) (sv' := sv) 10 (.int .i64 m.term) rfl
          have b2 := b1.set (c' := { c with term := m.term, vote := 0 }) (lv' := lv) (sv' := sv) 11 (.int .i64 0) rfl
          have b3 := b2.hard r0.ok.votes r0.ok.next r0.ok.matc true
          have b4 := b3.set (c' := { c with term := m.term, vote := 0, hard := true, role := 0 }) (lv' := lv) (sv' := sv) 12 (.int .i64 0) rfl
          have b5 := b4.set (c' := { c with term := m.term, vote := 0, hard := true, role := 0, leader := 0 }) (lv' := lv) (sv' := sv) 13 (.int .i64 0) rfl
          have e : stepD c m = { c with term := m.term, vote := 0, hard := true, role := 0, leader := 0 } := HSD.out
          have ok := HOKS.out
          rw [e] at ok ⊢
          exact r0.wrote (by exact Keeps.K) b5 rfl rfl ok
        · exact (K1.out.mono (G := [n]) (fun _ _ h => by cases h)).trans (by exact Keeps.K) (fun _ _ h => h)
        rintro e w6 ⟨a, q, lv2, sv2, rfl, h6, m6, k6⟩
        have HP : Hid (RCallPost B n P (rhearD c m) w (.returned (.slice a (appendedD (stepD c m) m).2.length q)) w6) := by
          show RCallPost _ _ _ _ _ _ _
          rw [HF.out]
          exact ⟨a, q, lv2, sv2, rfl, h6, m6, k6⟩
        clear h6 m6 k6
        go_wp2_with fail
        go_ret
        exact HP.out
      · have HF : Hid (rhearD c m = rsnapD (stepD c m) m) := by
          show _ = _
          rw [HF0.out]
          unfold rheardD
          rw [if_neg (by omega), if_neg (by omega), if_neg (by omega), if_neg (by omega)]
        have b1 : (m.kind == 1) = false := by rw [hk]; rfl
        have b2 : (m.kind == 2) = false := by rw [hk]; rfl
        have b3 : (m.kind == 3) = false := by rw [hk]; rfl
        have b4 : (m.kind == 4) = false := by rw [hk]; rfl
        clear hk
        go_enter Try.func73, Try.ntmps73
        go_wp2_with fail
        refine (rmay_is true _ B n c P lv sv m ea da ec dc P (H.out.k (by exact Keeps.K)) (HLA.out.k (by exact Keeps.K)) HW.out).mono ?_
        rintro e w1 ⟨rfl, hk1⟩
        have K1 : Hid (Keeps [] w w1) := Keeps.trans (F := []) (by exact Keeps.K) hk1 (fun _ _ h => h)
        have hbx : w1.heap[w.heap.size]? = some (.cells #[.int .i64 m.kind, .int .i64 m.frm, .int .i64 m.to, .int .i64 m.term, .int .i64 m.a, .int .i64 m.b, .int .i64 m.c, .bool m.ok, .slice ea m.entries.length ec, .slice da m.data.length dc] 40 (0, 0)) := keep10 (heap_alloc_new w _) hk1
        have hz1 : w.heap.size < w1.heap.size := (Array.getElem?_eq_some_iff.1 hbx).1
        obtain ⟨⟨y0, y1, y2, y3, y4, y5, y6, y7, y8, y9⟩, _⟩ := blk10 hbx
        have x10 := K1.out.cellSome h10 (by simp)
        have x11 := K1.out.cellSome h11 (by simp)
        have x12 := K1.out.cellSome h12 (by simp)
        have x13 := K1.out.cellSome h13 (by simp)
        have x45 := K1.out.cellSome h45 (by simp)
        have fz1 : ∀ i, w1.frozen? ⟨n, i, none⟩ = false := fun i => (H.out.k K1.out).blk.free i
        have hn1 : n < w1.heap.size := by omega
        have hnz : ¬ n = w.heap.size := by omega
        have hnz' : ¬ w.heap.size = n := by omega
        clear hk1 hbx
        go_wp2_with fail
        go_quiet (fail)
        go_wp2_with fail
        refine (HC5.out _ ?_ ?_).mono ?_
        · have r0 := H.out.k (w' := w1.drewN nq) (K1.out.trans (by exact Keeps.K) (fun _ _ h => h))
          have b1 := r0.blk.set (c' := { c with term := m.term }) (lv' := lv) (sv' := sv) 10 (.int .i64 m.term) rfl
          have b2 := b1.set (c' := { c with term := m.term, vote := 0 }) (lv' := lv) (sv' := sv) 11 (.int .i64 0) rfl
          have b3 := b2.hard r0.ok.votes r0.ok.next r0.ok.matc true
          have b4 := b3.set (c' := { c with term := m.term, vote := 0, hard := true, role := 0 }) (lv' := lv) (sv' := sv) 12 (.int .i64 0) rfl
          have b5 := b4.set (c' := { c with term := m.term, vote := 0, hard := true, role := 0, leader := 0 }) (lv' := lv) (sv' := sv) 13 (.int .i64 0) rfl
          have e : stepD c m = { c with term := m.term, vote := 0, hard := true, role := 0, leader := 0 } := HSD.out
          have ok := HOKS.out
          rw [e] at ok ⊢
          exact r0.wrote (by exact Keeps.K) b5 rfl rfl ok
        · exact (K1.out.mono (G := [n]) (fun _ _ h => by cases h)).trans (by exact Keeps.K) (fun _ _ h => h)
        rintro e w6 ⟨a, q, lv2, sv2, rfl, h6, m6, k6⟩
        have HP : Hid (RCallPost B n P (rhearD c m) w (.returned (.slice a (rsnapD (stepD c m) m).2.length q)) w6) := by
          show RCallPost _ _ _ _ _ _ _
          rw [HF.out]
          exact ⟨a, q, lv2, sv2, rfl, h6, m6, k6⟩
        clear h6 m6 k6
        go_wp2_with fail
        go_ret
        exact HP.out
    · have hd : decide (c.term < m.term) = false := by simpa using hst
      have HSD : Hid (stepD c m = c) := by show _ = _; unfold stepD; rw [if_neg hst]
      unfold msgV
      clear h
      rcases hkd with hk | hk | hk | hk | hk
      · have HF : Hid (rhearD c m = askedD (stepD c m) m) := by
          show _ = _
          rw [HF0.out]
          unfold rheardD
          rw [if_pos hk]
        have b1 : (m.kind == 1) = true := by rw [hk]; rfl
        have b2 : (m.kind == 2) = false := by rw [hk]; rfl
        have b3 : (m.kind == 3) = false := by rw [hk]; rfl
        have b4 : (m.kind == 4) = false := by rw [hk]; rfl
        clear hk
        go_enter Try.func73, Try.ntmps73
        go_wp2_with fail
        refine (rmay_is true _ B n c P lv sv m ea da ec dc P (H.out.k (by exact Keeps.K)) (HLA.out.k (by exact Keeps.K)) HW.out).mono ?_
        rintro e w1 ⟨rfl, hk1⟩
        have K1 : Hid (Keeps [] w w1) := Keeps.trans (F := []) (by exact Keeps.K) hk1 (fun _ _ h => h)
        have hbx : w1.heap[w.heap.size]? = some (.cells #[.int .i64 m.kind, .int .i64 m.frm, .int .i64 m.to, .int .i64 m.term, .int .i64 m.a, .int .i64 m.b, .int .i64 m.c, .bool m.ok, .slice ea m.entries.length ec, .slice da m.data.length dc] 40 (0, 0)) := keep10 (heap_alloc_new w _) hk1
        have hz1 : w.heap.size < w1.heap.size := (Array.getElem?_eq_some_iff.1 hbx).1
        obtain ⟨⟨y0, y1, y2, y3, y4, y5, y6, y7, y8, y9⟩, _⟩ := blk10 hbx
        have x10 := K1.out.cellSome h10 (by simp)
        clear hk1 hbx
        go_wp2_with fail
        go_quiet (fail)
        go_wp2_with fail
        refine (HC1.out _ ?_ ?_).mono ?_
        · rw [HSD.out]
          exact H.out.k (K1.out.trans (by exact Keeps.K) (fun _ _ h => h))
        · exact (K1.out.mono (G := [n]) (fun _ _ h => by cases h)).trans (G := []) (by exact Keeps.K) (fun _ _ h => by cases h)
        rintro e w6 ⟨a, q, lv2, sv2, rfl, h6, m6, k6⟩
        have HP : Hid (RCallPost B n P (rhearD c m) w (.returned (.slice a (askedD (stepD c m) m).2.length q)) w6) := by
          show RCallPost _ _ _ _ _ _ _
          rw [HF.out]
          exact ⟨a, q, lv2, sv2, rfl, h6, m6, k6⟩
        clear h6 m6 k6
        go_wp2_with fail
        go_ret
        exact HP.out
      · have HF : Hid (rhearD c m = rvotedD (stepD c m) m) := by
          show _ = _
          rw [HF0.out]
          unfold rheardD
          rw [if_neg (by omega), if_pos hk]
        have b1 : (m.kind == 1) = false := by rw [hk]; rfl
        have b2 : (m.kind == 2) = true := by rw [hk]; rfl
        have b3 : (m.kind == 3) = false := by rw [hk]; rfl
        have b4 : (m.kind == 4) = false := by rw [hk]; rfl
        clear hk
        go_enter Try.func73, Try.ntmps73
        go_wp2_with fail
        refine (rmay_is true _ B n c P lv sv m ea da ec dc P (H.out.k (by exact Keeps.K)) (HLA.out.k (by exact Keeps.K)) HW.out).mono ?_
        rintro e w1 ⟨rfl, hk1⟩
        have K1 : Hid (Keeps [] w w1) := Keeps.trans (F := []) (by exact Keeps.K) hk1 (fun _ _ h => h)
        have hbx : w1.heap[w.heap.size]? = some (.cells #[.int .i64 m.kind, .int .i64 m.frm, .int .i64 m.to, .int .i64 m.term, .int .i64 m.a, .int .i64 m.b, .int .i64 m.c, .bool m.ok, .slice ea m.entries.length ec, .slice da m.data.length dc] 40 (0, 0)) := keep10 (heap_alloc_new w _) hk1
        have hz1 : w.heap.size < w1.heap.size := (Array.getElem?_eq_some_iff.1 hbx).1
        obtain ⟨⟨y0, y1, y2, y3, y4, y5, y6, y7, y8, y9⟩, _⟩ := blk10 hbx
        have x10 := K1.out.cellSome h10 (by simp)
        clear hk1 hbx
        go_wp2_with fail
        go_quiet (fail)
        go_wp2_with fail
        refine (HC2.out _ ?_ ?_).mono ?_
        · rw [HSD.out]
          exact H.out.k (K1.out.trans (by exact Keeps.K) (fun _ _ h => h))
        · exact (K1.out.mono (G := [n]) (fun _ _ h => by cases h)).trans (G := []) (by exact Keeps.K) (fun _ _ h => by cases h)
        rintro e w6 ⟨a, q, lv2, sv2, rfl, h6, m6, k6⟩
        have HP : Hid (RCallPost B n P (rhearD c m) w (.returned (.slice a (rvotedD (stepD c m) m).2.length q)) w6) := by
          show RCallPost _ _ _ _ _ _ _
          rw [HF.out]
          exact ⟨a, q, lv2, sv2, rfl, h6, m6, k6⟩
        clear h6 m6 k6
        go_wp2_with fail
        go_ret
        exact HP.out
      · have HF : Hid (rhearD c m = takeD (stepD c m) m) := by
          show _ = _
          rw [HF0.out]
          unfold rheardD
          rw [if_neg (by omega), if_neg (by omega), if_pos hk]
        have b1 : (m.kind == 1) = false := by rw [hk]; rfl
        have b2 : (m.kind == 2) = false := by rw [hk]; rfl
        have b3 : (m.kind == 3) = true := by rw [hk]; rfl
        have b4 : (m.kind == 4) = false := by rw [hk]; rfl
        clear hk
        go_enter Try.func73, Try.ntmps73
        go_wp2_with fail
        refine (rmay_is true _ B n c P lv sv m ea da ec dc P (H.out.k (by exact Keeps.K)) (HLA.out.k (by exact Keeps.K)) HW.out).mono ?_
        rintro e w1 ⟨rfl, hk1⟩
        have K1 : Hid (Keeps [] w w1) := Keeps.trans (F := []) (by exact Keeps.K) hk1 (fun _ _ h => h)
        have hbx : w1.heap[w.heap.size]? = some (.cells #[.int .i64 m.kind, .int .i64 m.frm, .int .i64 m.to, .int .i64 m.term, .int .i64 m.a, .int .i64 m.b, .int .i64 m.c, .bool m.ok, .slice ea m.entries.length ec, .slice da m.data.length dc] 40 (0, 0)) := keep10 (heap_alloc_new w _) hk1
        have hz1 : w.heap.size < w1.heap.size := (Array.getElem?_eq_some_iff.1 hbx).1
        obtain ⟨⟨y0, y1, y2, y3, y4, y5, y6, y7, y8, y9⟩, _⟩ := blk10 hbx
        have x10 := K1.out.cellSome h10 (by simp)
        clear hk1 hbx
        go_wp2_with fail
        go_quiet (fail)
        go_wp2_with fail
        refine (HC3.out _ ?_ ?_).mono ?_
        · rw [HSD.out]
          exact H.out.k (K1.out.trans (by exact Keeps.K) (fun _ _ h => h))
        · exact (K1.out.mono (G := [n]) (fun _ _ h => by cases h)).trans (G := []) (by exact Keeps.K) (fun _ _ h => by cases h)
        rintro e w6 ⟨a, q, lv2, sv2, rfl, h6, m6, k6⟩
        have HP : Hid (RCallPost B n P (rhearD c m) w (.returned (.slice a (takeD (stepD c m) m).2.length q)) w6) := by
          show RCallPost _ _ _ _ _ _ _
          rw [HF.out]
          exact ⟨a, q, lv2, sv2, rfl, h6, m6, k6⟩
        clear h6 m6 k6
        go_wp2_with fail
        go_ret
        exact HP.out
      · have HF : Hid (rhearD c m = appendedD (stepD c m) m) := by
          show _ = _
          rw [HF0.out]
          unfold rheardD
          rw [if_neg (by omega), if_neg (by omega), if_neg (by omega), if_pos hk]
        have b1 : (m.kind == 1) = false := by rw [hk]; rfl
        have b2 : (m.kind == 2) = false := by rw [hk]; rfl
        have b3 : (m.kind == 3) = false := by rw [hk]; rfl
        have b4 : (m.kind == 4) = true := by rw [hk]; rfl
        clear hk
        go_enter Try.func73, Try.ntmps73
        go_wp2_with fail
        refine (rmay_is true _ B n c P lv sv m ea da ec dc P (H.out.k (by exact Keeps.K)) (HLA.out.k (by exact Keeps.K)) HW.out).mono ?_
        rintro e w1 ⟨rfl, hk1⟩
        have K1 : Hid (Keeps [] w w1) := Keeps.trans (F := []) (by exact Keeps.K) hk1 (fun _ _ h => h)
        have hbx : w1.heap[w.heap.size]? = some (.cells #[.int .i64 m.kind, .int .i64 m.frm, .int .i64 m.to, .int .i64 m.term, .int .i64 m.a, .int .i64 m.b, .int .i64 m.c, .bool m.ok, .slice ea m.entries.length ec, .slice da m.data.length dc] 40 (0, 0)) := keep10 (heap_alloc_new w _) hk1
        have hz1 : w.heap.size < w1.heap.size := (Array.getElem?_eq_some_iff.1 hbx).1
        obtain ⟨⟨y0, y1, y2, y3, y4, y5, y6, y7, y8, y9⟩, _⟩ := blk10 hbx
        have x10 := K1.out.cellSome h10 (by simp)
        clear hk1 hbx
        go_wp2_with fail
        go_quiet (fail)
        go_wp2_with fail
        refine (HC4.out _ ?_ ?_).mono ?_
        · rw [HSD.out]
          exact H.out.k (K1.out.trans (by exact Keeps.K) (fun _ _ h => h))
        · exact (K1.out.mono (G := [n]) (fun _ _ h => by cases h)).trans (G := []) (by exact Keeps.K) (fun _ _ h => by cases h)
        rintro e w6 ⟨a, q, lv2, sv2, rfl, h6, m6, k6⟩
        have HP : Hid (RCallPost B n P (rhearD c m) w (.returned (.slice a (appendedD (stepD c m) m).2.length q)) w6) := by
          show RCallPost _ _ _ _ _ _ _
          rw [HF.out]
          exact ⟨a, q, lv2, sv2, rfl, h6, m6, k6⟩
        clear h6 m6 k6
        go_wp2_with fail
        go_ret
        exact HP.out
      · have HF : Hid (rhearD c m = rsnapD (stepD c m) m) := by
          show _ = _
          rw [HF0.out]
          unfold rheardD
          rw [if_neg (by omega), if_neg (by omega), if_neg (by omega), if_neg (by omega)]
        have b1 : (m.kind == 1) = false := by rw [hk]; rfl
        have b2 : (m.kind == 2) = false := by rw [hk]; rfl
        have b3 : (m.kind == 3) = false := by rw [hk]; rfl
        have b4 : (m.kind == 4) = false := by rw [hk]; rfl
        clear hk
        go_enter Try.func73, Try.ntmps73
        go_wp2_with fail
        refine (rmay_is true _ B n c P lv sv m ea da ec dc P (H.out.k (by exact Keeps.K)) (HLA.out.k (by exact Keeps.K)) HW.out).mono ?_
        rintro e w1 ⟨rfl, hk1⟩
        have K1 : Hid (Keeps [] w w1) := Keeps.trans (F := []) (by exact Keeps.K) hk1 (fun _ _ h => h)
        have hbx : w1.heap[w.heap.size]? = some (.cells #[.int .i64 m.kind, .int .i64 m.frm, .int .i64 m.to, .int .i64 m.term, .int .i64 m.a, .int .i64 m.b, .int .i64 m.c, .bool m.ok, .slice ea m.entries.length ec, .slice da m.data.length dc] 40 (0, 0)) := keep10 (heap_alloc_new w _) hk1
        have hz1 : w.heap.size < w1.heap.size := (Array.getElem?_eq_some_iff.1 hbx).1
        obtain ⟨⟨y0, y1, y2, y3, y4, y5, y6, y7, y8, y9⟩, _⟩ := blk10 hbx
        have x10 := K1.out.cellSome h10 (by simp)
        clear hk1 hbx
        go_wp2_with fail
        go_quiet (fail)
        go_wp2_with fail
        refine (HC5.out _ ?_ ?_).mono ?_
        · rw [HSD.out]
          exact H.out.k (K1.out.trans (by exact Keeps.K) (fun _ _ h => h))
        · exact (K1.out.mono (G := [n]) (fun _ _ h => by cases h)).trans (G := []) (by exact Keeps.K) (fun _ _ h => by cases h)
        rintro e w6 ⟨a, q, lv2, sv2, rfl, h6, m6, k6⟩
        have HP : Hid (RCallPost B n P (rhearD c m) w (.returned (.slice a (rsnapD (stepD c m) m).2.length q)) w6) := by
          show RCallPost _ _ _ _ _ _ _
          rw [HF.out]
          exact ⟨a, q, lv2, sv2, rfl, h6, m6, k6⟩
        clear h6 m6 k6
        go_wp2_with fail
        go_ret
        exact HP.out

end Go.Proofs.Ytpppoajnbhipeaa
