/- Joined of CoreU, PlayB. -/
import Derived.Test.YtpppoajnbhipeaaQ30

/- SameEntry, SameEntries: of like entries. -/
namespace Go.Proofs.Ytpppoajnbhipeaa
open Go Go.RowKit

theorem conv_str {w : World} {v : Value} {bs : List UInt8} (hr : Reads w 1 v bs.length (u8s bs)) : (convert 38 9 v).run Try.prog w = .ok (.string (str bs)) w :=
  run_convert_str _ _ _ 5 _ bs Try.underlying38 Try.underlying5 Try.underlying9 hr

set_option maxHeartbeats 800000 in
theorem sameEntry_any (e : Ent) (a1 a2 : Option Addr) (c1 c2 : Nat) (w : World) (h1 : Reads w 1 (.slice a1 e.data.length c1) e.data.length (u8s e.data)) (h2 : Reads w 1 (.slice a2 e.data.length c2) e.data.length (u8s e.data)) :
    Calls Try.prog 60 #[.agg #[.int .i64 e.term, .bool e.cmd, .slice a1 e.data.length c1], .agg #[.int .i64 e.term, .bool e.cmd, .slice a2 e.data.length c2]] w fun x w' => x = .returned (.bool true) ∧ Keeps [] w w' := by
  have k2 : Keeps [] w ((w.alloc (.cells #[.int .i64 e.term, .bool e.cmd, .slice a1 e.data.length c1] 59)).alloc (.cells #[.int .i64 e.term, .bool e.cmd, .slice a2 e.data.length c2] 59)) := ((Keeps.refl [] w).alloc _).alloc _
  have v1 := conv_str (h1.keeps k2 (fun _ _ h => by cases h))
  have v2 := conv_str (h2.keeps k2 (fun _ _ h => by cases h))
  have K2 := hid k2
  clear h1 h2 k2
  go_enter Try.func60, Try.ntmps60
  go_wp2
  go_ret
  exact ⟨rfl, K2.out⟩

set_option maxRecDepth 100000 in
set_option maxHeartbeats 1600000 in
theorem sameEntries_any (l : List Ent) (P1 P2 : Nat → Prop) (a1 a2 : Option Addr) (c1 c2 : Nat) (w : World) (h1 : ListAt entL w P1 (.slice a1 l.length c1) l) (h2 : ListAt entL w P2 (.slice a2 l.length c2) l) (hl : l.length ≤ 100000) :
    Calls Try.prog 34 #[.slice a1 l.length c1, .slice a2 l.length c2] w fun x w' => x = .returned (.bool true) ∧ Keeps [] w w' := by
  have H1 := hid h1
  have H2 := hid h2
  clear h1 h2
  go_enter Try.func34, Try.ntmps34
  go_wp2_with fail
  go_loopw [5] (fun i wr => ∃ k : Nat, k ≤ l.length ∧ i = .int .i64 k ∧ Hid (Keeps [] w wr)) (fun i _ => l.length - (intOf i).toNat)
  case atStart => exact ⟨0, Nat.zero_le _, rfl, Keeps.refl [] w⟩
  case round =>
    obtain ⟨k, hk, rfl, HK⟩ := hrel
    by_cases hlt : k < l.length
    · have i0 : (0 : Int) ≤ (k : Int) := Int.natCast_nonneg _
      have i1 : (k : Int) < (l.length : Int) := by omega
      obtain ⟨e, he⟩ : ∃ e, l[k]? = some e := ⟨l[k], List.getElem?_eq_getElem hlt⟩
      obtain ⟨g, off, cg, av, cv, ha, _, _, x0, x1, x2, xb⟩ := (H1.out.k HK.out).ent he
      simp at ha
      obtain ⟨ha, hcc⟩ := ha
      subst ha
      subst hcc
      obtain ⟨g2, off2, cg2, av2, cv2, ha, _, _, y0, y1, y2, yb⟩ := (H2.out.k HK.out).ent he
      simp at ha
      obtain ⟨ha, hcc⟩ := ha
      subst ha
      subst hcc
      have XB := hid xb.1
      have YB := hid yb.1
      clear xb yb he
      go_wp2_with fail
      refine Plan.wp_region_plan (fun w' => w'.cell? ⟨g, off + k * 3, none⟩ = some (.int .i64 e.term) ∧ w'.cell? ⟨g, off + k * 3 + 1, none⟩ = some (.bool e.cmd) ∧ w'.cell? ⟨g, off + k * 3 + 2, none⟩ = some (.slice av e.data.length cv) ∧ w'.cell? ⟨g2, off2 + k * 3, none⟩ = some (.int .i64 e.term) ∧ w'.cell? ⟨g2, off2 + k * 3 + 1, none⟩ = some (.bool e.cmd) ∧ w'.cell? ⟨g2, off2 + k * 3 + 2, none⟩ = some (.slice av2 e.data.length cv2)) 8 [(true, 0), (true, 1), (true, 2), (true, 3), (true, 4), (true, 5), (true, 6), (true, 7)] (by kernel_rfl) (by as_aux_lemma => kernel_rfl) (by kernel_rfl) (fun _ _ _ _ _ h => h) ?_ (fun hS => ?_)
      (· exact ⟨x0, x1, x2, y0, y1, y2⟩)
      simp only [Plan.pick, List.append_eq, List.cons_append, List.nil_append, Plan.g1, Plan.g2, Option.getD_some, List.drop_succ_cons, List.drop_zero]
      repeat (first | (refine Plan.take (v := ?_) (a' := ?_) (by rfl) ?_ ?_ ?_; rotate_left 2; (· (intro w' hS'; (try dsimp only at hS'); go_simp; try with_reducible rfl)); (· (simp only [Act.put, List.setIfInBounds_toArray, List.set_cons_zero, List.set_cons_succ]; try with_reducible rfl))) | (refine Plan.pass (a' := ?_) (by rfl) ?_ ?_; rotate_left 1; (· (simp only [Act.put, List.setIfInBounds_toArray, List.set_cons_zero, List.set_cons_succ]; try with_reducible rfl))))
      refine Plan.fin ?_
      go_wp2_with fail
      refine (sameEntry_any e av av2 cv cv2 _ (by exact XB.out) (by exact YB.out)).mono ?_
      rintro x w3 ⟨rfl, k3⟩
      have K3 : Hid (Keeps [] w w3) := HK.out.drew.trans k3 (fun _ _ h => h)
      clear k3
      go_wp2_with fail
      go_roundw
      case rel => exact ⟨k + 1, by omega, by go_num, K3.out⟩
      case measure => simp [intOf]; omega
    · have hkl : k = l.length := by omega
      subst hkl
      go_wp2_with fail
      go_ret
      exact ⟨rfl, HK.out⟩

end Go.Proofs.Ytpppoajnbhipeaa

/- CorePlays: SameMsgs of like messages. -/
namespace Go.Proofs.Ytpppoajnbhipeaa
open Go Go.RowKit

theorem list_max {α : Type} {L : Lay α} {w : World} {P : Nat → Prop} {a : Option Addr} {c : Nat} {l : List α} (h : ListAt L w P (.slice a l.length c) l) : l.length ≤ 9223372036854775807 := by
  by_cases e : l = []
  · subst e; exact Nat.zero_le _
  · obtain ⟨g, off, cg, ha, hcg, hcm, _, _⟩ := h.addr e
    unfold maxLen at hcm
    omega

set_option maxRecDepth 100000 in
set_option maxHeartbeats 6400000 in
theorem sameMsg_any (m : MsgD) (P1 P2 : Nat → Prop) (a1 a2 d1 d2 : Option Addr) (c1 c2 e1 e2 : Nat) (w : World) (h1 : ListAt entL w P1 (.slice a1 m.entries.length c1) m.entries) (h2 : ListAt entL w P2 (.slice a2 m.entries.length c2) m.entries) (b1 : BytesAt w P1 (.slice d1 m.data.length e1) m.data) (b2 : BytesAt w P2 (.slice d2 m.data.length e2) m.data) :
    Calls Try.prog 78 #[msgV m (.slice a1 m.entries.length c1) (.slice d1 m.data.length e1), msgV m (.slice a2 m.entries.length c2) (.slice d2 m.data.length e2)] w fun x w' => x = .returned (.bool true) ∧ Keeps [] w w' := by
  have hl : m.entries.length ≤ 9223372036854775807 := list_max h1
  unfold msgV
  have k2 : Keeps [] w ((w.alloc (.cells #[.int .i64 m.kind, .int .i64 m.frm, .int .i64 m.to, .int .i64 m.term, .int .i64 m.a, .int .i64 m.b, .int .i64 m.c, .bool m.ok, .slice a1 m.entries.length c1, .slice d1 m.data.length e1] 40)).alloc (.cells #[.int .i64 m.kind, .int .i64 m.frm, .int .i64 m.to, .int .i64 m.term, .int .i64 m.a, .int .i64 m.b, .int .i64 m.c, .bool m.ok, .slice a2 m.entries.length c2, .slice d2 m.data.length e2] 40)) := ((Keeps.refl [] w).alloc _).alloc _
  have v1 := conv_str (b1.1.keeps k2 (fun _ _ h => by cases h))
  have v2 := conv_str (b2.1.keeps k2 (fun _ _ h => by cases h))
  have K2 := hid k2
  have H1 := hid h1
  have H2 := hid h2
  clear h1 h2 b1 b2 k2
  go_enter Try.func78, Try.ntmps78
  go_wp2_with fail
  go_loopw [5] (fun i wr => ∃ k : Nat, k ≤ m.entries.length ∧ i = .int .i64 k ∧ wr.cell? ⟨w.heap.size, 8, none⟩ = some (.slice a1 m.entries.length c1) ∧ wr.cell? ⟨w.heap.size + 1, 8, none⟩ = some (.slice a2 m.entries.length c2) ∧ Hid (Keeps [] w wr)) (fun i _ => m.entries.length - (intOf i).toNat)
  case atStart => exact ⟨0, Nat.zero_le _, rfl, by go_simp, by go_simp, K2.out⟩
  case round =>
    obtain ⟨k, hk, rfl, q1, q2, HK⟩ := hrel
    by_cases hlt : k < m.entries.length
    · have i0 : (0 : Int) ≤ (k : Int) := Int.natCast_nonneg _
      have i1 : (k : Int) < (m.entries.length : Int) := by omega
      obtain ⟨e, he⟩ : ∃ e, m.entries[k]? = some e := ⟨m.entries[k], List.getElem?_eq_getElem hlt⟩
      obtain ⟨g, off, cg, av, cv, ha, _, _, x0, x1, x2, xb⟩ := (H1.out.k HK.out).ent he
      simp at ha
      obtain ⟨ha, hcc⟩ := ha
      subst ha
      subst hcc
      obtain ⟨g2, off2, cg2, av2, cv2, ha, _, _, y0, y1, y2, yb⟩ := (H2.out.k HK.out).ent he
      simp at ha
      obtain ⟨ha, hcc⟩ := ha
      subst ha
      subst hcc
      have XB := hid xb.1
      have YB := hid yb.1
      have Q1 := hid q1
      have Q2 := hid q2
      clear xb yb he v1 v2
      go_wp2_with fail
      refine Plan.wp_region_plan (fun w' => w'.cell? ⟨w.heap.size, 8, none⟩ = some (.slice (some ⟨g, off, none⟩) m.entries.length c1) ∧ w'.cell? ⟨w.heap.size + 1, 8, none⟩ = some (.slice (some ⟨g2, off2, none⟩) m.entries.length c2) ∧ w'.cell? ⟨g, off + k * 3, none⟩ = some (.int .i64 e.term) ∧ w'.cell? ⟨g, off + k * 3 + 1, none⟩ = some (.bool e.cmd) ∧ w'.cell? ⟨g, off + k * 3 + 2, none⟩ = some (.slice av e.data.length cv) ∧ w'.cell? ⟨g2, off2 + k * 3, none⟩ = some (.int .i64 e.term) ∧ w'.cell? ⟨g2, off2 + k * 3 + 1, none⟩ = some (.bool e.cmd) ∧ w'.cell? ⟨g2, off2 + k * 3 + 2, none⟩ = some (.slice av2 e.data.length cv2)) 10 [(true, 0), (true, 1), (true, 2), (true, 3), (true, 4), (true, 5), (true, 6), (true, 7), (true, 8), (true, 9)] (by kernel_rfl) (by as_aux_lemma => kernel_rfl) (by kernel_rfl) (fun _ _ _ _ _ h => h) ?_ (fun hS => ?_)
      (· exact ⟨q1, q2, x0, x1, x2, y0, y1, y2⟩)
      simp only [Plan.pick, List.append_eq, List.cons_append, List.nil_append, Plan.g1, Plan.g2, Option.getD_some, List.drop_succ_cons, List.drop_zero]
      iterate 10 (first | refine Plan.tA ?_ | refine Plan.tY ?_ | refine Plan.pN ?_ | refine Plan.pU ?_ | fail)
      refine Plan.fin ?_
      go_wp2_with fail
      refine (sameEntry_any e av av2 cv cv2 _ (by exact XB.out) (by exact YB.out)).mono ?_
      rintro x w3 ⟨rfl, k3⟩
      have K3 : Hid (Keeps [] w w3) := HK.out.drew.trans k3 (fun _ _ h => h)
      have r1 := k3.cellSome (show wr.drew.cell? ⟨w.heap.size, 8, none⟩ = _ from Q1.out) (by simp)
      have r2 := k3.cellSome (show wr.drew.cell? ⟨w.heap.size + 1, 8, none⟩ = _ from Q2.out) (by simp)
      clear k3
      go_wp2_with fail
      go_roundw
      case rel => exact ⟨k + 1, by omega, by go_num, r1, r2, K3.out⟩
      case measure => simp [intOf]; omega
    · have hkl : k = m.entries.length := by omega
      subst hkl
      go_wp2_with fail
      go_ret
      exact ⟨rfl, HK.out⟩

/-- A message's cells in a list that may be read. -/
theorem ListAt.msg {w : World} {P : Nat → Prop} {lv : Value} {l : List MsgD} (h : ListAt msgL w P lv l) {j : Nat} {m : MsgD} (he : l[j]? = some m) : ∃ g off k a1 c1 d1 e1, lv = .slice (some ⟨g, off, none⟩) l.length k ∧
    w.cell? ⟨g, off + j * 10, none⟩ = some (.int .i64 m.kind) ∧ w.cell? ⟨g, off + j * 10 + 1, none⟩ = some (.int .i64 m.frm) ∧ w.cell? ⟨g, off + j * 10 + 2, none⟩ = some (.int .i64 m.to) ∧ w.cell? ⟨g, off + j * 10 + 3, none⟩ = some (.int .i64 m.term) ∧ w.cell? ⟨g, off + j * 10 + 4, none⟩ = some (.int .i64 m.a) ∧ w.cell? ⟨g, off + j * 10 + 5, none⟩ = some (.int .i64 m.b) ∧ w.cell? ⟨g, off + j * 10 + 6, none⟩ = some (.int .i64 m.c) ∧ w.cell? ⟨g, off + j * 10 + 7, none⟩ = some (.bool m.ok) ∧ w.cell? ⟨g, off + j * 10 + 8, none⟩ = some (.slice a1 m.entries.length c1) ∧ w.cell? ⟨g, off + j * 10 + 9, none⟩ = some (.slice d1 m.data.length e1) ∧
    ListAt entL w P (.slice a1 m.entries.length c1) m.entries ∧ BytesAt w P (.slice d1 m.data.length e1) m.data := by
  obtain ⟨g, off, k, rfl, h1, h2, _, _⟩ := h.addr (fun hn => by rw [hn] at he; simp at he)
  obtain ⟨cs, ⟨ev, dv, rfl, hl, hb⟩, hc⟩ := h.get he
  obtain ⟨a1, c1, rfl⟩ := hl.form
  obtain ⟨d1, e1, rfl⟩ := hb.form
  exact ⟨g, off, k, a1, c1, d1, e1, rfl, hc 0 _ rfl, hc 1 _ rfl, hc 2 _ rfl, hc 3 _ rfl, hc 4 _ rfl, hc 5 _ rfl, hc 6 _ rfl, hc 7 _ rfl, hc 8 _ rfl, hc 9 _ rfl, hl, hb⟩

set_option maxRecDepth 100000 in
set_option maxHeartbeats 6400000 in
theorem sameMsgs_any (l : List MsgD) (P1 P2 : Nat → Prop) (a1 a2 : Option Addr) (c1 c2 : Nat) (w : World) (h1 : ListAt msgL w P1 (.slice a1 l.length c1) l) (h2 : ListAt msgL w P2 (.slice a2 l.length c2) l) :
    Calls Try.prog 67 #[.slice a1 l.length c1, .slice a2 l.length c2] w fun x w' => x = .returned (.bool true) ∧ Keeps [] w w' := by
  have hl : l.length ≤ 9223372036854775807 := list_max h1
  have H1 := hid h1
  have H2 := hid h2
  clear h1 h2
  go_enter Try.func67, Try.ntmps67
  go_wp2_with fail
  go_loopw [5] (fun i wr => ∃ k : Nat, k ≤ l.length ∧ i = .int .i64 k ∧ Hid (Keeps [] w wr)) (fun i _ => l.length - (intOf i).toNat)
  case atStart => exact ⟨0, Nat.zero_le _, rfl, Keeps.refl [] w⟩
  case round =>
    obtain ⟨k, hk, rfl, HK⟩ := hrel
    by_cases hlt : k < l.length
    · have i0 : (0 : Int) ≤ (k : Int) := Int.natCast_nonneg _
      have i1 : (k : Int) < (l.length : Int) := by omega
      obtain ⟨m, he⟩ : ∃ m, l[k]? = some m := ⟨l[k], List.getElem?_eq_getElem hlt⟩
      obtain ⟨g, off, cg, ea, ec, da, dc, ha, x0, x1, x2, x3, x4, x5, x6, x7, x8, x9, xl, xb⟩ := (H1.out.k HK.out).msg he
      simp at ha
      obtain ⟨ha, hcc⟩ := ha
      subst ha
      subst hcc
      obtain ⟨g2, off2, cg2, fa, fc, ga, gc, ha, y0, y1, y2, y3, y4, y5, y6, y7, y8, y9, yl, yb⟩ := (H2.out.k HK.out).msg he
      simp at ha
      obtain ⟨ha, hcc⟩ := ha
      subst ha
      subst hcc
      have HC := hid (fun wx (k : Keeps [] wr wx) => sameMsg_any m P1 P2 ea fa da ga ec fc dc gc wx (xl.k k) (yl.k k) (xb.k k) (yb.k k))
      clear xl xb yl yb he
      go_wp2_with fail
      refine Plan.wp_region_plan (fun w' => (w'.cell? ⟨g, off + k * 10, none⟩ = some (.int .i64 m.kind) ∧ w'.cell? ⟨g, off + k * 10 + 1, none⟩ = some (.int .i64 m.frm) ∧ w'.cell? ⟨g, off + k * 10 + 2, none⟩ = some (.int .i64 m.to) ∧ w'.cell? ⟨g, off + k * 10 + 3, none⟩ = some (.int .i64 m.term) ∧ w'.cell? ⟨g, off + k * 10 + 4, none⟩ = some (.int .i64 m.a) ∧ w'.cell? ⟨g, off + k * 10 + 5, none⟩ = some (.int .i64 m.b) ∧ w'.cell? ⟨g, off + k * 10 + 6, none⟩ = some (.int .i64 m.c) ∧ w'.cell? ⟨g, off + k * 10 + 7, none⟩ = some (.bool m.ok) ∧ w'.cell? ⟨g, off + k * 10 + 8, none⟩ = some (.slice ea m.entries.length ec) ∧ w'.cell? ⟨g, off + k * 10 + 9, none⟩ = some (.slice da m.data.length dc)) ∧
        (w'.cell? ⟨g2, off2 + k * 10, none⟩ = some (.int .i64 m.kind) ∧ w'.cell? ⟨g2, off2 + k * 10 + 1, none⟩ = some (.int .i64 m.frm) ∧ w'.cell? ⟨g2, off2 + k * 10 + 2, none⟩ = some (.int .i64 m.to) ∧ w'.cell? ⟨g2, off2 + k * 10 + 3, none⟩ = some (.int .i64 m.term) ∧ w'.cell? ⟨g2, off2 + k * 10 + 4, none⟩ = some (.int .i64 m.a) ∧ w'.cell? ⟨g2, off2 + k * 10 + 5, none⟩ = some (.int .i64 m.b) ∧ w'.cell? ⟨g2, off2 + k * 10 + 6, none⟩ = some (.int .i64 m.c) ∧ w'.cell? ⟨g2, off2 + k * 10 + 7, none⟩ = some (.bool m.ok) ∧ w'.cell? ⟨g2, off2 + k * 10 + 8, none⟩ = some (.slice fa m.entries.length fc) ∧ w'.cell? ⟨g2, off2 + k * 10 + 9, none⟩ = some (.slice ga m.data.length gc))) 8 [(true, 0), (true, 1), (true, 2), (true, 3), (true, 4), (true, 5), (true, 6), (true, 7)] (by kernel_rfl) (by as_aux_lemma => kernel_rfl) (by kernel_rfl) (fun _ _ _ _ _ h => h) ?_ (fun hS => ?_)
      (· exact ⟨⟨x0, x1, x2, x3, x4, x5, x6, x7, x8, x9⟩, y0, y1, y2, y3, y4, y5, y6, y7, y8, y9⟩)
      simp only [Plan.pick, List.append_eq, List.cons_append, List.nil_append, Plan.g1, Plan.g2, Option.getD_some, List.drop_succ_cons, List.drop_zero]
      iterate 8 (first | refine Plan.tA ?_ | refine Plan.tY ?_ | refine Plan.pN ?_ | refine Plan.pU ?_ | fail)
      refine Plan.fin ?_
      go_wp2_with fail
      refine (HC.out _ (by exact Keeps.K)).mono ?_
      rintro x w3 ⟨rfl, k3⟩
      have K3 : Hid (Keeps [] w w3) := (HK.out.trans (by exact Keeps.K) (fun _ _ h => h)).trans k3 (fun _ _ h => h)
      clear k3
      go_wp2_with fail
      go_roundw
      case rel => exact ⟨k + 1, by omega, by go_num, K3.out⟩
      case measure => simp [intOf]; omega
    · have hkl : k = l.length := by omega
      subst hkl
      go_wp2_with fail
      go_ret
      exact ⟨rfl, HK.out⟩

end Go.Proofs.Ytpppoajnbhipeaa
