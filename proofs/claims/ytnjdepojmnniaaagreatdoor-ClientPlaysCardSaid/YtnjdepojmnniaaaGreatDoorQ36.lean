/- Joined of CoreU, PlayB, ClJ, ClO, Open. -/
import Derived.Test.YtnjdepojmnniaaaGreatDoorQ35
import Derived.Test.YtnjdepojmnniaaaGreatDoorQ01
import Derived.Test.YtnjdepojmnniaaaGreatDoorRows
import Derived.Test.YtnjdepojmnniaaaGreatDoorQ00
import Derived.Deep.Slices
import Derived.ProofKit

set_option linter.unusedSimpArgs false
set_option linter.unusedVariables false

/- SameEntry, SameEntries: of like entries. -/
namespace Go.Proofs.YtnjdepojmnniaaaGreatDoor
open Go Go.RowKit

theorem conv_str {w : World} {v : Value} {bs : List UInt8} (hr : Reads w 1 v bs.length (u8s bs)) : (convert 36 9 v).run Tryz.prog w = .ok (.string (str bs)) w :=
  run_convert_str _ _ _ 5 _ bs Tryz.underlying36 Tryz.underlying5 Tryz.underlying9 hr

set_option maxHeartbeats 800000 in
theorem sameEntry_any (e : Ent) (a1 a2 : Option Addr) (c1 c2 : Nat) (w : World) (h1 : Reads w 1 (.slice a1 e.data.length c1) e.data.length (u8s e.data)) (h2 : Reads w 1 (.slice a2 e.data.length c2) e.data.length (u8s e.data)) :
    Calls Tryz.prog 71 #[.agg #[.int .i64 e.term, .bool e.cmd, .slice a1 e.data.length c1], .agg #[.int .i64 e.term, .bool e.cmd, .slice a2 e.data.length c2]] w fun x w' => x = .returned (.bool true) ∧ Keeps [] w w' := by
  have k2 : Keeps [] w ((w.alloc (.cells #[.int .i64 e.term, .bool e.cmd, .slice a1 e.data.length c1] 109)).alloc (.cells #[.int .i64 e.term, .bool e.cmd, .slice a2 e.data.length c2] 109)) := ((Keeps.refl [] w).alloc _).alloc _
  have v1 := conv_str (h1.keeps k2 (fun _ _ h => by cases h))
  have v2 := conv_str (h2.keeps k2 (fun _ _ h => by cases h))
  have K2 := hid k2
  clear h1 h2 k2
  go_enter Tryz.func71, Tryz.ntmps71
  go_wp2
  go_ret
  exact ⟨rfl, K2.out⟩

end Go.Proofs.YtnjdepojmnniaaaGreatDoor

/- CorePlays: SameMsgs of like messages. -/
namespace Go.Proofs.YtnjdepojmnniaaaGreatDoor
open Go Go.RowKit

theorem list_max {α : Type} {L : Lay α} {w : World} {P : Nat → Prop} {a : Option Addr} {c : Nat} {l : List α} (h : ListAt L w P (.slice a l.length c) l) : l.length ≤ 9223372036854775807 := by
  by_cases e : l = []
  · subst e; exact Nat.zero_le _
  · obtain ⟨g, off, cg, ha, hcg, hcm, _, _⟩ := h.addr e
    unfold maxLen at hcm
    omega

set_option maxRecDepth 100000 in
set_option maxHeartbeats 6400000 in
theorem sameMsg_any (m : MsgD) (P1 P2 : Nat → Prop) (a1 a2 d1 d2 : Option Addr) (c1 c2 e1 e2 : Nat) (w : World) (h1 : ListAt entL w P1 (.slice a1 m.entries.length c1) m.entries) (h2 : ListAt entL w P2 (.slice a2 m.entries.length c2) m.entries) (b1 : BytesAt w P1 (.slice d1 m.data.length e1) m.data) (b2 : BytesAt w P2 (.slice d2 m.data.length e2) m.data) :
    Calls Tryz.prog 53 #[msgV m (.slice a1 m.entries.length c1) (.slice d1 m.data.length e1), msgV m (.slice a2 m.entries.length c2) (.slice d2 m.data.length e2)] w fun x w' => x = .returned (.bool true) ∧ Keeps [] w w' := by
  have hl : m.entries.length ≤ 9223372036854775807 := list_max h1
  unfold msgV
  have k2 : Keeps [] w ((w.alloc (.cells #[.int .i64 m.kind, .int .i64 m.frm, .int .i64 m.«to», .int .i64 m.term, .int .i64 m.a, .int .i64 m.b, .int .i64 m.c, .bool m.ok, .slice a1 m.entries.length c1, .slice d1 m.data.length e1] 38)).alloc (.cells #[.int .i64 m.kind, .int .i64 m.frm, .int .i64 m.«to», .int .i64 m.term, .int .i64 m.a, .int .i64 m.b, .int .i64 m.c, .bool m.ok, .slice a2 m.entries.length c2, .slice d2 m.data.length e2] 38)) := ((Keeps.refl [] w).alloc _).alloc _
  have v1 := conv_str (b1.1.keeps k2 (fun _ _ h => by cases h))
  have v2 := conv_str (b2.1.keeps k2 (fun _ _ h => by cases h))
  have K2 := hid k2
  have H1 := hid h1
  have H2 := hid h2
  clear h1 h2 b1 b2 k2
  go_enter Tryz.func53, Tryz.ntmps53
  go_wp2_with fail
  go_loopw [5] (fun i wr => ∃ k : Nat, k ≤ m.entries.length ∧ i = .int .i64 k ∧ wr.cell? ⟨w.heap.size, 8, none⟩ = some (.slice a1 m.entries.length c1) ∧ wr.cell? ⟨w.heap.size + 1, 8, none⟩ = some (.slice a2 m.entries.length c2) ∧ Hid (Keeps [] w wr)) (fun i _ => m.entries.length - (intOf i).toNat)
  case atStart => exact ⟨0, Nat.zero_le _, rfl, by go_simp, by go_simp, K2.out⟩
  case round =>
    obtain ⟨k, hk, rfl, q1, q2, HK⟩ := hrel
    by_cases hlt : k < m.entries.length
    · have i0 : (0 : Int) ≤ (k : Int) := Int.natCast_nonneg _
      have i1 : (k : Int) < (m.entries.length : Int) := by omega
      obtain ⟨e, he⟩ : ∃ e, m.entries[k]? = some e := ⟨m.entries[k], List.getElem?_eq_getElem hlt⟩
      obtain ⟨g, off, cg, av, cv, ha, _, _, x0, x1, x2, xb⟩ := (H1.out.k HK.out).ent he
      simp at ha
      obtain ⟨ha, hcc⟩ := ha
      subst ha
      subst hcc
      obtain ⟨g2, off2, cg2, av2, cv2, ha, _, _, y0, y1, y2, yb⟩ := (H2.out.k HK.out).ent he
      simp at ha
      obtain ⟨ha, hcc⟩ := ha
      subst ha
      subst hcc
      have XB := hid xb.1
      have YB := hid yb.1
      have Q1 := hid q1
      have Q2 := hid q2
      clear xb yb he v1 v2
      go_wp2_with fail
      refine Plan.wp_region_plan (fun w' => w'.cell? ⟨w.heap.size, 8, none⟩ = some (.slice (some ⟨g, off, none⟩) m.entries.length c1) ∧ w'.cell? ⟨w.heap.size + 1, 8, none⟩ = some (.slice (some ⟨g2, off2, none⟩) m.entries.length c2) ∧ w'.cell? ⟨g, off + k * 3, none⟩ = some (.int .i64 e.term) ∧ w'.cell? ⟨g, off + k * 3 + 1, none⟩ = some (.bool e.cmd) ∧ w'.cell? ⟨g, off + k * 3 + 2, none⟩ = some (.slice av e.data.length cv) ∧ w'.cell? ⟨g2, off2 + k * 3, none⟩ = some (.int .i64 e.term) ∧ w'.cell? ⟨g2, off2 + k * 3 + 1, none⟩ = some (.bool e.cmd) ∧ w'.cell? ⟨g2, off2 + k * 3 + 2, none⟩ = some (.slice av2 e.data.length cv2)) 10 [(true, 0), (true, 1), (true, 2), (true, 3), (true, 4), (true, 5), (true, 6), (true, 7), (true, 8), (true, 9)] (by kernel_rfl) (by as_aux_lemma => kernel_rfl) (by kernel_rfl) (fun _ _ _ _ _ h => h) ?_ (fun hS => ?_)
      (· exact ⟨q1, q2, x0, x1, x2, y0, y1, y2⟩)
      simp only [Plan.pick, List.append_eq, List.cons_append, List.nil_append, Plan.g1, Plan.g2, Option.getD_some, List.drop_succ_cons, List.drop_zero]
      iterate 10 (first | refine Plan.tA ?_ | refine Plan.tY ?_ | refine Plan.pN ?_ | refine Plan.pU ?_ | fail)
      refine Plan.fin ?_
      go_wp2_with fail
      refine (sameEntry_any e av av2 cv cv2 _ (by exact XB.out) (by exact YB.out)).mono ?_
      rintro x w3 ⟨rfl, k3⟩
      have K3 : Hid (Keeps [] w w3) := HK.out.drew.trans k3 (fun _ _ h => h)
      have r1 := k3.cellSome (show wr.drew.cell? ⟨w.heap.size, 8, none⟩ = _ from Q1.out) (by simp)
      have r2 := k3.cellSome (show wr.drew.cell? ⟨w.heap.size + 1, 8, none⟩ = _ from Q2.out) (by simp)
      clear k3
      go_wp2_with fail
      go_roundw
      case rel => exact ⟨k + 1, by omega, by go_num, r1, r2, K3.out⟩
      case measure => simp [intOf]; omega
    · have hkl : k = m.entries.length := by omega
      subst hkl
      go_wp2_with fail
      go_ret
      exact ⟨rfl, HK.out⟩

/-- A message's cells in a list that may be read. -/
theorem ListAt.msg {w : World} {P : Nat → Prop} {lv : Value} {l : List MsgD} (h : ListAt msgL w P lv l) {j : Nat} {m : MsgD} (he : l[j]? = some m) : ∃ g off k a1 c1 d1 e1, lv = .slice (some ⟨g, off, none⟩) l.length k ∧
    w.cell? ⟨g, off + j * 10, none⟩ = some (.int .i64 m.kind) ∧ w.cell? ⟨g, off + j * 10 + 1, none⟩ = some (.int .i64 m.frm) ∧ w.cell? ⟨g, off + j * 10 + 2, none⟩ = some (.int .i64 m.«to») ∧ w.cell? ⟨g, off + j * 10 + 3, none⟩ = some (.int .i64 m.term) ∧ w.cell? ⟨g, off + j * 10 + 4, none⟩ = some (.int .i64 m.a) ∧ w.cell? ⟨g, off + j * 10 + 5, none⟩ = some (.int .i64 m.b) ∧ w.cell? ⟨g, off + j * 10 + 6, none⟩ = some (.int .i64 m.c) ∧ w.cell? ⟨g, off + j * 10 + 7, none⟩ = some (.bool m.ok) ∧ w.cell? ⟨g, off + j * 10 + 8, none⟩ = some (.slice a1 m.entries.length c1) ∧ w.cell? ⟨g, off + j * 10 + 9, none⟩ = some (.slice d1 m.data.length e1) ∧
    ListAt entL w P (.slice a1 m.entries.length c1) m.entries ∧ BytesAt w P (.slice d1 m.data.length e1) m.data := by
  obtain ⟨g, off, k, rfl, h1, h2, _, _⟩ := h.addr (fun hn => by rw [hn] at he; simp at he)
  obtain ⟨cs, ⟨ev, dv, rfl, hl, hb⟩, hc⟩ := h.get he
  obtain ⟨a1, c1, rfl⟩ := hl.form
  obtain ⟨d1, e1, rfl⟩ := hb.form
  exact ⟨g, off, k, a1, c1, d1, e1, rfl, hc 0 _ rfl, hc 1 _ rfl, hc 2 _ rfl, hc 3 _ rfl, hc 4 _ rfl, hc 5 _ rfl, hc 6 _ rfl, hc 7 _ rfl, hc 8 _ rfl, hc 9 _ rfl, hl, hb⟩

set_option maxRecDepth 100000 in
set_option maxHeartbeats 6400000 in
theorem sameMsgs_any (l : List MsgD) (P1 P2 : Nat → Prop) (a1 a2 : Option Addr) (c1 c2 : Nat) (w : World) (h1 : ListAt msgL w P1 (.slice a1 l.length c1) l) (h2 : ListAt msgL w P2 (.slice a2 l.length c2) l) :
    Calls Tryz.prog 30 #[.slice a1 l.length c1, .slice a2 l.length c2] w fun x w' => x = .returned (.bool true) ∧ Keeps [] w w' := by
  have hl : l.length ≤ 9223372036854775807 := list_max h1
  have H1 := hid h1
  have H2 := hid h2
  clear h1 h2
  go_enter Tryz.func30, Tryz.ntmps30
  go_wp2_with fail
  go_loopw [5] (fun i wr => ∃ k : Nat, k ≤ l.length ∧ i = .int .i64 k ∧ Hid (Keeps [] w wr)) (fun i _ => l.length - (intOf i).toNat)
  case atStart => exact ⟨0, Nat.zero_le _, rfl, Keeps.refl [] w⟩
  case round =>
    obtain ⟨k, hk, rfl, HK⟩ := hrel
    by_cases hlt : k < l.length
    · have i0 : (0 : Int) ≤ (k : Int) := Int.natCast_nonneg _
      have i1 : (k : Int) < (l.length : Int) := by omega
      obtain ⟨m, he⟩ : ∃ m, l[k]? = some m := ⟨l[k], List.getElem?_eq_getElem hlt⟩
      obtain ⟨g, off, cg, ea, ec, da, dc, ha, x0, x1, x2, x3, x4, x5, x6, x7, x8, x9, xl, xb⟩ := (H1.out.k HK.out).msg he
      simp at ha
      obtain ⟨ha, hcc⟩ := ha
      subst ha
      subst hcc
      obtain ⟨g2, off2, cg2, fa, fc, ga, gc, ha, y0, y1, y2, y3, y4, y5, y6, y7, y8, y9, yl, yb⟩ := (H2.out.k HK.out).msg he
      simp at ha
      obtain ⟨ha, hcc⟩ := ha
      subst ha
      subst hcc
      have HC := hid (fun wx (k : Keeps [] wr wx) => sameMsg_any m P1 P2 ea fa da ga ec fc dc gc wx (xl.k k) (yl.k k) (xb.k k) (yb.k k))
      clear xl xb yl yb he
      go_wp2_with fail
      refine Plan.wp_region_plan (fun w' => (w'.cell? ⟨g, off + k * 10, none⟩ = some (.int .i64 m.kind) ∧ w'.cell? ⟨g, off + k * 10 + 1, none⟩ = some (.int .i64 m.frm) ∧ w'.cell? ⟨g, off + k * 10 + 2, none⟩ = some (.int .i64 m.«to») ∧ w'.cell? ⟨g, off + k * 10 + 3, none⟩ = some (.int .i64 m.term) ∧ w'.cell? ⟨g, off + k * 10 + 4, none⟩ = some (.int .i64 m.a) ∧ w'.cell? ⟨g, off + k * 10 + 5, none⟩ = some (.int .i64 m.b) ∧ w'.cell? ⟨g, off + k * 10 + 6, none⟩ = some (.int .i64 m.c) ∧ w'.cell? ⟨g, off + k * 10 + 7, none⟩ = some (.bool m.ok) ∧ w'.cell? ⟨g, off + k * 10 + 8, none⟩ = some (.slice ea m.entries.length ec) ∧ w'.cell? ⟨g, off + k * 10 + 9, none⟩ = some (.slice da m.data.length dc)) ∧
        (w'.cell? ⟨g2, off2 + k * 10, none⟩ = some (.int .i64 m.kind) ∧ w'.cell? ⟨g2, off2 + k * 10 + 1, none⟩ = some (.int .i64 m.frm) ∧ w'.cell? ⟨g2, off2 + k * 10 + 2, none⟩ = some (.int .i64 m.«to») ∧ w'.cell? ⟨g2, off2 + k * 10 + 3, none⟩ = some (.int .i64 m.term) ∧ w'.cell? ⟨g2, off2 + k * 10 + 4, none⟩ = some (.int .i64 m.a) ∧ w'.cell? ⟨g2, off2 + k * 10 + 5, none⟩ = some (.int .i64 m.b) ∧ w'.cell? ⟨g2, off2 + k * 10 + 6, none⟩ = some (.int .i64 m.c) ∧ w'.cell? ⟨g2, off2 + k * 10 + 7, none⟩ = some (.bool m.ok) ∧ w'.cell? ⟨g2, off2 + k * 10 + 8, none⟩ = some (.slice fa m.entries.length fc) ∧ w'.cell? ⟨g2, off2 + k * 10 + 9, none⟩ = some (.slice ga m.data.length gc))) 8 [(true, 0), (true, 1), (true, 2), (true, 3), (true, 4), (true, 5), (true, 6), (true, 7)] (by kernel_rfl) (by as_aux_lemma => kernel_rfl) (by kernel_rfl) (fun _ _ _ _ _ h => h) ?_ (fun hS => ?_)
      (· exact ⟨⟨x0, x1, x2, x3, x4, x5, x6, x7, x8, x9⟩, y0, y1, y2, y3, y4, y5, y6, y7, y8, y9⟩)
      simp only [Plan.pick, List.append_eq, List.cons_append, List.nil_append, Plan.g1, Plan.g2, Option.getD_some, List.drop_succ_cons, List.drop_zero]
      iterate 8 (first | refine Plan.tA ?_ | refine Plan.tY ?_ | refine Plan.pN ?_ | refine Plan.pU ?_ | fail)
      refine Plan.fin ?_
      go_wp2_with fail
      refine (HC.out _ (by exact Keeps.K)).mono ?_
      rintro x w3 ⟨rfl, k3⟩
      have K3 : Hid (Keeps [] w w3) := (HK.out.trans (by exact Keeps.K) (fun _ _ h => h)).trans k3 (fun _ _ h => h)
      clear k3
      go_wp2_with fail
      go_roundw
      case rel => exact ⟨k + 1, by omega, by go_num, K3.out⟩
      case measure => simp [intOf]; omega
    · have hkl : k = l.length := by omega
      subst hkl
      go_wp2_with fail
      go_ret
      exact ⟨rfl, HK.out⟩

end Go.Proofs.YtnjdepojmnniaaaGreatDoor

/- The laws' own example: awake. -/
namespace Go.Proofs.YtnjdepojmnniaaaGreatDoor
open Go Go.RowKit

/-- A read of a field. -/
def readC (s : ByteArray) : CmdD := ⟨4, 0, 0, s, 0, ⟨0, 0, ⟨#[]⟩⟩⟩
def readC1 (s : ByteArray) : CmdD := ⟨4, 1, 1, s, 0, ⟨0, 0, ⟨#[]⟩⟩⟩
theorem name_a : nameD ⟨#[97]⟩ = true := by kernel_rfl
theorem name_b : nameD ⟨#[98]⟩ = true := by kernel_rfl
theorem check_read {s : ByteArray} (h : nameD s = true) : checkC (readC1 s) = true := by
  simp [checkC, readC1, h, countsD, noneV, emptyB]
theorem I64_0 : I64 0 := by constructor <;> decide
theorem I64_1 : I64 1 := by constructor <;> decide
theorem I64_4 : I64 4 := by constructor <;> decide
theorem I64_5 : I64 5 := by constructor <;> decide
theorem readI (s : ByteArray) : CmdI (readC s) := ⟨I64_4, I64_0, I64_0, I64_0, I64_0, I64_0⟩
theorem readI1 (s : ByteArray) : CmdI (readC1 s) := ⟨I64_4, I64_1, I64_1, I64_0, I64_0, I64_0⟩
theorem read_w {s : ByteArray} (h : nameD s = true) : CmdW (readC1 s) := checkC_w (check_read h) (readI1 s)
/-- A call that may be, of one who waits for nothing. -/
theorem call_read (c : CliD) {s : ByteArray} (hs : nameD s = true) (hd : c.does = 0) (h1 : c.seq < 1099511627775) (h2 : c.request < 1099511627775) :
    callD c (readC s) = ((cAskD { c with call := readC1 s }).1, (cAskD { c with call := readC1 s }).2, 0) := by
  unfold callD
  rw [if_neg (by simp [hd]), if_neg, if_neg (by omega)]
  · rfl
  · rintro (h | h)
    · exact absurd (show (4 : Int) = 1 from h) (by decide)
    · rw [show checkC { readC s with session := 1, seq := 1 } = true from check_read hs] at h
      cases h
/-- An answer that opens a session. -/
theorem hear_open (c : CliD) (m : MsgD) (r : ReplyD) (hd : deafD c m = false) (ho : m.ok = true) (hm : m.data = putR r) (hr : checkR r = true) (hk : I64 r.value.kind) (hn : I64 r.value.n) (h1 : c.does = 1) (he : r.err = 0) (hp : 1 ≤ r.n) :
    chearD c m = ((cAskD { c with session := r.n, seq := 0 }).1, (cAskD { c with session := r.n, seq := 0 }).2, false) := by
  unfold chearD
  rw [if_neg (by rw [hd]; decide), if_neg (by rw [ho]; decide), hm, getR_put r hr hk hn, if_neg (by simp), if_pos h1]
  exact if_neg (by dsimp only; rintro (h | h); exact h he; omega)
/-- An answer that ends a call. -/
theorem hear_over (c : CliD) (m : MsgD) (r : ReplyD) (hd : deafD c m = false) (ho : m.ok = true) (hm : m.data = putR r) (hr : checkR r = true) (hk : I64 r.value.kind) (hn : I64 r.value.n) (h1 : c.does = 2) :
    chearD c m = overD c r := by
  unfold chearD
  rw [if_neg (by rw [hd]; decide), if_neg (by rw [ho]; decide), hm, getR_put r hr hk hn, if_neg (by simp), if_neg (by rw [h1]; decide)]
def confA : ConfD := ⟨3, 3, 2, 8, 40, 3, 6, 200, 6⟩
theorem confA_is : conf24D 0 5 = confA := by kernel_rfl
theorem ask_none (c : CliD) (h : ¬ 0 < c.session) : cAskD c = ({ c with node := c.node, waited := 0, does := 1, request := c.request + 1, last := ⟨6, c.id, 0, 0, 0, 0, c.request + 1, false, [], [2]⟩ }, [⟨6, c.id, c.node, 0, 0, 0, c.request + 1, false, [], [2]⟩]) := by
  unfold cAskD againD cAskedC cAskC
  simp [h, put2]
theorem ask_some (c : CliD) (h : 0 < c.session) : cAskD c = ({ c with node := c.node, waited := 0, seq := c.seq + 1, does := 2, request := c.request + 1, last := ⟨6, c.id, 0, 0, 0, 0, c.request + 1, false, [], putC { c.call with session := c.session, seq := c.seq + 1 }⟩ }, [⟨6, c.id, c.node, 0, 0, 0, c.request + 1, false, [], putC { c.call with session := c.session, seq := c.seq + 1 }⟩]) := by
  unfold cAskD againD cAskedC cAskC
  simp [h]

def c1A : CliD := ⟨confA, 101, 1, 0, 0, 1, 0, readC1 ⟨#[97]⟩, ⟨6, 101, 0, 0, 0, 0, 1, false, [], [2]⟩, 1, zeroR⟩
def m1A : MsgD := ⟨6, 101, 1, 0, 0, 0, 1, false, [], [2]⟩
theorem call_A : callD (cliNew confA 101) (readC ⟨#[97]⟩) = (c1A, [m1A], 0) := by
  rw [call_read _ name_a rfl (by decide) (by decide), ask_none _ (by decide)]
  rfl
def tA : MsgD := ⟨7, 1, 101, 0, 0, 0, 1, true, [], putR ⟨0, 5, ⟨0, 0, ⟨#[]⟩⟩⟩⟩
def x2A : CmdD := ⟨4, 5, 1, ⟨#[97]⟩, 0, ⟨0, 0, ⟨#[]⟩⟩⟩
def c2A : CliD := ⟨confA, 101, 1, 5, 1, 2, 0, readC1 ⟨#[97]⟩, ⟨6, 101, 0, 0, 0, 0, 2, false, [], putC x2A⟩, 2, zeroR⟩
def m2A : MsgD := ⟨6, 101, 1, 0, 0, 0, 2, false, [], putC x2A⟩
theorem hear_A : chearD c1A tA = (c2A, [m2A], false) := by
  rw [hear_open c1A tA ⟨0, 5, ⟨0, 0, ⟨#[]⟩⟩⟩ (by decide +kernel) rfl rfl (by decide +kernel) I64_0 I64_0 rfl rfl (by decide), ask_some _ (by decide)]
  rfl

theorem replyA_w : ReplyW ⟨0, 5, ⟨0, 0, ⟨#[]⟩⟩⟩ := ⟨I64_0, I64_5, I64_0, I64_0, by show (0 : Nat) ≤ _; decide⟩

set_option maxRecDepth 100000 in
set_option maxHeartbeats 16000000 in
theorem awake24_any (w : World) (hT : Tabs w) (hE : Errs w) : Calls Tryz.prog 7 #[] w fun e w' => e = .returned (.bool true) ∧ Keeps [] w w' := by
  have HT := hid hT
  have HE := hid hE
  clear hT hE
  go_enter Tryz.func7, Tryz.ntmps7
  go_wp2_with fail
  refine (conf24_any 0 5 w (by decide) (by decide)).mono ?_
  rintro e w1 ⟨rfl, hk⟩
  have K1 := hid hk
  clear hk
  rw [confA_is]
  have HQ := hid (fun (b : Nat) (h : w1.heap.size + 2 ≤ b) => h)
  go_wp2_with fail
  refine (clNew_yes confA 101 (fun b => w1.heap.size + 2 ≤ b) w1 ⟨by decide, by decide, by decide, by decide, by decide⟩ (by decide) (by omega)).mono ?_
  rintro e w2 ⟨rfl, h2, hk⟩
  have K2 : Hid (Keeps [] w w2) := K1.out.trans hk (fun _ _ h => h)
  have hn := h2.lt
  have H2 := hid h2
  obtain ⟨n, hnn⟩ : ∃ n, w1.heap.size + 1 = n := ⟨_, rfl⟩
  rw [hnn] at H2 hn ⊢
  have HNN := hid hnn
  have hwn : w.heap.size ≤ n := by have := K1.out.size; omega
  clear hk h2 hnn
  go_wp2_with fail
  refine (read24_any ⟨#[97]⟩ _).mono ?_
  rintro e w3 ⟨rfl, hk⟩
  have K3 : Hid (Keeps [] w w3) := K2.out.trans hk (fun _ _ h => h)
  have H3 := hid (H2.out.k hk)
  have hz3 := hk.size
  clear hk
  go_wp2_with fail
  refine (clCall_any w3 n _ (cliNew confA 101) _ _ (readC ⟨#[97]⟩) (HT.out.k K3.out) (HE.out.k K3.out) H3.out (by decide) (by decide) (by decide) (readI _) (by show (0 : Nat) ≤ _; decide) (fun b hb => by show w1.heap.size + 2 ≤ b; have := HNN.out; omega)).mono ?_
  rw [call_A]
  rintro e w4 ⟨v, rfl, a4, q4, dv4, fv4, rfl, h4, l4, hk⟩
  dsimp only at h4 l4 hk ⊢
  have H4 := hid h4
  have L4 := hid l4
  have hz4 := hk.size
  have K4 : Hid (Keeps [] w w4) := K3.out.trans hk (fun x hx hx' => by simp at hx'; omega)
  clear hk h4 l4
  go_wp2_with fail
  refine (told24_any 1 101 1 ⟨0, 5, ⟨0, 0, ⟨#[]⟩⟩⟩ replyA_w _).mono ?_
  rintro e w5 ⟨a5, q5, rfl, d5, hk⟩
  have K5 : Hid (Keeps [] w w5) := K4.out.trans hk (fun _ _ h => h)
  have H5 := hid (H4.out.k hk)
  have L5 := hid (L4.out.k hk)
  have D5 := hid d5.1
  have hz5 := hk.size
  clear hk d5
  go_wp2_with fail
  have hh := clHear_any w5 n _ c1A dv4 fv4 tA none a5 0 0 q5 (HT.out.k K5.out) H5.out ⟨⟨by decide, fun _ => by decide⟩, read_w name_a, by decide⟩ D5.out (by decide +kernel) (fun b hb => by show w1.heap.size + 2 ≤ b; have := HNN.out; omega)
  rw [hear_A] at hh
  refine hh.mono ?_
  clear hh
  rintro e w6 ⟨v, rfl, a6, q6, dv6, fv6, rfl, h6, l6, hk⟩
  dsimp only at h6 l6 hk ⊢
  have H6 := hid h6
  have L6 := hid l6
  have L56 := hid (L5.out.keep hk (fun b hb hm => by simp at hm; subst hm; have := HNN.out; omega))
  have K6 : Hid (Keeps [] w w6) := K5.out.trans hk (fun x hx hx' => by simp at hx'; omega)
  clear hk h6 l6
  obtain ⟨g4, o4, k4, e4, c4, d4, f4, ha4, y0, y1, y2, y3, y4, y5, y6, y7, y8, y9, ye, yb⟩ := L56.out.msg (j := 0) rfl
  obtain ⟨g6, o6, k6, e6, c6, d6, f6, ha6, z0, z1, z2, z3, z4, z5, z6, z7, z8, z9, ze, zb⟩ := L6.out.msg (j := 0) rfl
  simp only [Value.slice.injEq] at ha4 ha6
  obtain ⟨rfl, -, rfl⟩ := ha4
  obtain ⟨rfl, -, rfl⟩ := ha6
  have cv : (convert 36 9 (.slice d4 m1A.data.length f4)).run Tryz.prog w6 = .ok (.string (str m1A.data)) w6 := cv_str yb.1 rfl
  simp only [m1A, m2A, List.length_cons, List.length_nil, Nat.zero_add, Nat.zero_mul, Nat.add_zero] at y2 y6 y9 z6 cv ⊢
  clear y0 y1 y3 y4 y5 y7 y8 z0 z1 z2 z3 z4 z5 z7 z8 z9 ye ze yb zb
  go_wp2_with fail
  refine (clSession_any H6.out).mono ?_
  rintro e w7 ⟨rfl, hk⟩
  have K7 : Hid (Keeps [] w w7) := K6.out.trans hk (fun _ _ h => h)
  have H7 := hid (H6.out.k hk)
  clear hk y2 y6 y9 z6 cv
  simp only [c2A]
  go_wp2_with fail
  refine (clSeq_any H7.out).mono ?_
  rintro e w8 ⟨rfl, hk⟩
  have K8 : Hid (Keeps [] w w8) := K7.out.trans hk (fun _ _ h => h)
  have H8 := hid (H7.out.k hk)
  clear hk
  simp only [c2A]
  go_wp2_with fail
  refine (clBusy_any H8.out).mono ?_
  rintro e w9 ⟨rfl, hk⟩
  have K9 : Hid (Keeps [] w w9) := K8.out.trans hk (fun _ _ h => h)
  clear hk
  simp only [c2A]
  go_wp2_with fail
  go_ret
  exact ⟨rfl, K9.out⟩

end Go.Proofs.YtnjdepojmnniaaaGreatDoor

/- A client through any calls: plain bounds, and what it asks. No function of the program is walked here. -/
namespace Go.Proofs.YtnjdepojmnniaaaGreatDoor
open Go Go.RowKit

/-- Bounds on a client that has asked at most k times. -/
structure CliK (k : Int) (c : CliD) : Prop where
  nodes : 3 ≤ c.conf.nodes ∧ c.conf.nodes ≤ 7
  retry : 1 ≤ c.conf.retry ∧ c.conf.retry ≤ 1000000
  waited : 0 ≤ c.waited ∧ c.waited ≤ c.conf.retry
  node : 1 ≤ c.node ∧ c.node ≤ c.conf.nodes
  session : 0 ≤ c.session ∧ c.session ≤ 1099511627776
  seq : 0 ≤ c.seq ∧ c.seq ≤ k
  request : 0 ≤ c.request ∧ c.request ≤ k
  call : CmdW c.call
  data : c.last.data.length ≤ 3000000
/-- What it asked last is what it says. -/
def LastOk (c : CliD) : Prop := c.does ≠ 0 → 1 ≤ c.request ∧ c.last = ⟨6, c.id, 0, 0, 0, 0, c.request, false, [], c.last.data⟩ ∧ c.last.data ≠ []
/-- One call of the client: its bounds, its messages. -/
structure StepOk (k : Int) (c c' : CliD) (l : List MsgD) : Prop where
  ok : CliK (k + 1) c'
  conf : c'.conf = c.conf
  id : c'.id = c.id
  last : LastOk c'
  asks : c'.request = c.request ∧ c'.last = c.last ∨ c'.request = c.request + 1
  told : l = [] ∨ 1 ≤ c'.request ∧ c'.last.data ≠ [] ∧ l = [⟨6, c'.id, c'.node, 0, 0, 0, c'.request, false, [], c'.last.data⟩]

theorem CliK.up {k : Int} {c : CliD} (h : CliK k c) : CliK (k + 1) c := ⟨h.nodes, h.retry, h.waited, h.node, h.session, by have := h.seq; omega, by have := h.request; omega, h.call, h.data⟩
theorem uvarint_ne (n : Nat) : Lib.uvarint n ≠ [] := by
  rw [Lib.uvarint]
  split <;> simp
theorem putC_ne (c : CmdD) : putC c ≠ [] := by
  intro h
  have : intL c.kind = [] := (List.append_eq_nil_iff.1 h).1
  exact uvarint_ne _ this
theorem StepOk.still {k : Int} {c : CliD} (h : CliK k c) (hl : LastOk c) : StepOk k c c [] := ⟨h.up, rfl, rfl, hl, .inl ⟨rfl, rfl⟩, .inl rfl⟩
theorem again_step {k : Int} {c : CliD} {node : Int} (h : CliK k c) (hl : LastOk c) (hd : c.does ≠ 0) (h1 : 1 ≤ node ∧ node ≤ c.conf.nodes) : StepOk k c (againD c node).1 (againD c node).2 := by
  obtain ⟨h2, h3, h4⟩ := hl hd
  refine ⟨⟨h.nodes, h.retry, by have := h.retry; show (0 : Int) ≤ 0 ∧ (0 : Int) ≤ c.conf.retry; omega, h1, h.session, by have := h.seq; exact ⟨this.1, by show c.seq ≤ _; omega⟩, by have := h.request; exact ⟨this.1, by show c.request ≤ _; omega⟩, h.call, h.data⟩, rfl, rfl, fun _ => ⟨h2, h3, h4⟩, .inl ⟨rfl, rfl⟩, .inr ⟨h2, h4, ?_⟩⟩
  unfold againD
  rw [h3]
theorem ask_cmdW {k : Int} {c : CliD} (h : CliK k c) (hk : k ≤ 1000) : CmdW (cAskC c) := by
  unfold cAskC
  split
  · have h1 := h.session
    have h2 := h.seq
    exact ⟨h.call.kind, (show I64 c.session from ⟨by omega, by omega⟩), (show I64 (c.seq + 1) from ⟨by omega, by omega⟩), h.call.version, h.call.vkind, h.call.vn, h.call.field, h.call.vs⟩
  · have hz : (⟨#[]⟩ : ByteArray).size ≤ 1000000 := by show (0 : Nat) ≤ _; decide
    exact ⟨I64_1, I64_0, I64_0, I64_0, I64_0, I64_0, hz, hz⟩
theorem ask_step {k : Int} {c : CliD} (h : CliK k c) (hk : k ≤ 1000) : StepOk k c (cAskD c).1 (cAskD c).2 := by
  have hq := h.seq
  have hr := h.request
  have hlen := putC_len _ (ask_cmdW h hk)
  refine ⟨⟨h.nodes, h.retry, by have := h.retry; show (0 : Int) ≤ 0 ∧ (0 : Int) ≤ c.conf.retry; omega, h.node, h.session, ?_, ?_, h.call, ?_⟩, rfl, rfl, fun _ => ⟨?_, rfl, putC_ne _⟩, .inr rfl, .inr ⟨?_, putC_ne _, rfl⟩⟩
  · show 0 ≤ (if 0 < c.session then c.seq + 1 else c.seq) ∧ (if 0 < c.session then c.seq + 1 else c.seq) ≤ k + 1
    split <;> omega
  · show 0 ≤ c.request + 1 ∧ c.request + 1 ≤ k + 1
    omega
  · show (putC (cAskC c)).length ≤ _
    omega
  · show 1 ≤ c.request + 1
    omega
  · show 1 ≤ c.request + 1
    omega
theorem call_step {k : Int} {c : CliD} (h : CliK k c) (hl : LastOk c) (hk : k ≤ 1000) (x : CmdD) (hx : CmdI x) : StepOk k c (callD c x).1 (callD c x).2.1 := by
  unfold callD
  split
  · exact .still h hl
  · split
    · exact .still h hl
    · rename_i h1 h2
      split
      · exact .still h hl
      · have hc : checkC { x with session := 1, seq := 1 } = true := by
          rcases hb : checkC { x with session := 1, seq := 1 } with _ | _
          · exact absurd (Or.inr hb) h2
          · rfl
        have hw : CmdW { x with session := 1, seq := 1 } := checkC_w hc ⟨hx.kind, I64_1, I64_1, hx.version, hx.vkind, hx.vn⟩
        have hs := ask_step (c := { c with call := { x with session := 1, seq := 1 } }) ⟨h.nodes, h.retry, h.waited, h.node, h.session, h.seq, h.request, hw, h.data⟩ hk
        exact ⟨hs.ok, hs.conf, hs.id, hs.last, hs.asks, hs.told⟩
theorem tick_step {k : Int} {c : CliD} (h : CliK k c) (hl : LastOk c) : StepOk k c (ctickD c).1 (ctickD c).2 := by
  unfold ctickD
  split
  · exact .still h hl
  · rename_i hd
    split
    · rename_i h1
      have hw := h.waited
      exact ⟨⟨h.nodes, h.retry, by show 0 ≤ c.waited + 1 ∧ c.waited + 1 ≤ c.conf.retry; omega, h.node, h.session, h.up.seq, h.up.request, h.call, h.data⟩, rfl, rfl, hl, .inl ⟨rfl, rfl⟩, .inl rfl⟩
    · obtain ⟨h2, h3, h4⟩ := hl hd
      have hn := h.node
      have hc := h.nodes
      have h0 : 0 ≤ c.node.tmod c.conf.nodes := Int.tmod_nonneg _ (by omega)
      have h1 : c.node.tmod c.conf.nodes < c.conf.nodes := Int.tmod_lt_of_pos _ (by omega)
      refine ⟨⟨h.nodes, h.retry, by have := h.retry; show (0 : Int) ≤ 0 ∧ (0 : Int) ≤ c.conf.retry; omega, ?_, h.session, h.up.seq, h.up.request, h.call, h.data⟩, rfl, rfl, fun _ => ⟨h2, h3, h4⟩, .inl ⟨rfl, rfl⟩, .inr ⟨h2, h4, ?_⟩⟩
      · show 1 ≤ c.node.tmod c.conf.nodes + 1 ∧ c.node.tmod c.conf.nodes + 1 ≤ c.conf.nodes
        omega
      · unfold againD
        dsimp only
        rw [h3]
theorem hear_step {k : Int} {c : CliD} (h : CliK k c) (hl : LastOk c) (hk : k ≤ 1000) (m : MsgD) : StepOk k c (chearD c m).1 (chearD c m).2.1 := by
  unfold chearD
  split
  · exact .still h hl
  rename_i hd
  have hdoes : c.does ≠ 0 := fun h0 => hd (by unfold deafD; simp [h0])
  split
  · split
    · exact .still h hl
    · rename_i h1
      have h2 : ¬ m.a < 1 := fun hh => h1 (.inl hh)
      have h3 : ¬ c.conf.nodes < m.a := fun hh => h1 (.inr (.inl hh))
      exact again_step h hl hdoes ⟨by omega, by omega⟩
  · split
    · exact .still h hl
    · rename_i hg
      have hg' : (getR m.data).2 = true := by simpa using hg
      have hn := getR_n hg'
      split
      · unfold openedD
        split
        · exact .still h hl
        · rename_i h1
          have h2 : ¬ (getR m.data).1.n < 1 := fun hh => h1 (.inr hh)
          have hs := ask_step (c := { c with session := (getR m.data).1.n, seq := 0 }) (k := k) ⟨h.nodes, h.retry, h.waited, h.node, by show 0 ≤ (getR m.data).1.n ∧ (getR m.data).1.n ≤ _; omega, by have := h.seq; show (0 : Int) ≤ 0 ∧ (0 : Int) ≤ k; omega, h.request, h.call, h.data⟩ hk
          exact ⟨hs.ok, hs.conf, hs.id, hs.last, hs.asks, hs.told⟩
      · unfold overD
        refine ⟨⟨h.nodes, h.retry, h.waited, h.node, ?_, h.up.seq, h.up.request, h.call, h.data⟩, rfl, rfl, fun hh => absurd rfl hh, .inl ⟨rfl, rfl⟩, .inl rfl⟩
        have := h.session
        show 0 ≤ (if (getR m.data).1.err = 16 then 0 else c.session) ∧ (if (getR m.data).1.err = 16 then 0 else c.session) ≤ _
        split <;> omega

end Go.Proofs.YtnjdepojmnniaaaGreatDoor

/- THE ARGUMENTS OF THE LAWS, OPENED: slices of bytes, of ints, and single ints, as the walks want them. No function is named here. -/
namespace Go.Proofs.YtnjdepojmnniaaaGreatDoor
open Go Go.RowKit Go.WideShapes Go.ChangeShapes Go.Deep

theorem spot_of_cell {w : World} {a : Addr} {v : Value} (h : w.cell? a = some v) : a.spot = none := by
  unfold World.cell? at h
  split at h
  · split at h
    · cases h
    · rename_i hs; simpa using hs
  · cases h

theorem addr_at {a : Addr} (h : a.spot = none) (i : Nat) : a.add i = ⟨a.block, a.off + i, none⟩ := by
  unfold Addr.add
  cases a; simp at h; subst h
  split
  · rename_i h0; subst h0; rfl
  · rfl

theorem block_lt {w : World} {a : Addr} {v : Value} (h : w.cell? a = some v) : a.block < w.heap.size := by
  unfold World.cell? at h
  split at h
  · rename_i hs; exact (Array.getElem?_eq_some_iff.1 hs).1
  · cases h

/-- The bytes of numbers. -/
def ofNums (zs : List Int) : List UInt8 := zs.map fun z => UInt8.ofNat z.toNat

theorem ofNums_get {zs : List Int} (h : ∀ n ∈ zs, (Lit.int .u8 n).wf = true) {i : Nat} (hi : i < zs.length) : (u8s (ofNums zs))[i]? = some (.int .u8 (zs.getD i 0)) := by
  have hw := h zs[i] (List.getElem_mem hi)
  have hb : 0 ≤ zs[i] ∧ zs[i] < 256 := by
    have e1 : IntKind.u8.min = 0 := by rfl
    have e2 : IntKind.u8.max = 255 := by rfl
    simp [Lit.wf, e1, e2] at hw
    omega
  simp [u8s, ofNums, List.getD, List.getElem?_eq_getElem hi]
  omega

section
variable {H : Type} {enc : TypeId × Value → H}

/-- A SLICE OF BYTES. -/
theorem open_bytes {w : World} {fuel : Nat} {cs : List Value} {x : DataW H × List MemPlace} (h : DataW.trod enc Tryz.prog w 0 (fun _ => true) true fuel 36 cs = some x) :
    ∃ (a : Option Addr) (c : Nat) (bs : List UInt8), cs = [.slice a bs.length c] ∧ Reads w 1 (.slice a bs.length c) bs.length (u8s bs) ∧ ∀ k ∈ ownB (.slice a bs.length c), bs.length ≠ 0 → k < w.heap.size := by
  rcases open_ints Tryz.underlying36 Tryz.underlying5 (by kernel_rfl) h with ⟨rfl, _⟩ | ⟨a, len, cap, zs, rfl, _, hlc, hcm, hzs, _, hc, hw⟩
  · exact ⟨none, 0, [], rfl, ⟨rfl, .inl ⟨rfl, _, _, rfl⟩⟩, fun k _ h => absurd rfl h⟩
  · simp only [if_true] at hzs
    have hl : (ofNums (zs.take len)).length = len := by simp [ofNums]; omega
    refine ⟨some a, cap, ofNums (zs.take len), by rw [hl], ?_, ?_⟩
    · refine ⟨by simp [u8s], ?_⟩
      rcases Nat.eq_zero_or_pos len with rfl | hp
      · exact .inl ⟨hl, _, _, by rw [hl]⟩
      · have h0 := hc 0 (by omega)
        have hs : a.spot = none := by simpa [Addr.add] using spot_of_cell h0
        obtain ⟨b, off, sp⟩ := a
        simp at hs
        subst hs
        refine .inr ⟨by omega, b, off, cap, by rw [hl], by omega, hcm, by simpa [Addr.add] using block_lt h0, fun j u hu => ?_⟩
        have hj : j < len := by have := (List.getElem?_eq_some_iff.1 hu).1; simp [hl] at this; exact this
        rw [ofNums_get (fun n hn => hw n (List.mem_of_mem_take hn)) (by simp; omega)] at hu
        have := hc j (by omega)
        rw [addr_at rfl] at this
        simp at this
        rw [this, ← hu]
        simp [List.getD, List.getElem?_take, hj]
    · intro k hk h0
      have h1 := hc 0 (by omega)
      have h2 := block_lt h1
      simp [mem_ownB, Value.ownBlock, Addr.add] at hk h2
      omega

theorem open_num {w : World} {fuel : Nat} {t : TypeId} {k : IntKind} {cs : List Value} {x : DataW H × List MemPlace} (ht : Tryz.prog.underlying t = some (.int k)) (h : DataW.trod enc Tryz.prog w 0 (fun _ => true) true fuel t cs = some x) :
    ∃ n, cs = [.int k n] ∧ (Lit.int k n).wf = true := by
  obtain ⟨n', h, hx, hw⟩ := DataW.trod_int ht h
  exact ⟨n', h, hw⟩

/-- A SLICE OF BYTES that comes in. -/
theorem open_bytes_arg {w : World} {a : Option Addr} {len cap : Nat} {d : DataW H} {ps : List MemPlace} (h : DataW.Trod enc Tryz.prog w 0 (fun _ => true) true 36 (.slice a len cap) d ps) :
    ∃ bs : List UInt8, bs.length = len ∧ Reads w 1 (.slice a bs.length cap) bs.length (u8s bs) ∧ ∀ k ∈ ownB (.slice a bs.length cap), bs.length ≠ 0 → k < w.heap.size := by
  obtain ⟨fuel, h⟩ := h
  obtain ⟨a', c', bs, e, hr, hb⟩ := open_bytes h
  simp [Value.cells] at e
  obtain ⟨rfl, rfl, rfl⟩ := e
  exact ⟨bs, rfl, hr, hb⟩
end

end Go.Proofs.YtnjdepojmnniaaaGreatDoor
