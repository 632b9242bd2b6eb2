/- The document's client: how it lies in memory; msg, ask, Tick. -/
import Derived.Test.YtnjdepojmnniaaaGreatDoorQ31

set_option linter.unusedSimpArgs false
set_option linter.unusedVariables false
namespace Go.Proofs.YtnjdepojmnniaaaGreatDoor
open Go Go.RowKit

/-- The document's client has the same datum; X is what it was called with. -/
def refC (c : CliD) (X : CmdD) (dv : Value) : Array Value := #[.int .i64 c.conf.nodes, .int .i64 c.conf.clients, .int .i64 c.conf.heart, .int .i64 c.conf.lo, .int .i64 c.conf.range, .int .i64 c.conf.sessions, .int .i64 c.conf.snap, .int .i64 c.conf.room, .int .i64 c.conf.retry,
  .int .i64 c.id, .int .i64 c.node, .int .i64 c.session, .int .i64 c.seq, .int .i64 c.request, .int .i64 (c.does : Int), .int .i64 c.waited,
  .int .i64 X.kind, .int .i64 X.session, .int .i64 X.seq, .string X.field, .int .i64 X.version, .int .i64 X.value.kind, .int .i64 X.value.n, .string X.value.s,
  dv, .int .i64 c.reply.err, .int .i64 c.reply.n, .int .i64 c.reply.value.kind, .int .i64 c.reply.value.n, .string c.reply.value.s]
structure RefCAt (w : World) (n : Nat) (Q : Nat → Prop) (c : CliD) (X : CmdD) (dv : Value) : Prop where
  row : w.heap[n]? = some (.cells (refC c X dv) 74 (0, 0))
  data : BytesAt w Q dv c.last.data
  off : ¬ Q n
theorem RefCAt.keep {G : List Nat} {w w' : World} {n : Nat} {Q : Nat → Prop} {c : CliD} {X : CmdD} {dv : Value} (h : RefCAt w n Q c X dv) (k : Keeps G w w') (hn : n ∉ G) (hQ : ∀ b, Q b → b ∉ G) : RefCAt w' n Q c X dv :=
  ⟨(k.block _ (Array.getElem?_eq_some_iff.1 h.row).1 hn).trans h.row, h.data.keep k hQ, h.off⟩
theorem RefCAt.k {w w' : World} {n : Nat} {Q : Nat → Prop} {c : CliD} {X : CmdD} {dv : Value} (h : RefCAt w n Q c X dv) (k : Keeps [] w w') : RefCAt w' n Q c X dv := h.keep k (by simp) (by simp)
theorem RefCAt.lt {w : World} {n : Nat} {Q : Nat → Prop} {c : CliD} {X : CmdD} {dv : Value} (h : RefCAt w n Q c X dv) : n < w.heap.size := (Array.getElem?_eq_some_iff.1 h.row).1
theorem RefCAt.cell {w : World} {n : Nat} {Q : Nat → Prop} {c : CliD} {X : CmdD} {dv : Value} (h : RefCAt w n Q c X dv) (i : Nat) : w.cell? ⟨n, i, none⟩ = (refC c X dv)[i]? := cell_of_block h.row i
theorem RefCAt.free {w : World} {n : Nat} {Q : Nat → Prop} {c : CliD} {X : CmdD} {dv : Value} (h : RefCAt w n Q c X dv) (i : Nat) : w.frozen? ⟨n, i, none⟩ = false := frozen_of_row w n i _ _ h.row
/-- A cell of its own row is written anew. -/
theorem RefCAt.set1 {w : World} {n : Nat} {Q : Nat → Prop} {c c' : CliD} {X X' : CmdD} {dv : Value} (h : RefCAt w n Q c X dv) (i : Nat) (v : Value) (he : (refC c X dv).setIfInBounds i v = refC c' X' dv) (hl : c'.last.data = c.last.data) :
    RefCAt (w.setCell ⟨n, i, none⟩ v) n Q c' X' dv := by
  have k : Keeps [n] w (w.setCell ⟨n, i, none⟩ v) := (Keeps.refl _ _).setCell (.inl (by simp)) _
  refine ⟨?_, by rw [hl]; exact h.data.keep k (fun b hb hm => by simp at hm; subst hm; exact h.off hb), h.off⟩
  rw [← he]
  exact heap_setCell_same _ _ i _ _ v h.row
/-- Its data is another one. -/
theorem RefCAt.setD {w : World} {n : Nat} {Q : Nat → Prop} {c c' : CliD} {X : CmdD} {dv dv' : Value} (h : RefCAt w n Q c X dv) (he : (refC c X dv).setIfInBounds 24 dv' = refC c' X dv') (hd : BytesAt w Q dv' c'.last.data) :
    RefCAt (w.setCell ⟨n, 24, none⟩ dv') n Q c' X dv' := by
  have k : Keeps [n] w (w.setCell ⟨n, 24, none⟩ dv') := (Keeps.refl _ _).setCell (.inl (by simp)) _
  refine ⟨?_, hd.keep k (fun b hb hm => by simp at hm; subst hm; exact h.off hb), h.off⟩
  rw [← he]
  exact heap_setCell_same _ _ 24 _ _ dv' h.row
/-- What it was called with is, but for its session and number, what the program's client calls. -/
def XOk (c : CliD) (X : CmdD) : Prop := ({ X with session := 0, seq := 0 } : CmdD) = { c.call with session := 0, seq := 0 }
theorem XOk.any {c : CliD} {X : CmdD} (h : XOk c X) (s q : Int) : ({ X with session := s, seq := q } : CmdD) = { c.call with session := s, seq := q } := by
  have := congrArg (fun y : CmdD => ({ y with session := s, seq := q } : CmdD)) h
  exact this
def RefPost (n : Nat) (Q : Nat → Prop) (c' : CliD) (X' : CmdD) (l : List MsgD) (w : World) (v : Value) (w' : World) : Prop :=
  ∃ a q dv, v = .slice a l.length q ∧ RefCAt w' n Q c' X' dv ∧ ListAt msgL w' (fun b => w.heap.size ≤ b) (.slice a l.length q) l ∧ Keeps [n] w w'
theorem RefPost.silent {n : Nat} {Q : Nat → Prop} {c : CliD} {X : CmdD} {w w' : World} {dv : Value} (h : RefCAt w' n Q c X dv) (k : Keeps [n] w w') : RefPost n Q c X [] w (.slice none 0 0) w' :=
  ⟨none, 0, dv, rfl, h, ListAt.nil _ _ _ _, k⟩
theorem RefPost.from {n : Nat} {Q : Nat → Prop} {c : CliD} {X : CmdD} {l : List MsgD} {w w0 w' : World} {v : Value} (h : RefPost n Q c X l w0 v w') (k : Keeps [n] w w0) : RefPost n Q c X l w v w' := by
  obtain ⟨a, q, dv, h1, h2, h3, h4⟩ := h
  exact ⟨a, q, dv, h1, h2, h3.mono (fun b _ hb => Nat.le_trans k.size hb), k.trans h4 (fun _ _ h => h)⟩
theorem MsgsPost.ref {n : Nat} {Q : Nat → Prop} {c' : CliD} {X : CmdD} {l : List MsgD} {w w0 w' : World} {v dv : Value} (h : RefCAt w0 n Q c' X dv) (k : Keeps [n] w w0) (hp : MsgsPost l w0 (.returned v) w') : RefPost n Q c' X l w v w' := by
  obtain ⟨a, q, he, hf, hk⟩ := hp
  injection he with he
  exact ⟨a, q, dv, he, h.k hk, OwnAt.list hf (fun b _ hb => Nat.le_trans k.size hb.1) (fun b hb => Nat.le_trans k.size (OwnAt.ge hf b hb).1), k.trans hk (fun _ _ h => by cases h)⟩

set_option maxRecDepth 100000 in
set_option maxHeartbeats 4000000 in
theorem r24msg_any (w : World) (n : Nat) (Q : Nat → Prop) (c : CliD) (X : CmdD) (dv : Value) (h : RefCAt w n Q c X dv) (hd : c.last.data.length ≤ 3000000) :
    Calls Tryz.prog 54 #[.pointer (some ⟨n, 0, none⟩)] w fun e w' => ∃ v, e = .returned v ∧ RefPost n Q { c with waited := 0 } X [⟨6, c.id, c.node, 0, 0, 0, c.request, false, [], c.last.data⟩] w v w' := by
  obtain ⟨i0, hi, hz0, hz1, hz2⟩ := info_parts Tryz.infoU8
  obtain ⟨da, dc, rfl⟩ := h.data.form
  have f15 : w.frozen? ⟨n, 15, none⟩ = false := h.free 15
  have hlt := h.lt
  have x15 : w.cell? ⟨n, 15, none⟩ = some (.int .i64 c.waited) := h.cell 15
  have k1 : Keeps [n] w (w.setCell ⟨n, 15, none⟩ (.int .i64 0)) := by exact Keeps.K
  have h1 : RefCAt (w.setCell ⟨n, 15, none⟩ (.int .i64 0)) n Q { c with waited := 0 } X (.slice da c.last.data.length dc) := h.set1 15 _ (by simp [refC]) rfl
  clear h
  go_enter Tryz.func54, Tryz.ntmps54
  go_wp2_with fail
  obtain ⟨w1, hw1⟩ : ∃ w1, w.setCell ⟨n, 15, none⟩ (.int .i64 0) = w1 := ⟨_, rfl⟩
  rw [hw1] at k1 h1 ⊢
  have K1 := hid k1
  have H1 := hid h1
  have x9 : w1.cell? ⟨n, 9, none⟩ = some (.int .i64 c.id) := h1.cell 9
  have x10 : w1.cell? ⟨n, 10, none⟩ = some (.int .i64 c.node) := h1.cell 10
  have x13 : w1.cell? ⟨n, 13, none⟩ = some (.int .i64 c.request) := h1.cell 13
  have x24 : w1.cell? ⟨n, 24, none⟩ = some (.slice da c.last.data.length dc) := h1.cell 24
  have hpl : c.last.data.length ≤ 140737488355328 := by omega
  clear hw1 k1 h1 f15 x15 hlt
  refine Plan.wp_region_plan (fun wx => wx.cell? ⟨n, 9, none⟩ = some (.int .i64 c.id) ∧ wx.cell? ⟨n, 10, none⟩ = some (.int .i64 c.node) ∧ wx.cell? ⟨n, 13, none⟩ = some (.int .i64 c.request) ∧ wx.cell? ⟨n, 24, none⟩ = some (.slice da c.last.data.length dc)) 17 [(true, 0), (true, 1), (true, 2), (true, 3), (true, 4), (true, 5), (true, 6), (true, 7), (true, 8), (true, 9), (true, 10), (true, 11), (true, 12), (true, 13), (true, 14), (true, 15), (false, 16)] (by kernel_rfl) (by as_aux_lemma => kernel_rfl) (by kernel_rfl) (fun _ _ _ _ _ h => h) ?_ (fun hS => ?_)
  (· go_simp)
  simp only [Plan.pick, List.append_eq, List.cons_append, List.nil_append, Plan.g1, Plan.g2, Option.getD_some, List.drop_succ_cons, List.drop_zero]
  iterate 16 (first | refine Plan.tA ?_ | refine Plan.tY ?_ | refine Plan.pN ?_ | refine Plan.pU ?_ | fail)
  refine Plan.step ?_
  go_wp2_with (at_builtin; go_must (refine wpList_append_copy _ (by rfl) (.tmp 21) 36 (by rfl) 5 i0 (.int .u8 0) 1 1 Tryz.underlying36 hi hz0 hz1 hz2 rfl (by decide) (.slice da c.last.data.length dc) c.last.data.length (u8s c.last.data) (by rfl) (H1.out.data.k (by exact Keeps.K)).1 (u8s_one _) (by omega) (le_maxLen (by omega)) ?_; intro v' w2 h1 h2))
  obtain ⟨a2, q2, rfl⟩ := len_form h1
  have KX : Hid (Keeps [] w1 w2) := Keeps.trans (F := []) (G := []) (by exact Keeps.K) (Keeps.ofGrown h2 (fun _ h => by cases h)) (fun _ _ h => h)
  have D2 : Hid (BytesAt w2 (fun b => w1.heap.size ≤ b) (.slice a2 c.last.data.length q2) c.last.data) := BytesAt.ofOwn h1 rfl (fun b h _ => by simpa using h)
  have y9 := KX.out.cellSome x9 (by simp)
  have y10 := KX.out.cellSome x10 (by simp)
  have y13 := KX.out.cellSome x13 (by simp)
  have y24 := KX.out.cellSome x24 (by simp)
  clear h1 h2 hS x9 x10 x13 x24
  refine ⟨⟨y9, y10, y13, y24⟩, ?_⟩
  refine Plan.fin ?_
  clear y9 y10 y13 y24
  go_wp2_with fail
  go_ret
  refine ⟨_, rfl, ?_⟩
  exact MsgsPost.ref H1.out K1.out (msgs_one (m := ⟨6, c.id, c.node, 0, 0, 0, c.request, false, [], c.last.data⟩) (ev := .slice none 0 0) KX.out (ListAt.nil _ _ _ _) D2.out)

set_option maxRecDepth 100000 in
set_option maxHeartbeats 8000000 in
theorem r24ask_any (w : World) (n : Nat) (Q : Nat → Prop) (c : CliD) (X : CmdD) (dv : Value) (h : RefCAt w n Q c X dv) (hX : XOk c X) (hr : 0 ≤ c.request ∧ c.request ≤ 1099511627776) (hs : c.session ≤ 1099511627776) (hq : 0 ≤ c.seq ∧ c.seq ≤ 1099511627776) (hc : CmdW c.call) (hQ : ∀ b, w.heap.size ≤ b → Q b) :
    Calls Tryz.prog 52 #[.pointer (some ⟨n, 0, none⟩)] w fun e w' => ∃ v, e = .returned v ∧ RefPost n Q (cAskD c).1 X (cAskD c).2 w v w' := by
  have H := hid h
  have HQ := hid hQ
  have x11 : w.cell? ⟨n, 11, none⟩ = some (.int .i64 c.session) := h.cell 11
  have x12 : w.cell? ⟨n, 12, none⟩ = some (.int .i64 c.seq) := h.cell 12
  have x13 : w.cell? ⟨n, 13, none⟩ = some (.int .i64 c.request) := h.cell 13
  have x14 : w.cell? ⟨n, 14, none⟩ = some (.int .i64 (c.does : Int)) := h.cell 14
  have x16 : w.cell? ⟨n, 16, none⟩ = some (.int .i64 X.kind) := h.cell 16
  have x17 : w.cell? ⟨n, 17, none⟩ = some (.int .i64 X.session) := h.cell 17
  have x18 : w.cell? ⟨n, 18, none⟩ = some (.int .i64 X.seq) := h.cell 18
  have x19 : w.cell? ⟨n, 19, none⟩ = some (.string X.field) := h.cell 19
  have x20 : w.cell? ⟨n, 20, none⟩ = some (.int .i64 X.version) := h.cell 20
  have x21 : w.cell? ⟨n, 21, none⟩ = some (.int .i64 X.value.kind) := h.cell 21
  have x22 : w.cell? ⟨n, 22, none⟩ = some (.int .i64 X.value.n) := h.cell 22
  have x23 : w.cell? ⟨n, 23, none⟩ = some (.string X.value.s) := h.cell 23
  have f0 : ∀ i, w.frozen? ⟨n, i, none⟩ = false := h.free
  have hlt := h.lt
  obtain ⟨hr0, hr1⟩ := hr
  obtain ⟨hq0, hq1⟩ := hq
  have hw : IntKind.i64.wrap (c.request + 1) = c.request + 1 := by rw [IntKind.wrap_i64]; omega
  have hw2 : IntKind.i64.wrap (c.seq + 1) = c.seq + 1 := by rw [IntKind.wrap_i64]; omega
  by_cases hs0 : 0 < c.session
  · have hW : CmdW { X with session := c.session, seq := c.seq + 1 } := by
      rw [hX.any]
      exact ⟨hc.kind, (show I64 c.session from ⟨by omega, by omega⟩), (show I64 (c.seq + 1) from ⟨by omega, by omega⟩), hc.version, hc.vkind, hc.vn, hc.field, hc.vs⟩
    have hP : putC { X with session := c.session, seq := c.seq + 1 } = putC (cAskC c) := by rw [hX.any]; unfold cAskC; rw [if_pos hs0]
    have HW := hid hW
    have HP := hid hP
    clear h hQ hW hP hX hc hs
    have hA : cAskD c = ({ c with request := c.request + 1, seq := c.seq + 1, does := 2, waited := 0, last := ⟨6, c.id, 0, 0, 0, 0, c.request + 1, false, [], putC (cAskC c)⟩ }, [⟨6, c.id, c.node, 0, 0, 0, c.request + 1, false, [], putC (cAskC c)⟩]) := by
      unfold cAskD againD cAskedC
      simp [hs0]
    rw [hA]
    clear hA
    have HB : Hid (RefCAt ((((w.setCell ⟨n, 13, none⟩ (.int .i64 (c.request + 1))).setCell ⟨n, 14, none⟩ (.int .i64 1)).setCell ⟨n, 12, none⟩ (.int .i64 (c.seq + 1))).setCell ⟨n, 14, none⟩ (.int .i64 2)) n Q { c with request := c.request + 1, seq := c.seq + 1, does := 2 } X dv) :=
      (((H.out.set1 (c' := { c with request := c.request + 1 }) (X' := X) 13 _ (by simp [refC]) rfl).set1 (c' := { c with request := c.request + 1, does := 1 }) (X' := X) 14 _ (by simp [refC]) rfl).set1 (c' := { c with request := c.request + 1, does := 1, seq := c.seq + 1 }) (X' := X) 12 _ (by simp [refC]) rfl).set1 14 _ (by simp [refC]) rfl
    have KB : Hid (Keeps [n] w ((((w.setCell ⟨n, 13, none⟩ (.int .i64 (c.request + 1))).setCell ⟨n, 14, none⟩ (.int .i64 1)).setCell ⟨n, 12, none⟩ (.int .i64 (c.seq + 1))).setCell ⟨n, 14, none⟩ (.int .i64 2))) := by show Keeps _ _ _; exact Keeps.K
    go_enter Tryz.func52, Tryz.ntmps52
    go_wp2_with fail
    obtain ⟨wB, hwB⟩ : ∃ wB, ((((w.setCell ⟨n, 13, none⟩ (.int .i64 (c.request + 1))).setCell ⟨n, 14, none⟩ (.int .i64 1)).setCell ⟨n, 12, none⟩ (.int .i64 (c.seq + 1))).setCell ⟨n, 14, none⟩ (.int .i64 2)) = wB := ⟨_, rfl⟩
    rw [hwB] at HB KB ⊢
    clear hwB x11 x12 x13 x14 x16 x17 x18 x19 x20 x21 x22 x23 f0 hw hw2
    refine (r14Put_any _ HW.out _).mono ?_
    rintro e w4 ⟨a4, q4, rfl, h4, hk⟩
    rw [List.nil_append, HP.out] at h4 ⊢
    have hcL : (putC (cAskC c)).length ≤ 3000000 := by have := putC_len _ HW.out; rw [HP.out] at this; omega
    have k4 : Keeps [] wB w4 := Keeps.trans (F := []) (G := []) (by exact Keeps.K) hk (fun _ _ h => h)
    have D4 : BytesAt w4 Q (.slice a4 (putC (cAskC c)).length q4) (putC (cAskC c)) := BytesAt.ofOwn h4 rfl (fun b h1 _ => HQ.out b (by have := KB.out.size; simp at h1; omega))
    obtain ⟨DL, hDL⟩ : ∃ DL, putC (cAskC c) = DL := ⟨_, rfl⟩
    have HDL := hid hDL
    rw [hDL] at D4 hcL ⊢
    have z4 := (HB.out.k k4).lt
    have x24 : w4.cell? ⟨n, 24, none⟩ = some dv := (HB.out.k k4).cell 24
    have f24 : w4.frozen? ⟨n, 24, none⟩ = false := (HB.out.k k4).free 24
    have hv : dv.oneCell' = true := slice_one _ (by obtain ⟨a, q, h⟩ := HB.out.data.form; exact ⟨_, _, _, h⟩)
    have h5 : RefCAt (w4.setCell ⟨n, 24, none⟩ (.slice a4 DL.length q4)) n Q { c with request := c.request + 1, seq := c.seq + 1, does := 2, last := ⟨6, c.id, 0, 0, 0, 0, c.request + 1, false, [], DL⟩ } X (.slice a4 DL.length q4) := (HB.out.k k4).setD (by simp [refC]) D4
    have k5 : Keeps [n] w (w4.setCell ⟨n, 24, none⟩ (.slice a4 DL.length q4)) := (KB.out.trans k4 (fun _ _ h => by cases h)).trans (G := [n]) (by exact Keeps.K) (fun _ _ h => h)
    have HM := hid (r24msg_any _ n Q _ X _ h5 hcL)
    have K5 := hid k5
    clear h4 hk k4 D4 h5 k5 hDL
    go_wp2_with fail
    refine HM.out.mono ?_
    rintro e w6 ⟨v, rfl, h6⟩
    have h7 := h6.from K5.out
    rw [← HDL.out] at h7
    have H6 := hid h7
    clear h6 h7
    go_wp2_with fail
    go_ret
    exact ⟨_, rfl, H6.out⟩
  · have hA : cAskD c = ({ c with request := c.request + 1, does := 1, waited := 0, last := ⟨6, c.id, 0, 0, 0, 0, c.request + 1, false, [], putC oneC⟩ }, [⟨6, c.id, c.node, 0, 0, 0, c.request + 1, false, [], putC oneC⟩]) := by
      unfold cAskD againD cAskedC cAskC
      simp [hs0]
    rw [hA]
    have HA := hid hA
    have HB : Hid (RefCAt ((w.setCell ⟨n, 13, none⟩ (.int .i64 (c.request + 1))).setCell ⟨n, 14, none⟩ (.int .i64 1)) n Q { c with request := c.request + 1, does := 1 } X dv) :=
      (H.out.set1 (c' := { c with request := c.request + 1 }) (X' := X) 13 _ (by simp [refC]) rfl).set1 14 _ (by simp [refC]) rfl
    have KB : Hid (Keeps [n] w ((w.setCell ⟨n, 13, none⟩ (.int .i64 (c.request + 1))).setCell ⟨n, 14, none⟩ (.int .i64 1))) := by show Keeps _ _ _; exact Keeps.K
    clear h hQ hX hc hs hA
    go_enter Tryz.func52, Tryz.ntmps52
    go_wp2_with fail
    obtain ⟨wB, hwB⟩ : ∃ wB, ((w.setCell ⟨n, 13, none⟩ (.int .i64 (c.request + 1))).setCell ⟨n, 14, none⟩ (.int .i64 1)) = wB := ⟨_, rfl⟩
    rw [hwB] at HB KB ⊢
    clear hwB x11 x12 x13 x14 x16 x17 x18 x19 x20 x21 x22 x23 f0 hw hw2
    refine (r14Put_any oneC wide1 _).mono ?_
    rintro e w4 ⟨a4, q4, rfl, h4, hk⟩
    rw [List.nil_append] at h4 ⊢
    have hcL : (putC oneC).length ≤ 3000000 := by have := putC_len _ wide1; omega
    have k4 : Keeps [] wB w4 := Keeps.trans (F := []) (G := []) (by exact Keeps.K) hk (fun _ _ h => h)
    have D4 : BytesAt w4 Q (.slice a4 (putC oneC).length q4) (putC oneC) := BytesAt.ofOwn h4 rfl (fun b h1 _ => HQ.out b (by have := KB.out.size; simp at h1; omega))
    obtain ⟨DL, hDL⟩ : ∃ DL, putC oneC = DL := ⟨_, rfl⟩
    have HDL := hid hDL
    rw [hDL] at D4 hcL ⊢
    have z4 := (HB.out.k k4).lt
    have x24 : w4.cell? ⟨n, 24, none⟩ = some dv := (HB.out.k k4).cell 24
    have f24 : w4.frozen? ⟨n, 24, none⟩ = false := (HB.out.k k4).free 24
    have hv : dv.oneCell' = true := slice_one _ (by obtain ⟨a, q, h⟩ := HB.out.data.form; exact ⟨_, _, _, h⟩)
    have h5 : RefCAt (w4.setCell ⟨n, 24, none⟩ (.slice a4 DL.length q4)) n Q { c with request := c.request + 1, does := 1, last := ⟨6, c.id, 0, 0, 0, 0, c.request + 1, false, [], DL⟩ } X (.slice a4 DL.length q4) := (HB.out.k k4).setD (by simp [refC]) D4
    have k5 : Keeps [n] w (w4.setCell ⟨n, 24, none⟩ (.slice a4 DL.length q4)) := (KB.out.trans k4 (fun _ _ h => by cases h)).trans (G := [n]) (by exact Keeps.K) (fun _ _ h => h)
    have HM := hid (r24msg_any _ n Q _ X _ h5 hcL)
    have K5 := hid k5
    clear h4 hk k4 D4 h5 k5 hDL
    go_wp2_with fail
    refine HM.out.mono ?_
    rintro e w6 ⟨v, rfl, h6⟩
    have h7 := h6.from K5.out
    rw [← HDL.out] at h7
    have H6 := hid h7
    clear h6 h7
    go_wp2_with fail
    go_ret
    exact ⟨_, rfl, H6.out⟩

end Go.Proofs.YtnjdepojmnniaaaGreatDoor
