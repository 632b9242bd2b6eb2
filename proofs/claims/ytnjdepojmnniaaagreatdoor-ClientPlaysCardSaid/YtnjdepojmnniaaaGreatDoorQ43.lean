/- Joined of MsgW, ClT. -/
import Derived.Test.YtnjdepojmnniaaaGreatDoorQ35
import Derived.Test.YtnjdepojmnniaaaGreatDoorQ42
import Derived.Test.YtnjdepojmnniaaaGreatDoorQ38
import Derived.Deep.MidRow
import Derived.Deep.WholeRow
import Derived.Deep.CutRange
import Derived.Deep.CutBlock

set_option linter.unusedSimpArgs false
set_option linter.unusedVariables false

/- Msg: a message in new memory, whatever length its entries have. Printed by gen_wide.py. -/
namespace Go.Proofs.YtnjdepojmnniaaaGreatDoor
open Go Go.RowKit

set_option maxRecDepth 100000 in
set_option maxHeartbeats 1600000 in
theorem lEntriesW_any (w : World) (l : List Ent) (a0 : Option Addr) (c0 : Nat) (P : Nat → Prop) (hl : ListAt entL w P (.slice a0 l.length c0) l) (hd : ∀ e ∈ l, e.data.length ≤ 140737488351232) (hn : l.length ≤ 100000) :
    Calls Tryz.prog 55 #[.slice a0 l.length c0] w (FromPost l w) := by
  obtain ⟨it, hi0, hz0, hz1, hz2⟩ := info_parts Tryz.infoEnt
  have HLA := hid hl
  have HD := hid hd
  have HZ : Hid (∀ k, k < l.length → ∃ e, l[k]? = some e) := fun k hk => ⟨l[k], List.getElem?_eq_getElem hk⟩
  clear hl hd
  go_enter Tryz.func55, Tryz.ntmps55
  go_wp2_with fail
  go_loopw [3, 4] (fun v i wr => ∃ (k : Nat) (a : Option Addr) (q : Nat), k ≤ l.length ∧ v = .slice a k q ∧ i = .int .i64 k ∧ Hid (FreshEnts w wr (.slice a k q) (l.take k) ∧ Keeps [] w wr)) (fun _ i _ => l.length - (intOf i).toNat)
  case atStart => exact ⟨0, none, 0, Nat.zero_le _, rfl, rfl, OwnAt.nil _ _ _ _, Keeps.refl [] w⟩
  case round =>
    obtain ⟨k, a, q, hk, rfl, rfl, HW⟩ := hrel
    have i0 : (0 : Int) ≤ (k : Int) := Int.natCast_nonneg _
    by_cases hlt : k < l.length
    · have i1 : (k : Int) < (l.length : Int) := by omega
      obtain ⟨e, he⟩ := HZ.out k hlt
      obtain ⟨g, off, cg, ha, hcg, hcm, hgl, hgP⟩ := (HLA.out.k HW.out.2).addr (fun hn => by rw [hn] at hlt; simp at hlt)
      simp at ha
      obtain ⟨ha, hcc⟩ := ha
      subst ha
      subst hcc
      obtain ⟨cs, ⟨v, rfl, hbv⟩, hcs⟩ := (HLA.out.k HW.out.2).get he
      have y0 : wr.cell? ⟨g, off + k * 3, none⟩ = some (.int .i64 e.term) := hcs 0 _ rfl
      have y1 : wr.cell? ⟨g, off + k * 3 + 1, none⟩ = some (.bool e.cmd) := hcs 1 _ rfl
      have y2 : wr.cell? ⟨g, off + k * 3 + 2, none⟩ = some v := hcs 2 _ rfl
      obtain ⟨va, vc, rfl⟩ := hbv.form
      have XR := hid hbv.1
      have HDL : e.data.length ≤ 140737488351232 := HD.out e (List.mem_of_getElem? he)
      have HT : Hid (l.take (k + 1) = l.take k ++ [e]) := by show _ = _; rw [List.take_add_one, he]; rfl
      have HTL : Hid ((l.take k).length = k) := by show _ = _; simp; omega
      clear hcs hbv he hcm hcg
      go_wp2_with fail
      refine (lawBytes_any _ e.data _ (XR.out.keeps ((Keeps.refl [] wr).alloc _) (fun _ _ h => by cases h)) (by omega)).mono ?_
      rintro z w3 ⟨a3, q3, rfl, ho, hk3⟩
      obtain ⟨⟨b0, b1, b2⟩, f3⟩ := blk3 ((hk3.block wr.heap.size (by simp) (by simp)).trans (heap_alloc_new wr _))
      have K3 : Hid (Keeps [] wr w3) := ((Keeps.refl [] wr).alloc _).trans hk3 (fun _ _ h => h)
      have hz : wr.heap.size < w3.heap.size := World.block_lt_of_cell? _ _ b0
      have HOW : Hid (OwnAt entL 109 w3 w.heap.size (fun b => w.heap.size ≤ b ∧ b ∉ ownB (.slice a k q)) (.slice a k q) (l.take k)) := OwnAt.k HW.out.1 K3.out
      have HBB : Hid (∀ b, wr.heap.size ≤ b → w.heap.size ≤ b ∧ b ∉ ownB (.slice a k q)) := fun b hb => ⟨Nat.le_trans HW.out.2.size hb, fun hb' => by have := (OwnAt.ge HW.out.1 b hb').2; omega⟩
      have HEL : Hid (∀ wx, Keeps [wr.heap.size] w3 wx → entL.at_ wx (fun b => wr.heap.size < b) [.int .i64 e.term, .bool e.cmd, .slice a3 e.data.length q3] e) := fun wx kx => ⟨_, rfl, BytesAt.keep (P := fun b => wr.heap.size < b) (BytesAt.ofOwn ho rfl (fun b hb _ => by simp at hb; omega)) kx (fun b hb hb' => by simp at hb'; omega)⟩
      have HZ3 : Hid (w.heap.size ≤ w3.heap.size) := Nat.le_trans HW.out.2.size K3.out.size
      have HO4 : Hid (∀ wx, Keeps [wr.heap.size] w3 wx → OwnAt entL 109 wx w.heap.size (fun b => w.heap.size ≤ b ∧ b ∉ ownB (.slice a k q)) (.slice a k q) (l.take k)) := fun wx kx =>
        (((OwnAt.mono (P' := fun b => (w.heap.size ≤ b ∧ b ∉ ownB (.slice a k q)) ∧ b < wr.heap.size) HW.out.1 (fun b h1 h2 => ⟨h2, h1⟩)).k K3.out).keep kx (fun b hb hb' => by have := (OwnAt.ge HW.out.1 b hb).2; simp at hb'; omega) (fun b hb hb' => by simp at hb'; omega)).mono (fun b _ h => h.1)
      have HK4 : Hid (∀ wx, Keeps [wr.heap.size] w3 wx → Keeps [] w wx) := fun wx kx => (HW.out.2.trans K3.out (fun _ _ h => h)).trans kx (fun b hb hb' => by simp at hb'; have := HW.out.2.size; omega)
      have HOWB : Hid (∀ b, b ∈ ownB (.slice a k q) → w.heap.size ≤ b) := fun b hb => (OwnAt.ge HW.out.1 b hb).1
      have HRW : Hid (((w3.setCell ⟨wr.heap.size, 2, none⟩ (.slice a3 e.data.length q3)).alloc (.cells #[.int .i64 e.term, .bool e.cmd, .slice a3 e.data.length q3] 109)).heap[w3.heap.size]? = some (.cells #[.int .i64 e.term, .bool e.cmd, .slice a3 e.data.length q3] 109 (0, 0))) := by
        have := heap_alloc_new (w3.setCell ⟨wr.heap.size, 2, none⟩ (.slice a3 e.data.length q3)) (.cells #[.int .i64 e.term, .bool e.cmd, .slice a3 e.data.length q3] 109)
        rw [show (w3.setCell ⟨wr.heap.size, 2, none⟩ (.slice a3 e.data.length q3)).heap.size = w3.heap.size by simp] at this
        exact this
      clear ho hk3
      go_wp2_with (at_builtin; go_must (refine wpList_append_off (L := entL) (PB := fun b => wr.heap.size < b) _ (by rfl) _ _ _ (by rfl) w.heap.size 109 it _ 40 Tryz.underlying35 hi0 hz0 hz1 hz2 rfl (R := fun b => w.heap.size ≤ b) (.slice a k q) (by rfl) (l.take k) [e] k HTL.out [[.int .i64 e.term, .bool e.cmd, .slice a3 e.data.length q3]] (HO4.out _ (((Keeps.refl _ _).setCell (.inl (by simp)) _).alloc _)) (.slice (some ⟨w3.heap.size, 0, none⟩) 1 1) (by rfl) 1 rfl (ElemsAt.one1 (HEL.out _ (((Keeps.refl _ _).setCell (.inl (by simp)) _).alloc _))) (Reads.one1 HRW.out rfl) (by omega) (le_maxLen (by omega)) (by exact Nat.le_trans HZ3.out (Keeps.size (F := [wr.heap.size]) (((Keeps.refl _ _).setCell (.inl (by simp)) _).alloc _))) (fun b _ hb => HBB.out b (Nat.le_of_lt hb)) ?_; intro a4 q4 w4 ho4 hk4 hv4))
      go_roundw
      case rel =>
        refine ⟨k + 1, a4, q4, by omega, rfl, by go_num, ?_, ?_⟩
        · rw [HT.out]
          exact ho4.out
        · exact (HK4.out _ (((Keeps.refl _ _).setCell (.inl (by simp)) _).alloc _)).trans hk4.out (fun b hb hb' => by have := HOWB.out b hb'; omega)
      case measure => simp [intOf]; omega
    · have hkn : k = l.length := by omega
      have hge : (l.length : Int) ≤ (k : Int) := by omega
      have HKN := hid hkn
      clear hkn
      go_wp2_with fail
      go_ret
      have h1 := HW.out
      rw [HKN.out, List.take_of_length_le (Nat.le_refl _)] at h1
      exact ⟨a, q, by rw [HKN.out]; rfl, h1⟩

set_option maxRecDepth 100000 in
set_option maxHeartbeats 3200000 in
theorem lMsgW_any (w : World) (m : MsgD) (ea da : Option Addr) (ec dc : Nat) (P : Nat → Prop) (hl : ListAt entL w P (.slice ea m.entries.length ec) m.entries) (hd : BytesAt w P (.slice da m.data.length dc) m.data) (hn : m.entries.length ≤ 100000) (h1 : ∀ e ∈ m.entries, e.data.length ≤ 140737488351232) (h2 : m.data.length ≤ 1000000) :
    Calls Tryz.prog 32 #[msgV m (.slice ea m.entries.length ec) (.slice da m.data.length dc)] w (SendPost m w) := by
  have HL := hid hl
  have HD := hid hd
  have H1 := hid h1
  clear hl hd h1
  unfold msgV
  go_enter Tryz.func32, Tryz.ntmps32
  go_wp2_with fail
  refine (lEntriesW_any _ m.entries ea ec P (HL.out.k (by exact Keeps.K)) H1.out hn).mono ?_
  rintro e w3 ⟨a3, q3, rfl, f3, k3⟩
  have HB1 := (k3.block w.heap.size (by simp; omega) (by simp)).trans ((((Keeps.refl [] _).alloc _).block w.heap.size (by simp) (by simp)).trans (heap_alloc_new w (.cells #[.int .i64 m.kind, .int .i64 m.frm, .int .i64 m.to, .int .i64 m.term, .int .i64 m.a, .int .i64 m.b, .int .i64 m.c, .bool m.ok, .slice ea m.entries.length ec, .slice da m.data.length dc] 38)))
  have HB2 : w3.heap[w.heap.size + 1]? = some (.cells #[.int .i64 0, .int .i64 0, .int .i64 0, .int .i64 0, .int .i64 0, .int .i64 0, .int .i64 0, .bool false, .slice none 0 0, .slice none 0 0] 38 (0, 0)) := by
    have h2 := heap_alloc_new (w.alloc (.cells #[.int .i64 m.kind, .int .i64 m.frm, .int .i64 m.to, .int .i64 m.term, .int .i64 m.a, .int .i64 m.b, .int .i64 m.c, .bool m.ok, .slice ea m.entries.length ec, .slice da m.data.length dc] 38)) (.cells #[.int .i64 0, .int .i64 0, .int .i64 0, .int .i64 0, .int .i64 0, .int .i64 0, .int .i64 0, .bool false, .slice none 0 0, .slice none 0 0] 38)
    rw [show (w.alloc (.cells #[.int .i64 m.kind, .int .i64 m.frm, .int .i64 m.to, .int .i64 m.term, .int .i64 m.a, .int .i64 m.b, .int .i64 m.c, .bool m.ok, .slice ea m.entries.length ec, .slice da m.data.length dc] 38)).heap.size = w.heap.size + 1 by simp] at h2
    exact (k3.block (w.heap.size + 1) (by simp) (by simp)).trans h2
  have K3 : Hid (Keeps [] w w3) := Keeps.trans (by exact Keeps.K) k3 (fun _ _ h => h)
  have L3 : Hid (ListAt entL w3 (fun b => w.heap.size + 2 ≤ b) (.slice a3 m.entries.length q3) m.entries) := OwnAt.list f3 (fun b _ hb => by simpa using hb.1) (fun b hb => by have := (OwnAt.ge f3 b hb).1; simpa using this)
  have D3 : Hid (BytesAt w3 (fun b => b < w.heap.size) (.slice da m.data.length dc) m.data) := (HD.out.mono (P' := fun b => b < w.heap.size) (fun b h _ => h)).k K3.out
  obtain ⟨⟨c0, c1, c2, c3, c4, c5, c6, c7, c8, c9⟩, fz⟩ := blk10 HB1
  have hz3 : w.heap.size + 1 < w3.heap.size := (Array.getElem?_eq_some_iff.1 HB2).1
  have HBX := hid (heap_setCell_same w3 w.heap.size 8 _ _ (.slice a3 m.entries.length q3) HB1)
  have HBY := hid HB2
  have KS : Hid (∀ v, Keeps [w.heap.size] w3 (w3.setCell ⟨w.heap.size, 8, none⟩ v)) := fun v => (Keeps.refl _ _).setCell (.inl (by simp)) _
  clear f3 k3 HB1 HB2
  go_wp2_with fail
  refine (lawBytes_any _ m.data _ (D3.out.keep (KS.out _) (fun b hb hb' => by simp at hb'; omega)).1 (by omega)).mono ?_
  rintro e w4 ⟨a4, q4, rfl, o4, k4⟩
  have D4 : Hid (BytesAt w4 (fun b => w.heap.size + 2 ≤ b) (.slice a4 m.data.length q4) m.data) := BytesAt.ofOwn o4 rfl (fun b hb _ => by simp at hb; omega)
  have L4 : Hid (ListAt entL w4 (fun b => w.heap.size + 2 ≤ b) (.slice a3 m.entries.length q3) m.entries) := (L3.out.keep (KS.out _) (fun b hb hb' => by simp at hb'; omega)).k k4
  have K4 : Hid (Keeps [w.heap.size] w3 w4) := (KS.out _).trans k4 (fun _ _ h => by cases h)
  have HX4 := (k4.block w.heap.size (by simp; omega) (by simp)).trans HBX.out
  have HY4 := (K4.out.block (w.heap.size + 1) hz3 (by simp)).trans HBY.out
  simp only [List.setIfInBounds_toArray, List.set_cons_zero, List.set_cons_succ] at HX4
  obtain ⟨⟨d0, d1, d2, d3, d4, d5, d6, d7, d8, d9⟩, fx⟩ := blk10 HX4
  obtain ⟨⟨e0, e1, e2, e3, e4, e5, e6, e7, e8, e9⟩, fy⟩ := blk10 HY4
  have HYY := hid HY4
  have hz4 : w.heap.size + 1 < w4.heap.size := (Array.getElem?_eq_some_iff.1 HY4).1
  clear o4 k4 HX4 HY4 c0 c1 c2 c3 c4 c5 c6 c7 c8 c9 fz
  go_wp2_with fail
  have k1 : Keeps [w.heap.size] w4 (w4.setCell ⟨w.heap.size, 9, none⟩ (.slice a4 m.data.length q4)) := (Keeps.refl _ _).setCell (.inl (by simp)) _
  have HF := heap10 (y0 := .int .i64 m.kind) (y1 := .int .i64 m.frm) (y2 := .int .i64 m.«to») (y3 := .int .i64 m.term) (y4 := .int .i64 m.a) (y5 := .int .i64 m.b) (y6 := .int .i64 m.c) (y7 := .bool m.ok) (y8 := .slice a3 m.entries.length q3) (y9 := .slice a4 m.data.length q4) ((k1.block (w.heap.size + 1) hz4 (by simp)).trans HYY.out)
  have k5 : Keeps [w.heap.size, w.heap.size + 1] w4 (((((((((((w4.setCell ⟨w.heap.size, 9, none⟩ (.slice a4 m.data.length q4)).setCell ⟨w.heap.size + 1, 0, none⟩ (.int .i64 m.kind)).setCell ⟨w.heap.size + 1, 1, none⟩ (.int .i64 m.frm)).setCell ⟨w.heap.size + 1, 2, none⟩ (.int .i64 m.«to»)).setCell ⟨w.heap.size + 1, 3, none⟩ (.int .i64 m.term)).setCell ⟨w.heap.size + 1, 4, none⟩ (.int .i64 m.a)).setCell ⟨w.heap.size + 1, 5, none⟩ (.int .i64 m.b)).setCell ⟨w.heap.size + 1, 6, none⟩ (.int .i64 m.c)).setCell ⟨w.heap.size + 1, 7, none⟩ (.bool m.ok)).setCell ⟨w.heap.size + 1, 8, none⟩ (.slice a3 m.entries.length q3)).setCell ⟨w.heap.size + 1, 9, none⟩ (.slice a4 m.data.length q4)) := by exact Keeps.K
  refine bodyPost_ret (v := .agg #[.int .i64 m.kind, .int .i64 m.frm, .int .i64 m.«to», .int .i64 m.term, .int .i64 m.a, .int .i64 m.b, .int .i64 m.c, .bool m.ok, .slice a3 m.entries.length q3, .slice a4 m.data.length q4]) (results_cell_row rfl _ _ (w.heap.size + 1) 38 _ (0, 0) _ rfl HF Tryz.underlying38 rfl (by kernel_rfl)) rfl ⟨a3, q3, a4, q4, rfl, ?_, ?_, ?_⟩
  · exact (L4.out.keep k5 (fun b hb hb' => by simp at hb'; omega)).mono (fun b _ hb => by omega)
  · exact (D4.out.keep k5 (fun b hb hb' => by simp at hb'; omega)).mono (fun b _ hb => by omega)
  · exact (K3.out.trans K4.out (fun b hb hb' => by simp at hb'; omega)).trans k5 (fun b hb hb' => by simp at hb'; omega)

end Go.Proofs.YtnjdepojmnniaaaGreatDoor

/- Both clients side by side: do they tell alike? A call at both. -/
namespace Go.Proofs.YtnjdepojmnniaaaGreatDoor
open Go Go.RowKit

theorem putR_short (r : ReplyD) (h : ReplyW r) (hs : r.value.s.size ≤ 600) : (putR r).length ≤ 1000 := by
  have h1 := intL_len h.err
  have h2 := intL_len h.n
  have h6 := putL_most r.value h.vkind h.vn h.vs
  unfold putR
  rw [List.length_append, List.length_append]
  omega

set_option maxRecDepth 100000 in
set_option maxHeartbeats 16000000 in
theorem same24_is (w : World) (n m : Nat) (Q R : Nat → Prop) (c : CliD) (X : CmdD) (dv fv dw : Value) (h1 : CliAt w n Q c dv fv) (h2 : RefCAt w m R c X dw) :
    Calls Tryz.prog 16 #[.pointer (some ⟨n, 0, none⟩), .pointer (some ⟨m, 0, none⟩)] w fun e w' => e = .returned (.bool true) ∧ Keeps [] w w' := by
  have H1 := hid h1
  have x11 : w.cell? ⟨m, 11, none⟩ = some (.int .i64 c.session) := h2.cell 11
  have x12 : w.cell? ⟨m, 12, none⟩ = some (.int .i64 c.seq) := h2.cell 12
  have x14 : w.cell? ⟨m, 14, none⟩ = some (.int .i64 (c.does : Int)) := h2.cell 14
  have x25 : w.cell? ⟨m, 25, none⟩ = some (.int .i64 c.reply.err) := h2.cell 25
  have x26 : w.cell? ⟨m, 26, none⟩ = some (.int .i64 c.reply.n) := h2.cell 26
  have x27 : w.cell? ⟨m, 27, none⟩ = some (.int .i64 c.reply.value.kind) := h2.cell 27
  have x28 : w.cell? ⟨m, 28, none⟩ = some (.int .i64 c.reply.value.n) := h2.cell 28
  have x29 : w.cell? ⟨m, 29, none⟩ = some (.string c.reply.value.s) := h2.cell 29
  have HB := hid (fun w1 (k : Keeps [] w w1) => clBusy_any (h1.k k))
  have HSE := hid (fun w1 (k : Keeps [] w w1) => clSession_any (h1.k k))
  have HSQ := hid (fun w1 (k : Keeps [] w w1) => clSeq_any (h1.k k))
  have HRE := hid (fun w1 (k : Keeps [] w w1) => clReply_any (h1.k k))
  obtain ⟨bz, hbz⟩ : ∃ b, (c.does != 0) = b := ⟨_, rfl⟩
  obtain ⟨dz, hz⟩ : ∃ d : Int, (c.does : Int) = d := ⟨_, rfl⟩
  have hd0 : bz = true → (0 < dz) = True := fun hh => by rw [hh] at hbz; exact eq_true (by have h0 : c.does ≠ 0 := (by simpa using hbz); omega)
  have hd1 : bz = false → (0 < dz) = False := fun hh => by rw [hh] at hbz; exact eq_false (by have h0 : c.does = 0 := (by simpa using hbz); omega)
  rw [hz] at x14
  rw [hbz] at HB
  unfold replyV at HRE
  clear h1 h2 hbz hz
  rcases bz with _ | _
  all_goals
    first | have hdz := hd0 rfl | have hdz := hd1 rfl
    clear hd0 hd1
    go_enter Tryz.func16, Tryz.ntmps16
    go_wp2_with fail
    refine Plan.wp_region_plan (fun wx => (wx.cell? ⟨m, 11, none⟩ = some (.int .i64 c.session) ∧ wx.cell? ⟨m, 12, none⟩ = some (.int .i64 c.seq) ∧ wx.cell? ⟨m, 14, none⟩ = some (.int .i64 dz)) ∧ wx.cell? ⟨m, 25, none⟩ = some (.int .i64 c.reply.err) ∧ wx.cell? ⟨m, 26, none⟩ = some (.int .i64 c.reply.n) ∧ wx.cell? ⟨m, 27, none⟩ = some (.int .i64 c.reply.value.kind) ∧ wx.cell? ⟨m, 28, none⟩ = some (.int .i64 c.reply.value.n) ∧ wx.cell? ⟨m, 29, none⟩ = some (.string c.reply.value.s)) 36 [(true, 0), (true, 2), (true, 3), (true, 4), (true, 5), (true, 6), (false, 1), (true, 7), (true, 8), (true, 9), (true, 11), (true, 12), (true, 13), (true, 14), (false, 10), (true, 15), (true, 16), (true, 17), (true, 18), (true, 20), (true, 21), (true, 22), (true, 23), (false, 19), (true, 24), (true, 25), (true, 26), (true, 27), (true, 29), (true, 30), (true, 31), (true, 32), (false, 28), (true, 33), (true, 34), (true, 35)] (by kernel_rfl) (by as_aux_lemma => kernel_rfl) (by kernel_rfl) (fun _ _ _ _ _ h => h) ?_ (fun hS => ?_)
    (· go_simp)
    simp only [Plan.pick, List.append_eq, List.cons_append, List.nil_append, Plan.g1, Plan.g2, Option.getD_some, List.drop_succ_cons, List.drop_zero]
    iterate 6 (first | refine Plan.tA ?_ | refine Plan.tY ?_ | refine Plan.pN ?_ | refine Plan.pU ?_ | fail)
    refine Plan.step ?_
    go_wp2_with fail
    refine (HB.out _ ?_).mono ?_
    · exact Keeps.K
    rintro e w1 ⟨rfl, hk⟩
    have K1 : Hid (Keeps [] w w1) := Keeps.trans (F := []) (G := []) (by exact Keeps.K) hk (fun _ _ h => h)
    have hS1 := (⟨⟨K1.out.cellSome x11 (by simp), K1.out.cellSome x12 (by simp), K1.out.cellSome x14 (by simp)⟩, K1.out.cellSome x25 (by simp), K1.out.cellSome x26 (by simp), K1.out.cellSome x27 (by simp), K1.out.cellSome x28 (by simp), K1.out.cellSome x29 (by simp)⟩ : (w1.cell? ⟨m, 11, none⟩ = some (.int .i64 c.session) ∧ w1.cell? ⟨m, 12, none⟩ = some (.int .i64 c.seq) ∧ w1.cell? ⟨m, 14, none⟩ = some (.int .i64 dz)) ∧ w1.cell? ⟨m, 25, none⟩ = some (.int .i64 c.reply.err) ∧ w1.cell? ⟨m, 26, none⟩ = some (.int .i64 c.reply.n) ∧ w1.cell? ⟨m, 27, none⟩ = some (.int .i64 c.reply.value.kind) ∧ w1.cell? ⟨m, 28, none⟩ = some (.int .i64 c.reply.value.n) ∧ w1.cell? ⟨m, 29, none⟩ = some (.string c.reply.value.s))
    clear hk
    go_wp2_with fail
    refine ⟨hS1, ?_⟩
    iterate 7 (first | refine Plan.tA ?_ | refine Plan.tY ?_ | refine Plan.pN ?_ | refine Plan.pU ?_ | fail)
    refine Plan.step ?_
    go_wp2_with fail
    refine (HSE.out _ K1.out).mono ?_
    rintro e w2 ⟨rfl, hk⟩
    have K2 : Hid (Keeps [] w w2) := K1.out.trans hk (fun _ _ h => h)
    have hS2 := (⟨⟨K2.out.cellSome x11 (by simp), K2.out.cellSome x12 (by simp), K2.out.cellSome x14 (by simp)⟩, K2.out.cellSome x25 (by simp), K2.out.cellSome x26 (by simp), K2.out.cellSome x27 (by simp), K2.out.cellSome x28 (by simp), K2.out.cellSome x29 (by simp)⟩ : (w2.cell? ⟨m, 11, none⟩ = some (.int .i64 c.session) ∧ w2.cell? ⟨m, 12, none⟩ = some (.int .i64 c.seq) ∧ w2.cell? ⟨m, 14, none⟩ = some (.int .i64 dz)) ∧ w2.cell? ⟨m, 25, none⟩ = some (.int .i64 c.reply.err) ∧ w2.cell? ⟨m, 26, none⟩ = some (.int .i64 c.reply.n) ∧ w2.cell? ⟨m, 27, none⟩ = some (.int .i64 c.reply.value.kind) ∧ w2.cell? ⟨m, 28, none⟩ = some (.int .i64 c.reply.value.n) ∧ w2.cell? ⟨m, 29, none⟩ = some (.string c.reply.value.s))
    clear hk hS1
    go_wp2_with fail
    refine ⟨hS2, ?_⟩
    iterate 8 (first | refine Plan.tA ?_ | refine Plan.tY ?_ | refine Plan.pN ?_ | refine Plan.pU ?_ | fail)
    refine Plan.step ?_
    go_wp2_with fail
    refine (HSQ.out _ K2.out).mono ?_
    rintro e w3 ⟨rfl, hk⟩
    have K3 : Hid (Keeps [] w w3) := K2.out.trans hk (fun _ _ h => h)
    have hS3 := (⟨⟨K3.out.cellSome x11 (by simp), K3.out.cellSome x12 (by simp), K3.out.cellSome x14 (by simp)⟩, K3.out.cellSome x25 (by simp), K3.out.cellSome x26 (by simp), K3.out.cellSome x27 (by simp), K3.out.cellSome x28 (by simp), K3.out.cellSome x29 (by simp)⟩ : (w3.cell? ⟨m, 11, none⟩ = some (.int .i64 c.session) ∧ w3.cell? ⟨m, 12, none⟩ = some (.int .i64 c.seq) ∧ w3.cell? ⟨m, 14, none⟩ = some (.int .i64 dz)) ∧ w3.cell? ⟨m, 25, none⟩ = some (.int .i64 c.reply.err) ∧ w3.cell? ⟨m, 26, none⟩ = some (.int .i64 c.reply.n) ∧ w3.cell? ⟨m, 27, none⟩ = some (.int .i64 c.reply.value.kind) ∧ w3.cell? ⟨m, 28, none⟩ = some (.int .i64 c.reply.value.n) ∧ w3.cell? ⟨m, 29, none⟩ = some (.string c.reply.value.s))
    clear hk hS2
    go_wp2_with fail
    refine ⟨hS3, ?_⟩
    iterate 8 (first | refine Plan.tA ?_ | refine Plan.tY ?_ | refine Plan.pN ?_ | refine Plan.pU ?_ | fail)
    refine Plan.step ?_
    go_wp2_with fail
    refine (HRE.out _ K3.out).mono ?_
    rintro e w4 ⟨rfl, hk⟩
    have K4 : Hid (Keeps [] w w4) := K3.out.trans hk (fun _ _ h => h)
    have hS4 := (⟨⟨K4.out.cellSome x11 (by simp), K4.out.cellSome x12 (by simp), K4.out.cellSome x14 (by simp)⟩, K4.out.cellSome x25 (by simp), K4.out.cellSome x26 (by simp), K4.out.cellSome x27 (by simp), K4.out.cellSome x28 (by simp), K4.out.cellSome x29 (by simp)⟩ : (w4.cell? ⟨m, 11, none⟩ = some (.int .i64 c.session) ∧ w4.cell? ⟨m, 12, none⟩ = some (.int .i64 c.seq) ∧ w4.cell? ⟨m, 14, none⟩ = some (.int .i64 dz)) ∧ w4.cell? ⟨m, 25, none⟩ = some (.int .i64 c.reply.err) ∧ w4.cell? ⟨m, 26, none⟩ = some (.int .i64 c.reply.n) ∧ w4.cell? ⟨m, 27, none⟩ = some (.int .i64 c.reply.value.kind) ∧ w4.cell? ⟨m, 28, none⟩ = some (.int .i64 c.reply.value.n) ∧ w4.cell? ⟨m, 29, none⟩ = some (.string c.reply.value.s))
    clear hk hS3
    go_wp2_with fail
    refine ⟨hS4, ?_⟩
    iterate 3 (first | refine Plan.tA ?_ | refine Plan.tY ?_ | refine Plan.pN ?_ | refine Plan.pU ?_ | fail)
    refine Plan.fin ?_
    go_wp2_with fail
    go_ret
    exact ⟨rfl, K4.out⟩

end Go.Proofs.YtnjdepojmnniaaaGreatDoor
