/- Joined of CoreP, SendA, MsgA, ClI, CoreR, CoreN, CoreO, CoreS, CoreT. -/
import Derived.Test.YtnjdepojmnniaaaGreatDoorQ30
import Derived.Test.YtnjdepojmnniaaaGreatDoorQ34

set_option linter.unusedSimpArgs false
set_option linter.unusedVariables false

/- The laws' own helpers: small, copies of entries. -/
namespace Go.Proofs.YtnjdepojmnniaaaGreatDoor
open Go Go.RowKit

def smallEnts (l : List Ent) : Bool := l.all fun e => decide (e.data.length ≤ 300)
def smallD (m : MsgD) : Bool := decide (m.data.length ≤ 300) && decide (m.entries.length ≤ 12) && smallEnts m.entries
theorem smallD_yes {m : MsgD} (h : smallD m = true) : m.data.length ≤ 300 ∧ m.entries.length ≤ 12 ∧ ∀ e ∈ m.entries, e.data.length ≤ 300 := by
  simp only [smallD, smallEnts, Bool.and_eq_true, decide_eq_true_eq, List.all_eq_true] at h
  exact ⟨h.1.1, h.1.2, h.2⟩

set_option maxRecDepth 100000 in
set_option maxHeartbeats 1600000 in
theorem lEntries_any (w : World) (l : List Ent) (a0 : Option Addr) (c0 : Nat) (P : Nat → Prop) (hl : ListAt entL w P (.slice a0 l.length c0) l) (hd : ∀ e ∈ l, e.data.length ≤ 1000000) (hn : l.length ≤ 100000) :
    Calls Tryz.prog 55 #[.slice a0 l.length c0] w (FromPost l w) := by
  obtain ⟨it, hi0, hz0, hz1, hz2⟩ := info_parts Tryz.infoEnt
  have HLA := hid hl
  have HD := hid hd
  have HZ : Hid (∀ k, k < l.length → ∃ e, l[k]? = some e) := fun k hk => ⟨l[k], List.getElem?_eq_getElem hk⟩
  clear hl hd
  go_enter Tryz.func55, Tryz.ntmps55
  go_wp2_with fail
  go_loopw [3, 4] (fun v i wr => ∃ (k : Nat) (a : Option Addr) (q : Nat), k ≤ l.length ∧ v = .slice a k q ∧ i = .int .i64 k ∧ Hid (FreshEnts w wr (.slice a k q) (l.take k) ∧ Keeps [] w wr)) (fun _ i _ => l.length - (intOf i).toNat)
  case atStart => exact ⟨0, none, 0, Nat.zero_le _, rfl, rfl, OwnAt.nil _ _ _ _, Keeps.refl [] w⟩
  case round =>
    obtain ⟨k, a, q, hk, rfl, rfl, HW⟩ := hrel
    have i0 : (0 : Int) ≤ (k : Int) := Int.natCast_nonneg _
    by_cases hlt : k < l.length
    · have i1 : (k : Int) < (l.length : Int) := by omega
      obtain ⟨e, he⟩ := HZ.out k hlt
      obtain ⟨g, off, cg, ha, hcg, hcm, hgl, hgP⟩ := (HLA.out.k HW.out.2).addr (fun hn => by rw [hn] at hlt; simp at hlt)
      simp at ha
      obtain ⟨ha, hcc⟩ := ha
      subst ha
      subst hcc
      obtain ⟨cs, ⟨v, rfl, hbv⟩, hcs⟩ := (HLA.out.k HW.out.2).get he
      have y0 : wr.cell? ⟨g, off + k * 3, none⟩ = some (.int .i64 e.term) := hcs 0 _ rfl
      have y1 : wr.cell? ⟨g, off + k * 3 + 1, none⟩ = some (.bool e.cmd) := hcs 1 _ rfl
      have y2 : wr.cell? ⟨g, off + k * 3 + 2, none⟩ = some v := hcs 2 _ rfl
      obtain ⟨va, vc, rfl⟩ := hbv.form
      have XR := hid hbv.1
      have HDL : e.data.length ≤ 1000000 := HD.out e (List.mem_of_getElem? he)
      have HT : Hid (l.take (k + 1) = l.take k ++ [e]) := by show _ = _; rw [List.take_add_one, he]; rfl
      have HTL : Hid ((l.take k).length = k) := by show _ = _; simp; omega
      clear hcs hbv he hcm hcg
      go_wp2_with fail
      refine (lawBytes_any _ e.data _ (XR.out.keeps ((Keeps.refl [] wr).alloc _) (fun _ _ h => by cases h)) (by omega)).mono ?_
      rintro z w3 ⟨a3, q3, rfl, ho, hk3⟩
      obtain ⟨⟨b0, b1, b2⟩, f3⟩ := blk3 ((hk3.block wr.heap.size (by simp) (by simp)).trans (heap_alloc_new wr _))
      have K3 : Hid (Keeps [] wr w3) := ((Keeps.refl [] wr).alloc _).trans hk3 (fun _ _ h => h)
      have hz : wr.heap.size < w3.heap.size := World.block_lt_of_cell? _ _ b0
      have HOW : Hid (OwnAt entL 109 w3 w.heap.size (fun b => w.heap.size ≤ b ∧ b ∉ ownB (.slice a k q)) (.slice a k q) (l.take k)) := OwnAt.k HW.out.1 K3.out
      have HBB : Hid (∀ b, wr.heap.size ≤ b → w.heap.size ≤ b ∧ b ∉ ownB (.slice a k q)) := fun b hb => ⟨Nat.le_trans HW.out.2.size hb, fun hb' => by have := (OwnAt.ge HW.out.1 b hb').2; omega⟩
      have HEL : Hid (∀ wx, Keeps [wr.heap.size] w3 wx → entL.at_ wx (fun b => wr.heap.size < b) [.int .i64 e.term, .bool e.cmd, .slice a3 e.data.length q3] e) := fun wx kx => ⟨_, rfl, BytesAt.keep (P := fun b => wr.heap.size < b) (BytesAt.ofOwn ho rfl (fun b hb _ => by simp at hb; omega)) kx (fun b hb hb' => by simp at hb'; omega)⟩
      have HZ3 : Hid (w.heap.size ≤ w3.heap.size) := Nat.le_trans HW.out.2.size K3.out.size
      have HO4 : Hid (∀ wx, Keeps [wr.heap.size] w3 wx → OwnAt entL 109 wx w.heap.size (fun b => w.heap.size ≤ b ∧ b ∉ ownB (.slice a k q)) (.slice a k q) (l.take k)) := fun wx kx =>
        (((OwnAt.mono (P' := fun b => (w.heap.size ≤ b ∧ b ∉ ownB (.slice a k q)) ∧ b < wr.heap.size) HW.out.1 (fun b h1 h2 => ⟨h2, h1⟩)).k K3.out).keep kx (fun b hb hb' => by have := (OwnAt.ge HW.out.1 b hb).2; simp at hb'; omega) (fun b hb hb' => by simp at hb'; omega)).mono (fun b _ h => h.1)
      have HK4 : Hid (∀ wx, Keeps [wr.heap.size] w3 wx → Keeps [] w wx) := fun wx kx => (HW.out.2.trans K3.out (fun _ _ h => h)).trans kx (fun b hb hb' => by simp at hb'; have := HW.out.2.size; omega)
      have HOWB : Hid (∀ b, b ∈ ownB (.slice a k q) → w.heap.size ≤ b) := fun b hb => (OwnAt.ge HW.out.1 b hb).1
      have HRW : Hid (((w3.setCell ⟨wr.heap.size, 2, none⟩ (.slice a3 e.data.length q3)).alloc (.cells #[.int .i64 e.term, .bool e.cmd, .slice a3 e.data.length q3] 109)).heap[w3.heap.size]? = some (.cells #[.int .i64 e.term, .bool e.cmd, .slice a3 e.data.length q3] 109 (0, 0))) := by
        have := heap_alloc_new (w3.setCell ⟨wr.heap.size, 2, none⟩ (.slice a3 e.data.length q3)) (.cells #[.int .i64 e.term, .bool e.cmd, .slice a3 e.data.length q3] 109)
        rw [show (w3.setCell ⟨wr.heap.size, 2, none⟩ (.slice a3 e.data.length q3)).heap.size = w3.heap.size by simp] at this
        exact this
      clear ho hk3
      go_wp2_with (at_builtin; go_must (refine wpList_append_off (L := entL) (PB := fun b => wr.heap.size < b) _ (by rfl) _ _ _ (by rfl) w.heap.size 109 it _ 40 Tryz.underlying35 hi0 hz0 hz1 hz2 rfl (R := fun b => w.heap.size ≤ b) (.slice a k q) (by rfl) (l.take k) [e] k HTL.out [[.int .i64 e.term, .bool e.cmd, .slice a3 e.data.length q3]] (HO4.out _ (((Keeps.refl _ _).setCell (.inl (by simp)) _).alloc _)) (.slice (some ⟨w3.heap.size, 0, none⟩) 1 1) (by rfl) 1 rfl (ElemsAt.one1 (HEL.out _ (((Keeps.refl _ _).setCell (.inl (by simp)) _).alloc _))) (Reads.one1 HRW.out rfl) (by omega) (le_maxLen (by omega)) (by exact Nat.le_trans HZ3.out (Keeps.size (F := [wr.heap.size]) (((Keeps.refl _ _).setCell (.inl (by simp)) _).alloc _))) (fun b _ hb => HBB.out b (Nat.le_of_lt hb)) ?_; intro a4 q4 w4 ho4 hk4 hv4))
      go_roundw
      case rel =>
        refine ⟨k + 1, a4, q4, by omega, rfl, by go_num, ?_, ?_⟩
        · rw [HT.out]
          exact ho4.out
        · exact (HK4.out _ (((Keeps.refl _ _).setCell (.inl (by simp)) _).alloc _)).trans hk4.out (fun b hb hb' => by have := HOWB.out b hb'; omega)
      case measure => simp [intOf]; omega
    · have hkn : k = l.length := by omega
      have hge : (l.length : Int) ≤ (k : Int) := by omega
      have HKN := hid hkn
      clear hkn
      go_wp2_with fail
      go_ret
      have h1 := HW.out
      rw [HKN.out, List.take_of_length_le (Nat.le_refl _)] at h1
      exact ⟨a, q, by rw [HKN.out]; rfl, h1⟩

/-- One way on for all orders. -/
theorem once {A G : Prop} (h1 : Hid G → A) (h2 : G) : A := h1 h2
theorem calls_fold {P : Program} {f : Nat} {args : Array Value} {w : World} {Q : Ending → World → Prop} (F : World → Prop) (hF : F w) (h : ∀ wx, F wx → Calls P f args wx Q) : Calls P f args w Q := h w hF
theorem wpl_fold {P : Program} {ops : Array Oper} {Q : Exit → Act → World → Prop} {l : List Oper} {a : Act} {w : World} (F : World → Prop) (hF : F w) (h : ∀ wx, F wx → wpList P ops Q l a wx) : wpList P ops Q l a w := h w hF
theorem getD_rep (n t : Nat) : (List.replicate n (0 : Int)).getD t 0 = 0 := by
  simp only [List.getD, List.getElem?_replicate]
  split <;> rfl

end Go.Proofs.YtnjdepojmnniaaaGreatDoor

/- List of entries; send: what a node is «to» have next. -/
namespace Go.Proofs.YtnjdepojmnniaaaGreatDoor
open Go Go.RowKit

/-- One message, as a call returns it, in new memory. -/
def SendPost (m : MsgD) (w : World) (e : Ending) (w' : World) : Prop :=
  ∃ ea ec da dc, e = .returned (msgV m (.slice ea m.entries.length ec) (.slice da m.data.length dc)) ∧ ListAt entL w' (fun b => w.heap.size ≤ b) (.slice ea m.entries.length ec) m.entries ∧ BytesAt w' (fun b => w.heap.size ≤ b) (.slice da m.data.length dc) m.data ∧ Keeps [] w w'

theorem heap10 {w : World} {b : Nat} {x0 x1 x2 x3 x4 x5 x6 x7 x8 x9 y0 y1 y2 y3 y4 y5 y6 y7 y8 y9 : Value} {t : TypeId} (h : w.heap[b]? = some (.cells #[x0, x1, x2, x3, x4, x5, x6, x7, x8, x9] t (0, 0))) :
    ((((((((((w.setCell ⟨b, 0, none⟩ y0).setCell ⟨b, 1, none⟩ y1).setCell ⟨b, 2, none⟩ y2).setCell ⟨b, 3, none⟩ y3).setCell ⟨b, 4, none⟩ y4).setCell ⟨b, 5, none⟩ y5).setCell ⟨b, 6, none⟩ y6).setCell ⟨b, 7, none⟩ y7).setCell ⟨b, 8, none⟩ y8).setCell ⟨b, 9, none⟩ y9).heap[b]? = some (.cells #[y0, y1, y2, y3, y4, y5, y6, y7, y8, y9] t (0, 0)) := by
  have h9 := heap_setCell_same _ _ 9 _ _ y9 (heap_setCell_same _ _ 8 _ _ y8 (heap_setCell_same _ _ 7 _ _ y7 (heap_setCell_same _ _ 6 _ _ y6 (heap_setCell_same _ _ 5 _ _ y5 (heap_setCell_same _ _ 4 _ _ y4 (heap_setCell_same _ _ 3 _ _ y3 (heap_setCell_same _ _ 2 _ _ y2 (heap_setCell_same _ _ 1 _ _ y1 (heap_setCell_same _ _ 0 _ _ y0 h)))))))))
  simp only [List.setIfInBounds_toArray, List.set_cons_zero, List.set_cons_succ] at h9
  exact h9

/-- It stands on a base that the other one has not: the snapshot is sent. -/
theorem sendD_snap {c : CoreD} {«to» : Int} (h : c.next.getD «to».toNat 0 ≤ c.base) : sendD c «to» = { kind := 5, frm := c.id, «to» := «to», term := c.term, a := c.base, b := c.baseTerm, c := 0, ok := false, entries := [], data := c.snap } := by
  unfold sendD
  rw [if_pos h]
  rfl
theorem sendD_ents {c : CoreD} {«to» : Int} (h : ¬ c.next.getD «to».toNat 0 ≤ c.base) : sendD c «to» = { kind := 3, frm := c.id, «to» := «to», term := c.term, a := c.next.getD «to».toNat 0 - 1, b := (atD c (c.next.getD «to».toNat 0 - 1)).1, c := c.commit, ok := false, entries := (fromD c (c.next.getD «to».toNat 0)).take 8, data := [] } := by
  unfold sendD
  rw [if_neg h]
  rfl

end Go.Proofs.YtnjdepojmnniaaaGreatDoor

/- Msg: a message in new memory. -/
namespace Go.Proofs.YtnjdepojmnniaaaGreatDoor
open Go Go.RowKit

set_option maxRecDepth 100000 in
set_option maxHeartbeats 3200000 in
theorem lMsg_any (w : World) (m : MsgD) (ea da : Option Addr) (ec dc : Nat) (P : Nat → Prop) (hl : ListAt entL w P (.slice ea m.entries.length ec) m.entries) (hd : BytesAt w P (.slice da m.data.length dc) m.data) (hn : m.entries.length ≤ 100000) (h1 : ∀ e ∈ m.entries, e.data.length ≤ 1000000) (h2 : m.data.length ≤ 1000000) :
    Calls Tryz.prog 32 #[msgV m (.slice ea m.entries.length ec) (.slice da m.data.length dc)] w (SendPost m w) := by
  have HL := hid hl
  have HD := hid hd
  have H1 := hid h1
  clear hl hd h1
  unfold msgV
  go_enter Tryz.func32, Tryz.ntmps32
  go_wp2_with fail
  refine (lEntries_any _ m.entries ea ec P (HL.out.k (by exact Keeps.K)) H1.out hn).mono ?_
  rintro e w3 ⟨a3, q3, rfl, f3, k3⟩
  have HB1 := (k3.block w.heap.size (by simp; omega) (by simp)).trans ((((Keeps.refl [] _).alloc _).block w.heap.size (by simp) (by simp)).trans (heap_alloc_new w (.cells #[.int .i64 m.kind, .int .i64 m.frm, .int .i64 m.to, .int .i64 m.term, .int .i64 m.a, .int .i64 m.b, .int .i64 m.c, .bool m.ok, .slice ea m.entries.length ec, .slice da m.data.length dc] 38)))
  have HB2 : w3.heap[w.heap.size + 1]? = some (.cells #[.int .i64 0, .int .i64 0, .int .i64 0, .int .i64 0, .int .i64 0, .int .i64 0, .int .i64 0, .bool false, .slice none 0 0, .slice none 0 0] 38 (0, 0)) := by
    have h2 := heap_alloc_new (w.alloc (.cells #[.int .i64 m.kind, .int .i64 m.frm, .int .i64 m.to, .int .i64 m.term, .int .i64 m.a, .int .i64 m.b, .int .i64 m.c, .bool m.ok, .slice ea m.entries.length ec, .slice da m.data.length dc] 38)) (.cells #[.int .i64 0, .int .i64 0, .int .i64 0, .int .i64 0, .int .i64 0, .int .i64 0, .int .i64 0, .bool false, .slice none 0 0, .slice none 0 0] 38)
    rw [show (w.alloc (.cells #[.int .i64 m.kind, .int .i64 m.frm, .int .i64 m.to, .int .i64 m.term, .int .i64 m.a, .int .i64 m.b, .int .i64 m.c, .bool m.ok, .slice ea m.entries.length ec, .slice da m.data.length dc] 38)).heap.size = w.heap.size + 1 by simp] at h2
    exact (k3.block (w.heap.size + 1) (by simp) (by simp)).trans h2
  have K3 : Hid (Keeps [] w w3) := Keeps.trans (by exact Keeps.K) k3 (fun _ _ h => h)
  have L3 : Hid (ListAt entL w3 (fun b => w.heap.size + 2 ≤ b) (.slice a3 m.entries.length q3) m.entries) := OwnAt.list f3 (fun b _ hb => by simpa using hb.1) (fun b hb => by have := (OwnAt.ge f3 b hb).1; simpa using this)
  have D3 : Hid (BytesAt w3 (fun b => b < w.heap.size) (.slice da m.data.length dc) m.data) := (HD.out.mono (P' := fun b => b < w.heap.size) (fun b h _ => h)).k K3.out
  obtain ⟨⟨c0, c1, c2, c3, c4, c5, c6, c7, c8, c9⟩, fz⟩ := blk10 HB1
  have hz3 : w.heap.size + 1 < w3.heap.size := (Array.getElem?_eq_some_iff.1 HB2).1
  have HBX := hid (heap_setCell_same w3 w.heap.size 8 _ _ (.slice a3 m.entries.length q3) HB1)
  have HBY := hid HB2
  have KS : Hid (∀ v, Keeps [w.heap.size] w3 (w3.setCell ⟨w.heap.size, 8, none⟩ v)) := fun v => (Keeps.refl _ _).setCell (.inl (by simp)) _
  clear f3 k3 HB1 HB2
  go_wp2_with fail
  refine (lawBytes_any _ m.data _ (D3.out.keep (KS.out _) (fun b hb hb' => by simp at hb'; omega)).1 (by omega)).mono ?_
  rintro e w4 ⟨a4, q4, rfl, o4, k4⟩
  have D4 : Hid (BytesAt w4 (fun b => w.heap.size + 2 ≤ b) (.slice a4 m.data.length q4) m.data) := BytesAt.ofOwn o4 rfl (fun b hb _ => by simp at hb; omega)
  have L4 : Hid (ListAt entL w4 (fun b => w.heap.size + 2 ≤ b) (.slice a3 m.entries.length q3) m.entries) := (L3.out.keep (KS.out _) (fun b hb hb' => by simp at hb'; omega)).k k4
  have K4 : Hid (Keeps [w.heap.size] w3 w4) := (KS.out _).trans k4 (fun _ _ h => by cases h)
  have HX4 := (k4.block w.heap.size (by simp; omega) (by simp)).trans HBX.out
  have HY4 := (K4.out.block (w.heap.size + 1) hz3 (by simp)).trans HBY.out
  simp only [List.setIfInBounds_toArray, List.set_cons_zero, List.set_cons_succ] at HX4
  obtain ⟨⟨d0, d1, d2, d3, d4, d5, d6, d7, d8, d9⟩, fx⟩ := blk10 HX4
  obtain ⟨⟨e0, e1, e2, e3, e4, e5, e6, e7, e8, e9⟩, fy⟩ := blk10 HY4
  have HYY := hid HY4
  have hz4 : w.heap.size + 1 < w4.heap.size := (Array.getElem?_eq_some_iff.1 HY4).1
  clear o4 k4 HX4 HY4 c0 c1 c2 c3 c4 c5 c6 c7 c8 c9 fz
  go_wp2_with fail
  have k1 : Keeps [w.heap.size] w4 (w4.setCell ⟨w.heap.size, 9, none⟩ (.slice a4 m.data.length q4)) := (Keeps.refl _ _).setCell (.inl (by simp)) _
  have HF := heap10 (y0 := .int .i64 m.kind) (y1 := .int .i64 m.frm) (y2 := .int .i64 m.«to») (y3 := .int .i64 m.term) (y4 := .int .i64 m.a) (y5 := .int .i64 m.b) (y6 := .int .i64 m.c) (y7 := .bool m.ok) (y8 := .slice a3 m.entries.length q3) (y9 := .slice a4 m.data.length q4) ((k1.block (w.heap.size + 1) hz4 (by simp)).trans HYY.out)
  have k5 : Keeps [w.heap.size, w.heap.size + 1] w4 (((((((((((w4.setCell ⟨w.heap.size, 9, none⟩ (.slice a4 m.data.length q4)).setCell ⟨w.heap.size + 1, 0, none⟩ (.int .i64 m.kind)).setCell ⟨w.heap.size + 1, 1, none⟩ (.int .i64 m.frm)).setCell ⟨w.heap.size + 1, 2, none⟩ (.int .i64 m.«to»)).setCell ⟨w.heap.size + 1, 3, none⟩ (.int .i64 m.term)).setCell ⟨w.heap.size + 1, 4, none⟩ (.int .i64 m.a)).setCell ⟨w.heap.size + 1, 5, none⟩ (.int .i64 m.b)).setCell ⟨w.heap.size + 1, 6, none⟩ (.int .i64 m.c)).setCell ⟨w.heap.size + 1, 7, none⟩ (.bool m.ok)).setCell ⟨w.heap.size + 1, 8, none⟩ (.slice a3 m.entries.length q3)).setCell ⟨w.heap.size + 1, 9, none⟩ (.slice a4 m.data.length q4)) := by exact Keeps.K
  refine bodyPost_ret (v := .agg #[.int .i64 m.kind, .int .i64 m.frm, .int .i64 m.«to», .int .i64 m.term, .int .i64 m.a, .int .i64 m.b, .int .i64 m.c, .bool m.ok, .slice a3 m.entries.length q3, .slice a4 m.data.length q4]) (results_cell_row rfl _ _ (w.heap.size + 1) 38 _ (0, 0) _ rfl HF Tryz.underlying38 rfl (by kernel_rfl)) rfl ⟨a3, q3, a4, q4, rfl, ?_, ?_, ?_⟩
  · exact (L4.out.keep k5 (fun b hb hb' => by simp at hb'; omega)).mono (fun b _ hb => by omega)
  · exact (D4.out.keep k5 (fun b hb hb' => by simp at hb'; omega)).mono (fun b _ hb => by omega)
  · exact (K3.out.trans K4.out (fun b hb hb' => by simp at hb'; omega)).trans k5 (fun b hb hb' => by simp at hb'; omega)

end Go.Proofs.YtnjdepojmnniaaaGreatDoor

/- A new client; the laws' own words: conf, read, told. -/
namespace Go.Proofs.YtnjdepojmnniaaaGreatDoor
open Go Go.RowKit

theorem clHear_any (w : World) (n : Nat) (Q : Nat → Prop) (c : CliD) (dv fv : Value) (m : MsgD) (ea da : Option Addr) (el ec dc : Nat) (hT : Tabs w) (h : CliAt w n Q c dv fv) (hok : HearOk c) (hr : Reads w 1 (.slice da m.data.length dc) m.data.length (u8s m.data)) (hb : m.data.length ≤ 140737488355328) (hQ : ∀ b, w.heap.size ≤ b → Q b) :
    Calls Tryz.prog 11 #[.pointer (some ⟨n, 0, none⟩), msgV m (.slice ea el ec) (.slice da m.data.length dc)] w (ToldPost n Q (chearD c m) w) := by
  rcases hd : deafD c m with _ | _
  · exact clHear_ears w n Q c dv fv m ea da el ec dc hT h hok hr hb hQ hd
  · exact clHear_deaf w n Q c dv fv m ea da el ec dc h hd

def conf24D (nodes retry : Int) : ConfD := ⟨3 + placeOf nodes 3, 3, 2, 8, 40, 3, 6, 200, 1 + placeOf retry 6⟩
def confVal (c : ConfD) : Value := .agg #[.int .i64 c.nodes, .int .i64 c.clients, .int .i64 c.heart, .int .i64 c.lo, .int .i64 c.range, .int .i64 c.sessions, .int .i64 c.snap, .int .i64 c.room, .int .i64 c.retry]
def confRow (c : ConfD) : Obj := .cells #[.int .i64 c.nodes, .int .i64 c.clients, .int .i64 c.heart, .int .i64 c.lo, .int .i64 c.range, .int .i64 c.sessions, .int .i64 c.snap, .int .i64 c.room, .int .i64 c.retry] 24 (0, 0)
def cliNew (c : ConfD) (id : Int) : CliD := ⟨c, id, 1, 0, 0, 0, 0, ⟨0, 0, 0, ⟨#[]⟩, 0, ⟨0, 0, ⟨#[]⟩⟩⟩, ⟨0, 0, 0, 0, 0, 0, 0, false, [], []⟩, 0, zeroR⟩

set_option maxRecDepth 100000 in
set_option maxHeartbeats 4000000 in
theorem lConf24_any (nodes : Int) (w : World) (wn : (Lit.int .i64 nodes).wf = true) : Calls Tryz.prog 17 #[.int .i64 nodes, .int .i64 3, .int .i64 5, .int .i64 2] w fun e w' => e = .returned (confVal ⟨3 + placeOf nodes 3, 3, 2, 8, 40, 3, 6, 200, 9⟩) ∧ Keeps [] w w' := by
  have hp := placeOf_bd nodes 3 (by decide)
  obtain ⟨p, hpp⟩ : ∃ p, placeOf nodes 3 = p := ⟨_, rfl⟩
  have HP := hid hpp
  rw [hpp] at hp ⊢
  have WN := hid wn
  clear hpp wn
  obtain ⟨hp0, hp1⟩ := hp
  unfold confVal
  dsimp only
  go_enter Tryz.func17, Tryz.ntmps17
  go_wp2_with fail
  refine (place_is p nodes 3 _ (by decide) (by decide) WN.out HP.out).mono ?_
  rintro e w2 ⟨rfl, hw⟩
  rw [hw]
  clear hw
  go_wp2_with fail
  refine (place_is 3 3 4 _ (by decide) (by decide) (by decide) (by decide)).mono ?_
  rintro e w3 ⟨rfl, hw⟩
  rw [hw]
  clear hw
  go_wp2_with fail
  refine (place_is 2 2 4 _ (by decide) (by decide) (by decide) (by decide)).mono ?_
  rintro e w4 ⟨rfl, hw⟩
  rw [hw]
  clear hw
  go_wp2_with fail
  refine (place_is 5 5 12 _ (by decide) (by decide) (by decide) (by decide)).mono ?_
  rintro e w5 ⟨rfl, hw⟩
  rw [hw]
  clear hw
  go_wp2_with fail
  refine bodyPost_ret (v := .agg #[.int .i64 (3 + p), .int .i64 3, .int .i64 2, .int .i64 8, .int .i64 40, .int .i64 3, .int .i64 6, .int .i64 200, .int .i64 9]) (by simp [results, Tryz.results17, go_sem]) rfl ?_
  exact ⟨rfl, by exact Keeps.K⟩

set_option maxRecDepth 100000 in
set_option maxHeartbeats 4000000 in
theorem conf24_any (nodes retry : Int) (w : World) (wn : (Lit.int .i64 nodes).wf = true) (wr : (Lit.int .i64 retry).wf = true) : Calls Tryz.prog 5 #[.int .i64 nodes, .int .i64 retry] w fun e w' => e = .returned (confVal (conf24D nodes retry)) ∧ Keeps [] w w' := by
  have hp := placeOf_bd retry 6 (by decide)
  have hq := placeOf_bd nodes 3 (by decide)
  have HC := hid (fun w1 => lConf24_any nodes w1 wn)
  unfold confVal at HC
  unfold confVal conf24D
  obtain ⟨p, hpp⟩ : ∃ p, placeOf retry 6 = p := ⟨_, rfl⟩
  obtain ⟨q, hqq⟩ : ∃ q, placeOf nodes 3 = q := ⟨_, rfl⟩
  have HP := hid hpp
  rw [hpp] at hp ⊢
  rw [hqq] at hq HC ⊢
  have WR := hid wr
  clear hpp hqq wn wr
  obtain ⟨hp0, hp1⟩ := hp
  obtain ⟨hq0, hq1⟩ := hq
  dsimp only at HC ⊢
  go_enter Tryz.func5, Tryz.ntmps5
  go_wp2_with fail
  refine (HC.out _).mono ?_
  rintro e w1 ⟨rfl, hk⟩
  have hres : w1.heap[w.heap.size]? = some (.cells #[.int .i64 0, .int .i64 0, .int .i64 0, .int .i64 0, .int .i64 0, .int .i64 0, .int .i64 0, .int .i64 0, .int .i64 0] 24 (0, 0)) := (hk.block _ (by simp) (by simp)).trans (heap_alloc_new w _)
  have HRES := hid hres
  have K1 : Hid (Keeps [] w w1) := Keeps.trans (G := []) (by exact Keeps.K) hk (fun _ _ h => h)
  have hlt1 : w.heap.size < w1.heap.size := (Array.getElem?_eq_some_iff.1 hres).1
  have r0 : w1.cell? ⟨w.heap.size, 0, none⟩ = some (.int .i64 0) := cell_of_block hres 0
  have r1 : w1.cell? ⟨w.heap.size, 1, none⟩ = some (.int .i64 0) := cell_of_block hres 1
  have r2 : w1.cell? ⟨w.heap.size, 2, none⟩ = some (.int .i64 0) := cell_of_block hres 2
  have r3 : w1.cell? ⟨w.heap.size, 3, none⟩ = some (.int .i64 0) := cell_of_block hres 3
  have r4 : w1.cell? ⟨w.heap.size, 4, none⟩ = some (.int .i64 0) := cell_of_block hres 4
  have r5 : w1.cell? ⟨w.heap.size, 5, none⟩ = some (.int .i64 0) := cell_of_block hres 5
  have r6 : w1.cell? ⟨w.heap.size, 6, none⟩ = some (.int .i64 0) := cell_of_block hres 6
  have r7 : w1.cell? ⟨w.heap.size, 7, none⟩ = some (.int .i64 0) := cell_of_block hres 7
  have r8 : w1.cell? ⟨w.heap.size, 8, none⟩ = some (.int .i64 0) := cell_of_block hres 8
  have rf : ∀ i, w1.frozen? ⟨w.heap.size, i, none⟩ = false := fun i => frozen_of_row w1 _ i _ _ hres
  clear hk hres
  go_wp2_with fail
  refine (place_is p retry 6 _ (by decide) (by decide) WR.out HP.out).mono ?_
  rintro e w2 ⟨rfl, hw⟩
  rw [hw]
  clear hw
  go_wp2_with fail
  have HF := (heap_setCell_same _ _ 8 _ _ (.int .i64 (1 + p)) (heap_setCell_same _ _ 7 _ _ (.int .i64 200) (heap_setCell_same _ _ 6 _ _ (.int .i64 6) (heap_setCell_same _ _ 5 _ _ (.int .i64 3) (heap_setCell_same _ _ 4 _ _ (.int .i64 40) (heap_setCell_same _ _ 3 _ _ (.int .i64 8) (heap_setCell_same _ _ 2 _ _ (.int .i64 2) (heap_setCell_same _ _ 1 _ _ (.int .i64 3) (heap_setCell_same _ _ 0 _ _ (.int .i64 (3 + q)) HRES.out)))))))))
  simp only [List.setIfInBounds_toArray, List.set_cons_zero, List.set_cons_succ] at HF
  have HF2 := (Keeps.block (F := []) (w := (((((((((w1.setCell ⟨w.heap.size, 0, none⟩ (.int .i64 (3 + q))).setCell ⟨w.heap.size, 1, none⟩ (.int .i64 3)).setCell ⟨w.heap.size, 2, none⟩ (.int .i64 2)).setCell ⟨w.heap.size, 3, none⟩ (.int .i64 8)).setCell ⟨w.heap.size, 4, none⟩ (.int .i64 40)).setCell ⟨w.heap.size, 5, none⟩ (.int .i64 3)).setCell ⟨w.heap.size, 6, none⟩ (.int .i64 6)).setCell ⟨w.heap.size, 7, none⟩ (.int .i64 200)).setCell ⟨w.heap.size, 8, none⟩ (.int .i64 (1 + p)))) ((Keeps.refl [] (((((((((w1.setCell ⟨w.heap.size, 0, none⟩ (.int .i64 (3 + q))).setCell ⟨w.heap.size, 1, none⟩ (.int .i64 3)).setCell ⟨w.heap.size, 2, none⟩ (.int .i64 2)).setCell ⟨w.heap.size, 3, none⟩ (.int .i64 8)).setCell ⟨w.heap.size, 4, none⟩ (.int .i64 40)).setCell ⟨w.heap.size, 5, none⟩ (.int .i64 3)).setCell ⟨w.heap.size, 6, none⟩ (.int .i64 6)).setCell ⟨w.heap.size, 7, none⟩ (.int .i64 200)).setCell ⟨w.heap.size, 8, none⟩ (.int .i64 (1 + p)))).alloc (.cells #[.int .i64 (3 + q), .int .i64 3, .int .i64 2, .int .i64 8, .int .i64 40, .int .i64 3, .int .i64 6, .int .i64 200, .int .i64 (1 + p)] 24)) w.heap.size (by simp; omega) (by simp)).trans HF
  refine bodyPost_ret (v := .agg #[.int .i64 (3 + q), .int .i64 3, .int .i64 2, .int .i64 8, .int .i64 40, .int .i64 3, .int .i64 6, .int .i64 200, .int .i64 (1 + p)]) (results_cell_row rfl _ _ w.heap.size 24 _ (0, 0) _ rfl HF2 Tryz.underlying24 rfl (by kernel_rfl)) rfl ?_
  exact ⟨rfl, K1.out.trans (G := [w.heap.size]) (by exact Keeps.K) (fun x hx hx' => by simp at hx'; omega)⟩

set_option maxRecDepth 100000 in
theorem read24_any (s : ByteArray) (w : World) : Calls Tryz.prog 18 #[.string s] w fun e w' => e = .returned (cmdV ⟨4, 0, 0, s, 0, ⟨0, 0, ⟨#[]⟩⟩⟩) ∧ Keeps [] w w' := by
  unfold cmdV
  go_enter Tryz.func18, Tryz.ntmps18
  go_wp2_with fail
  refine bodyPost_ret (v := .agg #[.int .i64 4, .int .i64 0, .int .i64 0, .string s, .int .i64 0, .int .i64 0, .int .i64 0, .string ⟨#[]⟩]) (by simp [results, Tryz.results18, go_sem]) rfl ?_
  exact ⟨rfl, by exact Keeps.K⟩

/-- A message in new memory, its entries none. -/
def ToldMsg (m : MsgD) (w : World) (e : Ending) (w' : World) : Prop :=
  ∃ da dc, e = .returned (msgV m (.slice none 0 0) (.slice da m.data.length dc)) ∧ BytesAt w' (fun b => w.heap.size ≤ b) (.slice da m.data.length dc) m.data ∧ Keeps [] w w'
set_option maxRecDepth 100000 in
set_option maxHeartbeats 4000000 in
theorem told24_any (frm tt number : Int) (r : ReplyD) (hw : ReplyW r) (w : World) : Calls Tryz.prog 13 #[.int .i64 frm, .int .i64 tt, .int .i64 number, replyV r] w (ToldMsg ⟨7, frm, tt, 0, 0, 0, number, true, [], putR r⟩ w) := by
  have HW := hid (fun w1 => r14PutR_any r hw w1)
  obtain ⟨PR, hPR⟩ : ∃ PR, putR r = PR := ⟨_, rfl⟩
  rw [hPR] at HW ⊢
  obtain ⟨er, nn, rk, rn, rs⟩ := r
  unfold replyV at HW ⊢
  dsimp only at HW ⊢
  clear hPR hw
  go_enter Tryz.func13, Tryz.ntmps13
  go_wp2_with fail
  refine (HW.out _).mono ?_
  rintro e w1 ⟨a1, q1, rfl, h1, hk⟩
  rw [List.nil_append] at h1 ⊢
  have hres : w1.heap[w.heap.size + 1]? = some (.cells #[.int .i64 0, .int .i64 0, .int .i64 0, .int .i64 0, .int .i64 0, .int .i64 0, .int .i64 0, .bool false, .slice none 0 0, .slice none 0 0] 38 (0, 0)) := (hk.block _ (by simp) (by simp)).trans (new2nd w _ _)
  obtain ⟨⟨y0, y1, y2, y3, y4, y5, y6, y7, y8, y9⟩, fy⟩ := blk10 hres
  have HRES := hid hres
  have D1 : Hid (BytesAt w1 (fun b => w.heap.size + 2 ≤ b) (.slice a1 PR.length q1) PR) := BytesAt.ofOwn h1 rfl (fun b h _ => by simpa using h)
  have K1 : Hid (Keeps [] w w1) := Keeps.trans (G := []) (by exact Keeps.K) hk (fun _ _ h => h)
  clear hk h1 hres
  go_wp2_with fail
  have HF := heap10 (y0 := .int .i64 7) (y1 := .int .i64 frm) (y2 := .int .i64 tt) (y3 := .int .i64 0) (y4 := .int .i64 0) (y5 := .int .i64 0) (y6 := .int .i64 number) (y7 := .bool true) (y8 := .slice none 0 0) (y9 := .slice a1 PR.length q1) HRES.out
  have k5 : Keeps [w.heap.size + 1] w1 ((((((((((w1.setCell ⟨w.heap.size + 1, 0, none⟩ (.int .i64 7)).setCell ⟨w.heap.size + 1, 1, none⟩ (.int .i64 frm)).setCell ⟨w.heap.size + 1, 2, none⟩ (.int .i64 tt)).setCell ⟨w.heap.size + 1, 3, none⟩ (.int .i64 0)).setCell ⟨w.heap.size + 1, 4, none⟩ (.int .i64 0)).setCell ⟨w.heap.size + 1, 5, none⟩ (.int .i64 0)).setCell ⟨w.heap.size + 1, 6, none⟩ (.int .i64 number)).setCell ⟨w.heap.size + 1, 7, none⟩ (.bool true)).setCell ⟨w.heap.size + 1, 8, none⟩ (.slice none 0 0)).setCell ⟨w.heap.size + 1, 9, none⟩ (.slice a1 PR.length q1)) := by exact Keeps.K
  refine bodyPost_ret (v := .agg #[.int .i64 7, .int .i64 frm, .int .i64 tt, .int .i64 0, .int .i64 0, .int .i64 0, .int .i64 number, .bool true, .slice none 0 0, .slice a1 PR.length q1]) (results_cell_row rfl _ _ (w.heap.size + 1) 38 _ (0, 0) _ rfl HF Tryz.underlying38 rfl (by kernel_rfl)) rfl ⟨a1, q1, rfl, ?_, ?_⟩
  · exact (D1.out.keep k5 (fun b hb hb' => by simp at hb'; omega)).mono (fun b _ hb => by omega)
  · exact K1.out.trans k5 (fun b hb hb' => by simp at hb'; omega)

/-- A client is made, or refused. -/
def newOk (c : ConfD) (id : Int) : Prop := 101 ≤ id ∧ id - 100 ≤ c.clients ∧ 3 ≤ c.nodes ∧ c.nodes ≤ 7 ∧ 1 ≤ c.retry
set_option maxRecDepth 100000 in
set_option maxHeartbeats 4000000 in
theorem clNew_yes (c : ConfD) (id : Int) (Q : Nat → Prop) (w : World) (h : newOk c id) (hi : id ≤ 1000000) (hQ : ¬ Q (w.heap.size + 1)) :
    Calls Tryz.prog 6 #[confVal c, .int .i64 id] w fun e w' => e = .returned (.tuple #[.pointer (some ⟨w.heap.size + 1, 0, none⟩), .int .i64 0]) ∧ CliAt w' (w.heap.size + 1) Q (cliNew c id) (.slice none 0 0) .nilFunc ∧ Keeps [] w w' := by
  obtain ⟨cn, cc, ch, cl, cr, cs, cp, co, ct⟩ := c
  obtain ⟨h1, h2, h3, h4, h5⟩ := h
  dsimp only at h2 h3 h4 h5
  have q1 : (id < 101) = False := eq_false (by omega)
  have q2 : (cc < id - 100) = False := eq_false (by omega)
  have q3 : (cn < 3) = False := eq_false (by omega)
  have q4 : (7 < cn) = False := eq_false (by omega)
  have q5 : (ct < 1) = False := eq_false (by omega)
  have hw : IntKind.i64.wrap (id - 100) = id - 100 := by rw [IntKind.wrap_i64]; omega
  have HQ := hid hQ
  unfold confVal
  dsimp only
  clear hQ h1 h2 h3 h4 h5
  go_enter Tryz.func6, Tryz.ntmps6
  go_wp2_with fail
  refine bodyPost_ret (v := .tuple #[.pointer (some ⟨w.heap.size + 1, 0, none⟩), .int .i64 0]) (by simp [results, Tryz.results6, go_sem]) rfl ?_
  refine ⟨rfl, ⟨?_, BytesAt.nil _ _ _ _, rfl, .inl ⟨rfl, rfl⟩, HQ.out⟩, by exact Keeps.K⟩
  have e := new2nd w (.cells #[.int .i64 cn, .int .i64 cc, .int .i64 ch, .int .i64 cl, .int .i64 cr, .int .i64 cs, .int .i64 cp, .int .i64 co, .int .i64 ct] 24) (.cells (cliCells (cliNew ⟨cn, cc, ch, cl, cr, cs, cp, co, ct⟩ id) (.slice none 0 0) .nilFunc) 63)
  exact e

end Go.Proofs.YtnjdepojmnniaaaGreatDoor

/- The document's core in memory; its smallest methods. -/
namespace Go.Proofs.YtnjdepojmnniaaaGreatDoor
open Go Go.RowKit

def refTail (c : CoreD) : List Value := bools c.votes ++ (ints c.next ++ (ints c.matc ++ [.bool c.hard, .bool c.tsnap, .int .i64 c.frm]))
def refCells (c : CoreD) (lv sv : Value) : List Value :=
  .int .i64 c.conf.nodes :: .int .i64 c.conf.clients :: .int .i64 c.conf.heart :: .int .i64 c.conf.lo :: .int .i64 c.conf.range :: .int .i64 c.conf.sessions :: .int .i64 c.conf.snap :: .int .i64 c.conf.room :: .int .i64 c.conf.retry ::
  .int .i64 c.id :: .int .i64 c.term :: .int .i64 c.vote :: .int .i64 c.role :: .int .i64 c.leader :: .int .i64 c.commit :: .int .i64 c.base :: .int .i64 c.baseTerm :: sv :: lv :: .int .i64 c.patience :: .int .i64 c.draw :: refTail c

/-- An entry's cells in a list that may be read. -/
theorem ListAt.ent {w : World} {P : Nat → Prop} {lv : Value} {l : List Ent} (h : ListAt entL w P lv l) {j : Nat} {e : Ent} (he : l[j]? = some e) : ∃ g off k av cv, lv = .slice (some ⟨g, off, none⟩) l.length k ∧ l.length ≤ k ∧ k ≤ maxLen ∧ w.cell? ⟨g, off + j * 3, none⟩ = some (.int .i64 e.term) ∧ w.cell? ⟨g, off + j * 3 + 1, none⟩ = some (.bool e.cmd) ∧ w.cell? ⟨g, off + j * 3 + 2, none⟩ = some (.slice av e.data.length cv) ∧ BytesAt w P (.slice av e.data.length cv) e.data := by
  obtain ⟨g, off, k, rfl, h1, h2, _, _⟩ := h.addr (fun hn => by rw [hn] at he; simp at he)
  obtain ⟨cs, ⟨v, rfl, hb⟩, hc⟩ := h.get he
  obtain ⟨av, cv, rfl⟩ := hb.form
  exact ⟨g, off, k, av, cv, rfl, h1, h2, hc 0 _ rfl, hc 1 _ rfl, hc 2 _ rfl, hb⟩

section
end

end Go.Proofs.YtnjdepojmnniaaaGreatDoor

/- New of a core and of the document's core. (Printed by gen_new.py.) -/
namespace Go.Proofs.YtnjdepojmnniaaaGreatDoor
open Go Go.RowKit

def NewNo (w : World) (e : Ending) (w' : World) : Prop := e = .returned (.tuple #[.pointer none, .int .i64 1]) ∧ Keeps [] w w'

end Go.Proofs.YtnjdepojmnniaaaGreatDoor

/- New of a core, the good way. (Printed by gen_new.py.) -/
namespace Go.Proofs.YtnjdepojmnniaaaGreatDoor
open Go Go.RowKit

theorem mayNew_take {cf : ConfD} {id term vote base baseTerm : Int} {l l' : List Ent} (h : headD cf id term vote base baseTerm l.length = true) (hl : l'.length ≤ l.length) (ha : ∀ e ∈ l', inD e.term 1 1099511627776 = true) : mayNewD cf id term vote base baseTerm l' = true := by
  rw [mayNew_head]
  simp only [Bool.and_eq_true, List.all_eq_true]
  refine ⟨?_, ha⟩
  simp only [headD, Bool.and_eq_true, decide_eq_true_eq] at h ⊢
  exact ⟨h.1, by omega⟩

end Go.Proofs.YtnjdepojmnniaaaGreatDoor

/- From and New of the document's core. -/
namespace Go.Proofs.YtnjdepojmnniaaaGreatDoor
open Go Go.RowKit

def RFromPost (l : List Ent) (P : Nat → Prop) (w : World) (e : Ending) (w' : World) : Prop := ∃ a k, e = .returned (.slice a l.length k) ∧ ListAt entL w' (fun b => P b ∨ w.heap.size ≤ b) (.slice a l.length k) l ∧ Keeps [] w w'
theorem RFromPost.nil {l : List Ent} {P : Nat → Prop} {w w' : World} (hl : l = []) (k : Keeps [] w w') : RFromPost l P w (.returned (.slice none 0 0)) w' := by
  subst hl
  exact ⟨none, 0, rfl, ListAt.nil _ _ _ _, k⟩
/-- A copy of a list: a row of its own, the elements' blocks the same. -/
theorem ListAt.copied {w w1 w' : World} {P : Nat → Prop} {v : Value} {l : List Ent} {css : List (List Value)} {n : Nat} (h : ElemsAt entL w P css l) (hn : n = l.length) (ho : w'.ownsRow w1.heap.size 109 3 v n css.flatten) (hz : w.heap.size ≤ w1.heap.size) (k : Keeps [] w w') : ListAt entL w' (fun b => P b ∨ w.heap.size ≤ b) v l := by
  subst hn
  exact ⟨css, (h.keep k (fun _ _ h => by cases h)).mono (fun b _ h => .inl h), Reads.ofOwn ho, fun _ b hb => .inr (Nat.le_trans hz (ownB_ge ho b hb).1)⟩

section
end

end Go.Proofs.YtnjdepojmnniaaaGreatDoor

/- New of the document's core, the good way; both, whole. (Printed by gen_new.py.) -/
namespace Go.Proofs.YtnjdepojmnniaaaGreatDoor
open Go Go.RowKit

end Go.Proofs.YtnjdepojmnniaaaGreatDoor
