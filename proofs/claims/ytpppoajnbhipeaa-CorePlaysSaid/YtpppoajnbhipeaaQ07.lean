/- Joined of CoreL, PutA, RefA. -/
import Derived.Test.YtpppoajnbhipeaaQ06
import Derived.Test.YtpppoajnbhipeaaQ05

/- What a core's calls give: messages in new memory; answer; asked. -/
namespace Go.Proofs.Ytpppoajnbhipeaa
open Go Go.RowKit

/-- Messages in new memory, off the core. -/
def MsgsAt (w w' : World) (n : Nat) (lv v : Value) (l : List MsgD) : Prop :=
  OwnAt msgL 40 w' w.heap.size (fun b => (w.heap.size ≤ b ∧ Off n lv b) ∧ b ∉ ownB v) v l ∧ ∀ b ∈ ownB v, Off n lv b
/-- How a call of a core ends: what it is then, its messages. -/
def CallPost (B n : Nat) (lv : Value) (r : CoreD × List MsgD) (w : World) (e : Ending) (w' : World) : Prop :=
  ∃ a q lv' sv', e = .returned (.slice a r.2.length q) ∧ CoreAt w' B n r.1 lv' sv' ∧ MsgsAt w w' n lv' (.slice a r.2.length q) r.2 ∧ Keeps (n :: ownB lv) w w' ∧ ∀ b ∈ ownB lv', b ∈ ownB lv ∨ w.heap.size ≤ b

theorem MsgsAt.nil (w w' : World) (n : Nat) (lv : Value) : MsgsAt w w' n lv (.slice none 0 0) [] := ⟨OwnAt.nil _ _ _ _, fun b hb => by simp [mem_ownB, Value.ownBlock] at hb⟩
theorem MsgsAt.ofFresh {w wm w' : World} {B n : Nat} {c : CoreD} {lv sv v : Value} {l : List MsgD} (hc : CoreAt wm B n c lv sv) (hz : w.heap.size ≤ wm.heap.size) (h : FreshMsgs wm w' v l) : MsgsAt w w' n lv v l := by
  have off : ∀ b, wm.heap.size ≤ b → Off n lv b := fun b hb => by
    refine ⟨fun e => ?_, fun e => ?_⟩
    · have := hc.lt n (by simp); omega
    · have := hc.lt b (by simp [e]); omega
  exact ⟨(OwnAt.base h hz).mono (fun b _ hb => ⟨⟨Nat.le_trans hz hb.1, off b hb.1⟩, hb.2⟩), fun b hb => off b (OwnAt.ge h b hb).1⟩
theorem MsgsAt.list {w w' : World} {n : Nat} {lv v : Value} {l : List MsgD} (h : MsgsAt w w' n lv v l) : ListAt msgL w' (fun b => w.heap.size ≤ b ∧ Off n lv b) v l :=
  OwnAt.list h.1 (fun _ _ hb => hb.1) (fun b hb => ⟨(OwnAt.ge h.1 b hb).1, h.2 b hb⟩)

theorem CallPost.silent {B n : Nat} {lv sv : Value} {r : CoreD × List MsgD} {w w' : World} (hr : r.2 = []) (h : CoreAt w' B n r.1 lv sv) (k : Keeps (n :: ownB lv) w w') : CallPost B n lv r w (.returned (.slice none 0 0)) w' :=
  ⟨none, 0, lv, sv, by rw [hr]; rfl, h, by rw [hr]; exact MsgsAt.nil _ _ _ _, k, fun _ h => .inl h⟩
/-- The last step tells only something. -/
theorem CallPost.tellsOf {B n : Nat} {lv lv' sv : Value} {r : CoreD × List MsgD} {w wm w' : World} {e : Ending} (h : CoreAt wm B n r.1 lv' sv) (k : Keeps (n :: ownB lv) w wm) (hv : ∀ b ∈ ownB lv', b ∈ ownB lv ∨ w.heap.size ≤ b) (hp : MsgsPost r.2 wm e w') : CallPost B n lv r w e w' := by
  obtain ⟨a, q, he, hf, hk⟩ := hp
  exact ⟨a, q, lv', sv, he, h.k hk, MsgsAt.ofFresh h k.size hf, k.trans hk (fun b h1 h2 => by cases h2), hv⟩
theorem CallPost.tells {B n : Nat} {lv sv : Value} {r : CoreD × List MsgD} {w wm w' : World} {e : Ending} (h : CoreAt wm B n r.1 lv sv) (k : Keeps (n :: ownB lv) w wm) (hp : MsgsPost r.2 wm e w') : CallPost B n lv r w e w' := CallPost.tellsOf h k (fun _ h => .inl h) hp

theorem ListAt.nilOf {α : Type} {L : Lay α} {w : World} {P : Nat → Prop} {a : Option Addr} {n c : Nat} {l : List α} (h : ListAt L w P (.slice a n c) l) : n = l.length := by
  obtain ⟨x, y, e⟩ := h.form
  simp at e
  exact e.2.1
/-- One message, in a row of its own. -/
theorem msgs_one {w w1 : World} {m : MsgD} {ev dv : Value} (k : Keeps [] w w1) (he : ListAt entL w1 (fun b => w.heap.size ≤ b) ev m.entries) (hd : BytesAt w1 (fun b => w.heap.size ≤ b) dv m.data) :
    MsgsPost [m] w (.returned (.slice (some ⟨w1.heap.size, 0, none⟩) 1 1)) (w1.alloc (.cells #[.int .i64 m.kind, .int .i64 m.frm, .int .i64 m.to, .int .i64 m.term, .int .i64 m.a, .int .i64 m.b, .int .i64 m.c, .bool m.ok, ev, dv] 40)) := by
  have k1 : Keeps [] w1 (w1.alloc (.cells #[.int .i64 m.kind, .int .i64 m.frm, .int .i64 m.to, .int .i64 m.term, .int .i64 m.a, .int .i64 m.b, .int .i64 m.c, .bool m.ok, ev, dv] 40)) := (Keeps.refl _ _).alloc _
  have e1 := (he.mono (P' := fun b => w.heap.size ≤ b ∧ b < w1.heap.size) (fun b h1 h2 => ⟨h2, h1⟩)).k k1
  have d1 := (hd.mono (P' := fun b => w.heap.size ≤ b ∧ b < w1.heap.size) (fun b h1 h2 => ⟨h2, h1⟩)).k k1
  have hb : ∀ b, b ∈ ownB (.slice (some ⟨w1.heap.size, 0, none⟩) 1 1) → b = w1.heap.size := fun b hb => by simpa [mem_ownB, Value.ownBlock, eq_comm] using hb
  have hP : ∀ b, w.heap.size ≤ b ∧ b < w1.heap.size → w.heap.size ≤ b ∧ b ∉ ownB (.slice (some ⟨w1.heap.size, 0, none⟩) 1 1) := fun b h => ⟨h.1, fun h2 => by have := hb b h2; omega⟩
  refine ⟨_, _, rfl, ⟨[[.int .i64 m.kind, .int .i64 m.frm, .int .i64 m.to, .int .i64 m.term, .int .i64 m.a, .int .i64 m.b, .int .i64 m.c, .bool m.ok, ev, dv]], ElemsAt.one1 ⟨ev, dv, rfl, e1.mono (fun b _ h => hP b h), d1.mono (fun b _ h => hP b h)⟩, ?_⟩, k.trans k1 (fun _ _ h => h)⟩
  exact World.ownsRow_lit (size := 10) w1 _ 1 k.size (le_maxLen (by omega)) rfl

set_option maxRecDepth 100000 in
set_option maxHeartbeats 1600000 in
theorem answer_any (w : World) (B n : Nat) (c : CoreD) (lv sv : Value) (m : MsgD) (ea da : Option Addr) (ec dc : Nat) (ok : Bool) (a : Int) (h : CoreAt w B n c lv sv) :
    Calls Try.prog 57 #[.pointer (some ⟨n, 0, none⟩), msgV m (.slice ea m.entries.length ec) (.slice da m.data.length dc), .bool ok, .int .i64 a] w (MsgsPost (answerD c m ok a) w) := by
  unfold msgV answerD
  have h9 : w.cell? ⟨n, 9, none⟩ = some (.int .i64 c.id) := h.blk.cell 9
  have h10 : w.cell? ⟨n, 10, none⟩ = some (.int .i64 c.term) := h.blk.cell 10
  have hlt := h.blk.lt
  have HM : Hid (∀ w1, Keeps [] w w1 → MsgsPost [saysD c { msg0 with kind := 4, ok := ok, a := a } m.frm] w (.returned (.slice (some ⟨w1.heap.size, 0, none⟩) 1 1)) (w1.alloc (.cells #[.int .i64 4, .int .i64 c.id, .int .i64 m.frm, .int .i64 c.term, .int .i64 a, .int .i64 0, .int .i64 0, .bool ok, .slice none 0 0, .slice none 0 0] 40))) := fun w1 k =>
    msgs_one (m := saysD c { msg0 with kind := 4, ok := ok, a := a } m.frm) k (ListAt.nil _ _ _ _) (BytesAt.nil _ _ _ _)
  clear h
  go_enter Try.func57, Try.ntmps57
  go_wp2_with fail
  refine (says_any _ n c.id c.term _ _ _ _ _ _ _ _ _ _ _ _ _ _ _ ?_ ?_ ?_).mono ?_
  (· go_simp)
  (· go_simp)
  (· simp; omega)
  rintro e w2 ⟨rfl, hk⟩
  have HK : Hid (Keeps [] w w2) := Keeps.trans (by exact Keeps.K) hk (fun _ _ h => h)
  clear hk
  go_wp2_with fail
  go_ret
  exact HM.out _ HK.out

theorem cLast_is (w : World) (B n : Nat) (c : CoreD) (lv sv : Value) (h : CoreAt w B n c lv sv) (L : Int) (hL : lastD c = L) : Calls Try.prog 25 #[.pointer (some ⟨n, 0, none⟩)] w fun e w' => e = .returned (.int .i64 L) ∧ ∃ k, w' = w.drewN k := by
  rw [← hL]
  exact cLast_any w B n c lv sv h
theorem cAt_is (w : World) (B n : Nat) (c : CoreD) (lv sv : Value) (h : CoreAt w B n c lv sv) (i t : Int) (ok : Bool) (b1 : -4611686018427387904 ≤ i) (b2 : i ≤ 4611686018427387904) (hi : atD c i = (t, ok)) : Calls Try.prog 24 #[.pointer (some ⟨n, 0, none⟩), .int .i64 i] w fun e w' => e = .returned (.tuple #[.int .i64 t, .bool ok]) ∧ ∃ k, w' = w.drewN k := by
  have := cAt_any w B n c lv sv h i b1 b2
  rw [hi] at this
  exact this
theorem lastD_bd {w : World} {B n : Nat} {c : CoreD} {lv sv : Value} (h : CoreAt w B n c lv sv) : 0 ≤ lastD c ∧ lastD c ≤ 2199023255552 := by
  have h1 := h.ok.base
  have h2 := h.ok.last
  unfold lastD
  omega

end Go.Proofs.Ytpppoajnbhipeaa

/- from, put: an entry behind the log. -/
namespace Go.Proofs.Ytpppoajnbhipeaa
open Go Go.RowKit

theorem turnD_ok {c : CoreD} (h : CoreOk c) {i : Int} (hi : 0 ≤ i ∧ i ≤ 2199023255553) : CoreOk (turnD c i) :=
  { may := h.may, id := h.id, term := h.term, base := h.base, baseTerm := h.baseTerm, len := h.len, last := h.last, commit := h.commit, draw := h.draw, votes := h.votes, next := h.next, matc := h.matc, nexts := h.nexts, matcs := h.matcs, ents := h.ents, frm := by
      unfold turnD
      show 0 ≤ (if c.frm = 0 ∨ i < c.frm then i else c.frm) ∧ _ ≤ _
      split
      · exact hi
      · exact h.frm
    data := h.data, snap := h.snap }

set_option maxRecDepth 100000 in
set_option maxHeartbeats 1600000 in
theorem from_any (w : World) (B n : Nat) (c : CoreD) (lv sv : Value) (i : Int) (h : CoreAt w B n c lv sv) (hi : 0 ≤ i ∧ i ≤ 2199023255553) :
    Calls Try.prog 77 #[.pointer (some ⟨n, 0, none⟩), .int .i64 i] w fun e w' => e = .returned (.tuple #[]) ∧ CoreAt w' B n (turnD c i) lv sv ∧ Keeps [n] w w' := by
  obtain ⟨_, t25, _⟩ := tail_get c h.ok.votes h.ok.next h.ok.matc
  have h46 : w.cell? ⟨n, 46, none⟩ = some (.int .i64 c.frm) := (h.blk.cell 46).trans ((get21 c lv sv 25).trans t25)
  have f46 : w.frozen? ⟨n, 46, none⟩ = false := h.blk.free 46
  have HD : Hid (CoreAt (w.setCell ⟨n, 46, none⟩ (.int .i64 i)) B n { c with frm := i } lv sv ∧ Keeps [n] w (w.setCell ⟨n, 46, none⟩ (.int .i64 i))) := by
    have k : Keeps [n] w (w.setCell ⟨n, 46, none⟩ (.int .i64 i)) := (Keeps.refl _ _).setCell (.inl (by simp)) _
    have b1 : CoreBlk (w.setCell ⟨n, 46, none⟩ (.int .i64 i)) n { c with frm := i } lv sv := h.blk.set 46 _ (by rw [show 46 = 21 + 25 from rfl, set21, tail_frm c h.ok.votes h.ok.next h.ok.matc]; rfl)
    have ho : CoreOk { c with frm := i } := { may := h.ok.may, id := h.ok.id, term := h.ok.term, base := h.ok.base, baseTerm := h.ok.baseTerm, len := h.ok.len, last := h.ok.last, commit := h.ok.commit, draw := h.ok.draw, votes := h.ok.votes, next := h.ok.next, matc := h.ok.matc, nexts := h.ok.nexts, matcs := h.ok.matcs, ents := h.ok.ents, frm := hi, data := h.ok.data, snap := h.ok.snap }
    exact ⟨h.wrote k b1 rfl rfl ho, k⟩
  have H := hid h
  clear h t25
  by_cases g1 : c.frm = 0
  · have HE : Hid (turnD c i = { c with frm := i }) := by show _ = _; unfold turnD; rw [if_pos (.inl g1)]
    have b1 : (c.frm == 0) = true := by simpa using g1
    clear g1
    go_enter Try.func77, Try.ntmps77
    go_wp2
    exact bodyPost_end (by simp [results, Try.results77, go_sem]) rfl ⟨rfl, by rw [HE.out]; exact HD.out⟩
  · have b1 : (c.frm == 0) = false := by simpa using g1
    by_cases g2 : i < c.frm
    · have HE : Hid (turnD c i = { c with frm := i }) := by show _ = _; unfold turnD; rw [if_pos (.inr g2)]
      have b2 : decide (i < c.frm) = true := by simpa using g2
      clear g1 g2
      go_enter Try.func77, Try.ntmps77
      go_wp2
      exact bodyPost_end (by simp [results, Try.results77, go_sem]) rfl ⟨rfl, by rw [HE.out]; exact HD.out⟩
    · have HE : Hid (turnD c i = c) := by show _ = _; unfold turnD; rw [if_neg (by omega)]
      have b2 : decide (i < c.frm) = false := by simpa using g2
      clear g1 g2
      go_enter Try.func77, Try.ntmps77
      go_wp2
      exact bodyPost_end (by simp [results, Try.results77, go_sem]) rfl ⟨rfl, by rw [HE.out]; exact ⟨H.out, (Keeps.refl [n] w)⟩⟩

theorem putL_ok {c : CoreD} {e : Ent} (h : CoreOk c) (hlen : c.l.length < 5096) (hlast : lastD c + 1 ≤ 2199023255552) (ht : 0 ≤ e.term ∧ e.term ≤ 1099511627776) (hd : e.data.length ≤ 1000000) : CoreOk { c with l := c.l ++ [e] } := by
  unfold lastD at hlast
  exact { may := h.may, id := h.id, term := h.term, base := h.base, baseTerm := h.baseTerm, len := by simp; omega, last := by simp; omega, commit := by have := h.commit; simp; omega, draw := h.draw, votes := h.votes, next := h.next, matc := h.matc, nexts := h.nexts, matcs := h.matcs, ents := fun x hx => by
            rcases List.mem_append.1 hx with hx | hx
            · exact h.ents x hx
            · simp at hx; rw [hx]; exact ht
          frm := h.frm, data := fun x hx => by
            rcases List.mem_append.1 hx with hx | hx
            · exact h.data x hx
            · simp at hx; rw [hx]; exact hd
          snap := h.snap }

def PutPost (B n : Nat) (c : CoreD) (lv sv : Value) (w : World) (x : Ending) (w' : World) : Prop :=
  ∃ lv', x = .returned (.tuple #[]) ∧ CoreAt w' B n c lv' sv ∧ Keeps (n :: ownB lv) w w' ∧ ∀ b ∈ ownB lv', b ∈ ownB lv ∨ w.heap.size ≤ b

set_option maxRecDepth 100000 in
set_option maxHeartbeats 3200000 in
theorem put_any (w : World) (B n : Nat) (c : CoreD) (lv sv : Value) (e : Ent) (ea : Option Addr) (ec : Nat) (h : CoreAt w B n c lv sv) (hb : BytesAt w (fun b => Off n lv b ∧ ¬ c.ban b) (.slice ea e.data.length ec) e.data) (hlen : c.l.length < 5096) (hlast : lastD c + 1 ≤ 2199023255552) (ht : 0 ≤ e.term ∧ e.term ≤ 1099511627776) (hd : e.data.length ≤ 1000000) :
    Calls Try.prog 66 #[.pointer (some ⟨n, 0, none⟩), entV e (.slice ea e.data.length ec)] w (PutPost B n (putD c e) lv sv w) := by
  obtain ⟨it, hi0, hz0, hz1, hz2⟩ := info_parts Try.infoEnt
  obtain ⟨q, cq, rfl⟩ := h.form
  unfold entV
  have h17 : w.cell? ⟨n, 17, none⟩ = some (.slice q c.l.length cq) := h.blk.cell 17
  have f17 : w.frozen? ⟨n, 17, none⟩ = false := h.blk.free 17
  have hlt := h.blk.lt
  have H := hid h
  have HBt := hid hb
  have HOK := hid (putL_ok h.ok hlen hlast ht hd)
  have hls : 0 ≤ lastD c + 1 := by have := h.ok.base; unfold lastD; omega
  have HLS : Hid (0 ≤ lastD c + 1 ∧ lastD c + 1 ≤ 2199023255553) := ⟨hls, by omega⟩
  have HEL : Hid (∀ wx, Keeps [] w wx → entL.at_ wx (fun b => (Off n (.slice q c.l.length cq) b ∧ ¬ c.ban b) ∧ b < w.heap.size) [.int .i64 e.term, .bool e.cmd, .slice ea e.data.length ec] e) := fun wx kx => ⟨_, rfl, (BytesAt.mono (P' := fun b => (Off n (.slice q c.l.length cq) b ∧ ¬ c.ban b) ∧ b < w.heap.size) hb (fun b h1 h2 => ⟨h2, h1⟩)).k kx⟩
  have HB0 : Hid (B ≤ w.heap.size) := Nat.le_trans h.base (Nat.le_of_lt hlt)
  clear h hb hls hlast
  go_enter Try.func66, Try.ntmps66
  go_wp2_with fail
  refine Plan.wp_region_plan (fun wx => wx.cell? ⟨n, 17, none⟩ = some (.slice q c.l.length cq) ∧ wx.cell? ⟨w.heap.size, 0, none⟩ = some (.int .i64 e.term) ∧ wx.cell? ⟨w.heap.size, 1, none⟩ = some (.bool e.cmd) ∧ wx.cell? ⟨w.heap.size, 2, none⟩ = some (.slice ea e.data.length ec)) 8 [(true, 0), (true, 1), (true, 2), (true, 3), (true, 4), (true, 5), (false, 6), (false, 7)] (by kernel_rfl) (by as_aux_lemma => kernel_rfl) (by kernel_rfl) (fun _ _ _ _ _ h => h) ?_ (fun hS => ?_)
  (· go_simp)
  simp only [Plan.pick, List.append_eq, List.cons_append, List.nil_append, Plan.g1, Plan.g2, Option.getD_some, List.drop_succ_cons, List.drop_zero]
  iterate 6 (first | refine Plan.tA ?_ | refine Plan.tY ?_ | refine Plan.pN ?_ | refine Plan.pU ?_ | fail)
  refine Plan.step ?_
  go_wp2_with fail
  refine ⟨?_, ?_⟩
  (· go_simp)
  refine Plan.step ?_
  have HX : Hid (∃ w1, w1 = ((w.alloc (.cells #[.int .i64 e.term, .bool e.cmd, .slice ea e.data.length ec] 59)).alloc (.cells #[.int .i64 e.term, .bool e.cmd, .slice ea e.data.length ec] 59)).drew ∧ Keeps [] w w1 ∧ w1.heap[w.heap.size + 1]? = some (.cells #[.int .i64 e.term, .bool e.cmd, .slice ea e.data.length ec] 59 (0, 0)) ∧ w1.heap[w.heap.size]? = some (.cells #[.int .i64 e.term, .bool e.cmd, .slice ea e.data.length ec] 59 (0, 0))) := by
    have e1 := heap_alloc_new w (.cells #[.int .i64 e.term, .bool e.cmd, .slice ea e.data.length ec] 59)
    have e2 := heap_alloc_new (w.alloc (.cells #[.int .i64 e.term, .bool e.cmd, .slice ea e.data.length ec] 59)) (.cells #[.int .i64 e.term, .bool e.cmd, .slice ea e.data.length ec] 59)
    have k2 : Keeps [] (w.alloc (.cells #[.int .i64 e.term, .bool e.cmd, .slice ea e.data.length ec] 59)) ((w.alloc (.cells #[.int .i64 e.term, .bool e.cmd, .slice ea e.data.length ec] 59)).alloc (.cells #[.int .i64 e.term, .bool e.cmd, .slice ea e.data.length ec] 59)).drew := by exact Keeps.K
    refine ⟨_, rfl, by exact Keeps.K, ?_, (k2.block w.heap.size (by simp) (by simp)).trans e1⟩
    rw [show (w.alloc (.cells #[.int .i64 e.term, .bool e.cmd, .slice ea e.data.length ec] 59)).heap.size = w.heap.size + 1 by simp] at e2
    exact e2
  obtain ⟨w1, hw1, k1, b1, b0⟩ := HX.out
  rw [← hw1]
  obtain ⟨⟨x0, x1, x2⟩, _⟩ := blk3 b0
  have K1 := hid k1
  have HB1 := hid b1
  have z1 : w.heap.size + 1 < w1.heap.size := (Array.getElem?_eq_some_iff.1 b1).1
  have HOW : Hid (OwnAt entL 59 w1 B (fun b => (b ≠ n ∧ ¬ c.ban b) ∧ b ∉ ownB (.slice q c.l.length cq)) (.slice q c.l.length cq) c.l) := (OwnAt.k H.out.own k1).mono (fun _ _ h => ⟨⟨h.1.1, h.2⟩, h.1.2⟩)
  have hap : n ∉ ownB (.slice q c.l.length cq) := H.out.apart
  have hap2 : w.heap.size ∉ ownB (.slice q c.l.length cq) := fun hb => by have := (H.out.own.ge _ hb).2; omega
  have a17 := k1.cellSome h17 (by simp)
  have g17 : w1.frozen? ⟨n, 17, none⟩ = false := (k1.frozen (a := ⟨n, 17, none⟩) hlt (by simp)).trans f17
  have HB2 : Hid (B ≤ w1.heap.size) := Nat.le_trans HB0.out k1.size
  clear hw1 k1 b1 b0 HX h17 f17
  go_wp2_with (at_builtin; go_must (refine wpList_append_off (L := entL) (PB := fun b => (Off n (.slice q c.l.length cq) b ∧ ¬ c.ban b) ∧ b < w.heap.size) _ (by rfl) _ _ _ (by rfl) B 59 it _ 40 Try.underlying35 hi0 hz0 hz1 hz2 rfl (R := fun b => b ≠ n ∧ ¬ c.ban b) (.slice q c.l.length cq) (by rfl) c.l [e] c.l.length rfl [[.int .i64 e.term, .bool e.cmd, .slice ea e.data.length ec]] HOW.out (.slice (some ⟨w.heap.size + 1, 0, none⟩) 1 1) (by rfl) 1 rfl (ElemsAt.one1 (HEL.out _ K1.out)) (Reads.one1 HB1.out rfl) (by omega) (le_maxLen (by omega)) HB2.out (fun b _ hb => ⟨⟨hb.1.1.1, hb.1.2⟩, hb.1.1.2⟩) ?_; intro a4 q4 w4 ho4 hk4 hv4))
  have e17 := hk4.out.cellSome a17 hap
  have e0 := hk4.out.cellSome x0 hap2
  have e1 := hk4.out.cellSome x1 hap2
  have e2 := hk4.out.cellSome x2 hap2
  have hfz : w4.frozen? ⟨n, 17, none⟩ = false := (hk4.out.frozen (a := ⟨n, 17, none⟩) (by show n < w1.heap.size; omega) hap).trans g17
  refine ⟨⟨e17, e0, e1, e2⟩, ?_⟩
  refine Plan.fin ?_
  have HG : Hid (∃ w5, w5 = w4.setCell ⟨n, 17, none⟩ (.slice a4 (c.l.length + 1) q4) ∧ CoreAt w5 B n { c with l := c.l ++ [e] } (.slice a4 (c.l.length + 1) q4) sv ∧ Keeps (n :: ownB (.slice q c.l.length cq)) w w5) :=
    ⟨_, rfl, H.out.grow K1.out ho4.out hk4.out hv4.out rfl HOK.out⟩
  have HV : Hid (∀ b ∈ ownB (.slice a4 (c.l.length + 1) q4), b ∈ ownB (.slice q c.l.length cq) ∨ w.heap.size ≤ b) := fun b hb => (hv4.out b hb).imp (fun h => h) (fun h => Nat.le_trans K1.out.size h)
  clear a17 g17 x0 x1 x2
  go_wp2_with fail
  obtain ⟨w5, hw5, hc5, hk5⟩ := HG.out
  rw [← hw5]
  have C5 := hid hc5
  have K5 := hid hk5
  clear hw5 hc5 hk5 HG e17 e0 e1 e2 hfz
  refine (cLast_is _ B n _ _ sv C5.out (lastD c + 1) (by unfold lastD; simp; omega)).mono ?_
  rintro z w' ⟨rfl, k, rfl⟩
  go_wp2_with fail
  refine (from_any _ B n _ _ sv (lastD c + 1) (C5.out.k ((Keeps.refl [] _).drewN _)) HLS.out).mono ?_
  rintro z w6 ⟨rfl, hc6, hk6⟩
  have HF : Hid (CoreAt w6 B n (putD c e) (.slice a4 (c.l.length + 1) q4) sv ∧ Keeps (n :: ownB (.slice q c.l.length cq)) w w6) := ⟨hc6, (K5.out.drewN _).trans hk6 (fun b _ h => by simp at h; simp [h])⟩
  clear hc6 hk6
  go_wp2_with fail
  exact bodyPost_end (by simp [results, Try.results66, go_sem]) rfl ⟨_, rfl, HF.out.1, HF.out.2, HV.out⟩

end Go.Proofs.Ytpppoajnbhipeaa

/- The document's core: fields written, Draw, turned, msg, answer, follow. -/
namespace Go.Proofs.Ytpppoajnbhipeaa
open Go Go.RowKit

theorem rtail_get (c : CoreD) (hv : c.votes.length = 8) (hn : c.next.length = 8) (hm : c.matc.length = 8) : (refTail c)[24]? = some (.bool c.hard) ∧ (refTail c)[25]? = some (.bool c.tsnap) ∧ (refTail c)[26]? = some (.int .i64 c.frm) := by
  unfold refTail bools ints
  refine ⟨?_, ?_, ?_⟩ <;>
  · rw [List.getElem?_append_right (by simp; omega), List.getElem?_append_right (by simp; omega), List.getElem?_append_right (by simp; omega)]
    simp [hv, hn, hm]
theorem rtail_hard (c : CoreD) (hv : c.votes.length = 8) (hn : c.next.length = 8) (hm : c.matc.length = 8) (b : Bool) : (refTail c).set 24 (.bool b) = refTail { c with hard := b } := by
  unfold refTail bools ints
  rw [List.set_append_right _ _ (by simp; omega), List.set_append_right _ _ (by simp; omega), List.set_append_right _ _ (by simp; omega)]
  simp [hv, hn, hm]
theorem rtail_tsnap (c : CoreD) (hv : c.votes.length = 8) (hn : c.next.length = 8) (hm : c.matc.length = 8) (b : Bool) : (refTail c).set 25 (.bool b) = refTail { c with tsnap := b } := by
  unfold refTail bools ints
  rw [List.set_append_right _ _ (by simp; omega), List.set_append_right _ _ (by simp; omega), List.set_append_right _ _ (by simp; omega)]
  simp [hv, hn, hm]
theorem rtail_frm (c : CoreD) (hv : c.votes.length = 8) (hn : c.next.length = 8) (hm : c.matc.length = 8) (b : Int) : (refTail c).set 26 (.int .i64 b) = refTail { c with frm := b } := by
  unfold refTail bools ints
  rw [List.set_append_right _ _ (by simp; omega), List.set_append_right _ _ (by simp; omega), List.set_append_right _ _ (by simp; omega)]
  simp [hv, hn, hm]
theorem rtail_votes (c : CoreD) (hv : c.votes.length = 8) (i : Nat) (hi : i < 8) (b : Bool) : (refTail c).set i (.bool b) = refTail { c with votes := c.votes.set i b } := by
  unfold refTail
  rw [List.set_append_left _ _ (by simp [bools]; omega), bools_set]
theorem rtail_next (c : CoreD) (hv : c.votes.length = 8) (hn : c.next.length = 8) (i : Nat) (hi : i < 8) (b : Int) : (refTail c).set (8 + i) (.int .i64 b) = refTail { c with next := c.next.set i b } := by
  unfold refTail
  rw [List.set_append_right _ _ (by simp [bools]; omega), List.set_append_left _ _ (by simp [bools, ints]; omega), show 8 + i - (bools c.votes).length = i by simp [bools]; omega, ints_set]
theorem rtail_matc (c : CoreD) (hv : c.votes.length = 8) (hn : c.next.length = 8) (hm : c.matc.length = 8) (i : Nat) (hi : i < 8) (b : Int) : (refTail c).set (16 + i) (.int .i64 b) = refTail { c with matc := c.matc.set i b } := by
  unfold refTail
  rw [List.set_append_right _ _ (by simp [bools]; omega), List.set_append_right _ _ (by simp [bools, ints]; omega), List.set_append_left _ _ (by simp [bools, ints]; omega), show 16 + i - (bools c.votes).length - (ints c.next).length = i by simp [bools, ints]; omega, ints_set]
theorem rset21 (c : CoreD) (lv sv v : Value) (i : Nat) : (refCells c lv sv).set (21 + i) v =
  .int .i64 c.conf.nodes :: .int .i64 c.conf.clients :: .int .i64 c.conf.heart :: .int .i64 c.conf.lo :: .int .i64 c.conf.range :: .int .i64 c.conf.sessions :: .int .i64 c.conf.snap :: .int .i64 c.conf.room :: .int .i64 c.conf.retry ::
  .int .i64 c.id :: .int .i64 c.term :: .int .i64 c.vote :: .int .i64 c.role :: .int .i64 c.leader :: .int .i64 c.commit :: .int .i64 c.base :: .int .i64 c.baseTerm :: sv :: lv :: .int .i64 c.patience :: .int .i64 c.draw :: (refTail c).set i v := by
  unfold refCells
  rw [show 21 + i = i + 21 by omega]
  rfl
theorem rget21 (c : CoreD) (lv sv : Value) (i : Nat) : (refCells c lv sv)[21 + i]? = (refTail c)[i]? := by
  unfold refCells
  rw [show 21 + i = i + 21 by omega]
  rfl
theorem rtail_vote_get (c : CoreD) (i : Nat) (hi : i < 8) (hv : c.votes.length = 8) : (refTail c)[i]? = some (.bool (c.votes.getD i false)) := by
  unfold refTail bools
  rw [List.getElem?_append_left (by simp; omega)]
  simp [List.getD_eq_getElem?_getD, List.getElem?_eq_getElem (show i < c.votes.length by omega)]
theorem rtail_next_get (c : CoreD) (i : Nat) (hi : i < 8) (hv : c.votes.length = 8) (hn : c.next.length = 8) : (refTail c)[8 + i]? = some (.int .i64 (c.next.getD i 0)) := by
  unfold refTail bools ints
  rw [List.getElem?_append_right (by simp; omega), List.getElem?_append_left (by simp; omega)]
  simp [hv, List.getD_eq_getElem?_getD, List.getElem?_eq_getElem (show i < c.next.length by omega)]
theorem rtail_matc_get (c : CoreD) (i : Nat) (hi : i < 8) (hv : c.votes.length = 8) (hn : c.next.length = 8) (hm : c.matc.length = 8) : (refTail c)[16 + i]? = some (.int .i64 (c.matc.getD i 0)) := by
  unfold refTail bools ints
  rw [List.getElem?_append_right (by simp; omega), List.getElem?_append_right (by simp; omega), List.getElem?_append_left (by simp; omega)]
  simp [hv, hn, List.getD_eq_getElem?_getD, List.getElem?_eq_getElem (show i < c.matc.length by omega), show 16 + i - 8 - 8 = i by omega]

theorem RefAt.wrote {w w' : World} {B n : Nat} {c c' : CoreD} {P : Nat → Prop} {lv sv : Value} (h : RefAt w B n c P lv sv) (k : Keeps [n] w w') (hb : RefBlk w' n c' lv sv) (hl : c'.l = c.l) (hs : c'.snap = c.snap) (ok : CoreOk c') : RefAt w' B n c' P lv sv :=
  { blk := hb, log := by rw [hl]; exact h.log.keep k (fun b h1 h2 => by simp at h2; rw [h2] at h1; exact h.apart h1), snap := by rw [hs]; exact h.snap.keep k (fun b h1 h2 => by simp at h2; rw [h2] at h1; exact h.apart h1), apart := h.apart, base := h.base, ok := ok }
theorem RefAt.set {w : World} {B n : Nat} {c c' : CoreD} {P : Nat → Prop} {lv sv : Value} (h : RefAt w B n c P lv sv) (i : Nat) (v : Value) (hs : (refCells c lv sv).set i v = refCells c' lv sv) (hl : c'.l = c.l) (hsn : c'.snap = c.snap) (ok : CoreOk c') : RefAt (w.setCell ⟨n, i, none⟩ v) B n c' P lv sv ∧ Keeps [n] w (w.setCell ⟨n, i, none⟩ v) := by
  have k : Keeps [n] w (w.setCell ⟨n, i, none⟩ v) := (Keeps.refl _ _).setCell (.inl (by simp)) _
  exact ⟨h.wrote k (h.blk.set i v hs) hl hsn ok, k⟩
/-- Other blocks that it may read. -/
theorem RefAt.mono {w : World} {B n : Nat} {c : CoreD} {P P' : Nat → Prop} {lv sv : Value} (h : RefAt w B n c P lv sv) (hP : ∀ b, b < w.heap.size → P b → P' b) (hn : ¬ P' n) : RefAt w B n c P' lv sv :=
  { blk := h.blk, log := h.log.mono hP, snap := h.snap.mono hP, apart := hn, base := h.base, ok := h.ok }

set_option maxHeartbeats 800000 in
theorem rDraw_any (w : World) (B n : Nat) (c : CoreD) (P : Nat → Prop) (lv sv : Value) (v : Int) (h : RefAt w B n c P lv sv) :
    Calls Try.prog 69 #[.pointer (some ⟨n, 0, none⟩), .int .i64 v] w fun e w' => e = .returned (.tuple #[]) ∧ RefAt w' B n (drawD c v) P lv sv ∧ Keeps [n] w w' := by
  have h4 : w.cell? ⟨n, 4, none⟩ = some (.int .i64 c.conf.range) := h.blk.cell 4
  have h20 : w.cell? ⟨n, 20, none⟩ = some (.int .i64 c.draw) := h.blk.cell 20
  have f20 : w.frozen? ⟨n, 20, none⟩ = false := h.blk.free 20
  have HR : 0 ≤ c.conf.range := ((ConfD.may_iff c.conf).1 h.ok.may).2.2.2.2.1.1
  have HD : Hid (∀ u, u = max 0 (min v c.conf.range) → RefAt (w.setCell ⟨n, 20, none⟩ (.int .i64 u)) B n (drawD c v) P lv sv ∧ Keeps [n] w (w.setCell ⟨n, 20, none⟩ (.int .i64 u))) := fun u hu => by
    subst hu
    exact h.set 20 _ rfl rfl rfl (cDraw_bd c v h.ok)
  clear h
  go_enter Try.func69, Try.ntmps69
  go_wp2_with fail
  all_goals
    refine bodyPost_end (v := .tuple #[]) ?_ rfl ⟨rfl, HD.out _ ?_⟩
    (· simp [results, Try.results69, go_sem])
    omega

set_option maxRecDepth 100000 in
set_option maxHeartbeats 1600000 in
theorem rturned_any (w : World) (B n : Nat) (c : CoreD) (P : Nat → Prop) (lv sv : Value) (i : Int) (h : RefAt w B n c P lv sv) (hi : 0 ≤ i ∧ i ≤ 2199023255553) :
    Calls Try.prog 81 #[.pointer (some ⟨n, 0, none⟩), .int .i64 i] w fun e w' => e = .returned (.tuple #[]) ∧ RefAt w' B n (turnD c i) P lv sv ∧ Keeps [n] w w' := by
  obtain ⟨_, _, t26⟩ := rtail_get c h.ok.votes h.ok.next h.ok.matc
  have h47 : w.cell? ⟨n, 47, none⟩ = some (.int .i64 c.frm) := (h.blk.cell 47).trans ((rget21 c lv sv 26).trans t26)
  have f47 : w.frozen? ⟨n, 47, none⟩ = false := h.blk.free 47
  have HD : Hid (RefAt (w.setCell ⟨n, 47, none⟩ (.int .i64 i)) B n { c with frm := i } P lv sv ∧ Keeps [n] w (w.setCell ⟨n, 47, none⟩ (.int .i64 i))) := by
    have ho : CoreOk { c with frm := i } := { may := h.ok.may, id := h.ok.id, term := h.ok.term, base := h.ok.base, baseTerm := h.ok.baseTerm, len := h.ok.len, last := h.ok.last, commit := h.ok.commit, draw := h.ok.draw, votes := h.ok.votes, next := h.ok.next, matc := h.ok.matc, nexts := h.ok.nexts, matcs := h.ok.matcs, ents := h.ok.ents, frm := hi, data := h.ok.data, snap := h.ok.snap }
    exact h.set 47 _ (by rw [show 47 = 21 + 26 from rfl, rset21, rtail_frm c h.ok.votes h.ok.next h.ok.matc]; rfl) rfl rfl ho
  have H := hid h
  clear h t26
  by_cases g1 : c.frm = 0
  · have HE : Hid (turnD c i = { c with frm := i }) := by show _ = _; unfold turnD; rw [if_pos (.inl g1)]
    have b1 : (c.frm == 0) = true := by simpa using g1
    clear g1
    go_enter Try.func81, Try.ntmps81
    go_wp2
    exact bodyPost_end (by simp [results, Try.results81, go_sem]) rfl ⟨rfl, by rw [HE.out]; exact HD.out⟩
  · have b1 : (c.frm == 0) = false := by simpa using g1
    by_cases g2 : i < c.frm
    · have HE : Hid (turnD c i = { c with frm := i }) := by show _ = _; unfold turnD; rw [if_pos (.inr g2)]
      have b2 : decide (i < c.frm) = true := by simpa using g2
      clear g1 g2
      go_enter Try.func81, Try.ntmps81
      go_wp2
      exact bodyPost_end (by simp [results, Try.results81, go_sem]) rfl ⟨rfl, by rw [HE.out]; exact HD.out⟩
    · have HE : Hid (turnD c i = c) := by show _ = _; unfold turnD; rw [if_neg (by omega)]
      have b2 : decide (i < c.frm) = false := by simpa using g2
      clear g1 g2
      go_enter Try.func81, Try.ntmps81
      go_wp2
      exact bodyPost_end (by simp [results, Try.results81, go_sem]) rfl ⟨rfl, by rw [HE.out]; exact ⟨H.out, (Keeps.refl [n] w)⟩⟩

set_option maxRecDepth 100000 in
set_option maxHeartbeats 1600000 in
theorem rmsg_any (w : World) (n : Nat) (id term k to : Int) (h9 : w.cell? ⟨n, 9, none⟩ = some (.int .i64 id)) (h10 : w.cell? ⟨n, 10, none⟩ = some (.int .i64 term)) (hlt : n < w.heap.size) :
    Calls Try.prog 80 #[.pointer (some ⟨n, 0, none⟩), .int .i64 k, .int .i64 to] w fun x w' =>
      x = .returned (.agg #[.int .i64 k, .int .i64 id, .int .i64 to, .int .i64 term, .int .i64 0, .int .i64 0, .int .i64 0, .bool false, .slice none 0 0, .slice none 0 0]) ∧ Keeps [] w w' := by
  go_enter Try.func80, Try.ntmps80
  go_wp2_with fail
  refine Plan.wp_region_plan (fun wx => wx.cell? ⟨n, 9, none⟩ = some (.int .i64 id) ∧ wx.cell? ⟨n, 10, none⟩ = some (.int .i64 term)) 12 [(true, 0), (true, 1), (true, 2), (true, 3), (true, 4), (true, 5), (true, 6), (true, 7), (true, 8), (true, 9), (true, 10), (false, 11)] (by kernel_rfl) (by as_aux_lemma => kernel_rfl) (by kernel_rfl) (fun _ _ _ _ _ h => h) ?_ (fun hS => ?_)
  (· go_simp)
  simp only [Plan.pick, List.getElem?_cons_zero, List.getElem?_cons_succ, Option.getD_some, List.drop_succ_cons, List.drop_zero]
  iterate 11 (first | refine Plan.tA ?_ | refine Plan.tY ?_ | refine Plan.pN ?_ | refine Plan.pU ?_ | fail)
  refine Plan.step ?_
  go_wp2_with fail
  refine ⟨?_, ?_⟩
  (· go_simp)
  refine Plan.fin ?_
  go_wp2_with fail
  refine bodyPost_ret (v := .agg #[.int .i64 k, .int .i64 id, .int .i64 to, .int .i64 term, .int .i64 0, .int .i64 0, .int .i64 0, .bool false, .slice none 0 0, .slice none 0 0]) (by simp [results, Try.results80, go_sem]) rfl ⟨rfl, ?_⟩
  exact Keeps.K

set_option maxRecDepth 100000 in
set_option maxHeartbeats 1600000 in
theorem ranswer_any (w : World) (B n : Nat) (c : CoreD) (P : Nat → Prop) (lv sv : Value) (m : MsgD) (ok : Bool) (a : Int) (h : RefAt w B n c P lv sv) :
    Calls Try.prog 90 #[.pointer (some ⟨n, 0, none⟩), .int .i64 m.frm, .bool ok, .int .i64 a] w (MsgsPost (answerD c m ok a) w) := by
  unfold answerD
  have h9 : w.cell? ⟨n, 9, none⟩ = some (.int .i64 c.id) := h.blk.cell 9
  have h10 : w.cell? ⟨n, 10, none⟩ = some (.int .i64 c.term) := h.blk.cell 10
  have hlt := h.blk.lt
  have HM : Hid (∀ w1, Keeps [] w w1 → ∀ b, b = w1.heap.size → MsgsPost [saysD c { msg0 with kind := 4, ok := ok, a := a } m.frm] w (.returned (.slice (some ⟨b, 0, none⟩) 1 1)) (w1.alloc (.cells #[.int .i64 4, .int .i64 c.id, .int .i64 m.frm, .int .i64 c.term, .int .i64 a, .int .i64 0, .int .i64 0, .bool ok, .slice none 0 0, .slice none 0 0] 40))) := fun w1 k b hb => by
    subst hb
    exact msgs_one (m := saysD c { msg0 with kind := 4, ok := ok, a := a } m.frm) k (ListAt.nil _ _ _ _) (BytesAt.nil _ _ _ _)
  clear h
  go_enter Try.func90, Try.ntmps90
  go_wp2_with fail
  refine (rmsg_any _ n c.id c.term _ _ h9 h10 hlt).mono ?_
  rintro e w2 ⟨rfl, hk⟩
  have HK : Hid (Keeps [] w w2) := hk
  have z2 := hk.size
  clear hk
  go_wp2_with fail
  go_ret
  exact HM.out _ (HK.out.alloc _) _ (by simp)

set_option maxRecDepth 100000 in
set_option maxHeartbeats 1600000 in
theorem rfollow_any (w : World) (B n : Nat) (c : CoreD) (P : Nat → Prop) (lv sv : Value) (m : MsgD) (ea da : Option Addr) (ec dc : Nat) (h : RefAt w B n c P lv sv) :
    Calls Try.prog 91 #[.pointer (some ⟨n, 0, none⟩), msgV m (.slice ea m.entries.length ec) (.slice da m.data.length dc)] w fun e w' => e = .returned (.tuple #[]) ∧ RefAt w' B n (followD c m) P lv sv ∧ Keeps [n] w w' := by
  unfold msgV
  have h12 : w.cell? ⟨n, 12, none⟩ = some (.int .i64 c.role) := h.blk.cell 12
  have h13 : w.cell? ⟨n, 13, none⟩ = some (.int .i64 c.leader) := h.blk.cell 13
  have h19 : w.cell? ⟨n, 19, none⟩ = some (.int .i64 c.patience) := h.blk.cell 19
  have f12 : w.frozen? ⟨n, 12, none⟩ = false := h.blk.free 12
  have f13 : w.frozen? ⟨n, 13, none⟩ = false := h.blk.free 13
  have f19 : w.frozen? ⟨n, 19, none⟩ = false := h.blk.free 19
  have hlt := h.blk.lt
  have HF : Hid (∀ w1, Keeps [] w w1 → RefAt (((w1.setCell ⟨n, 12, none⟩ (.int .i64 0)).setCell ⟨n, 13, none⟩ (.int .i64 m.frm)).setCell ⟨n, 19, none⟩ (.int .i64 0)) B n (followD c m) P lv sv) := fun w1 k => by
    have h1 := h.k k
    have ho : CoreOk (followD c m) := { may := h.ok.may, id := h.ok.id, term := h.ok.term, base := h.ok.base, baseTerm := h.ok.baseTerm, len := h.ok.len, last := h.ok.last, commit := h.ok.commit, draw := h.ok.draw, votes := h.ok.votes, next := h.ok.next, matc := h.ok.matc, nexts := h.ok.nexts, matcs := h.ok.matcs, ents := h.ok.ents, frm := h.ok.frm, data := h.ok.data, snap := h.ok.snap }
    have b1 := h1.blk.set (c' := { c with role := 0 }) (lv' := lv) (sv' := sv) 12 (.int .i64 0) rfl
    have b2 := b1.set (c' := { c with role := 0, leader := m.frm }) (lv' := lv) (sv' := sv) 13 (.int .i64 m.frm) rfl
    have b3 := b2.set (c' := followD c m) (lv' := lv) (sv' := sv) 19 (.int .i64 0) rfl
    exact h1.wrote ((((Keeps.refl _ _).setCell (.inl (by simp)) _).setCell (.inl (by simp)) _).setCell (.inl (by simp)) _) b3 rfl rfl ho
  clear h
  go_enter Try.func91, Try.ntmps91
  go_wp2_with fail
  exact bodyPost_end (by simp [results, Try.results91, go_sem]) rfl ⟨rfl, (HF.out _ (Keeps.refl _ _)).k ((Keeps.refl _ _).alloc _), by exact Keeps.K⟩

end Go.Proofs.Ytpppoajnbhipeaa
