/- What a core's calls give: messages in new memory; answer; asked. -/
import Derived.Test.YtpppoajnbhipeaaCoreK
import Derived.Test.YtpppoajnbhipeaaCoreY
namespace Go.Proofs.Ytpppoajnbhipeaa
open Go Go.RowKit

/-- Messages in new memory, off the core. -/
def MsgsAt (w w' : World) (n : Nat) (lv v : Value) (l : List MsgD) : Prop :=
  OwnAt msgL 40 w' w.heap.size (fun b => (w.heap.size ≤ b ∧ Off n lv b) ∧ b ∉ ownB v) v l ∧ ∀ b ∈ ownB v, Off n lv b
/-- How a call of a core ends: what it is then, its messages. -/
def CallPost (B n : Nat) (lv : Value) (r : CoreD × List MsgD) (w : World) (e : Ending) (w' : World) : Prop :=
  ∃ a q lv' sv', e = .returned (.slice a r.2.length q) ∧ CoreAt w' B n r.1 lv' sv' ∧ MsgsAt w w' n lv' (.slice a r.2.length q) r.2 ∧ Keeps (n :: ownB lv) w w' ∧ ∀ b ∈ ownB lv', b ∈ ownB lv ∨ w.heap.size ≤ b

theorem MsgsAt.nil (w w' : World) (n : Nat) (lv : Value) : MsgsAt w w' n lv (.slice none 0 0) [] := ⟨OwnAt.nil _ _ _ _, fun b hb => by simp [mem_ownB, Value.ownBlock] at hb⟩
theorem MsgsAt.ofFresh {w wm w' : World} {B n : Nat} {c : CoreD} {lv sv v : Value} {l : List MsgD} (hc : CoreAt wm B n c lv sv) (hz : w.heap.size ≤ wm.heap.size) (h : FreshMsgs wm w' v l) : MsgsAt w w' n lv v l := by
  have off : ∀ b, wm.heap.size ≤ b → Off n lv b := fun b hb => by
    refine ⟨fun e => ?_, fun e => ?_⟩
    · have := hc.lt n (by simp); omega
    · have := hc.lt b (by simp [e]); omega
  exact ⟨(OwnAt.base h hz).mono (fun b _ hb => ⟨⟨Nat.le_trans hz hb.1, off b hb.1⟩, hb.2⟩), fun b hb => off b (OwnAt.ge h b hb).1⟩
theorem MsgsAt.list {w w' : World} {n : Nat} {lv v : Value} {l : List MsgD} (h : MsgsAt w w' n lv v l) : ListAt msgL w' (fun b => w.heap.size ≤ b ∧ Off n lv b) v l :=
  OwnAt.list h.1 (fun _ _ hb => hb.1) (fun b hb => ⟨(OwnAt.ge h.1 b hb).1, h.2 b hb⟩)

theorem CallPost.silent {B n : Nat} {lv sv : Value} {r : CoreD × List MsgD} {w w' : World} (hr : r.2 = []) (h : CoreAt w' B n r.1 lv sv) (k : Keeps (n :: ownB lv) w w') : CallPost B n lv r w (.returned (.slice none 0 0)) w' :=
  ⟨none, 0, lv, sv, by rw [hr]; rfl, h, by rw [hr]; exact MsgsAt.nil _ _ _ _, k, fun _ h => .inl h⟩
/-- The last step tells only something. -/
theorem CallPost.tellsOf {B n : Nat} {lv lv' sv : Value} {r : CoreD × List MsgD} {w wm w' : World} {e : Ending} (h : CoreAt wm B n r.1 lv' sv) (k : Keeps (n :: ownB lv) w wm) (hv : ∀ b ∈ ownB lv', b ∈ ownB lv ∨ w.heap.size ≤ b) (hp : MsgsPost r.2 wm e w') : CallPost B n lv r w e w' := by
  obtain ⟨a, q, he, hf, hk⟩ := hp
  exact ⟨a, q, lv', sv, he, h.k hk, MsgsAt.ofFresh h k.size hf, k.trans hk (fun b h1 h2 => by cases h2), hv⟩
theorem CallPost.tells {B n : Nat} {lv sv : Value} {r : CoreD × List MsgD} {w wm w' : World} {e : Ending} (h : CoreAt wm B n r.1 lv sv) (k : Keeps (n :: ownB lv) w wm) (hp : MsgsPost r.2 wm e w') : CallPost B n lv r w e w' := CallPost.tellsOf h k (fun _ h => .inl h) hp

theorem ListAt.nilOf {α : Type} {L : Lay α} {w : World} {P : Nat → Prop} {a : Option Addr} {n c : Nat} {l : List α} (h : ListAt L w P (.slice a n c) l) : n = l.length := by
  obtain ⟨x, y, e⟩ := h.form
  simp at e
  exact e.2.1
/-- One message, in a row of its own. -/
theorem msgs_one {w w1 : World} {m : MsgD} {ev dv : Value} (k : Keeps [] w w1) (he : ListAt entL w1 (fun b => w.heap.size ≤ b) ev m.entries) (hd : BytesAt w1 (fun b => w.heap.size ≤ b) dv m.data) :
    MsgsPost [m] w (.returned (.slice (some ⟨w1.heap.size, 0, none⟩) 1 1)) (w1.alloc (.cells #[.int .i64 m.kind, .int .i64 m.frm, .int .i64 m.to, .int .i64 m.term, .int .i64 m.a, .int .i64 m.b, .int .i64 m.c, .bool m.ok, ev, dv] 40)) := by
  have k1 : Keeps [] w1 (w1.alloc (.cells #[.int .i64 m.kind, .int .i64 m.frm, .int .i64 m.to, .int .i64 m.term, .int .i64 m.a, .int .i64 m.b, .int .i64 m.c, .bool m.ok, ev, dv] 40)) := (Keeps.refl _ _).alloc _
  have e1 := (he.mono (P' := fun b => w.heap.size ≤ b ∧ b < w1.heap.size) (fun b h1 h2 => ⟨h2, h1⟩)).k k1
  have d1 := (hd.mono (P' := fun b => w.heap.size ≤ b ∧ b < w1.heap.size) (fun b h1 h2 => ⟨h2, h1⟩)).k k1
  have hb : ∀ b, b ∈ ownB (.slice (some ⟨w1.heap.size, 0, none⟩) 1 1) → b = w1.heap.size := fun b hb => by simpa [mem_ownB, Value.ownBlock, eq_comm] using hb
  have hP : ∀ b, w.heap.size ≤ b ∧ b < w1.heap.size → w.heap.size ≤ b ∧ b ∉ ownB (.slice (some ⟨w1.heap.size, 0, none⟩) 1 1) := fun b h => ⟨h.1, fun h2 => by have := hb b h2; omega⟩
  refine ⟨_, _, rfl, ⟨[[.int .i64 m.kind, .int .i64 m.frm, .int .i64 m.to, .int .i64 m.term, .int .i64 m.a, .int .i64 m.b, .int .i64 m.c, .bool m.ok, ev, dv]], ElemsAt.one1 ⟨ev, dv, rfl, e1.mono (fun b _ h => hP b h), d1.mono (fun b _ h => hP b h)⟩, ?_⟩, k.trans k1 (fun _ _ h => h)⟩
  exact World.ownsRow_lit (size := 10) w1 _ 1 k.size (le_maxLen (by omega)) rfl

set_option maxRecDepth 100000 in
set_option maxHeartbeats 1600000 in
theorem answer_any (w : World) (B n : Nat) (c : CoreD) (lv sv : Value) (m : MsgD) (ea da : Option Addr) (ec dc : Nat) (ok : Bool) (a : Int) (h : CoreAt w B n c lv sv) :
    Calls Try.prog 57 #[.pointer (some ⟨n, 0, none⟩), msgV m (.slice ea m.entries.length ec) (.slice da m.data.length dc), .bool ok, .int .i64 a] w (MsgsPost (answerD c m ok a) w) := by
  unfold msgV answerD
  have h9 : w.cell? ⟨n, 9, none⟩ = some (.int .i64 c.id) := h.blk.cell 9
  have h10 : w.cell? ⟨n, 10, none⟩ = some (.int .i64 c.term) := h.blk.cell 10
  have hlt := h.blk.lt
  have HM : Hid (∀ w1, Keeps [] w w1 → MsgsPost [saysD c { msg0 with kind := 4, ok := ok, a := a } m.frm] w (.returned (.slice (some ⟨w1.heap.size, 0, none⟩) 1 1)) (w1.alloc (.cells #[.int .i64 4, .int .i64 c.id, .int .i64 m.frm, .int .i64 c.term, .int .i64 a, .int .i64 0, .int .i64 0, .bool ok, .slice none 0 0, .slice none 0 0] 40))) := fun w1 k =>
    msgs_one (m := saysD c { msg0 with kind := 4, ok := ok, a := a } m.frm) k (ListAt.nil _ _ _ _) (BytesAt.nil _ _ _ _)
  clear h
  go_enter Try.func57, Try.ntmps57
  go_wp2_with fail
  refine (says_any _ n c.id c.term _ _ _ _ _ _ _ _ _ _ _ _ _ _ _ ?_ ?_ ?_).mono ?_
  (· go_simp)
  (· go_simp)
  (· simp; omega)
  rintro e w2 ⟨rfl, hk⟩
  have HK : Hid (Keeps [] w w2) := Keeps.trans (by (repeat (first | (with_reducible exact Keeps.refl _ _) | (with_reducible assumption) | ((with_reducible refine Keeps.setCell ?_ ?_ _); rotate_left 1; (· first | (refine .inl ?_; simp; done) | (refine .inr ?_; first | exact Nat.le_refl _ | (simp; done) | (simp; omega) | omega))) | (with_reducible refine Keeps.alloc ?_ _) | (with_reducible refine Keeps.drewN ?_ _) | (with_reducible refine Keeps.drew ?_)))) hk (fun _ _ h => h)
  clear hk
  go_wp2_with fail
  go_ret
  exact HM.out _ HK.out

theorem cLast_is (w : World) (B n : Nat) (c : CoreD) (lv sv : Value) (h : CoreAt w B n c lv sv) (L : Int) (hL : lastD c = L) : Calls Try.prog 25 #[.pointer (some ⟨n, 0, none⟩)] w fun e w' => e = .returned (.int .i64 L) ∧ ∃ k, w' = w.drewN k := by
  rw [← hL]
  exact cLast_any w B n c lv sv h
theorem cAt_is (w : World) (B n : Nat) (c : CoreD) (lv sv : Value) (h : CoreAt w B n c lv sv) (i t : Int) (ok : Bool) (b1 : -4611686018427387904 ≤ i) (b2 : i ≤ 4611686018427387904) (hi : atD c i = (t, ok)) : Calls Try.prog 24 #[.pointer (some ⟨n, 0, none⟩), .int .i64 i] w fun e w' => e = .returned (.tuple #[.int .i64 t, .bool ok]) ∧ ∃ k, w' = w.drewN k := by
  have := cAt_any w B n c lv sv h i b1 b2
  rw [hi] at this
  exact this
theorem lastD_bd {w : World} {B n : Nat} {c : CoreD} {lv sv : Value} (h : CoreAt w B n c lv sv) : 0 ≤ lastD c ∧ lastD c ≤ 2199023255552 := by
  have h1 := h.ok.base
  have h2 := h.ok.last
  unfold lastD
  omega

end Go.Proofs.Ytpppoajnbhipeaa
