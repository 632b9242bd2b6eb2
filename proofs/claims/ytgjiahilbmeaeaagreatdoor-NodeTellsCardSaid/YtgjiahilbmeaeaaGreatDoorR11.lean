/- Joined of CoIn, MaD, TyG, CoreQ, CoreV, ApA. -/
import Derived.Test.YtgjiahilbmeaeaaGreatDoorQ04
import Derived.Test.YtgjiahilbmeaeaaGreatDoorQ06
import Derived.Test.YtgjiahilbmeaeaaGreatDoorR03
import Derived.Test.YtgjiahilbmeaeaaGreatDoorR06
import Derived.Test.YtgjiahilbmeaeaaGreatDoorR08
set_option maxRecDepth 100000
set_option maxHeartbeats 8000000
set_option linter.unusedSimpArgs false
set_option linter.unusedVariables false
/- A core within blocks of its own: its calls, and what others write beside it. -/
namespace Go.Proofs.YtgjiahilbmeaeaaGreatDoor
open Go Go.RowKit
def CoreIn (w : World) (B : Nat) (C : Nat → Prop) (cb : Nat) (c : CoreD) (lv sv : Value) : Prop :=
 CoreAt w B cb (reban (fun b => b < w.heap.size ∧ ¬ C b) c) lv sv ∧ ∀ b, C b → b < w.heap.size
def grow (C : Nat → Prop) (w w' : World) (b : Nat) : Prop := C b ∨ (w.heap.size ≤ b ∧ b < w'.heap.size)
section
variable {w w' : World} {B : Nat} {C : Nat → Prop} {cb : Nat} {c c' : CoreD} {lv sv lv' sv' : Value}
theorem CoreIn.mem (h : CoreIn w B C cb c lv sv) : ∀ b ∈ cb :: ownB lv, C b := fun b hb => by
 have hl := (h.1.lt b hb).2
 have hf : ¬ (b < w.heap.size ∧ ¬ C b) := by
  rcases List.mem_cons.1 hb with rfl | hb
  ·exact h.1.free.1
  ·exact h.1.free.2 b hb
 exact Classical.byContradiction fun hc => hf ⟨hl, hc⟩
theorem CoreIn.ok (h : CoreIn w B C cb c lv sv) : CoreOk c := by
 have h1 := CoreOk.reban c.ban h.1.ok
 exact h1
theorem CoreIn.keep {G : Nat → Prop} (h : CoreIn w B C cb c lv sv) (k : KeepsP G w w') (hG : ∀ b, C b → ¬ G b) : CoreIn w' B C cb c lv sv := by
 obtain ⟨Gl, k, hg⟩ := k.mono (F' := fun b => G b ∧ b < w.heap.size) (fun x hx h => ⟨h, hx⟩)
 have := h.1.banMore k (fun b hb => ⟨(hg b hb).2, fun hc => hG b hc (hg b hb).1⟩)
 have e : (fun b => (b < w.heap.size ∧ ¬ C b) ∨ (w.heap.size ≤ b ∧ b < w'.heap.size)) = fun b => b < w'.heap.size ∧ ¬ C b := funext fun b => propext ⟨fun hb => by
  rcases hb with hb | hb
  ·exact ⟨Nat.lt_of_lt_of_le hb.1 k.size, hb.2⟩
  ·exact ⟨hb.2, fun hc => by have := h.2 b hc; omega⟩, fun hb => by
  by_cases hl : b < w.heap.size
  ·exact .inl ⟨hl, hb.2⟩
  ·exact .inr ⟨by omega, hb.1⟩⟩
 refine ⟨?_, fun b hb => Nat.lt_of_lt_of_le (h.2 b hb) k.size⟩
 rw [← e]
 exact this
theorem CoreIn.k (h : CoreIn w B C cb c lv sv) (k : Keeps [] w w') : CoreIn w' B C cb c lv sv := h.keep (KeepsP.of0 (F := fun _ => False) k) (fun _ _ h => h)
theorem CoreIn.congr {C' : Nat → Prop} (h : CoreIn w B C cb c lv sv) (e : ∀ b, C b ↔ C' b) : CoreIn w B C' cb c lv sv := by
 have : C = C' := funext fun b => propext (e b)
 rw [← this]
 exact h
theorem CoreIn.of {C : Nat → Prop} (h : ∀ b, C b → b < w.heap.size) (h' : CoreAt w' B cb (reban (fun b => b < w.heap.size ∧ ¬ C b) c') lv' sv') (hz : w.heap.size ≤ w'.heap.size) : CoreIn w' B (grow C w w') cb c' lv' sv' := by
 have e : (fun b => b < w.heap.size ∧ ¬ C b) = fun b => b < w'.heap.size ∧ ¬ grow C w w' b := funext fun b => propext ⟨fun hb => ⟨by omega, fun hg => by
  rcases hg with hg | hg
  ·exact hb.2 hg
  ·omega⟩, fun hb => by
  have : ¬ (w.heap.size ≤ b ∧ b < w'.heap.size) := fun h => hb.2 (.inr h)
  exact ⟨by omega, fun hc => hb.2 (.inl hc)⟩⟩
 refine ⟨?_, fun b hb => ?_⟩
 ·rw [← e]
  exact h'
 ·rcases hb with hb | hb
  ·have := h b hb; omega
  ·exact hb.2
end
def CoPost (B : Nat) (C : Nat → Prop) (cb : Nat) (lv : Value) (r : CoreD × List MsgD) (w : World) (e : Ending) (w' : World) : Prop :=
 ∃ a q lv' sv', e = .returned (.slice a r.2.length q) ∧ CoreIn w' B (grow C w w') cb r.1 lv' sv' ∧ MsgsAt w w' cb lv' (.slice a r.2.length q) r.2 ∧ Keeps (cb :: ownB lv) w w' ∧ ∀ b ∈ ownB lv', b ∈ ownB lv ∨ w.heap.size ≤ b
section
variable (w : World) (B : Nat) (C : Nat → Prop) (cb : Nat) (c : CoreD) (lv sv : Value) (h : CoreIn w B C cb c lv sv)
include h
theorem coChanges_any : Calls Tryz.prog 41 #[.pointer (some ⟨cb, 0, none⟩)] w fun e w' =>
 e = .returned (.agg #[.bool (changesD c).2.1, .int .i64 (changesD c).2.2.1, .bool (changesD c).2.2.2]) ∧ CoreIn w' B (grow C w w') cb (changesD c).1 lv sv ∧ Keeps [cb] w w' := by
 refine (changes_any w B cb _ lv sv h.1).mono ?_
 rintro e w' ⟨he, hc, hk⟩
 exact ⟨he, CoreIn.of h.2 hc hk.size, hk⟩
end
theorem coNew_any (cf : ConfD) (id term vote base baseTerm : Int) (l : List Ent) (a : Option Addr) (cap : Nat) (P : Nat → Prop) (w : World) (hl : ListAt entL w P (.slice a l.length cap) l) (hd : ∀ e ∈ l, e.data.length ≤ 1000000) (hm : mayNewD cf id term vote base baseTerm l = true) :
 Calls Tryz.prog 37 #[confV cf, .int .i64 id, .int .i64 term, .int .i64 vote, .int .i64 base, .int .i64 baseTerm, .slice a l.length cap] w fun e w' =>
  ∃ n lv sv, e = .returned (.tuple #[.pointer (some ⟨n, 0, none⟩), .int .i64 0]) ∧ CoreIn w' w.heap.size (fun b => w.heap.size ≤ b ∧ b < w'.heap.size) n (newD cf id term vote base baseTerm l) lv sv ∧ Keeps [] w w' := by
 refine (cNewB_any cf id term vote base baseTerm l a cap P w hl hd).mono ?_
 rintro e w' (⟨-, n, lv, sv, he, hc, hk⟩ | ⟨h, -⟩)
 ·refine ⟨n, lv, sv, he, (CoreIn.of (C := fun _ => False) (fun _ h => h.elim) (w := w) ?_ hk.size).congr (fun b => by unfold grow; simp), hk⟩
  have e : (fun b => b < w.heap.size ∧ ¬ False) = fun b => b < w.heap.size := funext fun b => propext (by simp)
  rw [e]
  exact hc
 ·rw [hm] at h
  cases h
def MachAt (w : World) (mb sb : Nat) (ses ap : Int) : Prop := ∃ e t, w.heap[mb]? = some (.cells #[ptrV sb, .int .i64 ses, ptrV e, ptrV t, .int .i64 ap] 132 (0, 0))
theorem tyMade_9 (a b c : Int) (w : World) : Calls Tryz.prog 196 #[.int .i64 9, .agg #[.int .i64 a, .int .i64 b, .int .i64 c]] w fun e w' => e = .returned (.int .i64 (madeT 9 a b c)) ∧ Keeps [] w w' := by
 go_enter Tryz.func196, Tryz.ntmps196
 go_wp2_with fail
 go_quiet (fail)
 go_wp2_with fail
 all_goals
  go_ret
  exact ⟨by simp_all [madeT], by exact Keeps.K⟩
theorem tyMade_10 (a b c : Int) (w : World) : Calls Tryz.prog 196 #[.int .i64 10, .agg #[.int .i64 a, .int .i64 b, .int .i64 c]] w fun e w' => e = .returned (.int .i64 (madeT 10 a b c)) ∧ Keeps [] w w' := by
 go_enter Tryz.func196, Tryz.ntmps196
 go_wp2_with fail
 go_quiet (fail)
 go_wp2_with fail
 all_goals
  go_ret
  exact ⟨by simp_all [madeT], by exact Keeps.K⟩
theorem tyMade_11 (a b c : Int) (w : World) : Calls Tryz.prog 196 #[.int .i64 11, .agg #[.int .i64 a, .int .i64 b, .int .i64 c]] w fun e w' => e = .returned (.int .i64 (madeT 11 a b c)) ∧ Keeps [] w w' := by
 go_enter Tryz.func196, Tryz.ntmps196
 go_wp2_with fail
 go_quiet (fail)
 go_wp2_with fail
 all_goals
  go_ret
  exact ⟨by simp_all [madeT], by exact Keeps.K⟩
theorem tyMade_12 (a b c : Int) (w : World) : Calls Tryz.prog 196 #[.int .i64 12, .agg #[.int .i64 a, .int .i64 b, .int .i64 c]] w fun e w' => e = .returned (.int .i64 (madeT 12 a b c)) ∧ Keeps [] w w' := by
 go_enter Tryz.func196, Tryz.ntmps196
 go_wp2_with fail
 go_quiet (fail)
 go_wp2_with fail
 all_goals
  go_ret
  exact ⟨by simp_all [madeT], by exact Keeps.K⟩
theorem tyMade_13 (a b c : Int) (w : World) : Calls Tryz.prog 196 #[.int .i64 13, .agg #[.int .i64 a, .int .i64 b, .int .i64 c]] w fun e w' => e = .returned (.int .i64 (madeT 13 a b c)) ∧ Keeps [] w w' := by
 go_enter Tryz.func196, Tryz.ntmps196
 go_wp2_with fail
 go_quiet (fail)
 go_wp2_with fail
 all_goals
  go_ret
  exact ⟨by simp_all [madeT], by exact Keeps.K⟩
theorem tyMade_14 (a b c : Int) (w : World) : Calls Tryz.prog 196 #[.int .i64 14, .agg #[.int .i64 a, .int .i64 b, .int .i64 c]] w fun e w' => e = .returned (.int .i64 (madeT 14 a b c)) ∧ Keeps [] w w' := by
 go_enter Tryz.func196, Tryz.ntmps196
 go_wp2_with fail
 go_quiet (fail)
 go_wp2_with fail
 all_goals
  go_ret
  exact ⟨by simp_all [madeT], by exact Keeps.K⟩
theorem tyMade_15 (a b c : Int) (w : World) : Calls Tryz.prog 196 #[.int .i64 15, .agg #[.int .i64 a, .int .i64 b, .int .i64 c]] w fun e w' => e = .returned (.int .i64 (madeT 15 a b c)) ∧ Keeps [] w w' := by
 go_enter Tryz.func196, Tryz.ntmps196
 go_wp2_with fail
 go_quiet (fail)
 go_wp2_with fail
 all_goals
  go_ret
  exact ⟨by simp_all [madeT], by exact Keeps.K⟩
theorem tyMade_16 (a b c : Int) (w : World) : Calls Tryz.prog 196 #[.int .i64 16, .agg #[.int .i64 a, .int .i64 b, .int .i64 c]] w fun e w' => e = .returned (.int .i64 (madeT 16 a b c)) ∧ Keeps [] w w' := by
 go_enter Tryz.func196, Tryz.ntmps196
 go_wp2_with fail
 go_quiet (fail)
 go_wp2_with fail
 all_goals
  go_ret
  exact ⟨by simp_all [madeT], by exact Keeps.K⟩
theorem CallPost.after {B n : Nat} {lv : Value} {r : CoreD × List MsgD} {w w1 w' : World} {e : Ending} (k : Keeps [n] w w1) (h : CallPost B n lv r w1 e w') : CallPost B n lv r w e w' := by
 obtain ⟨a, q, lv', sv', he, hc, ⟨hm1, hm2⟩, hk, hv⟩ := h
 have hz := k.size
 exact ⟨a, q, lv', sv', he, hc, ⟨(hm1.base hz).mono (fun b _ hb => ⟨⟨Nat.le_trans hz hb.1.1, hb.1.2⟩, hb.2⟩), hm2⟩, (k.mono (G := n :: ownB lv) (fun b _ h => by simp at h; simp [h])).trans hk (fun b _ h => h), fun b hb => (hv b hb).imp (fun h => h) (fun h => Nat.le_trans hz h)⟩
def HearC (f : Nat) (F : CoreD → MsgD → CoreD × List MsgD) (B n : Nat) (c : CoreD) (lv sv : Value) (m : MsgD) (ea da : Option Addr) (ec dc : Nat) : Prop :=
 ∀ w1, CoreAt w1 B n c lv sv → ListAt entL w1 (Off n lv) (.slice ea m.entries.length ec) m.entries → BytesAt w1 (Off n lv) (.slice da m.data.length dc) m.data → Calls Tryz.prog f #[.pointer (some ⟨n, 0, none⟩), msgV m (.slice ea m.entries.length ec) (.slice da m.data.length dc)] w1 (CallPost B n lv (F c m) w1)
theorem stepD_ok {c : CoreD} {m : MsgD} (h : CoreOk c) (hw : wrongD c m = false) : CoreOk (stepD c m) := by
 unfold wrongD at hw
 simp only [Bool.or_eq_false_iff] at hw
 have h5 := (wrongHead_no hw.1).2.2.2.2.1
 unfold stepD
 split
 ·exact { may := h.may, id := h.id, term := ⟨by show 0 ≤ m.term; omega, h5.2⟩, base := h.base, baseTerm := h.baseTerm, len := h.len, last := h.last, commit := h.commit, draw := h.draw, votes := h.votes, next := h.next, matc := h.matc, nexts := h.nexts, matcs := h.matcs, ents := h.ents, frm := h.frm, data := h.data, snap := h.snap }
 ·exact h
theorem followD_ok {c : CoreD} (h : CoreOk c) (m : MsgD) : CoreOk (followD c m) :=
 { may := h.may, id := h.id, term := h.term, base := h.base, baseTerm := h.baseTerm, len := h.len, last := h.last, commit := h.commit, draw := h.draw, votes := h.votes, next := h.next, matc := h.matc, nexts := h.nexts, matcs := h.matcs, ents := h.ents, frm := h.frm, data := h.data, snap := h.snap }
theorem hear_3A (w : World) (B n : Nat) (c c1 : CoreD) (lv sv : Value) (m : MsgD) (ea da : Option Addr) (ec dc : Nat) (h : CoreAt w B n c lv sv) (hl : ListAt entL w (Off n lv) (.slice ea m.entries.length ec) m.entries) (hd : BytesAt w (Off n lv) (.slice da m.data.length dc) m.data) (hw : wrongD c m = false) (hc1 : stepD c m = c1)
 (hk : m.kind = 3) (ht : m.term < c1.term) :
 Calls Tryz.prog 21 #[.pointer (some ⟨n, 0, none⟩), msgV m (.slice ea m.entries.length ec) (.slice da m.data.length dc)] w (CallPost B n lv (hearD c m) w) := by
 have h10 : w.cell? ⟨n, 10, none⟩ = some (.int .i64 c.term) := h.blk.cell 10
 have hlt := h.blk.lt
 have hz := hw
 unfold wrongD at hz
 simp only [Bool.or_eq_false_iff] at hz
 have hn := wrongHead_no hz.1
 have HT : Hid (0 ≤ m.term ∧ m.term ≤ 1099511627776) := ⟨by have := hn.2.2.2.2.1; omega, hn.2.2.2.2.1.2⟩
 clear hn hz
 have HE : Hid (hearD c m = heardD c1 m) := by show _ = _; unfold hearD; rw [hw, hc1]; rfl
 have HW := hid hw
 have H := hid h
 have HL := hid hl
 have HD := hid hd
 have HS1 : Hid (c.term < m.term → ∀ w1 w2, Keeps [] w w1 → CoreAt w2 B n (risesD c m.term 0) lv sv → Keeps [n] w1 w2 → ∃ w3, w3 = (w2.setCell ⟨n, 12, none⟩ (.int .i64 0)).setCell ⟨n, 13, none⟩ (.int .i64 0) ∧ CoreAt w3 B n c1 lv sv ∧ Keeps [n] w w3 ∧ Keeps [n] w1 w3) := fun ht w1 w2 k1 h2 k2 => by
  have k3 : Keeps [n] w2 ((w2.setCell ⟨n, 12, none⟩ (.int .i64 0)).setCell ⟨n, 13, none⟩ (.int .i64 0)) := ((Keeps.refl _ _).setCell (.inl (by simp)) _).setCell (.inl (by simp)) _
  have e : stepD c m = { risesD c m.term 0 with role := 0, leader := 0 } := by unfold stepD; rw [if_pos ht]
  have ho := stepD_ok h.ok hw
  rw [← hc1]
  rw [e] at ho ⊢
  exact ⟨_, rfl, h2.wrote k3 ((h2.blk.set (c' := { risesD c m.term 0 with role := 0 }) 12 _ rfl).set 13 _ rfl) rfl rfl ho, ((k1.mono (G := [n]) (fun _ _ h => by cases h)).trans k2 (fun _ _ h => h)).trans k3 (fun _ _ h => h), k2.trans k3 (fun _ _ h => h)⟩
 have HS0 : Hid (¬ c.term < m.term → c = c1) := fun ht => by rw [← hc1]; unfold stepD; rw [if_neg ht]
 have g1 : (m.kind == 1) = false := by simp [hk]
 have g2 : (m.kind == 2) = false := by simp [hk]
 have g4 : (m.kind == 4) = false := by simp [hk]
 have g5 : (m.kind == 5) = false := by simp [hk]
 have t1 : decide (m.term < c1.term) = true := by simpa using ht
 have HR : Hid (heardD c1 m = (c1, answerD c1 m false (lastD c1))) := by show _ = _; unfold heardD; simp [hk, ht]
 clear hk ht
 clear h hl hd hw hc1
 unfold msgV
 by_cases hs : c.term < m.term
 ·have gs : decide (c.term < m.term) = true := by simpa using hs
  have HS := hid hs
  clear hs
  skip
  go_enter Tryz.func21, Tryz.ntmps21
  go_wp2_with fail
  refine (wrong_is false _ B n c lv sv m ea da ec dc (Off n lv) (H.out.k ((Keeps.refl [] w).alloc _)) (HL.out.k ((Keeps.refl [] w).alloc _)) HW.out).mono ?_
  rintro e w1 ⟨rfl, hk⟩
  have HK : Hid (Keeps [] w w1) := Keeps.trans (by exact Keeps.K) hk (fun _ _ h => h)
  have HB1 : Hid (w1.heap[w.heap.size]? = some (.cells #[.int .i64 m.kind, .int .i64 m.frm, .int .i64 m.«to», .int .i64 m.term, .int .i64 m.a, .int .i64 m.b, .int .i64 m.c, .bool m.ok, .slice ea m.entries.length ec, .slice da m.data.length dc] 30 (0, 0))) := (hk.block w.heap.size (by simp) (by simp)).trans (heap_alloc_new w _)
  have hz1 : w.heap.size < w1.heap.size := (Array.getElem?_eq_some_iff.1 HB1.out).1
  have x10 : w1.cell? ⟨n, 10, none⟩ = some (.int .i64 c.term) := (H.out.k HK.out).blk.cell 10
  obtain ⟨⟨c0, c1', c2, c3, c4, c5, c6, c7, c8, c9⟩, f3⟩ := blk10 HB1.out
  clear hk h10
  go_wp2_with fail
  go_quiet (fail)
  go_wp2_with fail
  refine (rises_any _ B n c lv sv m.term 0 (H.out.k ?_) HT.out).mono ?_
  (·have kk := HK.out; exact Keeps.K)
  rintro e w2 ⟨rfl, hc2, hk2⟩
  have HB2 := (hk2.block w.heap.size (by simp; omega) (by simp; omega)).trans HB1.out
  clear c0 c1' c2 c3 c4 c5 c6 c7 c8 c9 f3 x10
  obtain ⟨⟨c0, c1', c2, c3, c4, c5, c6, c7, c8, c9⟩, f3⟩ := blk10 HB2
  have y12 : w2.cell? ⟨n, 12, none⟩ = some (.int .i64 c.role) := hc2.blk.cell 12
  have y13 : w2.cell? ⟨n, 13, none⟩ = some (.int .i64 c.leader) := hc2.blk.cell 13
  have fz : ∀ i, w2.frozen? ⟨n, i, none⟩ = false := fun i => hc2.blk.free i
  have hnz : n ≠ w.heap.size := by omega
  have HX : Hid (∃ w3, w3 = (w2.setCell ⟨n, 12, none⟩ (.int .i64 0)).setCell ⟨n, 13, none⟩ (.int .i64 0) ∧ CoreAt w3 B n c1 lv sv ∧ Keeps [n] w w3 ∧ Keeps [n] _ w3) := HS1.out HS.out _ w2 (by have kk := HK.out; exact Keeps.K) hc2 hk2
  have HB1' : (w1.drewN nq).heap[w.heap.size]? = some (.cells #[.int .i64 m.kind, .int .i64 m.frm, .int .i64 m.«to», .int .i64 m.term, .int .i64 m.a, .int .i64 m.b, .int .i64 m.c, .bool m.ok, .slice ea m.entries.length ec, .slice da m.data.length dc] 30 (0, 0)) := HB1.out
  have hz1' : w.heap.size < (w1.drewN nq).heap.size := hz1
  clear hc2 hk2 HB2
  go_wp2_with fail
  obtain ⟨w3, hw3, hc3, hk3, hk13⟩ := HX.out
  rw [← hw3]
  have HB3 : Hid (w3.heap[w.heap.size]? = some (.cells #[.int .i64 m.kind, .int .i64 m.frm, .int .i64 m.«to», .int .i64 m.term, .int .i64 m.a, .int .i64 m.b, .int .i64 m.c, .bool m.ok, .slice ea m.entries.length ec, .slice da m.data.length dc] 30 (0, 0))) := (hk13.block w.heap.size hz1' (by simp; omega)).trans HB1'
  clear y12 y13 fz hw3 HX hk13 HB1' hz1'
  clear c0 c1' c2 c3 c4 c5 c6 c7 c8 c9 f3
  obtain ⟨⟨c0, c1', c2, c3, c4, c5, c6, c7, c8, c9⟩, f3⟩ := blk10 HB3.out
  have y10 : w3.cell? ⟨n, 10, none⟩ = some (.int .i64 c1.term) := hc3.blk.cell 10
  have y12 : w3.cell? ⟨n, 12, none⟩ = some (.int .i64 c1.role) := hc3.blk.cell 12
  have y13 : w3.cell? ⟨n, 13, none⟩ = some (.int .i64 c1.leader) := hc3.blk.cell 13
  have y20 : w3.cell? ⟨n, 20, none⟩ = some (.int .i64 c1.patience) := hc3.blk.cell 20
  have fz : ∀ i, w3.frozen? ⟨n, i, none⟩ = false := fun i => hc3.blk.free i
  have hz3 : w.heap.size < w3.heap.size := (Array.getElem?_eq_some_iff.1 HB3.out).1
  have C3 := hid hc3
  have K3 := hid hk3
  clear hc3 hk3 hz1
  go_quiet (fail)
  go_wp2_with fail
  refine Plan.wp_region_plan (fun wx => wx.cell? ⟨w.heap.size, 0, none⟩ = some (.int .i64 m.kind) ∧ wx.cell? ⟨w.heap.size, 1, none⟩ = some (.int .i64 m.frm) ∧ wx.cell? ⟨w.heap.size, 2, none⟩ = some (.int .i64 m.«to») ∧ wx.cell? ⟨w.heap.size, 3, none⟩ = some (.int .i64 m.term) ∧ wx.cell? ⟨w.heap.size, 4, none⟩ = some (.int .i64 m.a) ∧ wx.cell? ⟨w.heap.size, 5, none⟩ = some (.int .i64 m.b) ∧ wx.cell? ⟨w.heap.size, 6, none⟩ = some (.int .i64 m.c) ∧ wx.cell? ⟨w.heap.size, 7, none⟩ = some (.bool m.ok) ∧ wx.cell? ⟨w.heap.size, 8, none⟩ = some (.slice ea m.entries.length ec) ∧ wx.cell? ⟨w.heap.size, 9, none⟩ = some (.slice da m.data.length dc)) 4 [(true, 0), (true, 1), (true, 2), (false, 3)] (by kernel_rfl) (by as_aux_lemma => kernel_rfl) (by kernel_rfl) (fun _ _ _ _ _ h => h) ?_ (fun hS => ?_)
  (·go_simp)
  simp only [Plan.pick, List.append_eq, List.cons_append, List.nil_append, Plan.g1, Plan.g2, Option.getD_some, List.drop_succ_cons, List.drop_zero]
  iterate 3 (first | refine Plan.tA ?_ | refine Plan.tY ?_ | refine Plan.pN ?_ | refine Plan.pU ?_ | fail)
  refine Plan.step ?_
  go_wp2_with fail
  refine (cLast_any _ B n c1 lv sv (C3.out.k ?_)).mono ?_
  (·exact Keeps.K)
  rintro e w' ⟨rfl, k, rfl⟩
  go_wp2_with fail
  refine ⟨?_, ?_⟩
  (·go_simp)
  refine Plan.fin ?_
  go_wp2_with fail
  refine (answer_any _ B n c1 lv sv m ea da ec dc false (lastD c1) (C3.out.k ?_)).mono ?_
  (·exact Keeps.K)
  rintro e w4 hp
  obtain ⟨a, q, lv', sv', rfl, hp2⟩ : CallPost B n lv (c1, answerD c1 m false (lastD c1)) w e w4 := CallPost.after K3.out (CallPost.tells (C3.out.k (by exact Keeps.K)) (Keeps.mono (F := []) (by exact Keeps.K) (fun _ _ h => by cases h)) hp)
  have HP := hid hp2
  clear hp hp2
  go_wp2_with fail
  go_ret
  rw [HE.out, HR.out]
  exact ⟨a, q, lv', sv', rfl, HP.out⟩
 ·have gs : decide (c.term < m.term) = false := by simpa using hs
  have HS := hid hs
  clear hs
  skip
  go_enter Tryz.func21, Tryz.ntmps21
  go_wp2_with fail
  refine (wrong_is false _ B n c lv sv m ea da ec dc (Off n lv) (H.out.k ((Keeps.refl [] w).alloc _)) (HL.out.k ((Keeps.refl [] w).alloc _)) HW.out).mono ?_
  rintro e w1 ⟨rfl, hk⟩
  have HK : Hid (Keeps [] w w1) := Keeps.trans (by exact Keeps.K) hk (fun _ _ h => h)
  have HB1 : Hid (w1.heap[w.heap.size]? = some (.cells #[.int .i64 m.kind, .int .i64 m.frm, .int .i64 m.«to», .int .i64 m.term, .int .i64 m.a, .int .i64 m.b, .int .i64 m.c, .bool m.ok, .slice ea m.entries.length ec, .slice da m.data.length dc] 30 (0, 0))) := (hk.block w.heap.size (by simp) (by simp)).trans (heap_alloc_new w _)
  have hz1 : w.heap.size < w1.heap.size := (Array.getElem?_eq_some_iff.1 HB1.out).1
  have x10 : w1.cell? ⟨n, 10, none⟩ = some (.int .i64 c.term) := (H.out.k HK.out).blk.cell 10
  obtain ⟨⟨c0, c1', c2, c3, c4, c5, c6, c7, c8, c9⟩, f3⟩ := blk10 HB1.out
  clear hk h10
  go_wp2_with fail
  go_quiet (fail)
  have HX : Hid (∃ w3, w3 = w1.drewN nq ∧ CoreAt w3 B n c1 lv sv ∧ Keeps [n] w w3 ∧ w3.heap[w.heap.size]? = some (.cells #[.int .i64 m.kind, .int .i64 m.frm, .int .i64 m.«to», .int .i64 m.term, .int .i64 m.a, .int .i64 m.b, .int .i64 m.c, .bool m.ok, .slice ea m.entries.length ec, .slice da m.data.length dc] 30 (0, 0))) := ⟨_, rfl, by rw [← HS0.out HS.out]; exact H.out.k (by have kk := HK.out; exact Keeps.K), Keeps.mono (F := []) (by have kk := HK.out; exact Keeps.K) (fun _ _ h => by cases h), HB1.out⟩
  obtain ⟨w3, hw3, hc3, hk3, hb3⟩ := HX.out
  rw [← hw3]
  have HB3 := hid hb3
  have hnz : n ≠ w.heap.size := by omega
  clear hw3 HX hb3
  clear c0 c1' c2 c3 c4 c5 c6 c7 c8 c9 f3
  clear x10
  obtain ⟨⟨c0, c1', c2, c3, c4, c5, c6, c7, c8, c9⟩, f3⟩ := blk10 HB3.out
  have y10 : w3.cell? ⟨n, 10, none⟩ = some (.int .i64 c1.term) := hc3.blk.cell 10
  have y12 : w3.cell? ⟨n, 12, none⟩ = some (.int .i64 c1.role) := hc3.blk.cell 12
  have y13 : w3.cell? ⟨n, 13, none⟩ = some (.int .i64 c1.leader) := hc3.blk.cell 13
  have y20 : w3.cell? ⟨n, 20, none⟩ = some (.int .i64 c1.patience) := hc3.blk.cell 20
  have fz : ∀ i, w3.frozen? ⟨n, i, none⟩ = false := fun i => hc3.blk.free i
  have hz3 : w.heap.size < w3.heap.size := (Array.getElem?_eq_some_iff.1 HB3.out).1
  have C3 := hid hc3
  have K3 := hid hk3
  clear hc3 hk3 hz1
  go_wp2_with fail
  go_quiet (fail)
  go_wp2_with fail
  refine Plan.wp_region_plan (fun wx => wx.cell? ⟨w.heap.size, 0, none⟩ = some (.int .i64 m.kind) ∧ wx.cell? ⟨w.heap.size, 1, none⟩ = some (.int .i64 m.frm) ∧ wx.cell? ⟨w.heap.size, 2, none⟩ = some (.int .i64 m.«to») ∧ wx.cell? ⟨w.heap.size, 3, none⟩ = some (.int .i64 m.term) ∧ wx.cell? ⟨w.heap.size, 4, none⟩ = some (.int .i64 m.a) ∧ wx.cell? ⟨w.heap.size, 5, none⟩ = some (.int .i64 m.b) ∧ wx.cell? ⟨w.heap.size, 6, none⟩ = some (.int .i64 m.c) ∧ wx.cell? ⟨w.heap.size, 7, none⟩ = some (.bool m.ok) ∧ wx.cell? ⟨w.heap.size, 8, none⟩ = some (.slice ea m.entries.length ec) ∧ wx.cell? ⟨w.heap.size, 9, none⟩ = some (.slice da m.data.length dc)) 4 [(true, 0), (true, 1), (true, 2), (false, 3)] (by kernel_rfl) (by as_aux_lemma => kernel_rfl) (by kernel_rfl) (fun _ _ _ _ _ h => h) ?_ (fun hS => ?_)
  (·go_simp)
  simp only [Plan.pick, List.append_eq, List.cons_append, List.nil_append, Plan.g1, Plan.g2, Option.getD_some, List.drop_succ_cons, List.drop_zero]
  iterate 3 (first | refine Plan.tA ?_ | refine Plan.tY ?_ | refine Plan.pN ?_ | refine Plan.pU ?_ | fail)
  refine Plan.step ?_
  go_wp2_with fail
  refine (cLast_any _ B n c1 lv sv (C3.out.k ?_)).mono ?_
  (·exact Keeps.K)
  rintro e w' ⟨rfl, k, rfl⟩
  go_wp2_with fail
  refine ⟨?_, ?_⟩
  (·go_simp)
  refine Plan.fin ?_
  go_wp2_with fail
  refine (answer_any _ B n c1 lv sv m ea da ec dc false (lastD c1) (C3.out.k ?_)).mono ?_
  (·exact Keeps.K)
  rintro e w4 hp
  obtain ⟨a, q, lv', sv', rfl, hp2⟩ : CallPost B n lv (c1, answerD c1 m false (lastD c1)) w e w4 := CallPost.after K3.out (CallPost.tells (C3.out.k (by exact Keeps.K)) (Keeps.mono (F := []) (by exact Keeps.K) (fun _ _ h => by cases h)) hp)
  have HP := hid hp2
  clear hp hp2
  go_wp2_with fail
  go_ret
  rw [HE.out, HR.out]
  exact ⟨a, q, lv', sv', rfl, HP.out⟩
theorem hear_3C (w : World) (B n : Nat) (c c1 : CoreD) (lv sv : Value) (m : MsgD) (ea da : Option Addr) (ec dc : Nat) (h : CoreAt w B n c lv sv) (hl : ListAt entL w (Off n lv) (.slice ea m.entries.length ec) m.entries) (hd : BytesAt w (Off n lv) (.slice da m.data.length dc) m.data) (hw : wrongD c m = false) (hc1 : stepD c m = c1)
 (hk : m.kind = 3) (ht : c1.term ≤ m.term) (hr : c1.role ≠ 2) (H2 : HearC 74 appendD B n (followD c1 m) lv sv m ea da ec dc) :
 Calls Tryz.prog 21 #[.pointer (some ⟨n, 0, none⟩), msgV m (.slice ea m.entries.length ec) (.slice da m.data.length dc)] w (CallPost B n lv (hearD c m) w) := by
 have h10 : w.cell? ⟨n, 10, none⟩ = some (.int .i64 c.term) := h.blk.cell 10
 have hlt := h.blk.lt
 have hz := hw
 unfold wrongD at hz
 simp only [Bool.or_eq_false_iff] at hz
 have hn := wrongHead_no hz.1
 have HT : Hid (0 ≤ m.term ∧ m.term ≤ 1099511627776) := ⟨by have := hn.2.2.2.2.1; omega, hn.2.2.2.2.1.2⟩
 clear hn hz
 have HE : Hid (hearD c m = heardD c1 m) := by show _ = _; unfold hearD; rw [hw, hc1]; rfl
 have HW := hid hw
 have H := hid h
 have HL := hid hl
 have HD := hid hd
 have HS1 : Hid (c.term < m.term → ∀ w1 w2, Keeps [] w w1 → CoreAt w2 B n (risesD c m.term 0) lv sv → Keeps [n] w1 w2 → ∃ w3, w3 = (w2.setCell ⟨n, 12, none⟩ (.int .i64 0)).setCell ⟨n, 13, none⟩ (.int .i64 0) ∧ CoreAt w3 B n c1 lv sv ∧ Keeps [n] w w3 ∧ Keeps [n] w1 w3) := fun ht w1 w2 k1 h2 k2 => by
  have k3 : Keeps [n] w2 ((w2.setCell ⟨n, 12, none⟩ (.int .i64 0)).setCell ⟨n, 13, none⟩ (.int .i64 0)) := ((Keeps.refl _ _).setCell (.inl (by simp)) _).setCell (.inl (by simp)) _
  have e : stepD c m = { risesD c m.term 0 with role := 0, leader := 0 } := by unfold stepD; rw [if_pos ht]
  have ho := stepD_ok h.ok hw
  rw [← hc1]
  rw [e] at ho ⊢
  exact ⟨_, rfl, h2.wrote k3 ((h2.blk.set (c' := { risesD c m.term 0 with role := 0 }) 12 _ rfl).set 13 _ rfl) rfl rfl ho, ((k1.mono (G := [n]) (fun _ _ h => by cases h)).trans k2 (fun _ _ h => h)).trans k3 (fun _ _ h => h), k2.trans k3 (fun _ _ h => h)⟩
 have HS0 : Hid (¬ c.term < m.term → c = c1) := fun ht => by rw [← hc1]; unfold stepD; rw [if_neg ht]
 have g1 : (m.kind == 1) = false := by simp [hk]
 have g2 : (m.kind == 2) = false := by simp [hk]
 have g4 : (m.kind == 4) = false := by simp [hk]
 have g5 : (m.kind == 5) = false := by simp [hk]
 have t1 : decide (m.term < c1.term) = false := by simpa using ht
 have r1 : (c1.role == 2) = false := by simp [hr]
 have HR : Hid (heardD c1 m = appendD (followD c1 m) m) := by show _ = _; unfold heardD snapNo; simp [hk, hr, Int.not_lt.2 ht]
 have HH2 := hid H2
 clear hk ht hr H2
 clear h hl hd hw hc1
 unfold msgV
 by_cases hs : c.term < m.term
 ·have gs : decide (c.term < m.term) = true := by simpa using hs
  have HS := hid hs
  clear hs
  skip
  go_enter Tryz.func21, Tryz.ntmps21
  go_wp2_with fail
  refine (wrong_is false _ B n c lv sv m ea da ec dc (Off n lv) (H.out.k ((Keeps.refl [] w).alloc _)) (HL.out.k ((Keeps.refl [] w).alloc _)) HW.out).mono ?_
  rintro e w1 ⟨rfl, hk⟩
  have HK : Hid (Keeps [] w w1) := Keeps.trans (by exact Keeps.K) hk (fun _ _ h => h)
  have HB1 : Hid (w1.heap[w.heap.size]? = some (.cells #[.int .i64 m.kind, .int .i64 m.frm, .int .i64 m.«to», .int .i64 m.term, .int .i64 m.a, .int .i64 m.b, .int .i64 m.c, .bool m.ok, .slice ea m.entries.length ec, .slice da m.data.length dc] 30 (0, 0))) := (hk.block w.heap.size (by simp) (by simp)).trans (heap_alloc_new w _)
  have hz1 : w.heap.size < w1.heap.size := (Array.getElem?_eq_some_iff.1 HB1.out).1
  have x10 : w1.cell? ⟨n, 10, none⟩ = some (.int .i64 c.term) := (H.out.k HK.out).blk.cell 10
  obtain ⟨⟨c0, c1', c2, c3, c4, c5, c6, c7, c8, c9⟩, f3⟩ := blk10 HB1.out
  clear hk h10
  go_wp2_with fail
  go_quiet (fail)
  go_wp2_with fail
  refine (rises_any _ B n c lv sv m.term 0 (H.out.k ?_) HT.out).mono ?_
  (·have kk := HK.out; exact Keeps.K)
  rintro e w2 ⟨rfl, hc2, hk2⟩
  have HB2 := (hk2.block w.heap.size (by simp; omega) (by simp; omega)).trans HB1.out
  clear c0 c1' c2 c3 c4 c5 c6 c7 c8 c9 f3 x10
  obtain ⟨⟨c0, c1', c2, c3, c4, c5, c6, c7, c8, c9⟩, f3⟩ := blk10 HB2
  have y12 : w2.cell? ⟨n, 12, none⟩ = some (.int .i64 c.role) := hc2.blk.cell 12
  have y13 : w2.cell? ⟨n, 13, none⟩ = some (.int .i64 c.leader) := hc2.blk.cell 13
  have fz : ∀ i, w2.frozen? ⟨n, i, none⟩ = false := fun i => hc2.blk.free i
  have hnz : n ≠ w.heap.size := by omega
  have HX : Hid (∃ w3, w3 = (w2.setCell ⟨n, 12, none⟩ (.int .i64 0)).setCell ⟨n, 13, none⟩ (.int .i64 0) ∧ CoreAt w3 B n c1 lv sv ∧ Keeps [n] w w3 ∧ Keeps [n] _ w3) := HS1.out HS.out _ w2 (by have kk := HK.out; exact Keeps.K) hc2 hk2
  have HB1' : (w1.drewN nq).heap[w.heap.size]? = some (.cells #[.int .i64 m.kind, .int .i64 m.frm, .int .i64 m.«to», .int .i64 m.term, .int .i64 m.a, .int .i64 m.b, .int .i64 m.c, .bool m.ok, .slice ea m.entries.length ec, .slice da m.data.length dc] 30 (0, 0)) := HB1.out
  have hz1' : w.heap.size < (w1.drewN nq).heap.size := hz1
  clear hc2 hk2 HB2
  go_wp2_with fail
  obtain ⟨w3, hw3, hc3, hk3, hk13⟩ := HX.out
  rw [← hw3]
  have HB3 : Hid (w3.heap[w.heap.size]? = some (.cells #[.int .i64 m.kind, .int .i64 m.frm, .int .i64 m.«to», .int .i64 m.term, .int .i64 m.a, .int .i64 m.b, .int .i64 m.c, .bool m.ok, .slice ea m.entries.length ec, .slice da m.data.length dc] 30 (0, 0))) := (hk13.block w.heap.size hz1' (by simp; omega)).trans HB1'
  clear y12 y13 fz hw3 HX hk13 HB1' hz1'
  clear c0 c1' c2 c3 c4 c5 c6 c7 c8 c9 f3
  obtain ⟨⟨c0, c1', c2, c3, c4, c5, c6, c7, c8, c9⟩, f3⟩ := blk10 HB3.out
  have y10 : w3.cell? ⟨n, 10, none⟩ = some (.int .i64 c1.term) := hc3.blk.cell 10
  have y12 : w3.cell? ⟨n, 12, none⟩ = some (.int .i64 c1.role) := hc3.blk.cell 12
  have y13 : w3.cell? ⟨n, 13, none⟩ = some (.int .i64 c1.leader) := hc3.blk.cell 13
  have y20 : w3.cell? ⟨n, 20, none⟩ = some (.int .i64 c1.patience) := hc3.blk.cell 20
  have fz : ∀ i, w3.frozen? ⟨n, i, none⟩ = false := fun i => hc3.blk.free i
  have hz3 : w.heap.size < w3.heap.size := (Array.getElem?_eq_some_iff.1 HB3.out).1
  have C3 := hid hc3
  have K3 := hid hk3
  clear hc3 hk3 hz1
  go_quiet (fail)
  go_wp2_with fail
  refine Plan.wp_region_plan (fun wx => wx.cell? ⟨w.heap.size, 0, none⟩ = some (.int .i64 m.kind) ∧ wx.cell? ⟨w.heap.size, 1, none⟩ = some (.int .i64 m.frm) ∧ wx.cell? ⟨w.heap.size, 2, none⟩ = some (.int .i64 m.«to») ∧ wx.cell? ⟨w.heap.size, 3, none⟩ = some (.int .i64 m.term) ∧ wx.cell? ⟨w.heap.size, 4, none⟩ = some (.int .i64 m.a) ∧ wx.cell? ⟨w.heap.size, 5, none⟩ = some (.int .i64 m.b) ∧ wx.cell? ⟨w.heap.size, 6, none⟩ = some (.int .i64 m.c) ∧ wx.cell? ⟨w.heap.size, 7, none⟩ = some (.bool m.ok) ∧ wx.cell? ⟨w.heap.size, 8, none⟩ = some (.slice ea m.entries.length ec) ∧ wx.cell? ⟨w.heap.size, 9, none⟩ = some (.slice da m.data.length dc)) 11 [(true, 0), (true, 1), (true, 2), (true, 3), (true, 4), (true, 5), (true, 6), (false, 7), (true, 8), (true, 9), (false, 10)] (by kernel_rfl) (by as_aux_lemma => kernel_rfl) (by kernel_rfl) (fun _ _ _ _ _ h => h) ?_ (fun hS => ?_)
  (·go_simp)
  simp only [Plan.pick, List.append_eq, List.cons_append, List.nil_append, Plan.g1, Plan.g2, Option.getD_some, List.drop_succ_cons, List.drop_zero]
  iterate 7 (first | refine Plan.tA ?_ | refine Plan.tY ?_ | refine Plan.pN ?_ | refine Plan.pU ?_ | fail)
  refine Plan.step ?_
  go_wp2_with fail
  refine ⟨?_, ?_⟩
  (·go_simp)
  iterate 2 (first | refine Plan.tA ?_ | refine Plan.tY ?_ | refine Plan.pN ?_ | refine Plan.pU ?_ | fail)
  refine Plan.step ?_
  go_wp2_with fail
  refine ⟨?_, ?_⟩
  (·go_simp)
  refine Plan.fin ?_
  have HX : Hid (∃ w5, w5 = (((w3.drewN (nq + 1)).setCell ⟨n, 12, none⟩ (.int .i64 0)).setCell ⟨n, 13, none⟩ (.int .i64 m.frm)).setCell ⟨n, 20, none⟩ (.int .i64 0) ∧ CoreAt w5 B n (followD c1 m) lv sv ∧ Keeps [n] w w5) := by
   have k5 : Keeps [n] w3 ((((w3.drewN (nq + 1)).setCell ⟨n, 12, none⟩ (.int .i64 0)).setCell ⟨n, 13, none⟩ (.int .i64 m.frm)).setCell ⟨n, 20, none⟩ (.int .i64 0)) := by exact Keeps.K
   exact ⟨_, rfl, C3.out.wrote k5 ((((C3.out.k (((Keeps.refl [] w3).drewN (nq + 1)))).blk.set (c' := { c1 with role := 0 }) 12 _ rfl).set (c' := { c1 with role := 0, leader := m.frm }) 13 _ rfl).set 20 _ rfl) rfl rfl (followD_ok C3.out.ok m), K3.out.trans k5 (fun _ _ h => h)⟩
  go_wp2_with fail
  obtain ⟨w5, hw5, hc5, hk5⟩ := HX.out
  rw [← hw5]
  have K5 := hid hk5
  clear hw5 HX
  refine (HH2.out w5 hc5 (HL.out.keep K5.out (fun b hb hb' => by simp at hb'; exact hb.1 hb')) (HD.out.keep K5.out (fun b hb hb' => by simp at hb'; exact hb.1 hb'))).mono ?_
  rintro e w6 hp
  obtain ⟨a, q, lv', sv', rfl, hp2⟩ := CallPost.after K5.out hp
  have HP := hid hp2
  clear hp hp2 hc5 hk5
  go_wp2_with fail
  go_ret
  rw [HE.out, HR.out]
  exact ⟨a, q, lv', sv', rfl, HP.out⟩
 ·have gs : decide (c.term < m.term) = false := by simpa using hs
  have HS := hid hs
  clear hs
  skip
  go_enter Tryz.func21, Tryz.ntmps21
  go_wp2_with fail
  refine (wrong_is false _ B n c lv sv m ea da ec dc (Off n lv) (H.out.k ((Keeps.refl [] w).alloc _)) (HL.out.k ((Keeps.refl [] w).alloc _)) HW.out).mono ?_
  rintro e w1 ⟨rfl, hk⟩
  have HK : Hid (Keeps [] w w1) := Keeps.trans (by exact Keeps.K) hk (fun _ _ h => h)
  have HB1 : Hid (w1.heap[w.heap.size]? = some (.cells #[.int .i64 m.kind, .int .i64 m.frm, .int .i64 m.«to», .int .i64 m.term, .int .i64 m.a, .int .i64 m.b, .int .i64 m.c, .bool m.ok, .slice ea m.entries.length ec, .slice da m.data.length dc] 30 (0, 0))) := (hk.block w.heap.size (by simp) (by simp)).trans (heap_alloc_new w _)
  have hz1 : w.heap.size < w1.heap.size := (Array.getElem?_eq_some_iff.1 HB1.out).1
  have x10 : w1.cell? ⟨n, 10, none⟩ = some (.int .i64 c.term) := (H.out.k HK.out).blk.cell 10
  obtain ⟨⟨c0, c1', c2, c3, c4, c5, c6, c7, c8, c9⟩, f3⟩ := blk10 HB1.out
  clear hk h10
  go_wp2_with fail
  go_quiet (fail)
  have HX : Hid (∃ w3, w3 = w1.drewN nq ∧ CoreAt w3 B n c1 lv sv ∧ Keeps [n] w w3 ∧ w3.heap[w.heap.size]? = some (.cells #[.int .i64 m.kind, .int .i64 m.frm, .int .i64 m.«to», .int .i64 m.term, .int .i64 m.a, .int .i64 m.b, .int .i64 m.c, .bool m.ok, .slice ea m.entries.length ec, .slice da m.data.length dc] 30 (0, 0))) := ⟨_, rfl, by rw [← HS0.out HS.out]; exact H.out.k (by have kk := HK.out; exact Keeps.K), Keeps.mono (F := []) (by have kk := HK.out; exact Keeps.K) (fun _ _ h => by cases h), HB1.out⟩
  obtain ⟨w3, hw3, hc3, hk3, hb3⟩ := HX.out
  rw [← hw3]
  have HB3 := hid hb3
  have hnz : n ≠ w.heap.size := by omega
  clear hw3 HX hb3
  clear c0 c1' c2 c3 c4 c5 c6 c7 c8 c9 f3
  clear x10
  obtain ⟨⟨c0, c1', c2, c3, c4, c5, c6, c7, c8, c9⟩, f3⟩ := blk10 HB3.out
  have y10 : w3.cell? ⟨n, 10, none⟩ = some (.int .i64 c1.term) := hc3.blk.cell 10
  have y12 : w3.cell? ⟨n, 12, none⟩ = some (.int .i64 c1.role) := hc3.blk.cell 12
  have y13 : w3.cell? ⟨n, 13, none⟩ = some (.int .i64 c1.leader) := hc3.blk.cell 13
  have y20 : w3.cell? ⟨n, 20, none⟩ = some (.int .i64 c1.patience) := hc3.blk.cell 20
  have fz : ∀ i, w3.frozen? ⟨n, i, none⟩ = false := fun i => hc3.blk.free i
  have hz3 : w.heap.size < w3.heap.size := (Array.getElem?_eq_some_iff.1 HB3.out).1
  have C3 := hid hc3
  have K3 := hid hk3
  clear hc3 hk3 hz1
  go_wp2_with fail
  go_quiet (fail)
  go_wp2_with fail
  refine Plan.wp_region_plan (fun wx => wx.cell? ⟨w.heap.size, 0, none⟩ = some (.int .i64 m.kind) ∧ wx.cell? ⟨w.heap.size, 1, none⟩ = some (.int .i64 m.frm) ∧ wx.cell? ⟨w.heap.size, 2, none⟩ = some (.int .i64 m.«to») ∧ wx.cell? ⟨w.heap.size, 3, none⟩ = some (.int .i64 m.term) ∧ wx.cell? ⟨w.heap.size, 4, none⟩ = some (.int .i64 m.a) ∧ wx.cell? ⟨w.heap.size, 5, none⟩ = some (.int .i64 m.b) ∧ wx.cell? ⟨w.heap.size, 6, none⟩ = some (.int .i64 m.c) ∧ wx.cell? ⟨w.heap.size, 7, none⟩ = some (.bool m.ok) ∧ wx.cell? ⟨w.heap.size, 8, none⟩ = some (.slice ea m.entries.length ec) ∧ wx.cell? ⟨w.heap.size, 9, none⟩ = some (.slice da m.data.length dc)) 11 [(true, 0), (true, 1), (true, 2), (true, 3), (true, 4), (true, 5), (true, 6), (false, 7), (true, 8), (true, 9), (false, 10)] (by kernel_rfl) (by as_aux_lemma => kernel_rfl) (by kernel_rfl) (fun _ _ _ _ _ h => h) ?_ (fun hS => ?_)
  (·go_simp)
  simp only [Plan.pick, List.append_eq, List.cons_append, List.nil_append, Plan.g1, Plan.g2, Option.getD_some, List.drop_succ_cons, List.drop_zero]
  iterate 7 (first | refine Plan.tA ?_ | refine Plan.tY ?_ | refine Plan.pN ?_ | refine Plan.pU ?_ | fail)
  refine Plan.step ?_
  go_wp2_with fail
  refine ⟨?_, ?_⟩
  (·go_simp)
  iterate 2 (first | refine Plan.tA ?_ | refine Plan.tY ?_ | refine Plan.pN ?_ | refine Plan.pU ?_ | fail)
  refine Plan.step ?_
  go_wp2_with fail
  refine ⟨?_, ?_⟩
  (·go_simp)
  refine Plan.fin ?_
  have HX : Hid (∃ w5, w5 = (((w3.drewN (nq + 1)).setCell ⟨n, 12, none⟩ (.int .i64 0)).setCell ⟨n, 13, none⟩ (.int .i64 m.frm)).setCell ⟨n, 20, none⟩ (.int .i64 0) ∧ CoreAt w5 B n (followD c1 m) lv sv ∧ Keeps [n] w w5) := by
   have k5 : Keeps [n] w3 ((((w3.drewN (nq + 1)).setCell ⟨n, 12, none⟩ (.int .i64 0)).setCell ⟨n, 13, none⟩ (.int .i64 m.frm)).setCell ⟨n, 20, none⟩ (.int .i64 0)) := by exact Keeps.K
   exact ⟨_, rfl, C3.out.wrote k5 ((((C3.out.k (((Keeps.refl [] w3).drewN (nq + 1)))).blk.set (c' := { c1 with role := 0 }) 12 _ rfl).set (c' := { c1 with role := 0, leader := m.frm }) 13 _ rfl).set 20 _ rfl) rfl rfl (followD_ok C3.out.ok m), K3.out.trans k5 (fun _ _ h => h)⟩
  go_wp2_with fail
  obtain ⟨w5, hw5, hc5, hk5⟩ := HX.out
  rw [← hw5]
  have K5 := hid hk5
  clear hw5 HX
  refine (HH2.out w5 hc5 (HL.out.keep K5.out (fun b hb hb' => by simp at hb'; exact hb.1 hb')) (HD.out.keep K5.out (fun b hb hb' => by simp at hb'; exact hb.1 hb'))).mono ?_
  rintro e w6 hp
  obtain ⟨a, q, lv', sv', rfl, hp2⟩ := CallPost.after K5.out hp
  have HP := hid hp2
  clear hp hp2 hc5 hk5
  go_wp2_with fail
  go_ret
  rw [HE.out, HR.out]
  exact ⟨a, q, lv', sv', rfl, HP.out⟩
theorem answer_is (w : World) (B n : Nat) (c : CoreD) (lv sv : Value) (m : MsgD) (ea da : Option Addr) (ec dc : Nat) (ok : Bool) (a b : Int) (hab : a = b) (h : CoreAt w B n c lv sv) :
 Calls Tryz.prog 70 #[.pointer (some ⟨n, 0, none⟩), msgV m (.slice ea m.entries.length ec) (.slice da m.data.length dc), .bool ok, .int .i64 a] w (MsgsPost (answerD c m ok b) w) := by
 subst hab
 exact answer_any w B n c lv sv m ea da ec dc ok a h
end Go.Proofs.YtgjiahilbmeaeaaGreatDoor