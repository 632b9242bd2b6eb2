/- Joined of CoreK, CoreY, CoreL, ChanA, DkA, NdK. -/
import Derived.Test.YtgjiahilbmeaeaaGreatDoorQ05
import Derived.Test.YtgjiahilbmeaeaaGreatDoorQ03
import Derived.Test.YtgjiahilbmeaeaaGreatDoorQ01
import Derived.Maps.OwnSet
import Derived.Maps.Ext
set_option maxRecDepth 100000
set_option maxHeartbeats 6400000
set_option linter.unusedSimpArgs false
set_option linter.unusedVariables false
/- wrong, the entries. (Printed by gen_wrong.py.) -/
namespace Go.Proofs.YtgjiahilbmeaeaaGreatDoor
open Go Go.RowKit
theorem wrong_body (w : World) (B n : Nat) (c : CoreD) (lv sv : Value) (m : MsgD) (ea da : Option Addr) (ec dc : Nat) (h : CoreAt w B n c lv sv) (P : Nat → Prop) (hl : ListAt entL w P (.slice ea m.entries.length ec) m.entries) (hw : wrongHead c m = false) :
 Calls Tryz.prog 65 #[.pointer (some ⟨n, 0, none⟩), msgV m (.slice ea m.entries.length ec) (.slice da m.data.length dc)] w fun e w' => e = .returned (.bool (wrongD c m)) ∧ Keeps [] w w' := by
 have h0 : w.cell? ⟨n, 0, none⟩ = some (.int .i64 c.conf.nodes) := h.blk.cell 0
 have h9 : w.cell? ⟨n, 9, none⟩ = some (.int .i64 c.id) := h.blk.cell 9
 have hlt := h.blk.lt
 have HW0 := hid hw
 have HLA := hid hl
 obtain ⟨⟨k1, k5⟩, e2, hf, e4, h5, h6, h7, h8, h9l⟩ := wrongHead_no hw
 have hb0 : decide (m.kind < 1) = false := by simpa using k1
 have hb1 : decide (5 < m.kind) = false := by simpa using k5
 have hb2 : (m.«to» != c.id) = false := by simpa using e2
 have hb4 : (m.frm == c.id) = false := by simpa using e4
 have F3 : Hid (inD m.frm 1 c.conf.nodes = true) := by show _ = _; simp [inD, hf]
 have F5 : Hid (inD m.term 1 1099511627776 = true) := by show _ = _; simp [inD, h5]
 have F6 : Hid (inD m.a 0 1099511627776 = true) := by show _ = _; simp [inD, h6]
 have F7 : Hid (inD m.b 0 1099511627776 = true) := by show _ = _; simp [inD, h7]
 have F8 : Hid (inD m.c 0 1099511627776 = true) := by show _ = _; simp [inD, h8]
 have hlen : (m.entries.length : Int) ≤ 8 := by omega
 clear h hl hw k1 k5 e2 hf e4 h5 h6 h7 h8 h9l
 unfold msgV
 go_enter Tryz.func65, Tryz.ntmps65
 go_wp2_with fail
 refine Plan.wp_region_plan (fun wx => wx.cell? ⟨w.heap.size, 0, none⟩ = some (.int .i64 m.kind) ∧ wx.cell? ⟨w.heap.size, 1, none⟩ = some (.int .i64 m.frm) ∧ wx.cell? ⟨w.heap.size, 2, none⟩ = some (.int .i64 m.«to») ∧ wx.cell? ⟨n, 9, none⟩ = some (.int .i64 c.id) ∧ wx.cell? ⟨n, 0, none⟩ = some (.int .i64 c.conf.nodes)) 35 [(true, 0), (true, 1), (true, 2), (true, 3), (true, 4), (true, 5), (true, 6), (true, 7), (true, 8), (true, 9), (true, 10), (true, 11), (true, 12), (true, 13), (true, 14), (true, 15), (true, 16), (true, 17), (true, 18), (true, 19), (true, 20), (true, 21), (true, 22), (true, 23), (true, 24), (false, 25), (true, 26), (true, 27), (true, 28), (true, 29), (true, 30), (true, 31), (true, 32), (true, 33), (true, 34)] (by kernel_rfl) (by as_aux_lemma => kernel_rfl) (by kernel_rfl) (fun _ _ _ _ _ h => h) ?_ (fun hS => ?_)
 (·go_simp)
 simp only [Plan.pick, List.append_eq, List.cons_append, List.nil_append, Plan.g1, Plan.g2, Option.getD_some, List.drop_succ_cons, List.drop_zero]
 iterate 25 (first | refine Plan.tA ?_ | refine Plan.tY ?_ | refine Plan.pN ?_ | refine Plan.pU ?_ | fail)
 refine Plan.step ?_
 go_wp2_with fail
 refine (cin_is true _ _ _ _ F3.out).mono ?_
 rintro e w' ⟨rfl, hw'⟩
 subst hw'
 go_wp2_with fail
 refine ⟨?_, ?_⟩
 (·go_simp)
 iterate 9 (first | refine Plan.tA ?_ | refine Plan.tY ?_ | refine Plan.pN ?_ | refine Plan.pU ?_ | fail)
 refine Plan.fin ?_
 go_wp2_with fail
 refine (cin_is true _ _ _ _ F5.out).mono ?_
 rintro e w' ⟨rfl, hw'⟩
 subst hw'
 go_wp2_with fail
 refine (cin_is true _ _ _ _ F6.out).mono ?_
 rintro e w' ⟨rfl, hw'⟩
 subst hw'
 go_wp2_with fail
 refine (cin_is true _ _ _ _ F7.out).mono ?_
 rintro e w' ⟨rfl, hw'⟩
 subst hw'
 go_wp2_with fail
 refine (cin_is true _ _ _ _ F8.out).mono ?_
 rintro e w' ⟨rfl, hw'⟩
 subst hw'
 go_wp2_with fail
 have HZ : Hid (∀ k, k < m.entries.length → ∃ e, m.entries[k]? = some e) := fun k hk => ⟨m.entries[k], List.getElem?_eq_getElem hk⟩
 go_loopw [77] (fun i wr => ∃ k : Nat, k ≤ m.entries.length ∧ i = .int .i64 k ∧ wr.cell? ⟨w.heap.size, 3, none⟩ = some (.int .i64 m.term) ∧ Hid (Keeps [] w wr ∧ ∀ e ∈ m.entries.take k, inD e.term 1 m.term = true)) (fun i _ => m.entries.length - (intOf i).toNat)
 case atStart => exact ⟨0, Nat.zero_le _, rfl, by go_simp, by exact Keeps.K, by simp⟩
 case round =>
  obtain ⟨k, hk, rfl, hb3, HW⟩ := hrel
  have i0 : (0 : Int) ≤ (k : Int) := Int.natCast_nonneg _
  by_cases hlt' : k < m.entries.length
  ·have i1 : (k : Int) < (m.entries.length : Int) := by omega
   obtain ⟨e, he⟩ := HZ.out k hlt'
   obtain ⟨g, off, cg, ha, hcg, hcm, hgl, hgP⟩ := (HLA.out.k HW.out.1).addr (fun hn => by rw [hn] at hlt'; simp at hlt')
   simp at ha
   obtain ⟨ha, hcc⟩ := ha
   subst ha
   subst hcc
   obtain ⟨cs, ⟨v, rfl, hbv⟩, hcs⟩ := (HLA.out.k HW.out.1).get he
   have y0 : wr.cell? ⟨g, off + k * 3, none⟩ = some (.int .i64 e.term) := hcs 0 _ rfl
   have y1 : wr.cell? ⟨g, off + k * 3 + 1, none⟩ = some (.bool e.cmd) := hcs 1 _ rfl
   have y2 : wr.cell? ⟨g, off + k * 3 + 2, none⟩ = some v := hcs 2 _ rfl
   obtain ⟨va, vc, rfl⟩ := hbv.form
   have HE := hid he
   have hbz : w.heap.size < wr.heap.size := World.block_lt_of_cell? _ _ hb3
   clear hcs hbv he hcm hcg
   rcases hq : inD e.term 1 m.term with _ | _
   ·have HF : Hid (wrongD c m = true) := by
     show _ = _
     unfold wrongD
     rw [HW0.out]
     simp only [Bool.false_or, List.any_eq_true]
     exact ⟨e, List.mem_of_getElem? HE.out, by simp [hq]⟩
    have HQ := hid hq
    clear hq
    go_wp2_with fail
    refine (cin_is false _ _ _ _ HQ.out).mono ?_
    rintro z w3 ⟨rfl, hw3⟩
    subst hw3
    go_wp2_with fail
    go_ret
    exact ⟨ret_bool HF.out.symm, HW.out.1.alloc _⟩
   ·have HQ := hid hq
    clear hq
    have HT : Hid (∀ x ∈ m.entries.take (k + 1), inD x.term 1 m.term = true) := by
     show ∀ _, _
     rw [List.take_add_one, HE.out]
     intro x hx
     rcases List.mem_append.1 hx with hx | hx
     ·exact HW.out.2 x hx
     ·simp at hx; subst hx; exact HQ.out
    go_wp2_with fail
    refine (cin_is true _ _ _ _ HQ.out).mono ?_
    rintro z w3 ⟨rfl, hw3⟩
    subst hw3
    go_wp2_with fail
    go_roundw
    case rel => exact ⟨k + 1, by omega, by go_num, by go_simp, HW.out.1.alloc _, HT.out⟩
    case measure => simp [intOf]; omega
  ·have hkn : k = m.entries.length := by omega
   have HF : Hid (wrongD c m = false) := by
    show _ = _
    have h2 := HW.out.2
    rw [hkn, List.take_of_length_le (Nat.le_refl _)] at h2
    unfold wrongD
    rw [HW0.out]
    simp only [Bool.false_or, List.any_eq_false]
    intro x hx
    simp [h2 x hx]
   have hge : (m.entries.length : Int) ≤ (k : Int) := by omega
   clear hkn
   go_wp2_with fail
   go_ret
   exact ⟨ret_bool HF.out.symm, HW.out.1⟩
theorem wrong_any (w : World) (B n : Nat) (c : CoreD) (lv sv : Value) (m : MsgD) (ea da : Option Addr) (ec dc : Nat) (P : Nat → Prop) (h : CoreAt w B n c lv sv) (hl : ListAt entL w P (.slice ea m.entries.length ec) m.entries) :
 Calls Tryz.prog 65 #[.pointer (some ⟨n, 0, none⟩), msgV m (.slice ea m.entries.length ec) (.slice da m.data.length dc)] w fun e w' => e = .returned (.bool (wrongD c m)) ∧ Keeps [] w w' := by
 cases hw : wrongHead c m with
 | true =>
   have e : wrongD c m = true := by unfold wrongD; rw [hw]; rfl
   rw [e]
   exact wrong_head w B n c lv sv m ea da ec dc h hw
 | false => exact wrong_body w B n c lv sv m ea da ec dc h P hl hw
theorem wrong_is (r : Bool) (w : World) (B n : Nat) (c : CoreD) (lv sv : Value) (m : MsgD) (ea da : Option Addr) (ec dc : Nat) (P : Nat → Prop) (h : CoreAt w B n c lv sv) (hl : ListAt entL w P (.slice ea m.entries.length ec) m.entries) (hr : wrongD c m = r) :
 Calls Tryz.prog 65 #[.pointer (some ⟨n, 0, none⟩), msgV m (.slice ea m.entries.length ec) (.slice da m.data.length dc)] w fun e w' => e = .returned (.bool r) ∧ Keeps [] w w' := by
 rw [← hr]
 exact wrong_any w B n c lv sv m ea da ec dc P h hl
def FreshMsgs (w w' : World) (v : Value) (l : List MsgD) : Prop := OwnAt msgL 30 w' w.heap.size (fun b => w.heap.size ≤ b ∧ b ∉ ownB v) v l
def MsgsPost (l : List MsgD) (w : World) (e : Ending) (w' : World) : Prop := ∃ a q, e = .returned (.slice a l.length q) ∧ FreshMsgs w w' (.slice a l.length q) l ∧ Keeps [] w w'
def MsgsAt (w w' : World) (n : Nat) (lv v : Value) (l : List MsgD) : Prop :=
 OwnAt msgL 30 w' w.heap.size (fun b => (w.heap.size ≤ b ∧ Off n lv b) ∧ b ∉ ownB v) v l ∧ ∀ b ∈ ownB v, Off n lv b
def CallPost (B n : Nat) (lv : Value) (r : CoreD × List MsgD) (w : World) (e : Ending) (w' : World) : Prop :=
 ∃ a q lv' sv', e = .returned (.slice a r.2.length q) ∧ CoreAt w' B n r.1 lv' sv' ∧ MsgsAt w w' n lv' (.slice a r.2.length q) r.2 ∧ Keeps (n :: ownB lv) w w' ∧ ∀ b ∈ ownB lv', b ∈ ownB lv ∨ w.heap.size ≤ b
theorem MsgsAt.nil (w w' : World) (n : Nat) (lv : Value) : MsgsAt w w' n lv (.slice none 0 0) [] := ⟨OwnAt.nil _ _ _ _, fun b hb => by simp [mem_ownB, Value.ownBlock] at hb⟩
theorem MsgsAt.ofFresh {w wm w' : World} {B n : Nat} {c : CoreD} {lv sv v : Value} {l : List MsgD} (hc : CoreAt wm B n c lv sv) (hz : w.heap.size ≤ wm.heap.size) (h : FreshMsgs wm w' v l) : MsgsAt w w' n lv v l := by
 have off : ∀ b, wm.heap.size ≤ b → Off n lv b := fun b hb => by
  refine ⟨fun e => ?_, fun e => ?_⟩
  ·have := hc.lt n (by simp); omega
  ·have := hc.lt b (by simp [e]); omega
 exact ⟨(OwnAt.base h hz).mono (fun b _ hb => ⟨⟨Nat.le_trans hz hb.1, off b hb.1⟩, hb.2⟩), fun b hb => off b (OwnAt.ge h b hb).1⟩
theorem MsgsAt.list {w w' : World} {n : Nat} {lv v : Value} {l : List MsgD} (h : MsgsAt w w' n lv v l) : ListAt msgL w' (fun b => w.heap.size ≤ b ∧ Off n lv b) v l :=
 OwnAt.list h.1 (fun _ _ hb => hb.1) (fun b hb => ⟨(OwnAt.ge h.1 b hb).1, h.2 b hb⟩)
theorem CallPost.tellsOf {B n : Nat} {lv lv' sv : Value} {r : CoreD × List MsgD} {w wm w' : World} {e : Ending} (h : CoreAt wm B n r.1 lv' sv) (k : Keeps (n :: ownB lv) w wm) (hv : ∀ b ∈ ownB lv', b ∈ ownB lv ∨ w.heap.size ≤ b) (hp : MsgsPost r.2 wm e w') : CallPost B n lv r w e w' := by
 obtain ⟨a, q, he, hf, hk⟩ := hp
 exact ⟨a, q, lv', sv, he, h.k hk, MsgsAt.ofFresh h k.size hf, k.trans hk (fun b h1 h2 => by cases h2), hv⟩
theorem CallPost.tells {B n : Nat} {lv sv : Value} {r : CoreD × List MsgD} {w wm w' : World} {e : Ending} (h : CoreAt wm B n r.1 lv sv) (k : Keeps (n :: ownB lv) w wm) (hp : MsgsPost r.2 wm e w') : CallPost B n lv r w e w' := CallPost.tellsOf h k (fun _ h => .inl h) hp
theorem msgs_one {w w1 : World} {m : MsgD} {ev dv : Value} (k : Keeps [] w w1) (he : ListAt entL w1 (fun b => w.heap.size ≤ b) ev m.entries) (hd : BytesAt w1 (fun b => w.heap.size ≤ b) dv m.data) :
 MsgsPost [m] w (.returned (.slice (some ⟨w1.heap.size, 0, none⟩) 1 1)) (w1.alloc (.cells #[.int .i64 m.kind, .int .i64 m.frm, .int .i64 m.«to», .int .i64 m.term, .int .i64 m.a, .int .i64 m.b, .int .i64 m.c, .bool m.ok, ev, dv] 30)) := by
 have k1 : Keeps [] w1 (w1.alloc (.cells #[.int .i64 m.kind, .int .i64 m.frm, .int .i64 m.«to», .int .i64 m.term, .int .i64 m.a, .int .i64 m.b, .int .i64 m.c, .bool m.ok, ev, dv] 30)) := (Keeps.refl _ _).alloc _
 have e1 := (he.mono (P' := fun b => w.heap.size ≤ b ∧ b < w1.heap.size) (fun b h1 h2 => ⟨h2, h1⟩)).k k1
 have d1 := (hd.mono (P' := fun b => w.heap.size ≤ b ∧ b < w1.heap.size) (fun b h1 h2 => ⟨h2, h1⟩)).k k1
 have hb : ∀ b, b ∈ ownB (.slice (some ⟨w1.heap.size, 0, none⟩) 1 1) → b = w1.heap.size := fun b hb => by simpa [mem_ownB, Value.ownBlock, eq_comm] using hb
 have hP : ∀ b, w.heap.size ≤ b ∧ b < w1.heap.size → w.heap.size ≤ b ∧ b ∉ ownB (.slice (some ⟨w1.heap.size, 0, none⟩) 1 1) := fun b h => ⟨h.1, fun h2 => by have := hb b h2; omega⟩
 refine ⟨_, _, rfl, ⟨[[.int .i64 m.kind, .int .i64 m.frm, .int .i64 m.«to», .int .i64 m.term, .int .i64 m.a, .int .i64 m.b, .int .i64 m.c, .bool m.ok, ev, dv]], ElemsAt.one1 ⟨ev, dv, rfl, e1.mono (fun b _ h => hP b h), d1.mono (fun b _ h => hP b h)⟩, ?_⟩, k.trans k1 (fun _ _ h => h)⟩
 exact World.ownsRow_lit (size := 10) w1 _ 1 k.size (le_maxLen (by omega)) rfl
theorem answer_any (w : World) (B n : Nat) (c : CoreD) (lv sv : Value) (m : MsgD) (ea da : Option Addr) (ec dc : Nat) (ok : Bool) (a : Int) (h : CoreAt w B n c lv sv) :
 Calls Tryz.prog 70 #[.pointer (some ⟨n, 0, none⟩), msgV m (.slice ea m.entries.length ec) (.slice da m.data.length dc), .bool ok, .int .i64 a] w (MsgsPost (answerD c m ok a) w) := by
 unfold msgV answerD
 have h9 : w.cell? ⟨n, 9, none⟩ = some (.int .i64 c.id) := h.blk.cell 9
 have h10 : w.cell? ⟨n, 10, none⟩ = some (.int .i64 c.term) := h.blk.cell 10
 have hlt := h.blk.lt
 have HM : Hid (∀ w1, Keeps [] w w1 → MsgsPost [saysD c { msg0 with kind := 4, ok := ok, a := a } m.frm] w (.returned (.slice (some ⟨w1.heap.size, 0, none⟩) 1 1)) (w1.alloc (.cells #[.int .i64 4, .int .i64 c.id, .int .i64 m.frm, .int .i64 c.term, .int .i64 a, .int .i64 0, .int .i64 0, .bool ok, .slice none 0 0, .slice none 0 0] 30))) := fun w1 k =>
  msgs_one (m := saysD c { msg0 with kind := 4, ok := ok, a := a } m.frm) k (ListAt.nil _ _ _ _) (BytesAt.nil _ _ _ _)
 clear h
 go_enter Tryz.func70, Tryz.ntmps70
 go_wp2_with fail
 refine (says_any _ n c.id c.term _ _ _ _ _ _ _ _ _ _ _ _ _ _ _ ?_ ?_ ?_).mono ?_
 (·go_simp)
 (·go_simp)
 (·simp; omega)
 rintro e w2 ⟨rfl, hk⟩
 have HK : Hid (Keeps [] w w2) := Keeps.trans (by exact Keeps.K) hk (fun _ _ h => h)
 clear hk
 go_wp2_with fail
 go_ret
 exact HM.out _ HK.out
theorem cAt_is (w : World) (B n : Nat) (c : CoreD) (lv sv : Value) (h : CoreAt w B n c lv sv) (i t : Int) (ok : Bool) (b1 : -4611686018427387904 ≤ i) (b2 : i ≤ 4611686018427387904) (hi : atD c i = (t, ok)) : Calls Tryz.prog 136 #[.pointer (some ⟨n, 0, none⟩), .int .i64 i] w fun e w' => e = .returned (.tuple #[.int .i64 t, .bool ok]) ∧ ∃ k, w' = w.drewN k := by
 have := cAt_any w B n c lv sv h i b1 b2
 rw [hi] at this
 exact this
theorem changesD_ok {c : CoreD} (h : CoreOk c) : CoreOk { c with hard := false, frm := 0, tsnap := false } :=
 { may := h.may, id := h.id, term := h.term, base := h.base, baseTerm := h.baseTerm, len := h.len, last := h.last, commit := h.commit, draw := h.draw, votes := h.votes, next := h.next, matc := h.matc, nexts := h.nexts, matcs := h.matcs, ents := h.ents, frm := by show (0:Int) ≤ 0 ∧ (0:Int) ≤ _; omega, data := h.data, snap := h.snap }
def ChangesPost (B n : Nat) (c : CoreD) (lv sv : Value) (w : World) (e : Ending) (w' : World) : Prop :=
 e = .returned (.agg #[.bool (changesD c).2.1, .int .i64 (changesD c).2.2.1, .bool (changesD c).2.2.2]) ∧ CoreAt w' B n (changesD c).1 lv sv ∧ Keeps [n] w w'
theorem changes_any (w : World) (B n : Nat) (c : CoreD) (lv sv : Value) (h : CoreAt w B n c lv sv) : Calls Tryz.prog 41 #[.pointer (some ⟨n, 0, none⟩)] w (ChangesPost B n c lv sv w) := by
 have h15 : w.cell? ⟨n, 15, none⟩ = some (.int .i64 c.base) := h.blk.cell 15
 have tg := tail_get c h.ok.votes h.ok.next h.ok.matc
 have h45 : w.cell? ⟨n, 45, none⟩ = some (.bool c.hard) := (h.blk.cell (21 + 24)).trans ((get21 _ _ _ 24).trans tg.1)
 have h46 : w.cell? ⟨n, 46, none⟩ = some (.int .i64 c.frm) := (h.blk.cell (21 + 25)).trans ((get21 _ _ _ 25).trans tg.2.1)
 have h47 : w.cell? ⟨n, 47, none⟩ = some (.bool c.tsnap) := (h.blk.cell (21 + 26)).trans ((get21 _ _ _ 26).trans tg.2.2)
 have fz : ∀ j, w.frozen? ⟨n, j, none⟩ = false := fun j => h.blk.free j
 have hlt := h.blk.lt
 have hnz : n ≠ w.heap.size := by omega
 have hnz1 : n ≠ w.heap.size + 1 := by omega
 have hbs := h.ok.base
 have hcm := h.ok.commit
 have hls := h.ok.last
 have hfr := h.ok.frm
 have b0 : 0 ≤ c.base := hbs.1
 have b1 : c.base ≤ 2199023255552 := by omega
 have wr1 : IntKind.i64.wrap (c.base + 1) = c.base + 1 := IntWalk.i64_in _ (by omega)
 have H := hid h
 have HF : Hid (∀ wx, Keeps [] w wx → CoreAt (((wx.setCell ⟨n, 45, none⟩ (.bool false)).setCell ⟨n, 46, none⟩ (.int .i64 0)).setCell ⟨n, 47, none⟩ (.bool false)) B n (changesD c).1 lv sv ∧ Keeps [n] w (((wx.setCell ⟨n, 45, none⟩ (.bool false)).setCell ⟨n, 46, none⟩ (.int .i64 0)).setCell ⟨n, 47, none⟩ (.bool false))) := fun wx k0 => by
  have k1 : Keeps [n] wx (((wx.setCell ⟨n, 45, none⟩ (.bool false)).setCell ⟨n, 46, none⟩ (.int .i64 0)).setCell ⟨n, 47, none⟩ (.bool false)) := by exact Keeps.K
  refine ⟨(h.k k0).wrote k1 ((((h.k k0).blk.set (c' := { c with hard := false }) (lv' := lv) (sv' := sv) (21 + 24) _ ?_).set (c' := { c with hard := false, frm := 0 }) (lv' := lv) (sv' := sv) (21 + 25) _ ?_).set (21 + 26) _ ?_) rfl rfl (changesD_ok h.ok), (k0.mono (G := [n]) (fun _ _ h => by cases h)).trans k1 (fun _ _ h => h)⟩
  ·rw [set21, tail_hard c h.ok.votes h.ok.next h.ok.matc]; rfl
  ·rw [set21, tail_frm { c with hard := false } h.ok.votes h.ok.next h.ok.matc]; rfl
  ·rw [set21, tail_tsnap { c with hard := false, frm := 0 } h.ok.votes h.ok.next h.ok.matc]; rfl
 by_cases hf : 0 < c.frm
 ·obtain ⟨F, hF⟩ : ∃ F, max c.frm (c.base + 1) = F := ⟨_, rfl⟩
  have HR : Hid ((changesD c).2.2.1 = F) := by show _ = _; unfold changesD; simp only []; rw [if_pos hf, hF]
  have HFF := hid hF
  clear h tg hbs hcm hls hfr hF
  go_enter Tryz.func41, Tryz.ntmps41
  go_wp2_with fail
  refine Plan.wp_region_plan (fun wx => wx.cell? ⟨w.heap.size + 1, 1, none⟩ = some (.int .i64 c.frm) ∧ wx.cell? ⟨n, 15, none⟩ = some (.int .i64 c.base)) 7 [(true, 0), (true, 1), (true, 2), (true, 3), (true, 4), (true, 5), (true, 6)] (by kernel_rfl) (by as_aux_lemma => kernel_rfl) (by kernel_rfl) (fun _ _ _ _ _ h => h) ?_ (fun hS => ?_)
  (·go_simp)
  simp only [Plan.pick, List.append_eq, List.cons_append, List.nil_append, Plan.g1, Plan.g2, Option.getD_some, List.drop_succ_cons, List.drop_zero]
  iterate 7 (first | refine Plan.tA ?_ | refine Plan.tY ?_ | refine Plan.pN ?_ | refine Plan.pU ?_ | fail)
  refine Plan.fin ?_
  go_wp2_with fail
  all_goals
   refine bodyPost_ret (v := .agg #[.bool c.hard, .int .i64 F, .bool c.tsnap]) ?_ rfl ?_
   (·have := HFF.out
     first
      | (rw [show F = c.base + 1 by omega]; simp [results, Tryz.results41, go_sem])
      | (rw [show F = c.frm by omega]; simp [results, Tryz.results41, go_sem]))
   refine ⟨?_, (HF.out w (Keeps.refl [] w)).1.k (by exact Keeps.K), (HF.out w (Keeps.refl [] w)).2.trans (G := []) (by exact Keeps.K) (fun _ _ h => by cases h)⟩
   rw [HR.out]
   rfl
 ·have hfz : c.frm ≤ 0 := by omega
  have HR : Hid ((changesD c).2.2.1 = c.frm) := by show _ = _; unfold changesD; simp only []; rw [if_neg hf]
  clear h tg hbs hcm hls hfr hf
  go_enter Tryz.func41, Tryz.ntmps41
  go_wp2_with fail
  refine bodyPost_ret (v := .agg #[.bool c.hard, .int .i64 c.frm, .bool c.tsnap]) (by simp [results, Tryz.results41, go_sem]) rfl ?_
  refine ⟨?_, (HF.out w (Keeps.refl [] w)).1.k (by exact Keeps.K), (HF.out w (Keeps.refl [] w)).2.trans (G := []) (by exact Keeps.K) (fun _ _ h => by cases h)⟩
  rw [HR.out]
  rfl
abbrev Nm := List UInt8
section
variable {α β : Type}
def getA (l : List (Nm × α)) (n : Nm) : Option α :=
 match l with
 | [] => none
 | (m, a) :: r => if m == n then some a else getA r n
def insA (x : Nm × α) : List (Nm × α) → List (Nm × α)
 | [] => [x]
 | y :: r => if bytesBefore x.1 y.1 = true then x :: y :: r else y :: insA x r
def delA (l : List (Nm × α)) (n : Nm) : List (Nm × α) := l.filter fun p => !(p.1 == n)
def putA (l : List (Nm × α)) (n : Nm) (a : α) : List (Nm × α) := insA (n, a) (delA l n)
def updA (l : List (Nm × α)) (n : Nm) (a : α) : List (Nm × α) := l.map fun p => if p.1 == n then (n, a) else p
def mapA (f : α → β) (l : List (Nm × α)) : List (Nm × β) := l.map fun p => (p.1, f p.2)
theorem getA_map (f : α → β) (n : Nm) : ∀ l : List (Nm × α), getA (mapA f l) n = (getA l n).map f
 | [] => rfl
 | (m, a) :: r => by
   have ih := getA_map f n r
   unfold mapA at ih ⊢
   simp only [List.map_cons, getA]
   rcases m == n with _ | _
   ·simpa using ih
   ·simp
theorem insA_map (f : α → β) (n : Nm) (a : α) : ∀ l : List (Nm × α), mapA f (insA (n, a) l) = insA (n, f a) (mapA f l)
 | [] => rfl
 | (m, b) :: r => by
   have ih := insA_map f n a r
   unfold mapA at ih ⊢
   simp only [List.map_cons, insA]
   split
   ·simp
   ·simp [ih]
theorem delA_map (f : α → β) (n : Nm) (l : List (Nm × α)) : mapA f (delA l n) = delA (mapA f l) n := by
 unfold mapA delA
 rw [List.filter_map]
 rfl
theorem putA_map (f : α → β) (n : Nm) (a : α) (l : List (Nm × α)) : mapA f (putA l n a) = putA (mapA f l) n (f a) := by
 unfold putA
 rw [insA_map, delA_map]
theorem updA_map (f : α → β) (n : Nm) (a : α) (l : List (Nm × α)) : mapA f (updA l n a) = updA (mapA f l) n (f a) := by
 unfold mapA updA
 simp only [List.map_map]
 congr 1
 funext p
 simp only [Function.comp]
 split <;> simp_all
theorem mem_insA {x : Nm × α} {l : List (Nm × α)} {p : Nm × α} : p ∈ insA x l ↔ p = x ∨ p ∈ l := by
 induction l with
 | nil => simp [insA]
 | cons y r ih =>
   unfold insA
   split
   ·simp
   ·simp only [List.mem_cons, ih]
    constructor
    ·rintro (h | h | h) <;> simp_all
    ·rintro (h | h | h) <;> simp_all
theorem mem_delA {l : List (Nm × α)} {n : Nm} {p : Nm × α} : p ∈ delA l n ↔ p ∈ l ∧ p.1 ≠ n := by
 unfold delA
 simp
theorem mem_putA {l : List (Nm × α)} {n : Nm} {a : α} {p : Nm × α} : p ∈ putA l n a ↔ p = (n, a) ∨ (p ∈ l ∧ p.1 ≠ n) := by
 unfold putA
 rw [mem_insA, mem_delA]
theorem getA_mem {n : Nm} {a : α} : ∀ {l : List (Nm × α)}, getA l n = some a → (n, a) ∈ l
 | [], h => by simp [getA] at h
 | (m, b) :: r, h => by
   unfold getA at h
   split at h
   ·rename_i hm
    simp at hm h
    subst hm h
    simp
   ·simp [getA_mem h]
theorem getA_none {n : Nm} : ∀ {l : List (Nm × α)}, getA l n = none ↔ ∀ p ∈ l, p.1 ≠ n
 | [] => by simp [getA]
 | (m, b) :: r => by
   unfold getA
   split
   ·rename_i hm
    simp at hm
    simp [hm]
   ·rename_i hm
    rw [getA_none]
    simp_all
end
def heldR (v : Value) : Option (DataW Value × List MemPlace) := some (.held v, [])
def fmV (l : List (Nm × Value)) : DataW Value := .map (l.map fun p => (.string p.1, .held p.2))
theorem ins_fm (n : Nm) (v : Value) : ∀ l : List (Nm × Value), DataW.insert (H := Value) (.string n, .held v) (l.map fun p => (Lit.string p.1, DataW.held p.2)) = (insA (n, v) l).map fun p => (Lit.string p.1, DataW.held p.2)
 | [] => rfl
 | (m, u) :: r => by
   have ih := ins_fm n v r
   have hb : (Lit.string n).before (Lit.string m) = bytesBefore n m := rfl
   simp only [List.map_cons, DataW.insert, insA, hb]
   split
   ·simp
   ·rw [ih]; simp
theorem del_fm (n : Nm) (l : List (Nm × Value)) : (l.map fun p => (Lit.string p.1, DataW.held (H := Value) p.2)).filter (fun p => !p.1.sameKey (.string n)) = (delA l n).map fun p => (Lit.string p.1, DataW.held p.2) := by
 unfold delA
 rw [List.filter_map]
 rfl
theorem fm_put (n : Nm) (v : Value) (l : List (Nm × Value)) : (fmV l).put (.string n) (.held v) = fmV (putA l n v) := by
 unfold fmV
 rw [DataW.put_eq]
 unfold ChangeMaps.putKey ChangeMaps.notKey putA
 rw [del_fm, ins_fm]
theorem fm_del (n : Nm) (l : List (Nm × Value)) : (fmV l).del (.string n) = fmV (delA l n) := by
 unfold fmV
 rw [DataW.del_eq]
 unfold ChangeMaps.delKey ChangeMaps.notKey
 rw [del_fm]
theorem fm_size (l : List (Nm × Value)) : Maps.size (fmV l) = l.length := by simp [fmV, Maps.size]
theorem fm_at (n : Nm) (z : Value) : ∀ l : List (Nm × Value), (fmV l).atKey (.string n) (.held z) = .held ((getA l n).getD z)
 | [] => by simp [fmV, DataW.atKey, getA]
 | (m, b) :: r => by
   have ih := fm_at n z r
   have hk : (Lit.string m).sameKey (Lit.string n) = (m == n) := rfl
   unfold fmV at ih ⊢
   simp only [List.map_cons, getA, DataW.atKey, List.find?_cons, hk] at ih ⊢
   rcases hb : m == n with _ | _
   ·simpa using ih
   ·simp
theorem fm_has (n : Nm) : ∀ l : List (Nm × Value), Maps.has (fmV l) (.string n) = (getA l n).isSome
 | [] => rfl
 | (m, b) :: r => by
   have ih := fm_has n r
   have hk : (Lit.string m).sameKey (Lit.string n) = (m == n) := rfl
   unfold fmV at ih ⊢
   rw [Maps.has_eq] at ih ⊢
   simp only [List.map_cons, List.any_cons, hk, getA, ih]
   rcases m == n <;> simp
theorem nameKeyed : Go.Maps.Keyed Tryz.prog 9 := Go.Maps.string_keyed Tryz.underlying9
theorem ownsFm_len {P : Program} {w : World} {b n : Nat} {l : List (Nm × Value)} {k : TypeId} (h : w.ownsMap P k heldR b n (fmV l)) : w.ownsMap P k heldR b l.length (fmV l) := by
 obtain ⟨es, c, hb, F, hs, hD⟩ := h
 refine ⟨es, c, hb, F, ?_, hD⟩
 have := congrArg Maps.size hD
 rw [fm_size] at this
 simp [Maps.size, length_sorted] at this
 omega
theorem ownsFm_keep {P : Program} {F : List Nat} {w w' : World} {b n : Nat} {D : DataW Value} {k : TypeId} (h : w.ownsMap P k heldR b n D) (hk : Keeps F w w') (hb : b ∉ F) : w'.ownsMap P k heldR b n D := by
 have hlt := h.lt
 obtain ⟨es, c, hb', F', hs, hD⟩ := h
 exact ⟨es, c, (hk.block b hlt hb).trans hb', F', hs, hD⟩
theorem fm_rising {w : World} {b n : Nat} {l : List (Nm × Value)} (h : w.ownsMap Tryz.prog 9 heldR b n (fmV l)) : l.Pairwise (fun p q => bytesBefore p.1 q.1 = true) := by
 obtain ⟨es, he, hp, _⟩ := h.canon nameKeyed
 unfold fmV at he
 cases he
 rw [List.pairwise_map] at hp
 exact hp
structure FileD where
 b : List UInt8
 sure : Nat
structure DiskD where
 room : Int
 files : List (Nm × FileD)
 calls : Int
 armed : Bool
 kind : Int
 after : Int
 off : Bool
def diskNew (room : Int) : DiskD := ⟨max 0 (min room 16777216), [], 0, false, 0, 0, false⟩
def dcall (d : DiskD) : DiskD × Int :=
 let c := { d with calls := d.calls + 1 }
 if d.off = true then (c, 19)
 else if d.armed = false then (c, 0)
 else if 0 < d.after then ({ c with after := d.after - 1 }, 0)
 else ({ c with armed := false, off := decide (d.kind = 19) }, d.kind)
def fnamedP (name : Nm) : Bool := decide (1 ≤ name.length ∧ name.length ≤ 32)
def usedD (d : DiskD) : Nat := (d.files.map fun p => p.2.b.length).sum
def dcreate (d : DiskD) (name : Nm) : DiskD × Int :=
 if (dcall d).2 ≠ 0 then dcall d
 else if fnamedP name = false then ((dcall d).1, 1)
 else if getA d.files name = none ∧ 64 ≤ d.files.length then ((dcall d).1, 2)
 else ({ (dcall d).1 with files := putA d.files name ⟨[], 0⟩ }, 0)
def dput (d : DiskD) (name : Nm) (f : FileD) (b : List UInt8) : DiskD × Int :=
 if d.room - (usedD d : Int) < (b.length : Int) then (d, 18) else ({ d with files := updA d.files name ⟨f.b ++ b, f.sure⟩ }, 0)
def dfind (d : DiskD) (name : Nm) : Option FileD := if fnamedP name = true then getA d.files name else none
def dmiss (name : Nm) : Int := if fnamedP name = true then 3 else 1
def dappend (d : DiskD) (name : Nm) (b : List UInt8) : DiskD × Int :=
 if (dcall d).2 ≠ 0 then
  (match (if d.off = false then dfind d name else none) with
   | none => dcall d
   | some f => ((dput (dcall d).1 name f (b.take (b.length / 2))).1, (dcall d).2))
 else match dfind d name with
  | none => ((dcall d).1, dmiss name)
  | some f => dput (dcall d).1 name f b
def dsync (d : DiskD) (name : Nm) : DiskD × Int :=
 if (dcall d).2 ≠ 0 then dcall d
 else match dfind d name with
  | none => ((dcall d).1, dmiss name)
  | some f => ({ (dcall d).1 with files := updA d.files name ⟨f.b, f.b.length⟩ }, 0)
def drename (d : DiskD) (old new : Nm) : DiskD × Int :=
 if (dcall d).2 ≠ 0 then dcall d
 else if fnamedP old = false ∨ fnamedP new = false then ((dcall d).1, 1)
 else match getA d.files old with
  | none => ((dcall d).1, 3)
  | some f => ({ (dcall d).1 with files := putA (delA d.files old) new f }, 0)
def dlist (d : DiskD) : List Nm := d.files.map (·.1)
theorem dcall_files (d : DiskD) : (dcall d).1.files = d.files ∧ (dcall d).1.room = d.room := by
 unfold dcall
 dsimp only
 split
 ·exact ⟨rfl, rfl⟩
 ·split
  ·exact ⟨rfl, rfl⟩
  ·split <;> exact ⟨rfl, rfl⟩
def diskRow (d : DiskD) (mp : Value) : Array Value := #[.int .i64 d.room, mp, .int .i64 d.calls, .bool d.armed, .int .i64 d.kind, .int .i64 d.after, .bool d.off]
theorem dkCall_any (w : World) (b : Nat) (d : DiskD) (mp : Value) (h : w.heap[b]? = some (.cells (diskRow d mp) 89 (0, 0))) (hc : 0 ≤ d.calls ∧ d.calls ≤ 1099511627776) (ha : 0 ≤ d.after ∧ d.after ≤ 1099511627776) :
 Calls Tryz.prog 154 #[.pointer (some ⟨b, 0, none⟩)] w fun e w' => e = .returned (.int .i64 (dcall d).2) ∧ w'.heap[b]? = some (.cells (diskRow (dcall d).1 mp) 89 (0, 0)) ∧ Keeps [b] w w' := by
 obtain ⟨room, files, calls, armed, kind, after, off⟩ := d
 dsimp only at hc ha
 obtain ⟨hc0, hc1⟩ := hc
 obtain ⟨ha0, ha1⟩ := ha
 have HB := hid h
 unfold diskRow at h
 dsimp only at h
 have x2 : w.cell? ⟨b, 2, none⟩ = some (.int .i64 calls) := cell_of_block h 2
 have x3 : w.cell? ⟨b, 3, none⟩ = some (.bool armed) := cell_of_block h 3
 have x4 : w.cell? ⟨b, 4, none⟩ = some (.int .i64 kind) := cell_of_block h 4
 have x5 : w.cell? ⟨b, 5, none⟩ = some (.int .i64 after) := cell_of_block h 5
 have x6 : w.cell? ⟨b, 6, none⟩ = some (.bool off) := cell_of_block h 6
 have f0 : ∀ i, w.frozen? ⟨b, i, none⟩ = false := fun i => frozen_of_row w b i _ _ h
 have hlt : b < w.heap.size := (Array.getElem?_eq_some_iff.1 h).1
 have hw1 : IntKind.i64.wrap (calls + 1) = calls + 1 := by rw [IntKind.wrap_i64]; omega
 have hw2 : IntKind.i64.wrap (after - 1) = after - 1 := by rw [IntKind.wrap_i64]; omega
 have h1 := heap_setCell_same _ _ 2 _ _ (.int .i64 (calls + 1)) h
 simp only [List.setIfInBounds_toArray, List.set_cons_zero, List.set_cons_succ] at h1
 have H1 := hid h1
 clear h h1
 rcases off with _ | _
 ·rcases armed with _ | _
  ·go_enter Tryz.func154, Tryz.ntmps154
   go_wp2_with fail
   go_ret
   exact ⟨rfl, H1.out, by exact Keeps.K⟩
  ·by_cases hp : 0 < after
   ·have h2 := heap_setCell_same _ _ 5 _ _ (.int .i64 (after - 1)) H1.out
    simp only [List.setIfInBounds_toArray, List.set_cons_zero, List.set_cons_succ] at h2
    have H2 := hid h2
    clear h2
    go_enter Tryz.func154, Tryz.ntmps154
    go_wp2_with fail
    go_ret
    refine ⟨by simp [dcall, hp], ?_, by exact Keeps.K⟩
    simp only [dcall, hp, if_true, if_false, Bool.false_eq_true, Bool.true_eq_false, reduceCtorEq]
    exact H2.out
   ·have hp' : after ≤ 0 := by omega
    have HO : Hid (dcall ⟨room, files, calls, true, kind, after, false⟩ = (⟨room, files, calls + 1, false, kind, after, kind == 19⟩, kind)) := by
     show (if 0 < after then _ else _) = _
     exact if_neg hp
    have h2 := heap_setCell_same _ _ 6 _ _ (.bool (kind == 19)) (heap_setCell_same _ _ 3 _ _ (.bool false) H1.out)
    simp only [List.setIfInBounds_toArray, List.set_cons_zero, List.set_cons_succ] at h2
    have H2 := hid h2
    clear h2
    go_enter Tryz.func154, Tryz.ntmps154
    go_wp2_with fail
    go_ret
    rw [HO.out]
    exact ⟨rfl, H2.out, by exact Keeps.K⟩
 ·go_enter Tryz.func154, Tryz.ntmps154
  go_wp2_with fail
  go_ret
  exact ⟨rfl, H1.out, by exact Keeps.K⟩
end Go.Proofs.YtgjiahilbmeaeaaGreatDoor