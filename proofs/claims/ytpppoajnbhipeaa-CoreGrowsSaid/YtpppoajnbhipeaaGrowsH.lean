/- CoreGrows, walked. Printed by gen_grows.py. -/
import Derived.Test.YtpppoajnbhipeaaGrowsD
import Derived.Test.YtpppoajnbhipeaaLeadD
import Derived.Test.YtpppoajnbhipeaaOpenL
import Derived.Test.YtpppoajnbhipeaaMsgA
import Derived.Test.YtpppoajnbhipeaaCoreU
namespace Go.Proofs.Ytpppoajnbhipeaa
open Go Go.RowKit

section
open Go Go.RowKit Go.WideShapes Go.ChangeShapes Go.Deep
structure OpD where
  kind : Int
  num : Int
  m : MsgD
  data : List UInt8
structure OpW (o : OpD) : Prop where
  kind : IntW o.kind
  num : IntW o.num
  m : MsgW o.m

def opL : Lay OpD where
  size := 13
  pos := by decide
  at_ w P cs o := ∃ ev dv bv, cs = [.int .i64 o.kind, .int .i64 o.num, .int .i64 o.m.kind, .int .i64 o.m.frm, .int .i64 o.m.to, .int .i64 o.m.term, .int .i64 o.m.a, .int .i64 o.m.b, .int .i64 o.m.c, .bool o.m.ok, ev, dv, bv] ∧ ListAt entL w P ev o.m.entries ∧ BytesAt w P dv o.m.data ∧ BytesAt w P bv o.data
  len := fun ⟨ev, dv, bv, e, _⟩ => by rw [e]; rfl
  one := fun ⟨ev, dv, bv, e, h1, h2, h3⟩ u hu => by
    rw [e] at hu
    obtain ⟨a, c, rfl⟩ := h1.form
    obtain ⟨a2, c2, rfl⟩ := h2.form
    obtain ⟨a3, c3, rfl⟩ := h3.form
    simp at hu
    rcases hu with rfl | rfl | rfl | rfl | rfl | rfl | rfl | rfl | rfl | rfl | rfl | rfl | rfl <;> rfl
  keep := fun ⟨ev, dv, bv, e, h1, h2, h3⟩ k hP => ⟨ev, dv, bv, e, h1.keep k hP, h2.keep k hP, h3.keep k hP⟩
  mono := fun ⟨ev, dv, bv, e, h1, h2, h3⟩ hP => ⟨ev, dv, bv, e, h1.mono hP, h2.mono hP, h3.mono hP⟩

section
variable {H : Type} {enc : TypeId × Value → H}
set_option maxRecDepth 100000 in
theorem open_op (w : World) (fuel : Nat) (cs : List Value) (x : DataW H × List MemPlace) (h : DataW.trod enc Try.prog w 0 (fun _ => true) true fuel 75 cs = some x) (_hl : cs.length = 13) : ∃ o, opL.at_ w (fun b => b < w.heap.size) cs o ∧ OpW o := by
  obtain ⟨xs, n, rfl, _, hl, hxs, hf⟩ := DataW.trod_struct Try.underlying75 h
  have e13 : Try.prog.cellsOf 75 = 13 := by kernel_rfl
  have e10 : Try.prog.cellsOf 40 = 10 := by kernel_rfl
  have eI : Try.prog.cellsOf 3 = 1 := by kernel_rfl
  have eB : Try.prog.cellsOf 38 = 1 := by kernel_rfl
  rw [e13] at hl
  have hx : ∀ i, i < 4 → ∃ y, xs[i]? = some y := fun i hi => ⟨xs[i]'(by rw [hxs]; exact hi), List.getElem?_eq_getElem _⟩
  match cs, hl with
  | [v0, v1, v2, v3, v4, v5, v6, v7, v8, v9, v10, v11, v12], _ =>
    obtain ⟨y0, g0⟩ := hx 0 (by omega)
    obtain ⟨y1, g1⟩ := hx 1 (by omega)
    obtain ⟨y2, g2⟩ := hx 2 (by omega)
    obtain ⟨y3, g3⟩ := hx 3 (by omega)
    have f0 : DataW.trod enc Try.prog w 0 (fun _ => true) true n 3 [v0] = some y0 := by simpa [eI, g0] using hf 0 ⟨ "Kind", 3, 0, false, "", "", 0⟩ rfl
    have f1 : DataW.trod enc Try.prog w 0 (fun _ => true) true n 3 [v1] = some y1 := by simpa [eI, g1] using hf 1 ⟨ "N", 3, 1, false, "", "", 8⟩ rfl
    have f2 : DataW.trod enc Try.prog w 0 (fun _ => true) true n 40 [v2, v3, v4, v5, v6, v7, v8, v9, v10, v11] = some y2 := by simpa [e10, g2] using hf 2 ⟨ "M", 40, 2, false, "", "", 16⟩ rfl
    have f3 : DataW.trod enc Try.prog w 0 (fun _ => true) true n 38 [v12] = some y3 := by simpa [eB, g3] using hf 3 ⟨ "Data", 38, 12, false, "", "", 128⟩ rfl
    obtain ⟨n0, r0, w0⟩ := open_num Try.underlying3 f0
    obtain ⟨n1, r1, w1⟩ := open_num Try.underlying3 f1
    obtain ⟨m, ⟨ev, dv, rm, h1, h2⟩, hm⟩ := open_msg w n _ y2 f2 rfl
    obtain ⟨v, bs, r3, hb⟩ := open_bytesAt f3
    simp at r0 r1 rm r3
    obtain ⟨rfl, rfl, rfl, rfl, rfl, rfl, rfl, rfl, rfl, rfl⟩ := rm
    subst r0 r1 r3
    exact ⟨⟨n0, n1, m, bs⟩, ⟨_, _, _, rfl, h1, h2, hb⟩, ⟨w0, w1, hm⟩⟩
end
end

theorem take_one_at {α : Type} {l : List α} {j : Nat} {e : α} (h : l[j]? = some e) : (l.drop j).take 1 = [e] := by
  have hj := List.getElem?_eq_some_iff.1 h
  rw [List.drop_eq_getElem_cons hj.1, hj.2]
  rfl
theorem blk13 {w : World} {b : Nat} {x0 x1 x2 x3 x4 x5 x6 x7 x8 x9 x10 x11 x12 : Value} {t : TypeId} (h : w.heap[b]? = some (.cells #[x0, x1, x2, x3, x4, x5, x6, x7, x8, x9, x10, x11, x12] t (0, 0))) :
    (w.cell? ⟨b, 0, none⟩ = some x0 ∧ w.cell? ⟨b, 1, none⟩ = some x1 ∧ w.cell? ⟨b, 2, none⟩ = some x2 ∧ w.cell? ⟨b, 3, none⟩ = some x3 ∧ w.cell? ⟨b, 4, none⟩ = some x4 ∧ w.cell? ⟨b, 5, none⟩ = some x5 ∧ w.cell? ⟨b, 6, none⟩ = some x6 ∧ w.cell? ⟨b, 7, none⟩ = some x7 ∧ w.cell? ⟨b, 8, none⟩ = some x8 ∧ w.cell? ⟨b, 9, none⟩ = some x9 ∧ w.cell? ⟨b, 10, none⟩ = some x10 ∧ w.cell? ⟨b, 11, none⟩ = some x11 ∧ w.cell? ⟨b, 12, none⟩ = some x12) := by
  refine ⟨?_, ?_, ?_, ?_, ?_, ?_, ?_, ?_, ?_, ?_, ?_, ?_, ?_⟩ <;> exact cell_of_block h _
theorem sameEntries_is (l : List Ent) (m : Nat) (hm : l.length = m) (P1 P2 : Nat → Prop) (a1 a2 : Option Addr) (c1 c2 : Nat) (w : World) (h1 : ListAt entL w P1 (.slice a1 m c1) l) (h2 : ListAt entL w P2 (.slice a2 m c2) l) (hl : m ≤ 100000) :
    Calls Try.prog 34 #[.slice a1 m c1, .slice a2 m c2] w fun x w' => x = .returned (.bool true) ∧ Keeps [] w w' := by
  subst hm
  exact sameEntries_any l P1 P2 a1 a2 c1 c2 w h1 h2 hl
theorem cFrom_is (w : World) (B n : Nat) (c : CoreD) (lv sv : Value) (h : CoreAt w B n c lv sv) (i : Int) (l : List Ent) (m : Nat) (hf : fromD c i = l) (hm : l.length = m) (b1 : -4611686018427387904 ≤ i) (b2 : i ≤ 4611686018427387904) :
    Calls Try.prog 28 #[.pointer (some ⟨n, 0, none⟩), .int .i64 i] w fun e w' => ∃ a k, e = .returned (.slice a m k) ∧ ListAt entL w' (fun b => w.heap.size ≤ b) (.slice a m k) l ∧ Keeps [] w w' := by
  subst hm
  subst hf
  refine (cFrom_any w B n c lv sv h i b1 b2).mono ?_
  rintro e w' ⟨a, k, h1, h2, h3⟩
  exact ⟨a, k, h1, OwnAt.list h2 (fun b hb h => h.1) (fun b hb => (OwnAt.ge h2 b hb).1), h3⟩
theorem cNew_is (cf : ConfD) (id term vote base baseTerm : Int) (l : List Ent) (m : Nat) (hm : l.length = m) (a : Option Addr) (cap : Nat) (P : Nat → Prop) (w : World) (hl : ListAt entL w P (.slice a m cap) l) (hd : ∀ e ∈ l, e.data.length ≤ 1000000) :
    Calls Try.prog 14 #[confV cf, .int .i64 id, .int .i64 term, .int .i64 vote, .int .i64 base, .int .i64 baseTerm, .slice a m cap] w (NewPost cf id term vote base baseTerm l w) := by
  subst hm
  exact cNew_any cf id term vote base baseTerm l a cap P w hl hd
/-- An entry of its own row. -/
theorem one_list {w w1 : World} {e : Ent} {a : Option Addr} {q : Nat} {P : Nat → Prop} (k : Keeps [] w w1) (hb : BytesAt w P (.slice a e.data.length q) e.data) : ListAt entL (w1.alloc (.cells #[.int .i64 e.term, .bool e.cmd, .slice a e.data.length q] 59)) (fun _ => True) (.slice (some ⟨w1.heap.size, 0, none⟩) 1 1) [e] :=
  ⟨[[.int .i64 e.term, .bool e.cmd, .slice a e.data.length q]], ElemsAt.one1 ⟨_, rfl, ((hb.k k).k ((Keeps.refl [] w1).alloc _)).mono (fun _ _ _ => trivial)⟩, Reads.one1 (heap_alloc_new w1 _) rfl, fun _ _ _ => trivial⟩

set_option maxRecDepth 100000 in
set_option maxHeartbeats 6400000 in
theorem grows_big (nodes base : Int) (l : List Ent) (v3 : Value) (a0 : Option Addr) (c0 : Nat) (P : Nat → Prop) (w : World) (hl : ListAt entL w P (.slice a0 l.length c0) l) (hs : smallD { msg0 with entries := l } = false) :
    Calls Try.prog 10 #[.int .i64 nodes, .slice a0 l.length c0, .int .i64 base, v3] w fun e w' => e = .returned (.bool true) ∧ Below w.heap.size w w' := by
  have HL := hid hl
  have HS := hid hs
  clear hl hs
  go_enter Try.func10, Try.ntmps10
  go_wp2_with fail
  refine (small_is false _ { msg0 with entries := l } a0 none c0 0 P HL.out HS.out).mono ?_
  rintro e w1 ⟨rfl, k1⟩
  have K1 := hid k1
  clear k1
  go_wp2_with fail
  refine (cAwake_any _).mono ?_
  rintro e w5 ⟨rfl, k5⟩
  have K5 : Hid (Keeps [] w w5) := K1.out.trans k5 (fun _ _ h => h)
  clear k5
  go_wp2_with fail
  go_ret
  exact ⟨rfl, K5.out.below (Nat.le_refl _) (fun _ h => by cases h)⟩

set_option maxRecDepth 100000 in
set_option maxHeartbeats 12800000 in
theorem grows_walk (nodes base p bb : Int) (l : List Ent) (ops : List OpD) (a0 a1 : Option Addr) (c0 c1 : Nat) (P : Nat → Prop) (w : World) (wn : (Lit.int .i64 nodes).wf = true) (wb : (Lit.int .i64 base).wf = true) (hp : 3 + placeOf nodes 3 = p) (hbb : placeOf base 1000 = bb) (hl : ListAt entL w P (.slice a0 l.length c0) l) (ho : ListAt opL w P (.slice a1 ops.length c1) ops) (how : ∀ o ∈ ops, OpW o) (hs : smallD { msg0 with entries := l } = true) :
    Calls Try.prog 10 #[.int .i64 nodes, .slice a0 l.length c0, .int .i64 base, .slice a1 ops.length c1] w fun e w' => e = .returned (.bool true) ∧ Below w.heap.size w w' := by
  have hb1 := placeOf_bd nodes 3 (by omega)
  have hb2 := placeOf_bd base 1000 (by omega)
  have p3 : 3 ≤ p := by omega
  have p5 : p ≤ 5 := by omega
  have bb0 : 0 ≤ bb := by omega
  have bb1 : bb ≤ 999 := by omega
  have HP := hid hp
  have HBB := hid hbb
  have HL := hid hl
  have HO : Hid (ListAt opL w (fun b => b < w.heap.size) (.slice a1 ops.length c1) ops) := ho.mono (fun b h _ => h)
  have HOW := hid how
  have HS := hid hs
  have HD : Hid (∀ e ∈ l, e.data.length ≤ 1000000) := fun e he => by have := (smallD_yes hs).2.2 e he; omega
  have hln : l.length ≤ 12 := (smallD_yes hs).2.1
  clear hp hbb hl ho how hs hb1 hb2
  go_enter Try.func10, Try.ntmps10
  go_wp2_with fail
  refine (small_is true _ { msg0 with entries := l } a0 none c0 0 P HL.out HS.out).mono ?_
  rintro e w1 ⟨rfl, k1⟩
  have K1 := hid k1
  clear k1
  go_wp2_with fail
  refine (cfL_is p nodes _ wn HP.out).mono ?_
  rintro e w2 ⟨rfl, k2⟩
  have K2 : Hid (Keeps [] w w2) := K1.out.trans k2 (fun _ _ h => h)
  clear k2
  go_wp2_with fail
  refine (place_is bb base 1000 _ (by omega) (by omega) wb HBB.out).mono ?_
  rintro e w3 ⟨rfl, rfl⟩
  go_wp2_with fail
  refine (lEntries_any _ l a0 c0 P (HL.out.k K2.out) HD.out (by omega)).mono ?_
  rintro e w4 ⟨a4, q4, rfl, f4, k4⟩
  have K4 : Hid (Keeps [] w w4) := K2.out.trans k4 (fun _ _ h => h)
  have L4 : Hid (ListAt entL w4 (fun _ => True) (.slice a4 l.length q4) l) := OwnAt.list f4 (fun _ _ _ => trivial) (fun _ _ => trivial)
  clear f4 k4
  go_wp2_with fail
  refine (cNew_any (cfL p) 1 3 0 bb 1 l a4 q4 (fun _ => True) _ L4.out HD.out).mono ?_
  rintro e w5 h5
  rcases h5 with ⟨_, n, lv, sv, rfl, hc5, k5⟩ | ⟨_, rfl, k5⟩
  rotate_left 1
  · have K5 : Hid (Keeps [] w w5) := K4.out.trans k5 (fun _ _ h => h)
    clear k5
    go_wp2_with fail
    refine (cAwake_any _).mono ?_
    rintro e w6 ⟨rfl, k6⟩
    have K6 : Hid (Keeps [] w w6) := K5.out.trans k6 (fun _ _ h => h)
    clear k6
    go_wp2_with fail
    go_ret
    exact ⟨rfl, K6.out.below (Nat.le_refl _) (fun _ h => by cases h)⟩
  have KW5 : Hid (Keeps [] w w5) := K4.out.trans k5 (fun _ _ h => h)
  have HBW : Hid (w.heap.size ≤ w4.heap.size) := K4.out.size
  have C5 : Hid (CoreAt w5 w4.heap.size n (newD (cfL p) 1 3 0 bb 1 l) lv sv) := hc5
  clear k5 hc5
  go_wp2_with fail
  go_loopw [11] (fun iv wi => ∃ (k : Nat) (c : CoreD) (lv sv : Value), iv = .int .i64 k ∧ k ≤ ops.length ∧ k ≤ 40 ∧ Hid (CoreAt wi w4.heap.size n c lv sv ∧ Keeps [] w wi ∧ (0 ≤ c.patience ∧ c.patience ≤ k) ∧ lastD c ≤ 1099511627776 + 8 * k)) (fun iv _ => 40 - (intOf iv).toNat)
  case atStart => exact ⟨0, newD (cfL p) 1 3 0 bb 1 l, lv, sv, rfl, Nat.zero_le _, Nat.zero_le _, C5.out, KW5.out, by show (0 : Int) ≤ 0 ∧ (0 : Int) ≤ ((0 : Nat) : Int); omega, by show bb + (l.length : Int) ≤ _; omega⟩
  case round =>
    obtain ⟨k, c5, lv5, sv5, rfl, hk, hk40, HW⟩ := hrel
    have i0 : (0 : Int) ≤ (k : Int) := Int.natCast_nonneg _
    by_cases hlt : k < ops.length
    · by_cases hlt2 : k < 40
      · have i1 : (k : Int) < (ops.length : Int) := by omega
        have i2 : (k : Int) < 40 := by omega
        obtain ⟨o, he⟩ : ∃ o, ops[k]? = some o := ⟨ops[k], List.getElem?_eq_getElem hlt⟩
        obtain ⟨g, off, cg, ha, hcg, hcm, hgl, hgP⟩ := (HO.out.k HW.out.2.1).addr (fun hn => by rw [hn] at hlt; simp at hlt)
        simp at ha
        obtain ⟨ha, hcc⟩ := ha
        subst ha
        subst hcc
        obtain ⟨cs, ⟨ev, dv, bv, rfl, hev, hdv, hbv⟩, hcs⟩ := (HO.out.k HW.out.2.1).get he
        obtain ⟨ea, ec, rfl⟩ := hev.form
        obtain ⟨da, dc, rfl⟩ := hdv.form
        obtain ⟨ba, bc, rfl⟩ := hbv.form
        have y0 : wr.cell? ⟨g, off + k * 13, none⟩ = some (.int .i64 o.kind) := hcs 0 _ rfl
        have y1 : wr.cell? ⟨g, off + k * 13 + 1, none⟩ = some (.int .i64 o.num) := hcs 1 _ rfl
        have y2 : wr.cell? ⟨g, off + k * 13 + 2, none⟩ = some (.int .i64 o.m.kind) := hcs 2 _ rfl
        have y3 : wr.cell? ⟨g, off + k * 13 + 3, none⟩ = some (.int .i64 o.m.frm) := hcs 3 _ rfl
        have y4 : wr.cell? ⟨g, off + k * 13 + 4, none⟩ = some (.int .i64 o.m.to) := hcs 4 _ rfl
        have y5 : wr.cell? ⟨g, off + k * 13 + 5, none⟩ = some (.int .i64 o.m.term) := hcs 5 _ rfl
        have y6 : wr.cell? ⟨g, off + k * 13 + 6, none⟩ = some (.int .i64 o.m.a) := hcs 6 _ rfl
        have y7 : wr.cell? ⟨g, off + k * 13 + 7, none⟩ = some (.int .i64 o.m.b) := hcs 7 _ rfl
        have y8 : wr.cell? ⟨g, off + k * 13 + 8, none⟩ = some (.int .i64 o.m.c) := hcs 8 _ rfl
        have y9 : wr.cell? ⟨g, off + k * 13 + 9, none⟩ = some (.bool o.m.ok) := hcs 9 _ rfl
        have y10 : wr.cell? ⟨g, off + k * 13 + 10, none⟩ = some (.slice ea o.m.entries.length ec) := hcs 10 _ rfl
        have y11 : wr.cell? ⟨g, off + k * 13 + 11, none⟩ = some (.slice da o.m.data.length dc) := hcs 11 _ rfl
        have y12 : wr.cell? ⟨g, off + k * 13 + 12, none⟩ = some (.slice ba o.data.length bc) := hcs 12 _ rfl
        have WO : Hid (OpW o) := HOW.out o (List.mem_of_getElem? he)
        have EV := hid hev
        have DV := hid hdv
        have BV := hid hbv
        clear hcs he hcm hcg hev hdv hbv hgl hgP
        rcases hsm : smallD o.m with _ | _
        · have HSM := hid hsm
          clear hsm
          go_wp2_with fail
          refine (small_is false _ o.m ea da ec dc _ (EV.out.k (by (repeat (first | (with_reducible exact Keeps.refl _ _) | (with_reducible assumption) | ((with_reducible refine Keeps.setCell ?_ ?_ _); rotate_left 1; (· first | (refine .inl ?_; simp; done) | (refine .inr ?_; first | exact Nat.le_refl _ | (simp; done) | (simp; omega) | omega))) | (with_reducible refine Keeps.alloc ?_ _) | (with_reducible refine Keeps.drewN ?_ _) | (with_reducible refine Keeps.drew ?_))))) HSM.out).mono ?_
          rintro x w6 ⟨rfl, k6⟩
          have K6 : Hid (Keeps [] w w6) := HW.out.2.1.trans (Keeps.trans (by (repeat (first | (with_reducible exact Keeps.refl _ _) | (with_reducible assumption) | ((with_reducible refine Keeps.setCell ?_ ?_ _); rotate_left 1; (· first | (refine .inl ?_; simp; done) | (refine .inr ?_; first | exact Nat.le_refl _ | (simp; done) | (simp; omega) | omega))) | (with_reducible refine Keeps.alloc ?_ _) | (with_reducible refine Keeps.drewN ?_ _) | (with_reducible refine Keeps.drew ?_)))) k6 (fun _ _ h => h)) (fun _ _ h => h)
          clear k6
          go_wp2_with fail
          refine (cAwake_any _).mono ?_
          rintro x w7 ⟨rfl, k7⟩
          have K7 : Hid (Keeps [] w w7) := K6.out.trans k7 (fun _ _ h => h)
          clear k7
          go_wp2_with fail
          go_ret
          exact ⟨rfl, K7.out.below (Nat.le_refl _) (fun _ h => by cases h)⟩
        have HSM := hid hsm
        clear hsm
        by_cases hod : 300 < o.data.length
        · have hod2 : (300 : Int) < (o.data.length : Int) := by omega
          clear hod
          go_wp2_with fail
          refine (small_is true _ o.m ea da ec dc _ (EV.out.k (by (repeat (first | (with_reducible exact Keeps.refl _ _) | (with_reducible assumption) | ((with_reducible refine Keeps.setCell ?_ ?_ _); rotate_left 1; (· first | (refine .inl ?_; simp; done) | (refine .inr ?_; first | exact Nat.le_refl _ | (simp; done) | (simp; omega) | omega))) | (with_reducible refine Keeps.alloc ?_ _) | (with_reducible refine Keeps.drewN ?_ _) | (with_reducible refine Keeps.drew ?_))))) HSM.out).mono ?_
          rintro x w6 ⟨rfl, k6⟩
          have K6 : Hid (Keeps [] w w6) := HW.out.2.1.trans (Keeps.trans (by (repeat (first | (with_reducible exact Keeps.refl _ _) | (with_reducible assumption) | ((with_reducible refine Keeps.setCell ?_ ?_ _); rotate_left 1; (· first | (refine .inl ?_; simp; done) | (refine .inr ?_; first | exact Nat.le_refl _ | (simp; done) | (simp; omega) | omega))) | (with_reducible refine Keeps.alloc ?_ _) | (with_reducible refine Keeps.drewN ?_ _) | (with_reducible refine Keeps.drew ?_)))) k6 (fun _ _ h => h)) (fun _ _ h => h)
          have hb6 := (k6.block wr.heap.size (by simp) (by simp)).trans (heap_alloc_new wr _)
          obtain ⟨z0, z1, z2, z3, z4, z5, z6, z7, z8, z9, z10, z11, z12⟩ := blk13 hb6
          clear k6 hb6
          go_wp2_with fail
          refine (cAwake_any _).mono ?_
          rintro x w7 ⟨rfl, k7⟩
          have K7 : Hid (Keeps [] w w7) := K6.out.trans k7 (fun _ _ h => h)
          clear k7
          go_wp2_with fail
          go_ret
          exact ⟨rfl, K7.out.below (Nat.le_refl _) (fun _ h => by cases h)⟩
        have hod2 : (o.data.length : Int) ≤ 300 := by omega
        have HOD : Hid (o.data.length ≤ 300) := by show _ ≤ _; omega
        clear hod
        go_wp2_with fail
        refine (small_is true _ o.m ea da ec dc _ (EV.out.k (by (repeat (first | (with_reducible exact Keeps.refl _ _) | (with_reducible assumption) | ((with_reducible refine Keeps.setCell ?_ ?_ _); rotate_left 1; (· first | (refine .inl ?_; simp; done) | (refine .inr ?_; first | exact Nat.le_refl _ | (simp; done) | (simp; omega) | omega))) | (with_reducible refine Keeps.alloc ?_ _) | (with_reducible refine Keeps.drewN ?_ _) | (with_reducible refine Keeps.drew ?_))))) HSM.out).mono ?_
        rintro x w6 ⟨rfl, k6⟩
        have K6 : Hid (Keeps [] wr w6) := Keeps.trans (by (repeat (first | (with_reducible exact Keeps.refl _ _) | (with_reducible assumption) | ((with_reducible refine Keeps.setCell ?_ ?_ _); rotate_left 1; (· first | (refine .inl ?_; simp; done) | (refine .inr ?_; first | exact Nat.le_refl _ | (simp; done) | (simp; omega) | omega))) | (with_reducible refine Keeps.alloc ?_ _) | (with_reducible refine Keeps.drewN ?_ _) | (with_reducible refine Keeps.drew ?_)))) k6 (fun _ _ h => h)
        have hb6 := (k6.block wr.heap.size (by simp) (by simp)).trans (heap_alloc_new wr _)
        have HB6 := hid hb6
        obtain ⟨z0, z1, z2, z3, z4, z5, z6, z7, z8, z9, z10, z11, z12⟩ := blk13 hb6
        have hz6 : wr.heap.size < w6.heap.size := (Array.getElem?_eq_some_iff.1 hb6).1
        have C6 : Hid (CoreAt w6 w4.heap.size n c5 lv5 sv5) := HW.out.1.k K6.out
        clear k6 hb6 y0 y1 y2 y3 y4 y5 y6 y7 y8 y9 y10 y11 y12
        go_wp2_with fail
        refine (cTerm_any _ _ n c5 lv5 sv5 C6.out).mono ?_
        rintro x w7 ⟨rfl, rfl⟩
        go_wp2_with fail
        refine (cCommit_any _ _ n c5 lv5 sv5 C6.out).mono ?_
        rintro x w8 ⟨rfl, rfl⟩
        go_wp2_with fail
        refine (cRole_any _ _ n c5 lv5 sv5 C6.out).mono ?_
        rintro x w9 ⟨rfl, rfl⟩
        go_wp2_with fail
        refine (cLast_any _ _ n c5 lv5 sv5 C6.out).mono ?_
        rintro x w10 ⟨rfl, k10, rfl⟩
        go_wp2_with fail
        refine (cBase_any _ _ n c5 lv5 sv5 (C6.out.k (by (repeat (first | (with_reducible exact Keeps.refl _ _) | (with_reducible assumption) | ((with_reducible refine Keeps.setCell ?_ ?_ _); rotate_left 1; (· first | (refine .inl ?_; simp; done) | (refine .inr ?_; first | exact Nat.le_refl _ | (simp; done) | (simp; omega) | omega))) | (with_reducible refine Keeps.alloc ?_ _) | (with_reducible refine Keeps.drewN ?_ _) | (with_reducible refine Keeps.drew ?_)))))).mono ?_
        rintro x w11 ⟨rfl, k11, rfl⟩
        have HBS := C6.out.ok.base
        have HFR : Hid (fromD c5 0 = c5.l) := by
          show c5.l.drop (max 0 (c5.base + 1) - c5.base - 1).toNat = _
          rw [show (max 0 (c5.base + 1) - c5.base - 1).toNat = 0 by omega]
          rfl
        go_wp2_with fail
        refine (cFrom_is _ _ n c5 lv5 sv5 (C6.out.k (by (repeat (first | (with_reducible exact Keeps.refl _ _) | (with_reducible assumption) | ((with_reducible refine Keeps.setCell ?_ ?_ _); rotate_left 1; (· first | (refine .inl ?_; simp; done) | (refine .inr ?_; first | exact Nat.le_refl _ | (simp; done) | (simp; omega) | omega))) | (with_reducible refine Keeps.alloc ?_ _) | (with_reducible refine Keeps.drewN ?_ _) | (with_reducible refine Keeps.drew ?_))))) 0 c5.l c5.l.length HFR.out rfl (by omega) (by omega)).mono ?_
        rintro x w12 ⟨fa, fq, rfl, hl12, hk12⟩
        have K12 : Hid (Keeps [] w9 w12) := Keeps.trans (by (repeat (first | (with_reducible exact Keeps.refl _ _) | (with_reducible assumption) | ((with_reducible refine Keeps.setCell ?_ ?_ _); rotate_left 1; (· first | (refine .inl ?_; simp; done) | (refine .inr ?_; first | exact Nat.le_refl _ | (simp; done) | (simp; omega) | omega))) | (with_reducible refine Keeps.alloc ?_ _) | (with_reducible refine Keeps.drewN ?_ _) | (with_reducible refine Keeps.drew ?_)))) hk12 (fun _ _ h => h)
        have L12 : Hid (ListAt entL w12 (fun b => w9.heap.size ≤ b) (.slice fa c5.l.length fq) c5.l) := hl12.mono (fun b _ hb => by simpa using hb)
        have C12 : Hid (CoreAt w12 w4.heap.size n c5 lv5 sv5) := C6.out.k K12.out
        have HB12 := hid ((K12.out.block wr.heap.size hz6 (by simp)).trans HB6.out)
        clear hl12 hk12 z0 z1 z2 z3 z4 z5 z6 z7 z8 z9 z10 z11 z12
        obtain ⟨z0, z1, z2, z3, z4, z5, z6, z7, z8, z9, z10, z11, z12⟩ := blk13 HB12.out
        obtain ⟨pk, hpk⟩ : ∃ r, placeOf o.kind 12 = r := ⟨_, rfl⟩
        have hpb := placeOf_bd o.kind 12 (by omega)
        rw [hpk] at hpb
        have HPK := hid hpk
        obtain ⟨pk0, pk1⟩ := hpb
        clear hpk
        go_wp2_with fail
        refine (place_is pk o.kind 12 _ (by omega) (by omega) WO.out.kind HPK.out).mono ?_
        rintro x w13 ⟨rfl, hwa⟩
        rw [hwa]
        clear hwa w13
        have HPT : Hid (0 ≤ c5.patience ∧ c5.patience ≤ 1000000000) := by have := HW.out.2.2.1; show _ ∧ _; omega
        have HLS : Hid (lastD c5 + 8 ≤ 2199023255552) := by have := HW.out.2.2.2; show _ ≤ _; omega
        have HKW : Hid (Keeps [] w w12) := (HW.out.2.1.trans K6.out (fun _ _ h => h)).trans K12.out (fun _ _ h => h)
        by_cases e0 : pk = 0 ∨ pk = 1
        · rcases e0 with rfl | rfl
          · as_aux_lemma =>
              go_wp2_with fail
              refine (tick_any _ _ n c5 lv5 sv5 C12.out HPT.out).mono ?_
              rintro x w20 ⟨ta, tq, rfl, hc20, _, hk20⟩
              have HGR : Hid (GrowsR c5 (tickD c5).1) := tick_grows C12.out.ok
              have HST : Hid (c5.role = 2 → (tickD c5).1.term = c5.term) := fun hr => by
                by_cases hh : c5.patience + 1 < c5.conf.heart
                · rw [tickD_still hr hh]; rfl
                · rw [tickD_sends hr hh]; rfl
              have HT : Hid (∃ lv6 sv6, CoreAt w20 w4.heap.size n (tickD c5).1 lv6 sv6 ∧ Keeps [] w w20 ∧ ListAt entL w20 (fun _ => True) (.slice fa c5.l.length fq) c5.l) := by
                have hnn := C6.out.lt n (by simp)
                refine ⟨lv5, sv5, hc20, HKW.out.trans hk20 (fun b hb hb' => by simp at hb'; have := HBW.out; omega), (L12.out.keep hk20 (fun b hb hb' => by simp at hb'; omega)).mono (fun _ _ _ => trivial)⟩
              generalize (tickD c5).1 = c6 at HGR HT HST
              generalize (tickD c5).2.length = zl
              clear hc20 hk20
              obtain ⟨lv6, sv6, hC20, hK20, hL20⟩ := HT.out
              have C20 := hid hC20
              have K20 := hid hK20
              have L20 := hid hL20
              have gcm := hC20.ok.commit
              have gls : lastD c6 = c6.base + c6.l.length := rfl
              have g1 : decide (c6.term < c5.term) = false := by have := HGR.out.term; simp; omega
              have g2 : decide (c6.commit < c5.commit) = false := by have := HGR.out.commit; simp; omega
              have g3 : decide (lastD c6 < c6.commit) = false := by simp; omega
              clear hC20 hK20 hL20 HT gcm gls z0 z1 z2 z3 z4 z5 z6 z7 z8 z9 z10 z11 z12
              go_wp2_with fail
              refine (cTerm_any _ _ n c6 lv6 sv6 C20.out).mono ?_
              rintro x wa ⟨rfl, hwa⟩
              rw [hwa]
              clear hwa wa
              go_wp2_with fail
              refine (cCommit_any _ _ n c6 lv6 sv6 C20.out).mono ?_
              rintro x wa ⟨rfl, hwa⟩
              rw [hwa]
              clear hwa wa
              go_wp2_with fail
              refine (cCommit_any _ _ n c6 lv6 sv6 C20.out).mono ?_
              rintro x wa ⟨rfl, hwa⟩
              rw [hwa]
              clear hwa wa
              go_wp2_with fail
              refine (cLast_any _ _ n c6 lv6 sv6 C20.out).mono ?_
              rintro x wa ⟨rfl, q1, rfl⟩
              have hcs : (c5.role == 2) = false ∨ ((c5.role == 2) = true ∧ (c6.term == c5.term) = true ∧ decide (lastD c6 < lastD c5) = false) := by
                by_cases h1 : c5.role = 2
                · exact .inr ⟨by simpa using h1, by simpa using HST.out h1, by have := HGR.out.lead h1 (HST.out h1); simp; omega⟩
                · exact .inl (by simpa using h1)
              rcases hcs with g4 | ⟨g4, g5, g6⟩
              all_goals
                go_wp2_with fail
                try
                  refine (cTerm_any _ _ n c6 lv6 sv6 (C20.out.k (by (repeat (first | (with_reducible exact Keeps.refl _ _) | (with_reducible assumption) | ((with_reducible refine Keeps.setCell ?_ ?_ _); rotate_left 1; (· first | (refine .inl ?_; simp; done) | (refine .inr ?_; first | exact Nat.le_refl _ | (simp; done) | (simp; omega) | omega))) | (with_reducible refine Keeps.alloc ?_ _) | (with_reducible refine Keeps.drewN ?_ _) | (with_reducible refine Keeps.drew ?_)))))).mono ?_
                  rintro x wa ⟨rfl, hwa⟩
                  rw [hwa]
                  clear hwa wa
                  go_wp2_with fail
                try
                  refine (cLast_any _ _ n c6 lv6 sv6 (C20.out.k (by (repeat (first | (with_reducible exact Keeps.refl _ _) | (with_reducible assumption) | ((with_reducible refine Keeps.setCell ?_ ?_ _); rotate_left 1; (· first | (refine .inl ?_; simp; done) | (refine .inr ?_; first | exact Nat.le_refl _ | (simp; done) | (simp; omega) | omega))) | (with_reducible refine Keeps.alloc ?_ _) | (with_reducible refine Keeps.drewN ?_ _) | (with_reducible refine Keeps.drew ?_)))))).mono ?_
                  rintro x wa ⟨rfl, q2, rfl⟩
                  go_wp2_with fail
                refine (cBase_any _ _ n c6 lv6 sv6 (C20.out.k (by (repeat (first | (with_reducible exact Keeps.refl _ _) | (with_reducible assumption) | ((with_reducible refine Keeps.setCell ?_ ?_ _); rotate_left 1; (· first | (refine .inl ?_; simp; done) | (refine .inr ?_; first | exact Nat.le_refl _ | (simp; done) | (simp; omega) | omega))) | (with_reducible refine Keeps.alloc ?_ _) | (with_reducible refine Keeps.drewN ?_ _) | (with_reducible refine Keeps.drew ?_)))))).mono ?_
                rintro x wa ⟨rfl, q3, rfl⟩
                go_wp2_with fail
                go_loopw [22] (fun iv wi => ∃ j : Nat, iv = .int .i64 j ∧ j ≤ c5.l.length ∧ Hid (Keeps [] w20 wi)) (fun iv _ => c5.l.length - (intOf iv).toNat)
                case atStart => exact ⟨0, rfl, Nat.zero_le _, by show Keeps _ _ _; (repeat (first | (with_reducible exact Keeps.refl _ _) | (with_reducible assumption) | ((with_reducible refine Keeps.setCell ?_ ?_ _); rotate_left 1; (· first | (refine .inl ?_; simp; done) | (refine .inr ?_; first | exact Nat.le_refl _ | (simp; done) | (simp; omega) | omega))) | (with_reducible refine Keeps.alloc ?_ _) | (with_reducible refine Keeps.drewN ?_ _) | (with_reducible refine Keeps.drew ?_)))⟩
                case round =>
                  obtain ⟨j, rfl, hj, HJ⟩ := hrel
                  have j0 : (0 : Int) ≤ (j : Int) := Int.natCast_nonneg _
                  have HREL : Hid (∃ (k' : Nat) (c : CoreD) (lv sv : Value), (k : Int) + 1 = (k' : Int) ∧ k' ≤ ops.length ∧ k' ≤ 40 ∧ CoreAt wr w4.heap.size n c lv sv ∧ Keeps [] w wr ∧ (0 ≤ c.patience ∧ c.patience ≤ k') ∧ lastD c ≤ 1099511627776 + 8 * k') :=
                    ⟨k + 1, c6, lv6, sv6, by omega, by omega, by omega, C20.out.k HJ.out, K20.out.trans HJ.out (fun _ _ h => h), by have := HGR.out.pat HW.out.2.2.1.1; have := HW.out.2.2.1; omega, by have := HGR.out.last; have := HW.out.2.2.2; omega⟩
                  by_cases hjl : j < c5.l.length
                  · have j1 : (j : Int) < (c5.l.length : Int) := by omega
                    have HBD : Hid (0 ≤ c5.base ∧ c5.base ≤ 2199023255552 ∧ (c5.l.length : Int) ≤ 5096) := by have := C12.out.ok.base; have := C12.out.ok.last; have := C12.out.ok.len; show _ ∧ _ ∧ _; omega
                    obtain ⟨bd0, bd1, bd2⟩ := HBD.out
                    have w01 : IntKind.i64.wrap (c5.base + 1) = c5.base + 1 := IntWalk.i64_in _ (by omega)
                    have w02 : IntKind.i64.wrap (c5.base + 1 + (j : Int)) = c5.base + 1 + (j : Int) := IntWalk.i64_in _ (by omega)
                    by_cases hjc : c5.base + 1 + (j : Int) ≤ c5.commit
                    · by_cases hib : c6.base < c5.base + 1 + (j : Int)
                      · obtain ⟨e, he⟩ : ∃ e, c5.l[j]? = some e := ⟨c5.l[j], List.getElem?_eq_getElem hjl⟩
                        have gd : decide (c6.base < c5.base + 1 + (j : Int)) = true := by simpa using hib
                        have HEN : Hid (entD c6 (c5.base + 1 + (j : Int)) = some e) := by
                          show _ = _
                          rw [HGR.out.ents _ (by omega) hjc hib]
                          unfold entD
                          have hcl := C12.out.ok.commit
                          rw [if_neg (by unfold lastD; omega), show (c5.base + 1 + (j : Int) - c5.base - 1).toNat = j by omega]
                          exact he
                        obtain ⟨g2, off2, cg2, hfa, hcg2, hcm2, hgl2, _⟩ := (L20.out.k HJ.out).addr (fun hn => by rw [hn] at hjl; simp at hjl)
                        simp at hfa
                        obtain ⟨hfa, hfq⟩ := hfa
                        subst hfa
                        subst hfq
                        have HPC : Hid (ListAt entL wr (fun _ => True) (.slice (some ⟨g2, off2 + j * 3, none⟩) 1 (fq - j)) [e]) := by
                          have h5 := (L20.out.k HJ.out).piece j 1 (fq - j) (some ⟨g2, off2 + j * 3, none⟩) (by omega) (by omega) (by omega) (fun _ => rfl)
                          rw [take_one_at he] at h5
                          exact h5
                        have f1 : (j : Int) ≤ (fq : Int) := by omega
                        have f2 : (j : Int) + 1 ≤ (fq : Int) := by omega
                        have f5 : (0 : Int) ≤ (j : Int) + 1 := by omega
                        have f3 : (fq : Int) ≤ 9223372036854775807 := by unfold maxLen at hcm2; omega
                        have f4 : ¬ fq = j := by omega
                        have w03 : IntKind.i64.wrap ((j : Int) + 1) = (j : Int) + 1 := IntWalk.i64_in _ (by omega)
                        clear he hgl2 hcg2 hcm2
                        go_wp2_with fail
                        refine (cEntry_yes _ _ n c6 lv6 sv6 (C20.out.k HJ.out) (c5.base + 1 + (j : Int)) e HEN.out).mono ?_
                        rintro x w22 ⟨a22, q22, rfl, hb22, hk22⟩
                        unfold entV
                        have K22 := hid hk22
                        have B22 := hid hb22
                        clear hb22 hk22
                        go_wp2_with fail
                        refine Plan.wp_region_plan (fun wx => wx.cell? ⟨w22.heap.size, 0, none⟩ = some (.int .i64 e.term) ∧ wx.cell? ⟨w22.heap.size, 1, none⟩ = some (.bool e.cmd) ∧ wx.cell? ⟨w22.heap.size, 2, none⟩ = some (.slice a22 e.data.length q22)) 21 [(true, 0), (true, 1), (true, 2), (true, 3), (true, 4), (true, 5), (true, 6), (true, 7), (true, 8), (true, 9), (true, 10), (true, 12), (true, 13), (true, 14), (true, 15), (true, 16), (false, 11), (false, 17), (true, 18), (true, 19), (true, 20)] (by kernel_rfl) (by as_aux_lemma => kernel_rfl) (by kernel_rfl) (fun _ _ _ _ _ h => h) ?_ (fun hS => ?_)
                        (· go_simp)
                        simp only [Plan.pick, List.append_eq, List.cons_append, List.nil_append, List.getElem?_cons_zero, List.getElem?_cons_succ, Option.getD_some, List.drop_succ_cons, List.drop_zero]
                        iterate 15 (first | (refine Plan.take (v := ?_) (a' := ?_) (Plan.want_all (by rfl)) ?_ ?_ ?_; rotate_left 2; (· (intro w' hS'; (try dsimp only at hS'); go_simp; try with_reducible rfl)); (· (simp only [Act.put, List.setIfInBounds_toArray, List.set_cons_zero, List.set_cons_succ]; try with_reducible rfl))) | (refine Plan.take (v := ?_) (a' := ?_) (Plan.want_yes (by rfl) (by rfl) (by rfl) (by rfl)) ?_ ?_ ?_; rotate_left 2; (· (intro w' hS'; (try dsimp only at hS'); go_simp; try with_reducible rfl)); (· (simp only [Act.put, List.setIfInBounds_toArray, List.set_cons_zero, List.set_cons_succ]; try with_reducible rfl))) | (refine Plan.pass (a' := ?_) (Plan.want_no (by rfl) (by rfl) (by rfl) (by rfl)) ?_ ?_; rotate_left 1; (· (simp only [Act.put, List.setIfInBounds_toArray, List.set_cons_zero, List.set_cons_succ]; try with_reducible rfl))) | (refine Plan.pass (a' := ?_) (Plan.want_un (by rfl) (by rfl) (by rfl) (by rfl)) ?_ ?_; rotate_left 1; (· (simp only [Act.put, List.setIfInBounds_toArray, List.set_cons_zero, List.set_cons_succ]; try with_reducible rfl))) | fail)
                        refine Plan.take (v := .slice (some ⟨g2, off2 + j * 3, none⟩) 1 (fq - j)) (a' := ?_) (Plan.want_yes (by rfl) (by rfl) (by rfl) (by rfl)) ?_ ?_ ?_
                        rotate_left 1
                        (· intro w' hS'
                           (try dsimp only at hS')
                           go_simp)
                        (· simp only [Act.put, List.setIfInBounds_toArray, List.set_cons_zero, List.set_cons_succ]
                           try with_reducible rfl)
                        refine Plan.step ?_
                        go_wp2_with fail
                        refine ⟨?_, ?_⟩
                        (· go_simp)
                        refine Plan.step ?_
                        go_wp2_with fail
                        have HONE : Hid (ListAt entL ((w22.alloc (.cells #[.int .i64 e.term, .bool e.cmd, .slice a22 e.data.length q22] 59)).alloc (.cells #[.int .i64 e.term, .bool e.cmd, .slice a22 e.data.length q22] 59)).drew (fun _ => True) (.slice (some ⟨w22.heap.size + 1, 0, none⟩) 1 1) [e]) := by
                          have h1 := one_list (w := w22) (w1 := w22.alloc (.cells #[.int .i64 e.term, .bool e.cmd, .slice a22 e.data.length q22] 59)) ((Keeps.refl [] w22).alloc _) B22.out
                          rw [show (w22.alloc (.cells #[.int .i64 e.term, .bool e.cmd, .slice a22 e.data.length q22] 59)).heap.size = w22.heap.size + 1 by simp] at h1
                          exact h1.k ((Keeps.refl [] _).drew)
                        refine (sameEntries_is [e] 1 rfl (fun _ => True) (fun _ => True) _ _ _ _ _ HONE.out (HPC.out.k (Keeps.trans K22.out (by (repeat (first | (with_reducible exact Keeps.refl _ _) | (with_reducible assumption) | ((with_reducible refine Keeps.setCell ?_ ?_ _); rotate_left 1; (· first | (refine .inl ?_; simp; done) | (refine .inr ?_; first | exact Nat.le_refl _ | (simp; done) | (simp; omega) | omega))) | (with_reducible refine Keeps.alloc ?_ _) | (with_reducible refine Keeps.drewN ?_ _) | (with_reducible refine Keeps.drew ?_)))) (fun _ _ h => h))) (by omega)).mono ?_
                        rintro x w23 ⟨rfl, hk23⟩
                        have K23 : Hid (Keeps [] wr w23) := Keeps.trans K22.out (Keeps.trans (by (repeat (first | (with_reducible exact Keeps.refl _ _) | (with_reducible assumption) | ((with_reducible refine Keeps.setCell ?_ ?_ _); rotate_left 1; (· first | (refine .inl ?_; simp; done) | (refine .inr ?_; first | exact Nat.le_refl _ | (simp; done) | (simp; omega) | omega))) | (with_reducible refine Keeps.alloc ?_ _) | (with_reducible refine Keeps.drewN ?_ _) | (with_reducible refine Keeps.drew ?_)))) hk23 (fun _ _ h => h)) (fun _ _ h => h)
                        have hs23 : w23.cell? ⟨w22.heap.size, 0, none⟩ = some (.int .i64 e.term) ∧ w23.cell? ⟨w22.heap.size, 1, none⟩ = some (.bool e.cmd) ∧ w23.cell? ⟨w22.heap.size, 2, none⟩ = some (.slice a22 e.data.length q22) := ⟨hk23.cellSome (by go_simp) (by simp), hk23.cellSome (by go_simp) (by simp), hk23.cellSome (by go_simp) (by simp)⟩
                        clear hk23
                        go_wp2_with fail
                        refine ⟨hs23, ?_⟩
                        iterate 3 (first | (refine Plan.take (v := ?_) (a' := ?_) (Plan.want_all (by rfl)) ?_ ?_ ?_; rotate_left 2; (· (intro w' hS'; (try dsimp only at hS'); go_simp; try with_reducible rfl)); (· (simp only [Act.put, List.setIfInBounds_toArray, List.set_cons_zero, List.set_cons_succ]; try with_reducible rfl))) | (refine Plan.take (v := ?_) (a' := ?_) (Plan.want_yes (by rfl) (by rfl) (by rfl) (by rfl)) ?_ ?_ ?_; rotate_left 2; (· (intro w' hS'; (try dsimp only at hS'); go_simp; try with_reducible rfl)); (· (simp only [Act.put, List.setIfInBounds_toArray, List.set_cons_zero, List.set_cons_succ]; try with_reducible rfl))) | (refine Plan.pass (a' := ?_) (Plan.want_no (by rfl) (by rfl) (by rfl) (by rfl)) ?_ ?_; rotate_left 1; (· (simp only [Act.put, List.setIfInBounds_toArray, List.set_cons_zero, List.set_cons_succ]; try with_reducible rfl))) | (refine Plan.pass (a' := ?_) (Plan.want_un (by rfl) (by rfl) (by rfl) (by rfl)) ?_ ?_; rotate_left 1; (· (simp only [Act.put, List.setIfInBounds_toArray, List.set_cons_zero, List.set_cons_succ]; try with_reducible rfl))) | fail)
                        refine Plan.fin ?_
                        go_wp2_with fail
                        go_roundw
                        case rel => exact ⟨j + 1, by go_num, by omega, HJ.out.trans (K23.out.trans (by (repeat (first | (with_reducible exact Keeps.refl _ _) | (with_reducible assumption) | ((with_reducible refine Keeps.setCell ?_ ?_ _); rotate_left 1; (· first | (refine .inl ?_; simp; done) | (refine .inr ?_; first | exact Nat.le_refl _ | (simp; done) | (simp; omega) | omega))) | (with_reducible refine Keeps.alloc ?_ _) | (with_reducible refine Keeps.drewN ?_ _) | (with_reducible refine Keeps.drew ?_)))) (fun _ _ h => h)) (fun _ _ h => h)⟩
                        case measure => simp [intOf]; omega
                      · have hib2 : c5.base + 1 + (j : Int) ≤ c6.base := by omega
                        have gd : decide (c6.base < c5.base + 1 + (j : Int)) = false := by simpa using hib2
                        have HEN : Hid (entD c6 (c5.base + 1 + (j : Int)) = none) := by
                          show _ = _
                          unfold entD
                          rw [if_pos (.inl hib2)]
                        clear hib
                        go_wp2_with fail
                        refine (cEntry_no _ _ n c6 lv6 sv6 (C20.out.k HJ.out) (c5.base + 1 + (j : Int)) HEN.out).mono ?_
                        rintro x w22 ⟨rfl, hk22⟩
                        unfold entV
                        have K22 := hid hk22
                        clear hk22
                        go_wp2_with fail
                        refine Plan.wp_region_plan (fun wx => True) 21 [(true, 0), (true, 1), (true, 2), (true, 3), (true, 4), (true, 5), (true, 6), (true, 7), (true, 8), (true, 9), (true, 10), (true, 12), (true, 13), (true, 14), (true, 15), (true, 16), (false, 11), (false, 17), (true, 18), (true, 19), (true, 20)] (by kernel_rfl) (by as_aux_lemma => kernel_rfl) (by kernel_rfl) (fun _ _ _ _ _ h => h) ?_ (fun hS => ?_)
                        (· trivial)
                        simp only [Plan.pick, List.append_eq, List.cons_append, List.nil_append, List.getElem?_cons_zero, List.getElem?_cons_succ, Option.getD_some, List.drop_succ_cons, List.drop_zero]
                        iterate 16 (first | (refine Plan.take (v := ?_) (a' := ?_) (Plan.want_all (by rfl)) ?_ ?_ ?_; rotate_left 2; (· (intro w' hS'; (try dsimp only at hS'); go_simp; try with_reducible rfl)); (· (simp only [Act.put, List.setIfInBounds_toArray, List.set_cons_zero, List.set_cons_succ]; try with_reducible rfl))) | (refine Plan.take (v := ?_) (a' := ?_) (Plan.want_yes (by rfl) (by rfl) (by rfl) (by rfl)) ?_ ?_ ?_; rotate_left 2; (· (intro w' hS'; (try dsimp only at hS'); go_simp; try with_reducible rfl)); (· (simp only [Act.put, List.setIfInBounds_toArray, List.set_cons_zero, List.set_cons_succ]; try with_reducible rfl))) | (refine Plan.pass (a' := ?_) (Plan.want_no (by rfl) (by rfl) (by rfl) (by rfl)) ?_ ?_; rotate_left 1; (· (simp only [Act.put, List.setIfInBounds_toArray, List.set_cons_zero, List.set_cons_succ]; try with_reducible rfl))) | (refine Plan.pass (a' := ?_) (Plan.want_un (by rfl) (by rfl) (by rfl) (by rfl)) ?_ ?_; rotate_left 1; (· (simp only [Act.put, List.setIfInBounds_toArray, List.set_cons_zero, List.set_cons_succ]; try with_reducible rfl))) | fail)
                        refine Plan.step ?_
                        go_wp2_with fail
                        refine ⟨trivial, ?_⟩
                        refine Plan.step ?_
                        go_wp2_with fail
                        refine ⟨trivial, ?_⟩
                        iterate 3 (first | (refine Plan.take (v := ?_) (a' := ?_) (Plan.want_all (by rfl)) ?_ ?_ ?_; rotate_left 2; (· (intro w' hS'; (try dsimp only at hS'); go_simp; try with_reducible rfl)); (· (simp only [Act.put, List.setIfInBounds_toArray, List.set_cons_zero, List.set_cons_succ]; try with_reducible rfl))) | (refine Plan.take (v := ?_) (a' := ?_) (Plan.want_yes (by rfl) (by rfl) (by rfl) (by rfl)) ?_ ?_ ?_; rotate_left 2; (· (intro w' hS'; (try dsimp only at hS'); go_simp; try with_reducible rfl)); (· (simp only [Act.put, List.setIfInBounds_toArray, List.set_cons_zero, List.set_cons_succ]; try with_reducible rfl))) | (refine Plan.pass (a' := ?_) (Plan.want_no (by rfl) (by rfl) (by rfl) (by rfl)) ?_ ?_; rotate_left 1; (· (simp only [Act.put, List.setIfInBounds_toArray, List.set_cons_zero, List.set_cons_succ]; try with_reducible rfl))) | (refine Plan.pass (a' := ?_) (Plan.want_un (by rfl) (by rfl) (by rfl) (by rfl)) ?_ ?_; rotate_left 1; (· (simp only [Act.put, List.setIfInBounds_toArray, List.set_cons_zero, List.set_cons_succ]; try with_reducible rfl))) | fail)
                        refine Plan.fin ?_
                        go_wp2_with fail
                        go_roundw
                        case rel => exact ⟨j + 1, by go_num, by omega, HJ.out.trans (Keeps.trans K22.out (by (repeat (first | (with_reducible exact Keeps.refl _ _) | (with_reducible assumption) | ((with_reducible refine Keeps.setCell ?_ ?_ _); rotate_left 1; (· first | (refine .inl ?_; simp; done) | (refine .inr ?_; first | exact Nat.le_refl _ | (simp; done) | (simp; omega) | omega))) | (with_reducible refine Keeps.alloc ?_ _) | (with_reducible refine Keeps.drewN ?_ _) | (with_reducible refine Keeps.drew ?_)))) (fun _ _ h => h)) (fun _ _ h => h)⟩
                        case measure => simp [intOf]; omega
                    · have hjc2 : c5.commit < c5.base + 1 + (j : Int) := by omega
                      clear hjc
                      go_wp2_with fail
                      go_roundw
                      case rel => obtain ⟨k', c, lv, sv, h1, h2, h3, h4⟩ := HREL.out; exact ⟨k', c, lv, sv, by first | rw [← h1] | (rw [← h1]; go_num), h2, h3, h4⟩
                      case measure => simp [intOf]; omega
                  · have j1 : (c5.l.length : Int) ≤ (j : Int) := by omega
                    go_wp2_with fail
                    go_roundw
                    case rel => obtain ⟨k', c, lv, sv, h1, h2, h3, h4⟩ := HREL.out; exact ⟨k', c, lv, sv, by first | rw [← h1] | (rw [← h1]; go_num), h2, h3, h4⟩
                    case measure => simp [intOf]; omega
          · as_aux_lemma =>
              go_wp2_with fail
              refine (tick_any _ _ n c5 lv5 sv5 C12.out HPT.out).mono ?_
              rintro x w20 ⟨ta, tq, rfl, hc20, _, hk20⟩
              have HGR : Hid (GrowsR c5 (tickD c5).1) := tick_grows C12.out.ok
              have HST : Hid (c5.role = 2 → (tickD c5).1.term = c5.term) := fun hr => by
                by_cases hh : c5.patience + 1 < c5.conf.heart
                · rw [tickD_still hr hh]; rfl
                · rw [tickD_sends hr hh]; rfl
              have HT : Hid (∃ lv6 sv6, CoreAt w20 w4.heap.size n (tickD c5).1 lv6 sv6 ∧ Keeps [] w w20 ∧ ListAt entL w20 (fun _ => True) (.slice fa c5.l.length fq) c5.l) := by
                have hnn := C6.out.lt n (by simp)
                refine ⟨lv5, sv5, hc20, HKW.out.trans hk20 (fun b hb hb' => by simp at hb'; have := HBW.out; omega), (L12.out.keep hk20 (fun b hb hb' => by simp at hb'; omega)).mono (fun _ _ _ => trivial)⟩
              generalize (tickD c5).1 = c6 at HGR HT HST
              generalize (tickD c5).2.length = zl
              clear hc20 hk20
              obtain ⟨lv6, sv6, hC20, hK20, hL20⟩ := HT.out
              have C20 := hid hC20
              have K20 := hid hK20
              have L20 := hid hL20
              have gcm := hC20.ok.commit
              have gls : lastD c6 = c6.base + c6.l.length := rfl
              have g1 : decide (c6.term < c5.term) = false := by have := HGR.out.term; simp; omega
              have g2 : decide (c6.commit < c5.commit) = false := by have := HGR.out.commit; simp; omega
              have g3 : decide (lastD c6 < c6.commit) = false := by simp; omega
              clear hC20 hK20 hL20 HT gcm gls z0 z1 z2 z3 z4 z5 z6 z7 z8 z9 z10 z11 z12
              go_wp2_with fail
              refine (cTerm_any _ _ n c6 lv6 sv6 C20.out).mono ?_
              rintro x wa ⟨rfl, hwa⟩
              rw [hwa]
              clear hwa wa
              go_wp2_with fail
              refine (cCommit_any _ _ n c6 lv6 sv6 C20.out).mono ?_
              rintro x wa ⟨rfl, hwa⟩
              rw [hwa]
              clear hwa wa
              go_wp2_with fail
              refine (cCommit_any _ _ n c6 lv6 sv6 C20.out).mono ?_
              rintro x wa ⟨rfl, hwa⟩
              rw [hwa]
              clear hwa wa
              go_wp2_with fail
              refine (cLast_any _ _ n c6 lv6 sv6 C20.out).mono ?_
              rintro x wa ⟨rfl, q1, rfl⟩
              have hcs : (c5.role == 2) = false ∨ ((c5.role == 2) = true ∧ (c6.term == c5.term) = true ∧ decide (lastD c6 < lastD c5) = false) := by
                by_cases h1 : c5.role = 2
                · exact .inr ⟨by simpa using h1, by simpa using HST.out h1, by have := HGR.out.lead h1 (HST.out h1); simp; omega⟩
                · exact .inl (by simpa using h1)
              rcases hcs with g4 | ⟨g4, g5, g6⟩
              all_goals
                go_wp2_with fail
                try
                  refine (cTerm_any _ _ n c6 lv6 sv6 (C20.out.k (by (repeat (first | (with_reducible exact Keeps.refl _ _) | (with_reducible assumption) | ((with_reducible refine Keeps.setCell ?_ ?_ _); rotate_left 1; (· first | (refine .inl ?_; simp; done) | (refine .inr ?_; first | exact Nat.le_refl _ | (simp; done) | (simp; omega) | omega))) | (with_reducible refine Keeps.alloc ?_ _) | (with_reducible refine Keeps.drewN ?_ _) | (with_reducible refine Keeps.drew ?_)))))).mono ?_
                  rintro x wa ⟨rfl, hwa⟩
                  rw [hwa]
                  clear hwa wa
                  go_wp2_with fail
                try
                  refine (cLast_any _ _ n c6 lv6 sv6 (C20.out.k (by (repeat (first | (with_reducible exact Keeps.refl _ _) | (with_reducible assumption) | ((with_reducible refine Keeps.setCell ?_ ?_ _); rotate_left 1; (· first | (refine .inl ?_; simp; done) | (refine .inr ?_; first | exact Nat.le_refl _ | (simp; done) | (simp; omega) | omega))) | (with_reducible refine Keeps.alloc ?_ _) | (with_reducible refine Keeps.drewN ?_ _) | (with_reducible refine Keeps.drew ?_)))))).mono ?_
                  rintro x wa ⟨rfl, q2, rfl⟩
                  go_wp2_with fail
                refine (cBase_any _ _ n c6 lv6 sv6 (C20.out.k (by (repeat (first | (with_reducible exact Keeps.refl _ _) | (with_reducible assumption) | ((with_reducible refine Keeps.setCell ?_ ?_ _); rotate_left 1; (· first | (refine .inl ?_; simp; done) | (refine .inr ?_; first | exact Nat.le_refl _ | (simp; done) | (simp; omega) | omega))) | (with_reducible refine Keeps.alloc ?_ _) | (with_reducible refine Keeps.drewN ?_ _) | (with_reducible refine Keeps.drew ?_)))))).mono ?_
                rintro x wa ⟨rfl, q3, rfl⟩
                go_wp2_with fail
                go_loopw [22] (fun iv wi => ∃ j : Nat, iv = .int .i64 j ∧ j ≤ c5.l.length ∧ Hid (Keeps [] w20 wi)) (fun iv _ => c5.l.length - (intOf iv).toNat)
                case atStart => exact ⟨0, rfl, Nat.zero_le _, by show Keeps _ _ _; (repeat (first | (with_reducible exact Keeps.refl _ _) | (with_reducible assumption) | ((with_reducible refine Keeps.setCell ?_ ?_ _); rotate_left 1; (· first | (refine .inl ?_; simp; done) | (refine .inr ?_; first | exact Nat.le_refl _ | (simp; done) | (simp; omega) | omega))) | (with_reducible refine Keeps.alloc ?_ _) | (with_reducible refine Keeps.drewN ?_ _) | (with_reducible refine Keeps.drew ?_)))⟩
                case round =>
                  obtain ⟨j, rfl, hj, HJ⟩ := hrel
                  have j0 : (0 : Int) ≤ (j : Int) := Int.natCast_nonneg _
                  have HREL : Hid (∃ (k' : Nat) (c : CoreD) (lv sv : Value), (k : Int) + 1 = (k' : Int) ∧ k' ≤ ops.length ∧ k' ≤ 40 ∧ CoreAt wr w4.heap.size n c lv sv ∧ Keeps [] w wr ∧ (0 ≤ c.patience ∧ c.patience ≤ k') ∧ lastD c ≤ 1099511627776 + 8 * k') :=
                    ⟨k + 1, c6, lv6, sv6, by omega, by omega, by omega, C20.out.k HJ.out, K20.out.trans HJ.out (fun _ _ h => h), by have := HGR.out.pat HW.out.2.2.1.1; have := HW.out.2.2.1; omega, by have := HGR.out.last; have := HW.out.2.2.2; omega⟩
                  by_cases hjl : j < c5.l.length
                  · have j1 : (j : Int) < (c5.l.length : Int) := by omega
                    have HBD : Hid (0 ≤ c5.base ∧ c5.base ≤ 2199023255552 ∧ (c5.l.length : Int) ≤ 5096) := by have := C12.out.ok.base; have := C12.out.ok.last; have := C12.out.ok.len; show _ ∧ _ ∧ _; omega
                    obtain ⟨bd0, bd1, bd2⟩ := HBD.out
                    have w01 : IntKind.i64.wrap (c5.base + 1) = c5.base + 1 := IntWalk.i64_in _ (by omega)
                    have w02 : IntKind.i64.wrap (c5.base + 1 + (j : Int)) = c5.base + 1 + (j : Int) := IntWalk.i64_in _ (by omega)
                    by_cases hjc : c5.base + 1 + (j : Int) ≤ c5.commit
                    · by_cases hib : c6.base < c5.base + 1 + (j : Int)
                      · obtain ⟨e, he⟩ : ∃ e, c5.l[j]? = some e := ⟨c5.l[j], List.getElem?_eq_getElem hjl⟩
                        have gd : decide (c6.base < c5.base + 1 + (j : Int)) = true := by simpa using hib
                        have HEN : Hid (entD c6 (c5.base + 1 + (j : Int)) = some e) := by
                          show _ = _
                          rw [HGR.out.ents _ (by omega) hjc hib]
                          unfold entD
                          have hcl := C12.out.ok.commit
                          rw [if_neg (by unfold lastD; omega), show (c5.base + 1 + (j : Int) - c5.base - 1).toNat = j by omega]
                          exact he
                        obtain ⟨g2, off2, cg2, hfa, hcg2, hcm2, hgl2, _⟩ := (L20.out.k HJ.out).addr (fun hn => by rw [hn] at hjl; simp at hjl)
                        simp at hfa
                        obtain ⟨hfa, hfq⟩ := hfa
                        subst hfa
                        subst hfq
                        have HPC : Hid (ListAt entL wr (fun _ => True) (.slice (some ⟨g2, off2 + j * 3, none⟩) 1 (fq - j)) [e]) := by
                          have h5 := (L20.out.k HJ.out).piece j 1 (fq - j) (some ⟨g2, off2 + j * 3, none⟩) (by omega) (by omega) (by omega) (fun _ => rfl)
                          rw [take_one_at he] at h5
                          exact h5
                        have f1 : (j : Int) ≤ (fq : Int) := by omega
                        have f2 : (j : Int) + 1 ≤ (fq : Int) := by omega
                        have f5 : (0 : Int) ≤ (j : Int) + 1 := by omega
                        have f3 : (fq : Int) ≤ 9223372036854775807 := by unfold maxLen at hcm2; omega
                        have f4 : ¬ fq = j := by omega
                        have w03 : IntKind.i64.wrap ((j : Int) + 1) = (j : Int) + 1 := IntWalk.i64_in _ (by omega)
                        clear he hgl2 hcg2 hcm2
                        go_wp2_with fail
                        refine (cEntry_yes _ _ n c6 lv6 sv6 (C20.out.k HJ.out) (c5.base + 1 + (j : Int)) e HEN.out).mono ?_
                        rintro x w22 ⟨a22, q22, rfl, hb22, hk22⟩
                        unfold entV
                        have K22 := hid hk22
                        have B22 := hid hb22
                        clear hb22 hk22
                        go_wp2_with fail
                        refine Plan.wp_region_plan (fun wx => wx.cell? ⟨w22.heap.size, 0, none⟩ = some (.int .i64 e.term) ∧ wx.cell? ⟨w22.heap.size, 1, none⟩ = some (.bool e.cmd) ∧ wx.cell? ⟨w22.heap.size, 2, none⟩ = some (.slice a22 e.data.length q22)) 21 [(true, 0), (true, 1), (true, 2), (true, 3), (true, 4), (true, 5), (true, 6), (true, 7), (true, 8), (true, 9), (true, 10), (true, 12), (true, 13), (true, 14), (true, 15), (true, 16), (false, 11), (false, 17), (true, 18), (true, 19), (true, 20)] (by kernel_rfl) (by as_aux_lemma => kernel_rfl) (by kernel_rfl) (fun _ _ _ _ _ h => h) ?_ (fun hS => ?_)
                        (· go_simp)
                        simp only [Plan.pick, List.append_eq, List.cons_append, List.nil_append, List.getElem?_cons_zero, List.getElem?_cons_succ, Option.getD_some, List.drop_succ_cons, List.drop_zero]
                        iterate 15 (first | (refine Plan.take (v := ?_) (a' := ?_) (Plan.want_all (by rfl)) ?_ ?_ ?_; rotate_left 2; (· (intro w' hS'; (try dsimp only at hS'); go_simp; try with_reducible rfl)); (· (simp only [Act.put, List.setIfInBounds_toArray, List.set_cons_zero, List.set_cons_succ]; try with_reducible rfl))) | (refine Plan.take (v := ?_) (a' := ?_) (Plan.want_yes (by rfl) (by rfl) (by rfl) (by rfl)) ?_ ?_ ?_; rotate_left 2; (· (intro w' hS'; (try dsimp only at hS'); go_simp; try with_reducible rfl)); (· (simp only [Act.put, List.setIfInBounds_toArray, List.set_cons_zero, List.set_cons_succ]; try with_reducible rfl))) | (refine Plan.pass (a' := ?_) (Plan.want_no (by rfl) (by rfl) (by rfl) (by rfl)) ?_ ?_; rotate_left 1; (· (simp only [Act.put, List.setIfInBounds_toArray, List.set_cons_zero, List.set_cons_succ]; try with_reducible rfl))) | (refine Plan.pass (a' := ?_) (Plan.want_un (by rfl) (by rfl) (by rfl) (by rfl)) ?_ ?_; rotate_left 1; (· (simp only [Act.put, List.setIfInBounds_toArray, List.set_cons_zero, List.set_cons_succ]; try with_reducible rfl))) | fail)
                        refine Plan.take (v := .slice (some ⟨g2, off2 + j * 3, none⟩) 1 (fq - j)) (a' := ?_) (Plan.want_yes (by rfl) (by rfl) (by rfl) (by rfl)) ?_ ?_ ?_
                        rotate_left 1
                        (· intro w' hS'
                           (try dsimp only at hS')
                           go_simp)
                        (· simp only [Act.put, List.setIfInBounds_toArray, List.set_cons_zero, List.set_cons_succ]
                           try with_reducible rfl)
                        refine Plan.step ?_
                        go_wp2_with fail
                        refine ⟨?_, ?_⟩
                        (· go_simp)
                        refine Plan.step ?_
                        go_wp2_with fail
                        have HONE : Hid (ListAt entL ((w22.alloc (.cells #[.int .i64 e.term, .bool e.cmd, .slice a22 e.data.length q22] 59)).alloc (.cells #[.int .i64 e.term, .bool e.cmd, .slice a22 e.data.length q22] 59)).drew (fun _ => True) (.slice (some ⟨w22.heap.size + 1, 0, none⟩) 1 1) [e]) := by
                          have h1 := one_list (w := w22) (w1 := w22.alloc (.cells #[.int .i64 e.term, .bool e.cmd, .slice a22 e.data.length q22] 59)) ((Keeps.refl [] w22).alloc _) B22.out
                          rw [show (w22.alloc (.cells #[.int .i64 e.term, .bool e.cmd, .slice a22 e.data.length q22] 59)).heap.size = w22.heap.size + 1 by simp] at h1
                          exact h1.k ((Keeps.refl [] _).drew)
                        refine (sameEntries_is [e] 1 rfl (fun _ => True) (fun _ => True) _ _ _ _ _ HONE.out (HPC.out.k (Keeps.trans K22.out (by (repeat (first | (with_reducible exact Keeps.refl _ _) | (with_reducible assumption) | ((with_reducible refine Keeps.setCell ?_ ?_ _); rotate_left 1; (· first | (refine .inl ?_; simp; done) | (refine .inr ?_; first | exact Nat.le_refl _ | (simp; done) | (simp; omega) | omega))) | (with_reducible refine Keeps.alloc ?_ _) | (with_reducible refine Keeps.drewN ?_ _) | (with_reducible refine Keeps.drew ?_)))) (fun _ _ h => h))) (by omega)).mono ?_
                        rintro x w23 ⟨rfl, hk23⟩
                        have K23 : Hid (Keeps [] wr w23) := Keeps.trans K22.out (Keeps.trans (by (repeat (first | (with_reducible exact Keeps.refl _ _) | (with_reducible assumption) | ((with_reducible refine Keeps.setCell ?_ ?_ _); rotate_left 1; (· first | (refine .inl ?_; simp; done) | (refine .inr ?_; first | exact Nat.le_refl _ | (simp; done) | (simp; omega) | omega))) | (with_reducible refine Keeps.alloc ?_ _) | (with_reducible refine Keeps.drewN ?_ _) | (with_reducible refine Keeps.drew ?_)))) hk23 (fun _ _ h => h)) (fun _ _ h => h)
                        have hs23 : w23.cell? ⟨w22.heap.size, 0, none⟩ = some (.int .i64 e.term) ∧ w23.cell? ⟨w22.heap.size, 1, none⟩ = some (.bool e.cmd) ∧ w23.cell? ⟨w22.heap.size, 2, none⟩ = some (.slice a22 e.data.length q22) := ⟨hk23.cellSome (by go_simp) (by simp), hk23.cellSome (by go_simp) (by simp), hk23.cellSome (by go_simp) (by simp)⟩
                        clear hk23
                        go_wp2_with fail
                        refine ⟨hs23, ?_⟩
                        iterate 3 (first | (refine Plan.take (v := ?_) (a' := ?_) (Plan.want_all (by rfl)) ?_ ?_ ?_; rotate_left 2; (· (intro w' hS'; (try dsimp only at hS'); go_simp; try with_reducible rfl)); (· (simp only [Act.put, List.setIfInBounds_toArray, List.set_cons_zero, List.set_cons_succ]; try with_reducible rfl))) | (refine Plan.take (v := ?_) (a' := ?_) (Plan.want_yes (by rfl) (by rfl) (by rfl) (by rfl)) ?_ ?_ ?_; rotate_left 2; (· (intro w' hS'; (try dsimp only at hS'); go_simp; try with_reducible rfl)); (· (simp only [Act.put, List.setIfInBounds_toArray, List.set_cons_zero, List.set_cons_succ]; try with_reducible rfl))) | (refine Plan.pass (a' := ?_) (Plan.want_no (by rfl) (by rfl) (by rfl) (by rfl)) ?_ ?_; rotate_left 1; (· (simp only [Act.put, List.setIfInBounds_toArray, List.set_cons_zero, List.set_cons_succ]; try with_reducible rfl))) | (refine Plan.pass (a' := ?_) (Plan.want_un (by rfl) (by rfl) (by rfl) (by rfl)) ?_ ?_; rotate_left 1; (· (simp only [Act.put, List.setIfInBounds_toArray, List.set_cons_zero, List.set_cons_succ]; try with_reducible rfl))) | fail)
                        refine Plan.fin ?_
                        go_wp2_with fail
                        go_roundw
                        case rel => exact ⟨j + 1, by go_num, by omega, HJ.out.trans (K23.out.trans (by (repeat (first | (with_reducible exact Keeps.refl _ _) | (with_reducible assumption) | ((with_reducible refine Keeps.setCell ?_ ?_ _); rotate_left 1; (· first | (refine .inl ?_; simp; done) | (refine .inr ?_; first | exact Nat.le_refl _ | (simp; done) | (simp; omega) | omega))) | (with_reducible refine Keeps.alloc ?_ _) | (with_reducible refine Keeps.drewN ?_ _) | (with_reducible refine Keeps.drew ?_)))) (fun _ _ h => h)) (fun _ _ h => h)⟩
                        case measure => simp [intOf]; omega
                      · have hib2 : c5.base + 1 + (j : Int) ≤ c6.base := by omega
                        have gd : decide (c6.base < c5.base + 1 + (j : Int)) = false := by simpa using hib2
                        have HEN : Hid (entD c6 (c5.base + 1 + (j : Int)) = none) := by
                          show _ = _
                          unfold entD
                          rw [if_pos (.inl hib2)]
                        clear hib
                        go_wp2_with fail
                        refine (cEntry_no _ _ n c6 lv6 sv6 (C20.out.k HJ.out) (c5.base + 1 + (j : Int)) HEN.out).mono ?_
                        rintro x w22 ⟨rfl, hk22⟩
                        unfold entV
                        have K22 := hid hk22
                        clear hk22
                        go_wp2_with fail
                        refine Plan.wp_region_plan (fun wx => True) 21 [(true, 0), (true, 1), (true, 2), (true, 3), (true, 4), (true, 5), (true, 6), (true, 7), (true, 8), (true, 9), (true, 10), (true, 12), (true, 13), (true, 14), (true, 15), (true, 16), (false, 11), (false, 17), (true, 18), (true, 19), (true, 20)] (by kernel_rfl) (by as_aux_lemma => kernel_rfl) (by kernel_rfl) (fun _ _ _ _ _ h => h) ?_ (fun hS => ?_)
                        (· trivial)
                        simp only [Plan.pick, List.append_eq, List.cons_append, List.nil_append, List.getElem?_cons_zero, List.getElem?_cons_succ, Option.getD_some, List.drop_succ_cons, List.drop_zero]
                        iterate 16 (first | (refine Plan.take (v := ?_) (a' := ?_) (Plan.want_all (by rfl)) ?_ ?_ ?_; rotate_left 2; (· (intro w' hS'; (try dsimp only at hS'); go_simp; try with_reducible rfl)); (· (simp only [Act.put, List.setIfInBounds_toArray, List.set_cons_zero, List.set_cons_succ]; try with_reducible rfl))) | (refine Plan.take (v := ?_) (a' := ?_) (Plan.want_yes (by rfl) (by rfl) (by rfl) (by rfl)) ?_ ?_ ?_; rotate_left 2; (· (intro w' hS'; (try dsimp only at hS'); go_simp; try with_reducible rfl)); (· (simp only [Act.put, List.setIfInBounds_toArray, List.set_cons_zero, List.set_cons_succ]; try with_reducible rfl))) | (refine Plan.pass (a' := ?_) (Plan.want_no (by rfl) (by rfl) (by rfl) (by rfl)) ?_ ?_; rotate_left 1; (· (simp only [Act.put, List.setIfInBounds_toArray, List.set_cons_zero, List.set_cons_succ]; try with_reducible rfl))) | (refine Plan.pass (a' := ?_) (Plan.want_un (by rfl) (by rfl) (by rfl) (by rfl)) ?_ ?_; rotate_left 1; (· (simp only [Act.put, List.setIfInBounds_toArray, List.set_cons_zero, List.set_cons_succ]; try with_reducible rfl))) | fail)
                        refine Plan.step ?_
                        go_wp2_with fail
                        refine ⟨trivial, ?_⟩
                        refine Plan.step ?_
                        go_wp2_with fail
                        refine ⟨trivial, ?_⟩
                        iterate 3 (first | (refine Plan.take (v := ?_) (a' := ?_) (Plan.want_all (by rfl)) ?_ ?_ ?_; rotate_left 2; (· (intro w' hS'; (try dsimp only at hS'); go_simp; try with_reducible rfl)); (· (simp only [Act.put, List.setIfInBounds_toArray, List.set_cons_zero, List.set_cons_succ]; try with_reducible rfl))) | (refine Plan.take (v := ?_) (a' := ?_) (Plan.want_yes (by rfl) (by rfl) (by rfl) (by rfl)) ?_ ?_ ?_; rotate_left 2; (· (intro w' hS'; (try dsimp only at hS'); go_simp; try with_reducible rfl)); (· (simp only [Act.put, List.setIfInBounds_toArray, List.set_cons_zero, List.set_cons_succ]; try with_reducible rfl))) | (refine Plan.pass (a' := ?_) (Plan.want_no (by rfl) (by rfl) (by rfl) (by rfl)) ?_ ?_; rotate_left 1; (· (simp only [Act.put, List.setIfInBounds_toArray, List.set_cons_zero, List.set_cons_succ]; try with_reducible rfl))) | (refine Plan.pass (a' := ?_) (Plan.want_un (by rfl) (by rfl) (by rfl) (by rfl)) ?_ ?_; rotate_left 1; (· (simp only [Act.put, List.setIfInBounds_toArray, List.set_cons_zero, List.set_cons_succ]; try with_reducible rfl))) | fail)
                        refine Plan.fin ?_
                        go_wp2_with fail
                        go_roundw
                        case rel => exact ⟨j + 1, by go_num, by omega, HJ.out.trans (Keeps.trans K22.out (by (repeat (first | (with_reducible exact Keeps.refl _ _) | (with_reducible assumption) | ((with_reducible refine Keeps.setCell ?_ ?_ _); rotate_left 1; (· first | (refine .inl ?_; simp; done) | (refine .inr ?_; first | exact Nat.le_refl _ | (simp; done) | (simp; omega) | omega))) | (with_reducible refine Keeps.alloc ?_ _) | (with_reducible refine Keeps.drewN ?_ _) | (with_reducible refine Keeps.drew ?_)))) (fun _ _ h => h)) (fun _ _ h => h)⟩
                        case measure => simp [intOf]; omega
                    · have hjc2 : c5.commit < c5.base + 1 + (j : Int) := by omega
                      clear hjc
                      go_wp2_with fail
                      go_roundw
                      case rel => obtain ⟨k', c, lv, sv, h1, h2, h3, h4⟩ := HREL.out; exact ⟨k', c, lv, sv, by first | rw [← h1] | (rw [← h1]; go_num), h2, h3, h4⟩
                      case measure => simp [intOf]; omega
                  · have j1 : (c5.l.length : Int) ≤ (j : Int) := by omega
                    go_wp2_with fail
                    go_roundw
                    case rel => obtain ⟨k', c, lv, sv, h1, h2, h3, h4⟩ := HREL.out; exact ⟨k', c, lv, sv, by first | rw [← h1] | (rw [← h1]; go_num), h2, h3, h4⟩
                    case measure => simp [intOf]; omega
        by_cases e8 : pk = 8
        · as_aux_lemma =>
            subst e8
            go_wp2_with fail
            refine (cDraw_any _ _ n c5 lv5 sv5 o.num C12.out).mono ?_
            rintro x w20 ⟨rfl, hc20, hk20⟩
            have HGR : Hid (GrowsR c5 (drawD c5 o.num)) := draw_grows C12.out.ok _
            have HST : Hid (c5.role = 2 → (drawD c5 o.num).term = c5.term) := fun _ => rfl
            have HT : Hid (∃ lv6 sv6, CoreAt w20 w4.heap.size n (drawD c5 o.num) lv6 sv6 ∧ Keeps [] w w20 ∧ ListAt entL w20 (fun _ => True) (.slice fa c5.l.length fq) c5.l) := by
              have hnn := C6.out.lt n (by simp)
              refine ⟨lv5, sv5, hc20, HKW.out.trans hk20 (fun b hb hb' => by simp at hb'; have := HBW.out; omega), (L12.out.keep hk20 (fun b hb hb' => by simp at hb'; omega)).mono (fun _ _ _ => trivial)⟩
            generalize drawD c5 o.num = c6 at HGR HT HST
            clear hc20 hk20
            obtain ⟨lv6, sv6, hC20, hK20, hL20⟩ := HT.out
            have C20 := hid hC20
            have K20 := hid hK20
            have L20 := hid hL20
            have gcm := hC20.ok.commit
            have gls : lastD c6 = c6.base + c6.l.length := rfl
            have g1 : decide (c6.term < c5.term) = false := by have := HGR.out.term; simp; omega
            have g2 : decide (c6.commit < c5.commit) = false := by have := HGR.out.commit; simp; omega
            have g3 : decide (lastD c6 < c6.commit) = false := by simp; omega
            clear hC20 hK20 hL20 HT gcm gls z0 z1 z2 z3 z4 z5 z6 z7 z8 z9 z10 z11 z12
            go_wp2_with fail
            refine (cTerm_any _ _ n c6 lv6 sv6 C20.out).mono ?_
            rintro x wa ⟨rfl, hwa⟩
            rw [hwa]
            clear hwa wa
            go_wp2_with fail
            refine (cCommit_any _ _ n c6 lv6 sv6 C20.out).mono ?_
            rintro x wa ⟨rfl, hwa⟩
            rw [hwa]
            clear hwa wa
            go_wp2_with fail
            refine (cCommit_any _ _ n c6 lv6 sv6 C20.out).mono ?_
            rintro x wa ⟨rfl, hwa⟩
            rw [hwa]
            clear hwa wa
            go_wp2_with fail
            refine (cLast_any _ _ n c6 lv6 sv6 C20.out).mono ?_
            rintro x wa ⟨rfl, q1, rfl⟩
            have hcs : (c5.role == 2) = false ∨ ((c5.role == 2) = true ∧ (c6.term == c5.term) = true ∧ decide (lastD c6 < lastD c5) = false) := by
              by_cases h1 : c5.role = 2
              · exact .inr ⟨by simpa using h1, by simpa using HST.out h1, by have := HGR.out.lead h1 (HST.out h1); simp; omega⟩
              · exact .inl (by simpa using h1)
            rcases hcs with g4 | ⟨g4, g5, g6⟩
            all_goals
              go_wp2_with fail
              try
                refine (cTerm_any _ _ n c6 lv6 sv6 (C20.out.k (by (repeat (first | (with_reducible exact Keeps.refl _ _) | (with_reducible assumption) | ((with_reducible refine Keeps.setCell ?_ ?_ _); rotate_left 1; (· first | (refine .inl ?_; simp; done) | (refine .inr ?_; first | exact Nat.le_refl _ | (simp; done) | (simp; omega) | omega))) | (with_reducible refine Keeps.alloc ?_ _) | (with_reducible refine Keeps.drewN ?_ _) | (with_reducible refine Keeps.drew ?_)))))).mono ?_
                rintro x wa ⟨rfl, hwa⟩
                rw [hwa]
                clear hwa wa
                go_wp2_with fail
              try
                refine (cLast_any _ _ n c6 lv6 sv6 (C20.out.k (by (repeat (first | (with_reducible exact Keeps.refl _ _) | (with_reducible assumption) | ((with_reducible refine Keeps.setCell ?_ ?_ _); rotate_left 1; (· first | (refine .inl ?_; simp; done) | (refine .inr ?_; first | exact Nat.le_refl _ | (simp; done) | (simp; omega) | omega))) | (with_reducible refine Keeps.alloc ?_ _) | (with_reducible refine Keeps.drewN ?_ _) | (with_reducible refine Keeps.drew ?_)))))).mono ?_
                rintro x wa ⟨rfl, q2, rfl⟩
                go_wp2_with fail
              refine (cBase_any _ _ n c6 lv6 sv6 (C20.out.k (by (repeat (first | (with_reducible exact Keeps.refl _ _) | (with_reducible assumption) | ((with_reducible refine Keeps.setCell ?_ ?_ _); rotate_left 1; (· first | (refine .inl ?_; simp; done) | (refine .inr ?_; first | exact Nat.le_refl _ | (simp; done) | (simp; omega) | omega))) | (with_reducible refine Keeps.alloc ?_ _) | (with_reducible refine Keeps.drewN ?_ _) | (with_reducible refine Keeps.drew ?_)))))).mono ?_
              rintro x wa ⟨rfl, q3, rfl⟩
              go_wp2_with fail
              go_loopw [22] (fun iv wi => ∃ j : Nat, iv = .int .i64 j ∧ j ≤ c5.l.length ∧ Hid (Keeps [] w20 wi)) (fun iv _ => c5.l.length - (intOf iv).toNat)
              case atStart => exact ⟨0, rfl, Nat.zero_le _, by show Keeps _ _ _; (repeat (first | (with_reducible exact Keeps.refl _ _) | (with_reducible assumption) | ((with_reducible refine Keeps.setCell ?_ ?_ _); rotate_left 1; (· first | (refine .inl ?_; simp; done) | (refine .inr ?_; first | exact Nat.le_refl _ | (simp; done) | (simp; omega) | omega))) | (with_reducible refine Keeps.alloc ?_ _) | (with_reducible refine Keeps.drewN ?_ _) | (with_reducible refine Keeps.drew ?_)))⟩
              case round =>
                obtain ⟨j, rfl, hj, HJ⟩ := hrel
                have j0 : (0 : Int) ≤ (j : Int) := Int.natCast_nonneg _
                have HREL : Hid (∃ (k' : Nat) (c : CoreD) (lv sv : Value), (k : Int) + 1 = (k' : Int) ∧ k' ≤ ops.length ∧ k' ≤ 40 ∧ CoreAt wr w4.heap.size n c lv sv ∧ Keeps [] w wr ∧ (0 ≤ c.patience ∧ c.patience ≤ k') ∧ lastD c ≤ 1099511627776 + 8 * k') :=
                  ⟨k + 1, c6, lv6, sv6, by omega, by omega, by omega, C20.out.k HJ.out, K20.out.trans HJ.out (fun _ _ h => h), by have := HGR.out.pat HW.out.2.2.1.1; have := HW.out.2.2.1; omega, by have := HGR.out.last; have := HW.out.2.2.2; omega⟩
                by_cases hjl : j < c5.l.length
                · have j1 : (j : Int) < (c5.l.length : Int) := by omega
                  have HBD : Hid (0 ≤ c5.base ∧ c5.base ≤ 2199023255552 ∧ (c5.l.length : Int) ≤ 5096) := by have := C12.out.ok.base; have := C12.out.ok.last; have := C12.out.ok.len; show _ ∧ _ ∧ _; omega
                  obtain ⟨bd0, bd1, bd2⟩ := HBD.out
                  have w01 : IntKind.i64.wrap (c5.base + 1) = c5.base + 1 := IntWalk.i64_in _ (by omega)
                  have w02 : IntKind.i64.wrap (c5.base + 1 + (j : Int)) = c5.base + 1 + (j : Int) := IntWalk.i64_in _ (by omega)
                  by_cases hjc : c5.base + 1 + (j : Int) ≤ c5.commit
                  · by_cases hib : c6.base < c5.base + 1 + (j : Int)
                    · obtain ⟨e, he⟩ : ∃ e, c5.l[j]? = some e := ⟨c5.l[j], List.getElem?_eq_getElem hjl⟩
                      have gd : decide (c6.base < c5.base + 1 + (j : Int)) = true := by simpa using hib
                      have HEN : Hid (entD c6 (c5.base + 1 + (j : Int)) = some e) := by
                        show _ = _
                        rw [HGR.out.ents _ (by omega) hjc hib]
                        unfold entD
                        have hcl := C12.out.ok.commit
                        rw [if_neg (by unfold lastD; omega), show (c5.base + 1 + (j : Int) - c5.base - 1).toNat = j by omega]
                        exact he
                      obtain ⟨g2, off2, cg2, hfa, hcg2, hcm2, hgl2, _⟩ := (L20.out.k HJ.out).addr (fun hn => by rw [hn] at hjl; simp at hjl)
                      simp at hfa
                      obtain ⟨hfa, hfq⟩ := hfa
                      subst hfa
                      subst hfq
                      have HPC : Hid (ListAt entL wr (fun _ => True) (.slice (some ⟨g2, off2 + j * 3, none⟩) 1 (fq - j)) [e]) := by
                        have h5 := (L20.out.k HJ.out).piece j 1 (fq - j) (some ⟨g2, off2 + j * 3, none⟩) (by omega) (by omega) (by omega) (fun _ => rfl)
                        rw [take_one_at he] at h5
                        exact h5
                      have f1 : (j : Int) ≤ (fq : Int) := by omega
                      have f2 : (j : Int) + 1 ≤ (fq : Int) := by omega
                      have f5 : (0 : Int) ≤ (j : Int) + 1 := by omega
                      have f3 : (fq : Int) ≤ 9223372036854775807 := by unfold maxLen at hcm2; omega
                      have f4 : ¬ fq = j := by omega
                      have w03 : IntKind.i64.wrap ((j : Int) + 1) = (j : Int) + 1 := IntWalk.i64_in _ (by omega)
                      clear he hgl2 hcg2 hcm2
                      go_wp2_with fail
                      refine (cEntry_yes _ _ n c6 lv6 sv6 (C20.out.k HJ.out) (c5.base + 1 + (j : Int)) e HEN.out).mono ?_
                      rintro x w22 ⟨a22, q22, rfl, hb22, hk22⟩
                      unfold entV
                      have K22 := hid hk22
                      have B22 := hid hb22
                      clear hb22 hk22
                      go_wp2_with fail
                      refine Plan.wp_region_plan (fun wx => wx.cell? ⟨w22.heap.size, 0, none⟩ = some (.int .i64 e.term) ∧ wx.cell? ⟨w22.heap.size, 1, none⟩ = some (.bool e.cmd) ∧ wx.cell? ⟨w22.heap.size, 2, none⟩ = some (.slice a22 e.data.length q22)) 21 [(true, 0), (true, 1), (true, 2), (true, 3), (true, 4), (true, 5), (true, 6), (true, 7), (true, 8), (true, 9), (true, 10), (true, 12), (true, 13), (true, 14), (true, 15), (true, 16), (false, 11), (false, 17), (true, 18), (true, 19), (true, 20)] (by kernel_rfl) (by as_aux_lemma => kernel_rfl) (by kernel_rfl) (fun _ _ _ _ _ h => h) ?_ (fun hS => ?_)
                      (· go_simp)
                      simp only [Plan.pick, List.append_eq, List.cons_append, List.nil_append, List.getElem?_cons_zero, List.getElem?_cons_succ, Option.getD_some, List.drop_succ_cons, List.drop_zero]
                      iterate 15 (first | (refine Plan.take (v := ?_) (a' := ?_) (Plan.want_all (by rfl)) ?_ ?_ ?_; rotate_left 2; (· (intro w' hS'; (try dsimp only at hS'); go_simp; try with_reducible rfl)); (· (simp only [Act.put, List.setIfInBounds_toArray, List.set_cons_zero, List.set_cons_succ]; try with_reducible rfl))) | (refine Plan.take (v := ?_) (a' := ?_) (Plan.want_yes (by rfl) (by rfl) (by rfl) (by rfl)) ?_ ?_ ?_; rotate_left 2; (· (intro w' hS'; (try dsimp only at hS'); go_simp; try with_reducible rfl)); (· (simp only [Act.put, List.setIfInBounds_toArray, List.set_cons_zero, List.set_cons_succ]; try with_reducible rfl))) | (refine Plan.pass (a' := ?_) (Plan.want_no (by rfl) (by rfl) (by rfl) (by rfl)) ?_ ?_; rotate_left 1; (· (simp only [Act.put, List.setIfInBounds_toArray, List.set_cons_zero, List.set_cons_succ]; try with_reducible rfl))) | (refine Plan.pass (a' := ?_) (Plan.want_un (by rfl) (by rfl) (by rfl) (by rfl)) ?_ ?_; rotate_left 1; (· (simp only [Act.put, List.setIfInBounds_toArray, List.set_cons_zero, List.set_cons_succ]; try with_reducible rfl))) | fail)
                      refine Plan.take (v := .slice (some ⟨g2, off2 + j * 3, none⟩) 1 (fq - j)) (a' := ?_) (Plan.want_yes (by rfl) (by rfl) (by rfl) (by rfl)) ?_ ?_ ?_
                      rotate_left 1
                      (· intro w' hS'
                         (try dsimp only at hS')
                         go_simp)
                      (· simp only [Act.put, List.setIfInBounds_toArray, List.set_cons_zero, List.set_cons_succ]
                         try with_reducible rfl)
                      refine Plan.step ?_
                      go_wp2_with fail
                      refine ⟨?_, ?_⟩
                      (· go_simp)
                      refine Plan.step ?_
                      go_wp2_with fail
                      have HONE : Hid (ListAt entL ((w22.alloc (.cells #[.int .i64 e.term, .bool e.cmd, .slice a22 e.data.length q22] 59)).alloc (.cells #[.int .i64 e.term, .bool e.cmd, .slice a22 e.data.length q22] 59)).drew (fun _ => True) (.slice (some ⟨w22.heap.size + 1, 0, none⟩) 1 1) [e]) := by
                        have h1 := one_list (w := w22) (w1 := w22.alloc (.cells #[.int .i64 e.term, .bool e.cmd, .slice a22 e.data.length q22] 59)) ((Keeps.refl [] w22).alloc _) B22.out
                        rw [show (w22.alloc (.cells #[.int .i64 e.term, .bool e.cmd, .slice a22 e.data.length q22] 59)).heap.size = w22.heap.size + 1 by simp] at h1
                        exact h1.k ((Keeps.refl [] _).drew)
                      refine (sameEntries_is [e] 1 rfl (fun _ => True) (fun _ => True) _ _ _ _ _ HONE.out (HPC.out.k (Keeps.trans K22.out (by (repeat (first | (with_reducible exact Keeps.refl _ _) | (with_reducible assumption) | ((with_reducible refine Keeps.setCell ?_ ?_ _); rotate_left 1; (· first | (refine .inl ?_; simp; done) | (refine .inr ?_; first | exact Nat.le_refl _ | (simp; done) | (simp; omega) | omega))) | (with_reducible refine Keeps.alloc ?_ _) | (with_reducible refine Keeps.drewN ?_ _) | (with_reducible refine Keeps.drew ?_)))) (fun _ _ h => h))) (by omega)).mono ?_
                      rintro x w23 ⟨rfl, hk23⟩
                      have K23 : Hid (Keeps [] wr w23) := Keeps.trans K22.out (Keeps.trans (by (repeat (first | (with_reducible exact Keeps.refl _ _) | (with_reducible assumption) | ((with_reducible refine Keeps.setCell ?_ ?_ _); rotate_left 1; (· first | (refine .inl ?_; simp; done) | (refine .inr ?_; first | exact Nat.le_refl _ | (simp; done) | (simp; omega) | omega))) | (with_reducible refine Keeps.alloc ?_ _) | (with_reducible refine Keeps.drewN ?_ _) | (with_reducible refine Keeps.drew ?_)))) hk23 (fun _ _ h => h)) (fun _ _ h => h)
                      have hs23 : w23.cell? ⟨w22.heap.size, 0, none⟩ = some (.int .i64 e.term) ∧ w23.cell? ⟨w22.heap.size, 1, none⟩ = some (.bool e.cmd) ∧ w23.cell? ⟨w22.heap.size, 2, none⟩ = some (.slice a22 e.data.length q22) := ⟨hk23.cellSome (by go_simp) (by simp), hk23.cellSome (by go_simp) (by simp), hk23.cellSome (by go_simp) (by simp)⟩
                      clear hk23
                      go_wp2_with fail
                      refine ⟨hs23, ?_⟩
                      iterate 3 (first | (refine Plan.take (v := ?_) (a' := ?_) (Plan.want_all (by rfl)) ?_ ?_ ?_; rotate_left 2; (· (intro w' hS'; (try dsimp only at hS'); go_simp; try with_reducible rfl)); (· (simp only [Act.put, List.setIfInBounds_toArray, List.set_cons_zero, List.set_cons_succ]; try with_reducible rfl))) | (refine Plan.take (v := ?_) (a' := ?_) (Plan.want_yes (by rfl) (by rfl) (by rfl) (by rfl)) ?_ ?_ ?_; rotate_left 2; (· (intro w' hS'; (try dsimp only at hS'); go_simp; try with_reducible rfl)); (· (simp only [Act.put, List.setIfInBounds_toArray, List.set_cons_zero, List.set_cons_succ]; try with_reducible rfl))) | (refine Plan.pass (a' := ?_) (Plan.want_no (by rfl) (by rfl) (by rfl) (by rfl)) ?_ ?_; rotate_left 1; (· (simp only [Act.put, List.setIfInBounds_toArray, List.set_cons_zero, List.set_cons_succ]; try with_reducible rfl))) | (refine Plan.pass (a' := ?_) (Plan.want_un (by rfl) (by rfl) (by rfl) (by rfl)) ?_ ?_; rotate_left 1; (· (simp only [Act.put, List.setIfInBounds_toArray, List.set_cons_zero, List.set_cons_succ]; try with_reducible rfl))) | fail)
                      refine Plan.fin ?_
                      go_wp2_with fail
                      go_roundw
                      case rel => exact ⟨j + 1, by go_num, by omega, HJ.out.trans (K23.out.trans (by (repeat (first | (with_reducible exact Keeps.refl _ _) | (with_reducible assumption) | ((with_reducible refine Keeps.setCell ?_ ?_ _); rotate_left 1; (· first | (refine .inl ?_; simp; done) | (refine .inr ?_; first | exact Nat.le_refl _ | (simp; done) | (simp; omega) | omega))) | (with_reducible refine Keeps.alloc ?_ _) | (with_reducible refine Keeps.drewN ?_ _) | (with_reducible refine Keeps.drew ?_)))) (fun _ _ h => h)) (fun _ _ h => h)⟩
                      case measure => simp [intOf]; omega
                    · have hib2 : c5.base + 1 + (j : Int) ≤ c6.base := by omega
                      have gd : decide (c6.base < c5.base + 1 + (j : Int)) = false := by simpa using hib2
                      have HEN : Hid (entD c6 (c5.base + 1 + (j : Int)) = none) := by
                        show _ = _
                        unfold entD
                        rw [if_pos (.inl hib2)]
                      clear hib
                      go_wp2_with fail
                      refine (cEntry_no _ _ n c6 lv6 sv6 (C20.out.k HJ.out) (c5.base + 1 + (j : Int)) HEN.out).mono ?_
                      rintro x w22 ⟨rfl, hk22⟩
                      unfold entV
                      have K22 := hid hk22
                      clear hk22
                      go_wp2_with fail
                      refine Plan.wp_region_plan (fun wx => True) 21 [(true, 0), (true, 1), (true, 2), (true, 3), (true, 4), (true, 5), (true, 6), (true, 7), (true, 8), (true, 9), (true, 10), (true, 12), (true, 13), (true, 14), (true, 15), (true, 16), (false, 11), (false, 17), (true, 18), (true, 19), (true, 20)] (by kernel_rfl) (by as_aux_lemma => kernel_rfl) (by kernel_rfl) (fun _ _ _ _ _ h => h) ?_ (fun hS => ?_)
                      (· trivial)
                      simp only [Plan.pick, List.append_eq, List.cons_append, List.nil_append, List.getElem?_cons_zero, List.getElem?_cons_succ, Option.getD_some, List.drop_succ_cons, List.drop_zero]
                      iterate 16 (first | (refine Plan.take (v := ?_) (a' := ?_) (Plan.want_all (by rfl)) ?_ ?_ ?_; rotate_left 2; (· (intro w' hS'; (try dsimp only at hS'); go_simp; try with_reducible rfl)); (· (simp only [Act.put, List.setIfInBounds_toArray, List.set_cons_zero, List.set_cons_succ]; try with_reducible rfl))) | (refine Plan.take (v := ?_) (a' := ?_) (Plan.want_yes (by rfl) (by rfl) (by rfl) (by rfl)) ?_ ?_ ?_; rotate_left 2; (· (intro w' hS'; (try dsimp only at hS'); go_simp; try with_reducible rfl)); (· (simp only [Act.put, List.setIfInBounds_toArray, List.set_cons_zero, List.set_cons_succ]; try with_reducible rfl))) | (refine Plan.pass (a' := ?_) (Plan.want_no (by rfl) (by rfl) (by rfl) (by rfl)) ?_ ?_; rotate_left 1; (· (simp only [Act.put, List.setIfInBounds_toArray, List.set_cons_zero, List.set_cons_succ]; try with_reducible rfl))) | (refine Plan.pass (a' := ?_) (Plan.want_un (by rfl) (by rfl) (by rfl) (by rfl)) ?_ ?_; rotate_left 1; (· (simp only [Act.put, List.setIfInBounds_toArray, List.set_cons_zero, List.set_cons_succ]; try with_reducible rfl))) | fail)
                      refine Plan.step ?_
                      go_wp2_with fail
                      refine ⟨trivial, ?_⟩
                      refine Plan.step ?_
                      go_wp2_with fail
                      refine ⟨trivial, ?_⟩
                      iterate 3 (first | (refine Plan.take (v := ?_) (a' := ?_) (Plan.want_all (by rfl)) ?_ ?_ ?_; rotate_left 2; (· (intro w' hS'; (try dsimp only at hS'); go_simp; try with_reducible rfl)); (· (simp only [Act.put, List.setIfInBounds_toArray, List.set_cons_zero, List.set_cons_succ]; try with_reducible rfl))) | (refine Plan.take (v := ?_) (a' := ?_) (Plan.want_yes (by rfl) (by rfl) (by rfl) (by rfl)) ?_ ?_ ?_; rotate_left 2; (· (intro w' hS'; (try dsimp only at hS'); go_simp; try with_reducible rfl)); (· (simp only [Act.put, List.setIfInBounds_toArray, List.set_cons_zero, List.set_cons_succ]; try with_reducible rfl))) | (refine Plan.pass (a' := ?_) (Plan.want_no (by rfl) (by rfl) (by rfl) (by rfl)) ?_ ?_; rotate_left 1; (· (simp only [Act.put, List.setIfInBounds_toArray, List.set_cons_zero, List.set_cons_succ]; try with_reducible rfl))) | (refine Plan.pass (a' := ?_) (Plan.want_un (by rfl) (by rfl) (by rfl) (by rfl)) ?_ ?_; rotate_left 1; (· (simp only [Act.put, List.setIfInBounds_toArray, List.set_cons_zero, List.set_cons_succ]; try with_reducible rfl))) | fail)
                      refine Plan.fin ?_
                      go_wp2_with fail
                      go_roundw
                      case rel => exact ⟨j + 1, by go_num, by omega, HJ.out.trans (Keeps.trans K22.out (by (repeat (first | (with_reducible exact Keeps.refl _ _) | (with_reducible assumption) | ((with_reducible refine Keeps.setCell ?_ ?_ _); rotate_left 1; (· first | (refine .inl ?_; simp; done) | (refine .inr ?_; first | exact Nat.le_refl _ | (simp; done) | (simp; omega) | omega))) | (with_reducible refine Keeps.alloc ?_ _) | (with_reducible refine Keeps.drewN ?_ _) | (with_reducible refine Keeps.drew ?_)))) (fun _ _ h => h)) (fun _ _ h => h)⟩
                      case measure => simp [intOf]; omega
                  · have hjc2 : c5.commit < c5.base + 1 + (j : Int) := by omega
                    clear hjc
                    go_wp2_with fail
                    go_roundw
                    case rel => obtain ⟨k', c, lv, sv, h1, h2, h3, h4⟩ := HREL.out; exact ⟨k', c, lv, sv, by first | rw [← h1] | (rw [← h1]; go_num), h2, h3, h4⟩
                    case measure => simp [intOf]; omega
                · have j1 : (c5.l.length : Int) ≤ (j : Int) := by omega
                  go_wp2_with fail
                  go_roundw
                  case rel => obtain ⟨k', c, lv, sv, h1, h2, h3, h4⟩ := HREL.out; exact ⟨k', c, lv, sv, by first | rw [← h1] | (rw [← h1]; go_num), h2, h3, h4⟩
                  case measure => simp [intOf]; omega
        by_cases e9 : pk = 9
        · as_aux_lemma =>
            subst e9
            go_wp2_with fail
            refine (lawBytes_any (.slice ba o.data.length bc) o.data _ (((BV.out.k K6.out).k K12.out)).1 (by have := HOD.out; omega)).mono ?_
            rintro x w14 ⟨a14, q14, rfl, ho14, hk14⟩
            have D14 : Hid (BytesAt w14 (fun _ => True) (.slice a14 o.data.length q14) o.data) := BytesAt.ofOwn ho14 rfl (fun _ _ _ => trivial)
            have K14 := hid hk14
            clear ho14 hk14
            go_wp2_with fail
            refine (ask_any _ _ n c5 lv5 sv5 o.data a14 q14 _ (C12.out.k K14.out) D14.out (by have := HOD.out; omega) (by have := HLS.out; omega)).mono ?_
            rintro x w20 ⟨ta, tq, lv6, sv6, rfl, hc20, _, hk20, _⟩
            have HGR : Hid (GrowsR c5 (askD c5 o.data).1) := ask_grows C12.out.ok _
            have HST : Hid (c5.role = 2 → (askD c5 o.data).1.term = c5.term) := fun _ => by
              unfold askD
              split
              · rfl
              · split <;> rfl
            have HT : Hid (∃ lv6 sv6, CoreAt w20 w4.heap.size n (askD c5 o.data).1 lv6 sv6 ∧ Keeps [] w w20 ∧ ListAt entL w20 (fun _ => True) (.slice fa c5.l.length fq) c5.l) := by
              refine ⟨lv6, sv6, hc20, (HKW.out.trans K14.out (fun _ _ h => h)).trans hk20 (fun b hb hb' => by have := (C6.out.lt b hb').1; have := HBW.out; omega), ((L12.out.k K14.out).keep hk20 (fun b hb hb' => by have := (C6.out.lt b hb').2; omega)).mono (fun _ _ _ => trivial)⟩
            generalize (askD c5 o.data).1 = c6 at HGR HT HST
            generalize (askD c5 o.data).2.1 = zi
            generalize (askD c5 o.data).2.2.1.length = zl
            generalize (askD c5 o.data).2.2.2 = ze
            clear hc20 hk20
            obtain ⟨lv6, sv6, hC20, hK20, hL20⟩ := HT.out
            have C20 := hid hC20
            have K20 := hid hK20
            have L20 := hid hL20
            have gcm := hC20.ok.commit
            have gls : lastD c6 = c6.base + c6.l.length := rfl
            have g1 : decide (c6.term < c5.term) = false := by have := HGR.out.term; simp; omega
            have g2 : decide (c6.commit < c5.commit) = false := by have := HGR.out.commit; simp; omega
            have g3 : decide (lastD c6 < c6.commit) = false := by simp; omega
            clear hC20 hK20 hL20 HT gcm gls z0 z1 z2 z3 z4 z5 z6 z7 z8 z9 z10 z11 z12
            go_wp2_with fail
            refine (cTerm_any _ _ n c6 lv6 sv6 C20.out).mono ?_
            rintro x wa ⟨rfl, hwa⟩
            rw [hwa]
            clear hwa wa
            go_wp2_with fail
            refine (cCommit_any _ _ n c6 lv6 sv6 C20.out).mono ?_
            rintro x wa ⟨rfl, hwa⟩
            rw [hwa]
            clear hwa wa
            go_wp2_with fail
            refine (cCommit_any _ _ n c6 lv6 sv6 C20.out).mono ?_
            rintro x wa ⟨rfl, hwa⟩
            rw [hwa]
            clear hwa wa
            go_wp2_with fail
            refine (cLast_any _ _ n c6 lv6 sv6 C20.out).mono ?_
            rintro x wa ⟨rfl, q1, rfl⟩
            have hcs : (c5.role == 2) = false ∨ ((c5.role == 2) = true ∧ (c6.term == c5.term) = true ∧ decide (lastD c6 < lastD c5) = false) := by
              by_cases h1 : c5.role = 2
              · exact .inr ⟨by simpa using h1, by simpa using HST.out h1, by have := HGR.out.lead h1 (HST.out h1); simp; omega⟩
              · exact .inl (by simpa using h1)
            rcases hcs with g4 | ⟨g4, g5, g6⟩
            all_goals
              go_wp2_with fail
              try
                refine (cTerm_any _ _ n c6 lv6 sv6 (C20.out.k (by (repeat (first | (with_reducible exact Keeps.refl _ _) | (with_reducible assumption) | ((with_reducible refine Keeps.setCell ?_ ?_ _); rotate_left 1; (· first | (refine .inl ?_; simp; done) | (refine .inr ?_; first | exact Nat.le_refl _ | (simp; done) | (simp; omega) | omega))) | (with_reducible refine Keeps.alloc ?_ _) | (with_reducible refine Keeps.drewN ?_ _) | (with_reducible refine Keeps.drew ?_)))))).mono ?_
                rintro x wa ⟨rfl, hwa⟩
                rw [hwa]
                clear hwa wa
                go_wp2_with fail
              try
                refine (cLast_any _ _ n c6 lv6 sv6 (C20.out.k (by (repeat (first | (with_reducible exact Keeps.refl _ _) | (with_reducible assumption) | ((with_reducible refine Keeps.setCell ?_ ?_ _); rotate_left 1; (· first | (refine .inl ?_; simp; done) | (refine .inr ?_; first | exact Nat.le_refl _ | (simp; done) | (simp; omega) | omega))) | (with_reducible refine Keeps.alloc ?_ _) | (with_reducible refine Keeps.drewN ?_ _) | (with_reducible refine Keeps.drew ?_)))))).mono ?_
                rintro x wa ⟨rfl, q2, rfl⟩
                go_wp2_with fail
              refine (cBase_any _ _ n c6 lv6 sv6 (C20.out.k (by (repeat (first | (with_reducible exact Keeps.refl _ _) | (with_reducible assumption) | ((with_reducible refine Keeps.setCell ?_ ?_ _); rotate_left 1; (· first | (refine .inl ?_; simp; done) | (refine .inr ?_; first | exact Nat.le_refl _ | (simp; done) | (simp; omega) | omega))) | (with_reducible refine Keeps.alloc ?_ _) | (with_reducible refine Keeps.drewN ?_ _) | (with_reducible refine Keeps.drew ?_)))))).mono ?_
              rintro x wa ⟨rfl, q3, rfl⟩
              go_wp2_with fail
              go_loopw [22] (fun iv wi => ∃ j : Nat, iv = .int .i64 j ∧ j ≤ c5.l.length ∧ Hid (Keeps [] w20 wi)) (fun iv _ => c5.l.length - (intOf iv).toNat)
              case atStart => exact ⟨0, rfl, Nat.zero_le _, by show Keeps _ _ _; (repeat (first | (with_reducible exact Keeps.refl _ _) | (with_reducible assumption) | ((with_reducible refine Keeps.setCell ?_ ?_ _); rotate_left 1; (· first | (refine .inl ?_; simp; done) | (refine .inr ?_; first | exact Nat.le_refl _ | (simp; done) | (simp; omega) | omega))) | (with_reducible refine Keeps.alloc ?_ _) | (with_reducible refine Keeps.drewN ?_ _) | (with_reducible refine Keeps.drew ?_)))⟩
              case round =>
                obtain ⟨j, rfl, hj, HJ⟩ := hrel
                have j0 : (0 : Int) ≤ (j : Int) := Int.natCast_nonneg _
                have HREL : Hid (∃ (k' : Nat) (c : CoreD) (lv sv : Value), (k : Int) + 1 = (k' : Int) ∧ k' ≤ ops.length ∧ k' ≤ 40 ∧ CoreAt wr w4.heap.size n c lv sv ∧ Keeps [] w wr ∧ (0 ≤ c.patience ∧ c.patience ≤ k') ∧ lastD c ≤ 1099511627776 + 8 * k') :=
                  ⟨k + 1, c6, lv6, sv6, by omega, by omega, by omega, C20.out.k HJ.out, K20.out.trans HJ.out (fun _ _ h => h), by have := HGR.out.pat HW.out.2.2.1.1; have := HW.out.2.2.1; omega, by have := HGR.out.last; have := HW.out.2.2.2; omega⟩
                by_cases hjl : j < c5.l.length
                · have j1 : (j : Int) < (c5.l.length : Int) := by omega
                  have HBD : Hid (0 ≤ c5.base ∧ c5.base ≤ 2199023255552 ∧ (c5.l.length : Int) ≤ 5096) := by have := C12.out.ok.base; have := C12.out.ok.last; have := C12.out.ok.len; show _ ∧ _ ∧ _; omega
                  obtain ⟨bd0, bd1, bd2⟩ := HBD.out
                  have w01 : IntKind.i64.wrap (c5.base + 1) = c5.base + 1 := IntWalk.i64_in _ (by omega)
                  have w02 : IntKind.i64.wrap (c5.base + 1 + (j : Int)) = c5.base + 1 + (j : Int) := IntWalk.i64_in _ (by omega)
                  by_cases hjc : c5.base + 1 + (j : Int) ≤ c5.commit
                  · by_cases hib : c6.base < c5.base + 1 + (j : Int)
                    · obtain ⟨e, he⟩ : ∃ e, c5.l[j]? = some e := ⟨c5.l[j], List.getElem?_eq_getElem hjl⟩
                      have gd : decide (c6.base < c5.base + 1 + (j : Int)) = true := by simpa using hib
                      have HEN : Hid (entD c6 (c5.base + 1 + (j : Int)) = some e) := by
                        show _ = _
                        rw [HGR.out.ents _ (by omega) hjc hib]
                        unfold entD
                        have hcl := C12.out.ok.commit
                        rw [if_neg (by unfold lastD; omega), show (c5.base + 1 + (j : Int) - c5.base - 1).toNat = j by omega]
                        exact he
                      obtain ⟨g2, off2, cg2, hfa, hcg2, hcm2, hgl2, _⟩ := (L20.out.k HJ.out).addr (fun hn => by rw [hn] at hjl; simp at hjl)
                      simp at hfa
                      obtain ⟨hfa, hfq⟩ := hfa
                      subst hfa
                      subst hfq
                      have HPC : Hid (ListAt entL wr (fun _ => True) (.slice (some ⟨g2, off2 + j * 3, none⟩) 1 (fq - j)) [e]) := by
                        have h5 := (L20.out.k HJ.out).piece j 1 (fq - j) (some ⟨g2, off2 + j * 3, none⟩) (by omega) (by omega) (by omega) (fun _ => rfl)
                        rw [take_one_at he] at h5
                        exact h5
                      have f1 : (j : Int) ≤ (fq : Int) := by omega
                      have f2 : (j : Int) + 1 ≤ (fq : Int) := by omega
                      have f5 : (0 : Int) ≤ (j : Int) + 1 := by omega
                      have f3 : (fq : Int) ≤ 9223372036854775807 := by unfold maxLen at hcm2; omega
                      have f4 : ¬ fq = j := by omega
                      have w03 : IntKind.i64.wrap ((j : Int) + 1) = (j : Int) + 1 := IntWalk.i64_in _ (by omega)
                      clear he hgl2 hcg2 hcm2
                      go_wp2_with fail
                      refine (cEntry_yes _ _ n c6 lv6 sv6 (C20.out.k HJ.out) (c5.base + 1 + (j : Int)) e HEN.out).mono ?_
                      rintro x w22 ⟨a22, q22, rfl, hb22, hk22⟩
                      unfold entV
                      have K22 := hid hk22
                      have B22 := hid hb22
                      clear hb22 hk22
                      go_wp2_with fail
                      refine Plan.wp_region_plan (fun wx => wx.cell? ⟨w22.heap.size, 0, none⟩ = some (.int .i64 e.term) ∧ wx.cell? ⟨w22.heap.size, 1, none⟩ = some (.bool e.cmd) ∧ wx.cell? ⟨w22.heap.size, 2, none⟩ = some (.slice a22 e.data.length q22)) 21 [(true, 0), (true, 1), (true, 2), (true, 3), (true, 4), (true, 5), (true, 6), (true, 7), (true, 8), (true, 9), (true, 10), (true, 12), (true, 13), (true, 14), (true, 15), (true, 16), (false, 11), (false, 17), (true, 18), (true, 19), (true, 20)] (by kernel_rfl) (by as_aux_lemma => kernel_rfl) (by kernel_rfl) (fun _ _ _ _ _ h => h) ?_ (fun hS => ?_)
                      (· go_simp)
                      simp only [Plan.pick, List.append_eq, List.cons_append, List.nil_append, List.getElem?_cons_zero, List.getElem?_cons_succ, Option.getD_some, List.drop_succ_cons, List.drop_zero]
                      iterate 15 (first | (refine Plan.take (v := ?_) (a' := ?_) (Plan.want_all (by rfl)) ?_ ?_ ?_; rotate_left 2; (· (intro w' hS'; (try dsimp only at hS'); go_simp; try with_reducible rfl)); (· (simp only [Act.put, List.setIfInBounds_toArray, List.set_cons_zero, List.set_cons_succ]; try with_reducible rfl))) | (refine Plan.take (v := ?_) (a' := ?_) (Plan.want_yes (by rfl) (by rfl) (by rfl) (by rfl)) ?_ ?_ ?_; rotate_left 2; (· (intro w' hS'; (try dsimp only at hS'); go_simp; try with_reducible rfl)); (· (simp only [Act.put, List.setIfInBounds_toArray, List.set_cons_zero, List.set_cons_succ]; try with_reducible rfl))) | (refine Plan.pass (a' := ?_) (Plan.want_no (by rfl) (by rfl) (by rfl) (by rfl)) ?_ ?_; rotate_left 1; (· (simp only [Act.put, List.setIfInBounds_toArray, List.set_cons_zero, List.set_cons_succ]; try with_reducible rfl))) | (refine Plan.pass (a' := ?_) (Plan.want_un (by rfl) (by rfl) (by rfl) (by rfl)) ?_ ?_; rotate_left 1; (· (simp only [Act.put, List.setIfInBounds_toArray, List.set_cons_zero, List.set_cons_succ]; try with_reducible rfl))) | fail)
                      refine Plan.take (v := .slice (some ⟨g2, off2 + j * 3, none⟩) 1 (fq - j)) (a' := ?_) (Plan.want_yes (by rfl) (by rfl) (by rfl) (by rfl)) ?_ ?_ ?_
                      rotate_left 1
                      (· intro w' hS'
                         (try dsimp only at hS')
                         go_simp)
                      (· simp only [Act.put, List.setIfInBounds_toArray, List.set_cons_zero, List.set_cons_succ]
                         try with_reducible rfl)
                      refine Plan.step ?_
                      go_wp2_with fail
                      refine ⟨?_, ?_⟩
                      (· go_simp)
                      refine Plan.step ?_
                      go_wp2_with fail
                      have HONE : Hid (ListAt entL ((w22.alloc (.cells #[.int .i64 e.term, .bool e.cmd, .slice a22 e.data.length q22] 59)).alloc (.cells #[.int .i64 e.term, .bool e.cmd, .slice a22 e.data.length q22] 59)).drew (fun _ => True) (.slice (some ⟨w22.heap.size + 1, 0, none⟩) 1 1) [e]) := by
                        have h1 := one_list (w := w22) (w1 := w22.alloc (.cells #[.int .i64 e.term, .bool e.cmd, .slice a22 e.data.length q22] 59)) ((Keeps.refl [] w22).alloc _) B22.out
                        rw [show (w22.alloc (.cells #[.int .i64 e.term, .bool e.cmd, .slice a22 e.data.length q22] 59)).heap.size = w22.heap.size + 1 by simp] at h1
                        exact h1.k ((Keeps.refl [] _).drew)
                      refine (sameEntries_is [e] 1 rfl (fun _ => True) (fun _ => True) _ _ _ _ _ HONE.out (HPC.out.k (Keeps.trans K22.out (by (repeat (first | (with_reducible exact Keeps.refl _ _) | (with_reducible assumption) | ((with_reducible refine Keeps.setCell ?_ ?_ _); rotate_left 1; (· first | (refine .inl ?_; simp; done) | (refine .inr ?_; first | exact Nat.le_refl _ | (simp; done) | (simp; omega) | omega))) | (with_reducible refine Keeps.alloc ?_ _) | (with_reducible refine Keeps.drewN ?_ _) | (with_reducible refine Keeps.drew ?_)))) (fun _ _ h => h))) (by omega)).mono ?_
                      rintro x w23 ⟨rfl, hk23⟩
                      have K23 : Hid (Keeps [] wr w23) := Keeps.trans K22.out (Keeps.trans (by (repeat (first | (with_reducible exact Keeps.refl _ _) | (with_reducible assumption) | ((with_reducible refine Keeps.setCell ?_ ?_ _); rotate_left 1; (· first | (refine .inl ?_; simp; done) | (refine .inr ?_; first | exact Nat.le_refl _ | (simp; done) | (simp; omega) | omega))) | (with_reducible refine Keeps.alloc ?_ _) | (with_reducible refine Keeps.drewN ?_ _) | (with_reducible refine Keeps.drew ?_)))) hk23 (fun _ _ h => h)) (fun _ _ h => h)
                      have hs23 : w23.cell? ⟨w22.heap.size, 0, none⟩ = some (.int .i64 e.term) ∧ w23.cell? ⟨w22.heap.size, 1, none⟩ = some (.bool e.cmd) ∧ w23.cell? ⟨w22.heap.size, 2, none⟩ = some (.slice a22 e.data.length q22) := ⟨hk23.cellSome (by go_simp) (by simp), hk23.cellSome (by go_simp) (by simp), hk23.cellSome (by go_simp) (by simp)⟩
                      clear hk23
                      go_wp2_with fail
                      refine ⟨hs23, ?_⟩
                      iterate 3 (first | (refine Plan.take (v := ?_) (a' := ?_) (Plan.want_all (by rfl)) ?_ ?_ ?_; rotate_left 2; (· (intro w' hS'; (try dsimp only at hS'); go_simp; try with_reducible rfl)); (· (simp only [Act.put, List.setIfInBounds_toArray, List.set_cons_zero, List.set_cons_succ]; try with_reducible rfl))) | (refine Plan.take (v := ?_) (a' := ?_) (Plan.want_yes (by rfl) (by rfl) (by rfl) (by rfl)) ?_ ?_ ?_; rotate_left 2; (· (intro w' hS'; (try dsimp only at hS'); go_simp; try with_reducible rfl)); (· (simp only [Act.put, List.setIfInBounds_toArray, List.set_cons_zero, List.set_cons_succ]; try with_reducible rfl))) | (refine Plan.pass (a' := ?_) (Plan.want_no (by rfl) (by rfl) (by rfl) (by rfl)) ?_ ?_; rotate_left 1; (· (simp only [Act.put, List.setIfInBounds_toArray, List.set_cons_zero, List.set_cons_succ]; try with_reducible rfl))) | (refine Plan.pass (a' := ?_) (Plan.want_un (by rfl) (by rfl) (by rfl) (by rfl)) ?_ ?_; rotate_left 1; (· (simp only [Act.put, List.setIfInBounds_toArray, List.set_cons_zero, List.set_cons_succ]; try with_reducible rfl))) | fail)
                      refine Plan.fin ?_
                      go_wp2_with fail
                      go_roundw
                      case rel => exact ⟨j + 1, by go_num, by omega, HJ.out.trans (K23.out.trans (by (repeat (first | (with_reducible exact Keeps.refl _ _) | (with_reducible assumption) | ((with_reducible refine Keeps.setCell ?_ ?_ _); rotate_left 1; (· first | (refine .inl ?_; simp; done) | (refine .inr ?_; first | exact Nat.le_refl _ | (simp; done) | (simp; omega) | omega))) | (with_reducible refine Keeps.alloc ?_ _) | (with_reducible refine Keeps.drewN ?_ _) | (with_reducible refine Keeps.drew ?_)))) (fun _ _ h => h)) (fun _ _ h => h)⟩
                      case measure => simp [intOf]; omega
                    · have hib2 : c5.base + 1 + (j : Int) ≤ c6.base := by omega
                      have gd : decide (c6.base < c5.base + 1 + (j : Int)) = false := by simpa using hib2
                      have HEN : Hid (entD c6 (c5.base + 1 + (j : Int)) = none) := by
                        show _ = _
                        unfold entD
                        rw [if_pos (.inl hib2)]
                      clear hib
                      go_wp2_with fail
                      refine (cEntry_no _ _ n c6 lv6 sv6 (C20.out.k HJ.out) (c5.base + 1 + (j : Int)) HEN.out).mono ?_
                      rintro x w22 ⟨rfl, hk22⟩
                      unfold entV
                      have K22 := hid hk22
                      clear hk22
                      go_wp2_with fail
                      refine Plan.wp_region_plan (fun wx => True) 21 [(true, 0), (true, 1), (true, 2), (true, 3), (true, 4), (true, 5), (true, 6), (true, 7), (true, 8), (true, 9), (true, 10), (true, 12), (true, 13), (true, 14), (true, 15), (true, 16), (false, 11), (false, 17), (true, 18), (true, 19), (true, 20)] (by kernel_rfl) (by as_aux_lemma => kernel_rfl) (by kernel_rfl) (fun _ _ _ _ _ h => h) ?_ (fun hS => ?_)
                      (· trivial)
                      simp only [Plan.pick, List.append_eq, List.cons_append, List.nil_append, List.getElem?_cons_zero, List.getElem?_cons_succ, Option.getD_some, List.drop_succ_cons, List.drop_zero]
                      iterate 16 (first | (refine Plan.take (v := ?_) (a' := ?_) (Plan.want_all (by rfl)) ?_ ?_ ?_; rotate_left 2; (· (intro w' hS'; (try dsimp only at hS'); go_simp; try with_reducible rfl)); (· (simp only [Act.put, List.setIfInBounds_toArray, List.set_cons_zero, List.set_cons_succ]; try with_reducible rfl))) | (refine Plan.take (v := ?_) (a' := ?_) (Plan.want_yes (by rfl) (by rfl) (by rfl) (by rfl)) ?_ ?_ ?_; rotate_left 2; (· (intro w' hS'; (try dsimp only at hS'); go_simp; try with_reducible rfl)); (· (simp only [Act.put, List.setIfInBounds_toArray, List.set_cons_zero, List.set_cons_succ]; try with_reducible rfl))) | (refine Plan.pass (a' := ?_) (Plan.want_no (by rfl) (by rfl) (by rfl) (by rfl)) ?_ ?_; rotate_left 1; (· (simp only [Act.put, List.setIfInBounds_toArray, List.set_cons_zero, List.set_cons_succ]; try with_reducible rfl))) | (refine Plan.pass (a' := ?_) (Plan.want_un (by rfl) (by rfl) (by rfl) (by rfl)) ?_ ?_; rotate_left 1; (· (simp only [Act.put, List.setIfInBounds_toArray, List.set_cons_zero, List.set_cons_succ]; try with_reducible rfl))) | fail)
                      refine Plan.step ?_
                      go_wp2_with fail
                      refine ⟨trivial, ?_⟩
                      refine Plan.step ?_
                      go_wp2_with fail
                      refine ⟨trivial, ?_⟩
                      iterate 3 (first | (refine Plan.take (v := ?_) (a' := ?_) (Plan.want_all (by rfl)) ?_ ?_ ?_; rotate_left 2; (· (intro w' hS'; (try dsimp only at hS'); go_simp; try with_reducible rfl)); (· (simp only [Act.put, List.setIfInBounds_toArray, List.set_cons_zero, List.set_cons_succ]; try with_reducible rfl))) | (refine Plan.take (v := ?_) (a' := ?_) (Plan.want_yes (by rfl) (by rfl) (by rfl) (by rfl)) ?_ ?_ ?_; rotate_left 2; (· (intro w' hS'; (try dsimp only at hS'); go_simp; try with_reducible rfl)); (· (simp only [Act.put, List.setIfInBounds_toArray, List.set_cons_zero, List.set_cons_succ]; try with_reducible rfl))) | (refine Plan.pass (a' := ?_) (Plan.want_no (by rfl) (by rfl) (by rfl) (by rfl)) ?_ ?_; rotate_left 1; (· (simp only [Act.put, List.setIfInBounds_toArray, List.set_cons_zero, List.set_cons_succ]; try with_reducible rfl))) | (refine Plan.pass (a' := ?_) (Plan.want_un (by rfl) (by rfl) (by rfl) (by rfl)) ?_ ?_; rotate_left 1; (· (simp only [Act.put, List.setIfInBounds_toArray, List.set_cons_zero, List.set_cons_succ]; try with_reducible rfl))) | fail)
                      refine Plan.fin ?_
                      go_wp2_with fail
                      go_roundw
                      case rel => exact ⟨j + 1, by go_num, by omega, HJ.out.trans (Keeps.trans K22.out (by (repeat (first | (with_reducible exact Keeps.refl _ _) | (with_reducible assumption) | ((with_reducible refine Keeps.setCell ?_ ?_ _); rotate_left 1; (· first | (refine .inl ?_; simp; done) | (refine .inr ?_; first | exact Nat.le_refl _ | (simp; done) | (simp; omega) | omega))) | (with_reducible refine Keeps.alloc ?_ _) | (with_reducible refine Keeps.drewN ?_ _) | (with_reducible refine Keeps.drew ?_)))) (fun _ _ h => h)) (fun _ _ h => h)⟩
                      case measure => simp [intOf]; omega
                  · have hjc2 : c5.commit < c5.base + 1 + (j : Int) := by omega
                    clear hjc
                    go_wp2_with fail
                    go_roundw
                    case rel => obtain ⟨k', c, lv, sv, h1, h2, h3, h4⟩ := HREL.out; exact ⟨k', c, lv, sv, by first | rw [← h1] | (rw [← h1]; go_num), h2, h3, h4⟩
                    case measure => simp [intOf]; omega
                · have j1 : (c5.l.length : Int) ≤ (j : Int) := by omega
                  go_wp2_with fail
                  go_roundw
                  case rel => obtain ⟨k', c, lv, sv, h1, h2, h3, h4⟩ := HREL.out; exact ⟨k', c, lv, sv, by first | rw [← h1] | (rw [← h1]; go_num), h2, h3, h4⟩
                  case measure => simp [intOf]; omega
        by_cases e1 : pk = 10 ∨ pk = 11
        · rcases e1 with rfl | rfl
          · as_aux_lemma =>
              obtain ⟨c6, hc6⟩ : ∃ c6, c6 = c5 := ⟨_, rfl⟩
              obtain ⟨w20, hw20⟩ : ∃ w20, w20 = w12 := ⟨_, rfl⟩
              have HGR : Hid (GrowsR c5 c6) := by
                show GrowsR _ _
                rw [hc6]
                exact GrowsR.refl (ok_commit C12.out.ok)
              have HST : Hid (c5.role = 2 → c6.term = c5.term) := fun _ => by rw [hc6]
              have HT : Hid (∃ lv6 sv6, CoreAt w20 w4.heap.size n c6 lv6 sv6 ∧ Keeps [] w w20 ∧ ListAt entL w20 (fun _ => True) (.slice fa c5.l.length fq) c5.l) := by
                show ∃ lv6 sv6, _
                rw [hc6, hw20]
                exact ⟨lv5, sv5, C12.out, HKW.out, L12.out.mono (fun _ _ _ => trivial)⟩
              rw [← hw20]
              clear hc6 hw20
              obtain ⟨lv6, sv6, hC20, hK20, hL20⟩ := HT.out
              have C20 := hid hC20
              have K20 := hid hK20
              have L20 := hid hL20
              have gcm := hC20.ok.commit
              have gls : lastD c6 = c6.base + c6.l.length := rfl
              have g1 : decide (c6.term < c5.term) = false := by have := HGR.out.term; simp; omega
              have g2 : decide (c6.commit < c5.commit) = false := by have := HGR.out.commit; simp; omega
              have g3 : decide (lastD c6 < c6.commit) = false := by simp; omega
              clear hC20 hK20 hL20 HT gcm gls z0 z1 z2 z3 z4 z5 z6 z7 z8 z9 z10 z11 z12
              go_wp2_with fail
              refine (cTerm_any _ _ n c6 lv6 sv6 C20.out).mono ?_
              rintro x wa ⟨rfl, hwa⟩
              rw [hwa]
              clear hwa wa
              go_wp2_with fail
              refine (cCommit_any _ _ n c6 lv6 sv6 C20.out).mono ?_
              rintro x wa ⟨rfl, hwa⟩
              rw [hwa]
              clear hwa wa
              go_wp2_with fail
              refine (cCommit_any _ _ n c6 lv6 sv6 C20.out).mono ?_
              rintro x wa ⟨rfl, hwa⟩
              rw [hwa]
              clear hwa wa
              go_wp2_with fail
              refine (cLast_any _ _ n c6 lv6 sv6 C20.out).mono ?_
              rintro x wa ⟨rfl, q1, rfl⟩
              have hcs : (c5.role == 2) = false ∨ ((c5.role == 2) = true ∧ (c6.term == c5.term) = true ∧ decide (lastD c6 < lastD c5) = false) := by
                by_cases h1 : c5.role = 2
                · exact .inr ⟨by simpa using h1, by simpa using HST.out h1, by have := HGR.out.lead h1 (HST.out h1); simp; omega⟩
                · exact .inl (by simpa using h1)
              rcases hcs with g4 | ⟨g4, g5, g6⟩
              all_goals
                go_wp2_with fail
                try
                  refine (cTerm_any _ _ n c6 lv6 sv6 (C20.out.k (by (repeat (first | (with_reducible exact Keeps.refl _ _) | (with_reducible assumption) | ((with_reducible refine Keeps.setCell ?_ ?_ _); rotate_left 1; (· first | (refine .inl ?_; simp; done) | (refine .inr ?_; first | exact Nat.le_refl _ | (simp; done) | (simp; omega) | omega))) | (with_reducible refine Keeps.alloc ?_ _) | (with_reducible refine Keeps.drewN ?_ _) | (with_reducible refine Keeps.drew ?_)))))).mono ?_
                  rintro x wa ⟨rfl, hwa⟩
                  rw [hwa]
                  clear hwa wa
                  go_wp2_with fail
                try
                  refine (cLast_any _ _ n c6 lv6 sv6 (C20.out.k (by (repeat (first | (with_reducible exact Keeps.refl _ _) | (with_reducible assumption) | ((with_reducible refine Keeps.setCell ?_ ?_ _); rotate_left 1; (· first | (refine .inl ?_; simp; done) | (refine .inr ?_; first | exact Nat.le_refl _ | (simp; done) | (simp; omega) | omega))) | (with_reducible refine Keeps.alloc ?_ _) | (with_reducible refine Keeps.drewN ?_ _) | (with_reducible refine Keeps.drew ?_)))))).mono ?_
                  rintro x wa ⟨rfl, q2, rfl⟩
                  go_wp2_with fail
                refine (cBase_any _ _ n c6 lv6 sv6 (C20.out.k (by (repeat (first | (with_reducible exact Keeps.refl _ _) | (with_reducible assumption) | ((with_reducible refine Keeps.setCell ?_ ?_ _); rotate_left 1; (· first | (refine .inl ?_; simp; done) | (refine .inr ?_; first | exact Nat.le_refl _ | (simp; done) | (simp; omega) | omega))) | (with_reducible refine Keeps.alloc ?_ _) | (with_reducible refine Keeps.drewN ?_ _) | (with_reducible refine Keeps.drew ?_)))))).mono ?_
                rintro x wa ⟨rfl, q3, rfl⟩
                go_wp2_with fail
                go_loopw [22] (fun iv wi => ∃ j : Nat, iv = .int .i64 j ∧ j ≤ c5.l.length ∧ Hid (Keeps [] w20 wi)) (fun iv _ => c5.l.length - (intOf iv).toNat)
                case atStart => exact ⟨0, rfl, Nat.zero_le _, by show Keeps _ _ _; (repeat (first | (with_reducible exact Keeps.refl _ _) | (with_reducible assumption) | ((with_reducible refine Keeps.setCell ?_ ?_ _); rotate_left 1; (· first | (refine .inl ?_; simp; done) | (refine .inr ?_; first | exact Nat.le_refl _ | (simp; done) | (simp; omega) | omega))) | (with_reducible refine Keeps.alloc ?_ _) | (with_reducible refine Keeps.drewN ?_ _) | (with_reducible refine Keeps.drew ?_)))⟩
                case round =>
                  obtain ⟨j, rfl, hj, HJ⟩ := hrel
                  have j0 : (0 : Int) ≤ (j : Int) := Int.natCast_nonneg _
                  have HREL : Hid (∃ (k' : Nat) (c : CoreD) (lv sv : Value), (k : Int) + 1 = (k' : Int) ∧ k' ≤ ops.length ∧ k' ≤ 40 ∧ CoreAt wr w4.heap.size n c lv sv ∧ Keeps [] w wr ∧ (0 ≤ c.patience ∧ c.patience ≤ k') ∧ lastD c ≤ 1099511627776 + 8 * k') :=
                    ⟨k + 1, c6, lv6, sv6, by omega, by omega, by omega, C20.out.k HJ.out, K20.out.trans HJ.out (fun _ _ h => h), by have := HGR.out.pat HW.out.2.2.1.1; have := HW.out.2.2.1; omega, by have := HGR.out.last; have := HW.out.2.2.2; omega⟩
                  by_cases hjl : j < c5.l.length
                  · have j1 : (j : Int) < (c5.l.length : Int) := by omega
                    have HBD : Hid (0 ≤ c5.base ∧ c5.base ≤ 2199023255552 ∧ (c5.l.length : Int) ≤ 5096) := by have := C12.out.ok.base; have := C12.out.ok.last; have := C12.out.ok.len; show _ ∧ _ ∧ _; omega
                    obtain ⟨bd0, bd1, bd2⟩ := HBD.out
                    have w01 : IntKind.i64.wrap (c5.base + 1) = c5.base + 1 := IntWalk.i64_in _ (by omega)
                    have w02 : IntKind.i64.wrap (c5.base + 1 + (j : Int)) = c5.base + 1 + (j : Int) := IntWalk.i64_in _ (by omega)
                    by_cases hjc : c5.base + 1 + (j : Int) ≤ c5.commit
                    · by_cases hib : c6.base < c5.base + 1 + (j : Int)
                      · obtain ⟨e, he⟩ : ∃ e, c5.l[j]? = some e := ⟨c5.l[j], List.getElem?_eq_getElem hjl⟩
                        have gd : decide (c6.base < c5.base + 1 + (j : Int)) = true := by simpa using hib
                        have HEN : Hid (entD c6 (c5.base + 1 + (j : Int)) = some e) := by
                          show _ = _
                          rw [HGR.out.ents _ (by omega) hjc hib]
                          unfold entD
                          have hcl := C12.out.ok.commit
                          rw [if_neg (by unfold lastD; omega), show (c5.base + 1 + (j : Int) - c5.base - 1).toNat = j by omega]
                          exact he
                        obtain ⟨g2, off2, cg2, hfa, hcg2, hcm2, hgl2, _⟩ := (L20.out.k HJ.out).addr (fun hn => by rw [hn] at hjl; simp at hjl)
                        simp at hfa
                        obtain ⟨hfa, hfq⟩ := hfa
                        subst hfa
                        subst hfq
                        have HPC : Hid (ListAt entL wr (fun _ => True) (.slice (some ⟨g2, off2 + j * 3, none⟩) 1 (fq - j)) [e]) := by
                          have h5 := (L20.out.k HJ.out).piece j 1 (fq - j) (some ⟨g2, off2 + j * 3, none⟩) (by omega) (by omega) (by omega) (fun _ => rfl)
                          rw [take_one_at he] at h5
                          exact h5
                        have f1 : (j : Int) ≤ (fq : Int) := by omega
                        have f2 : (j : Int) + 1 ≤ (fq : Int) := by omega
                        have f5 : (0 : Int) ≤ (j : Int) + 1 := by omega
                        have f3 : (fq : Int) ≤ 9223372036854775807 := by unfold maxLen at hcm2; omega
                        have f4 : ¬ fq = j := by omega
                        have w03 : IntKind.i64.wrap ((j : Int) + 1) = (j : Int) + 1 := IntWalk.i64_in _ (by omega)
                        clear he hgl2 hcg2 hcm2
                        go_wp2_with fail
                        refine (cEntry_yes _ _ n c6 lv6 sv6 (C20.out.k HJ.out) (c5.base + 1 + (j : Int)) e HEN.out).mono ?_
                        rintro x w22 ⟨a22, q22, rfl, hb22, hk22⟩
                        unfold entV
                        have K22 := hid hk22
                        have B22 := hid hb22
                        clear hb22 hk22
                        go_wp2_with fail
                        refine Plan.wp_region_plan (fun wx => wx.cell? ⟨w22.heap.size, 0, none⟩ = some (.int .i64 e.term) ∧ wx.cell? ⟨w22.heap.size, 1, none⟩ = some (.bool e.cmd) ∧ wx.cell? ⟨w22.heap.size, 2, none⟩ = some (.slice a22 e.data.length q22)) 21 [(true, 0), (true, 1), (true, 2), (true, 3), (true, 4), (true, 5), (true, 6), (true, 7), (true, 8), (true, 9), (true, 10), (true, 12), (true, 13), (true, 14), (true, 15), (true, 16), (false, 11), (false, 17), (true, 18), (true, 19), (true, 20)] (by kernel_rfl) (by as_aux_lemma => kernel_rfl) (by kernel_rfl) (fun _ _ _ _ _ h => h) ?_ (fun hS => ?_)
                        (· go_simp)
                        simp only [Plan.pick, List.append_eq, List.cons_append, List.nil_append, List.getElem?_cons_zero, List.getElem?_cons_succ, Option.getD_some, List.drop_succ_cons, List.drop_zero]
                        iterate 15 (first | (refine Plan.take (v := ?_) (a' := ?_) (Plan.want_all (by rfl)) ?_ ?_ ?_; rotate_left 2; (· (intro w' hS'; (try dsimp only at hS'); go_simp; try with_reducible rfl)); (· (simp only [Act.put, List.setIfInBounds_toArray, List.set_cons_zero, List.set_cons_succ]; try with_reducible rfl))) | (refine Plan.take (v := ?_) (a' := ?_) (Plan.want_yes (by rfl) (by rfl) (by rfl) (by rfl)) ?_ ?_ ?_; rotate_left 2; (· (intro w' hS'; (try dsimp only at hS'); go_simp; try with_reducible rfl)); (· (simp only [Act.put, List.setIfInBounds_toArray, List.set_cons_zero, List.set_cons_succ]; try with_reducible rfl))) | (refine Plan.pass (a' := ?_) (Plan.want_no (by rfl) (by rfl) (by rfl) (by rfl)) ?_ ?_; rotate_left 1; (· (simp only [Act.put, List.setIfInBounds_toArray, List.set_cons_zero, List.set_cons_succ]; try with_reducible rfl))) | (refine Plan.pass (a' := ?_) (Plan.want_un (by rfl) (by rfl) (by rfl) (by rfl)) ?_ ?_; rotate_left 1; (· (simp only [Act.put, List.setIfInBounds_toArray, List.set_cons_zero, List.set_cons_succ]; try with_reducible rfl))) | fail)
                        refine Plan.take (v := .slice (some ⟨g2, off2 + j * 3, none⟩) 1 (fq - j)) (a' := ?_) (Plan.want_yes (by rfl) (by rfl) (by rfl) (by rfl)) ?_ ?_ ?_
                        rotate_left 1
                        (· intro w' hS'
                           (try dsimp only at hS')
                           go_simp)
                        (· simp only [Act.put, List.setIfInBounds_toArray, List.set_cons_zero, List.set_cons_succ]
                           try with_reducible rfl)
                        refine Plan.step ?_
                        go_wp2_with fail
                        refine ⟨?_, ?_⟩
                        (· go_simp)
                        refine Plan.step ?_
                        go_wp2_with fail
                        have HONE : Hid (ListAt entL ((w22.alloc (.cells #[.int .i64 e.term, .bool e.cmd, .slice a22 e.data.length q22] 59)).alloc (.cells #[.int .i64 e.term, .bool e.cmd, .slice a22 e.data.length q22] 59)).drew (fun _ => True) (.slice (some ⟨w22.heap.size + 1, 0, none⟩) 1 1) [e]) := by
                          have h1 := one_list (w := w22) (w1 := w22.alloc (.cells #[.int .i64 e.term, .bool e.cmd, .slice a22 e.data.length q22] 59)) ((Keeps.refl [] w22).alloc _) B22.out
                          rw [show (w22.alloc (.cells #[.int .i64 e.term, .bool e.cmd, .slice a22 e.data.length q22] 59)).heap.size = w22.heap.size + 1 by simp] at h1
                          exact h1.k ((Keeps.refl [] _).drew)
                        refine (sameEntries_is [e] 1 rfl (fun _ => True) (fun _ => True) _ _ _ _ _ HONE.out (HPC.out.k (Keeps.trans K22.out (by (repeat (first | (with_reducible exact Keeps.refl _ _) | (with_reducible assumption) | ((with_reducible refine Keeps.setCell ?_ ?_ _); rotate_left 1; (· first | (refine .inl ?_; simp; done) | (refine .inr ?_; first | exact Nat.le_refl _ | (simp; done) | (simp; omega) | omega))) | (with_reducible refine Keeps.alloc ?_ _) | (with_reducible refine Keeps.drewN ?_ _) | (with_reducible refine Keeps.drew ?_)))) (fun _ _ h => h))) (by omega)).mono ?_
                        rintro x w23 ⟨rfl, hk23⟩
                        have K23 : Hid (Keeps [] wr w23) := Keeps.trans K22.out (Keeps.trans (by (repeat (first | (with_reducible exact Keeps.refl _ _) | (with_reducible assumption) | ((with_reducible refine Keeps.setCell ?_ ?_ _); rotate_left 1; (· first | (refine .inl ?_; simp; done) | (refine .inr ?_; first | exact Nat.le_refl _ | (simp; done) | (simp; omega) | omega))) | (with_reducible refine Keeps.alloc ?_ _) | (with_reducible refine Keeps.drewN ?_ _) | (with_reducible refine Keeps.drew ?_)))) hk23 (fun _ _ h => h)) (fun _ _ h => h)
                        have hs23 : w23.cell? ⟨w22.heap.size, 0, none⟩ = some (.int .i64 e.term) ∧ w23.cell? ⟨w22.heap.size, 1, none⟩ = some (.bool e.cmd) ∧ w23.cell? ⟨w22.heap.size, 2, none⟩ = some (.slice a22 e.data.length q22) := ⟨hk23.cellSome (by go_simp) (by simp), hk23.cellSome (by go_simp) (by simp), hk23.cellSome (by go_simp) (by simp)⟩
                        clear hk23
                        go_wp2_with fail
                        refine ⟨hs23, ?_⟩
                        iterate 3 (first | (refine Plan.take (v := ?_) (a' := ?_) (Plan.want_all (by rfl)) ?_ ?_ ?_; rotate_left 2; (· (intro w' hS'; (try dsimp only at hS'); go_simp; try with_reducible rfl)); (· (simp only [Act.put, List.setIfInBounds_toArray, List.set_cons_zero, List.set_cons_succ]; try with_reducible rfl))) | (refine Plan.take (v := ?_) (a' := ?_) (Plan.want_yes (by rfl) (by rfl) (by rfl) (by rfl)) ?_ ?_ ?_; rotate_left 2; (· (intro w' hS'; (try dsimp only at hS'); go_simp; try with_reducible rfl)); (· (simp only [Act.put, List.setIfInBounds_toArray, List.set_cons_zero, List.set_cons_succ]; try with_reducible rfl))) | (refine Plan.pass (a' := ?_) (Plan.want_no (by rfl) (by rfl) (by rfl) (by rfl)) ?_ ?_; rotate_left 1; (· (simp only [Act.put, List.setIfInBounds_toArray, List.set_cons_zero, List.set_cons_succ]; try with_reducible rfl))) | (refine Plan.pass (a' := ?_) (Plan.want_un (by rfl) (by rfl) (by rfl) (by rfl)) ?_ ?_; rotate_left 1; (· (simp only [Act.put, List.setIfInBounds_toArray, List.set_cons_zero, List.set_cons_succ]; try with_reducible rfl))) | fail)
                        refine Plan.fin ?_
                        go_wp2_with fail
                        go_roundw
                        case rel => exact ⟨j + 1, by go_num, by omega, HJ.out.trans (K23.out.trans (by (repeat (first | (with_reducible exact Keeps.refl _ _) | (with_reducible assumption) | ((with_reducible refine Keeps.setCell ?_ ?_ _); rotate_left 1; (· first | (refine .inl ?_; simp; done) | (refine .inr ?_; first | exact Nat.le_refl _ | (simp; done) | (simp; omega) | omega))) | (with_reducible refine Keeps.alloc ?_ _) | (with_reducible refine Keeps.drewN ?_ _) | (with_reducible refine Keeps.drew ?_)))) (fun _ _ h => h)) (fun _ _ h => h)⟩
                        case measure => simp [intOf]; omega
                      · have hib2 : c5.base + 1 + (j : Int) ≤ c6.base := by omega
                        have gd : decide (c6.base < c5.base + 1 + (j : Int)) = false := by simpa using hib2
                        have HEN : Hid (entD c6 (c5.base + 1 + (j : Int)) = none) := by
                          show _ = _
                          unfold entD
                          rw [if_pos (.inl hib2)]
                        clear hib
                        go_wp2_with fail
                        refine (cEntry_no _ _ n c6 lv6 sv6 (C20.out.k HJ.out) (c5.base + 1 + (j : Int)) HEN.out).mono ?_
                        rintro x w22 ⟨rfl, hk22⟩
                        unfold entV
                        have K22 := hid hk22
                        clear hk22
                        go_wp2_with fail
                        refine Plan.wp_region_plan (fun wx => True) 21 [(true, 0), (true, 1), (true, 2), (true, 3), (true, 4), (true, 5), (true, 6), (true, 7), (true, 8), (true, 9), (true, 10), (true, 12), (true, 13), (true, 14), (true, 15), (true, 16), (false, 11), (false, 17), (true, 18), (true, 19), (true, 20)] (by kernel_rfl) (by as_aux_lemma => kernel_rfl) (by kernel_rfl) (fun _ _ _ _ _ h => h) ?_ (fun hS => ?_)
                        (· trivial)
                        simp only [Plan.pick, List.append_eq, List.cons_append, List.nil_append, List.getElem?_cons_zero, List.getElem?_cons_succ, Option.getD_some, List.drop_succ_cons, List.drop_zero]
                        iterate 16 (first | (refine Plan.take (v := ?_) (a' := ?_) (Plan.want_all (by rfl)) ?_ ?_ ?_; rotate_left 2; (· (intro w' hS'; (try dsimp only at hS'); go_simp; try with_reducible rfl)); (· (simp only [Act.put, List.setIfInBounds_toArray, List.set_cons_zero, List.set_cons_succ]; try with_reducible rfl))) | (refine Plan.take (v := ?_) (a' := ?_) (Plan.want_yes (by rfl) (by rfl) (by rfl) (by rfl)) ?_ ?_ ?_; rotate_left 2; (· (intro w' hS'; (try dsimp only at hS'); go_simp; try with_reducible rfl)); (· (simp only [Act.put, List.setIfInBounds_toArray, List.set_cons_zero, List.set_cons_succ]; try with_reducible rfl))) | (refine Plan.pass (a' := ?_) (Plan.want_no (by rfl) (by rfl) (by rfl) (by rfl)) ?_ ?_; rotate_left 1; (· (simp only [Act.put, List.setIfInBounds_toArray, List.set_cons_zero, List.set_cons_succ]; try with_reducible rfl))) | (refine Plan.pass (a' := ?_) (Plan.want_un (by rfl) (by rfl) (by rfl) (by rfl)) ?_ ?_; rotate_left 1; (· (simp only [Act.put, List.setIfInBounds_toArray, List.set_cons_zero, List.set_cons_succ]; try with_reducible rfl))) | fail)
                        refine Plan.step ?_
                        go_wp2_with fail
                        refine ⟨trivial, ?_⟩
                        refine Plan.step ?_
                        go_wp2_with fail
                        refine ⟨trivial, ?_⟩
                        iterate 3 (first | (refine Plan.take (v := ?_) (a' := ?_) (Plan.want_all (by rfl)) ?_ ?_ ?_; rotate_left 2; (· (intro w' hS'; (try dsimp only at hS'); go_simp; try with_reducible rfl)); (· (simp only [Act.put, List.setIfInBounds_toArray, List.set_cons_zero, List.set_cons_succ]; try with_reducible rfl))) | (refine Plan.take (v := ?_) (a' := ?_) (Plan.want_yes (by rfl) (by rfl) (by rfl) (by rfl)) ?_ ?_ ?_; rotate_left 2; (· (intro w' hS'; (try dsimp only at hS'); go_simp; try with_reducible rfl)); (· (simp only [Act.put, List.setIfInBounds_toArray, List.set_cons_zero, List.set_cons_succ]; try with_reducible rfl))) | (refine Plan.pass (a' := ?_) (Plan.want_no (by rfl) (by rfl) (by rfl) (by rfl)) ?_ ?_; rotate_left 1; (· (simp only [Act.put, List.setIfInBounds_toArray, List.set_cons_zero, List.set_cons_succ]; try with_reducible rfl))) | (refine Plan.pass (a' := ?_) (Plan.want_un (by rfl) (by rfl) (by rfl) (by rfl)) ?_ ?_; rotate_left 1; (· (simp only [Act.put, List.setIfInBounds_toArray, List.set_cons_zero, List.set_cons_succ]; try with_reducible rfl))) | fail)
                        refine Plan.fin ?_
                        go_wp2_with fail
                        go_roundw
                        case rel => exact ⟨j + 1, by go_num, by omega, HJ.out.trans (Keeps.trans K22.out (by (repeat (first | (with_reducible exact Keeps.refl _ _) | (with_reducible assumption) | ((with_reducible refine Keeps.setCell ?_ ?_ _); rotate_left 1; (· first | (refine .inl ?_; simp; done) | (refine .inr ?_; first | exact Nat.le_refl _ | (simp; done) | (simp; omega) | omega))) | (with_reducible refine Keeps.alloc ?_ _) | (with_reducible refine Keeps.drewN ?_ _) | (with_reducible refine Keeps.drew ?_)))) (fun _ _ h => h)) (fun _ _ h => h)⟩
                        case measure => simp [intOf]; omega
                    · have hjc2 : c5.commit < c5.base + 1 + (j : Int) := by omega
                      clear hjc
                      go_wp2_with fail
                      go_roundw
                      case rel => obtain ⟨k', c, lv, sv, h1, h2, h3, h4⟩ := HREL.out; exact ⟨k', c, lv, sv, by first | rw [← h1] | (rw [← h1]; go_num), h2, h3, h4⟩
                      case measure => simp [intOf]; omega
                  · have j1 : (c5.l.length : Int) ≤ (j : Int) := by omega
                    go_wp2_with fail
                    go_roundw
                    case rel => obtain ⟨k', c, lv, sv, h1, h2, h3, h4⟩ := HREL.out; exact ⟨k', c, lv, sv, by first | rw [← h1] | (rw [← h1]; go_num), h2, h3, h4⟩
                    case measure => simp [intOf]; omega
          · as_aux_lemma =>
              obtain ⟨c6, hc6⟩ : ∃ c6, c6 = c5 := ⟨_, rfl⟩
              obtain ⟨w20, hw20⟩ : ∃ w20, w20 = w12 := ⟨_, rfl⟩
              have HGR : Hid (GrowsR c5 c6) := by
                show GrowsR _ _
                rw [hc6]
                exact GrowsR.refl (ok_commit C12.out.ok)
              have HST : Hid (c5.role = 2 → c6.term = c5.term) := fun _ => by rw [hc6]
              have HT : Hid (∃ lv6 sv6, CoreAt w20 w4.heap.size n c6 lv6 sv6 ∧ Keeps [] w w20 ∧ ListAt entL w20 (fun _ => True) (.slice fa c5.l.length fq) c5.l) := by
                show ∃ lv6 sv6, _
                rw [hc6, hw20]
                exact ⟨lv5, sv5, C12.out, HKW.out, L12.out.mono (fun _ _ _ => trivial)⟩
              rw [← hw20]
              clear hc6 hw20
              obtain ⟨lv6, sv6, hC20, hK20, hL20⟩ := HT.out
              have C20 := hid hC20
              have K20 := hid hK20
              have L20 := hid hL20
              have gcm := hC20.ok.commit
              have gls : lastD c6 = c6.base + c6.l.length := rfl
              have g1 : decide (c6.term < c5.term) = false := by have := HGR.out.term; simp; omega
              have g2 : decide (c6.commit < c5.commit) = false := by have := HGR.out.commit; simp; omega
              have g3 : decide (lastD c6 < c6.commit) = false := by simp; omega
              clear hC20 hK20 hL20 HT gcm gls z0 z1 z2 z3 z4 z5 z6 z7 z8 z9 z10 z11 z12
              go_wp2_with fail
              refine (cTerm_any _ _ n c6 lv6 sv6 C20.out).mono ?_
              rintro x wa ⟨rfl, hwa⟩
              rw [hwa]
              clear hwa wa
              go_wp2_with fail
              refine (cCommit_any _ _ n c6 lv6 sv6 C20.out).mono ?_
              rintro x wa ⟨rfl, hwa⟩
              rw [hwa]
              clear hwa wa
              go_wp2_with fail
              refine (cCommit_any _ _ n c6 lv6 sv6 C20.out).mono ?_
              rintro x wa ⟨rfl, hwa⟩
              rw [hwa]
              clear hwa wa
              go_wp2_with fail
              refine (cLast_any _ _ n c6 lv6 sv6 C20.out).mono ?_
              rintro x wa ⟨rfl, q1, rfl⟩
              have hcs : (c5.role == 2) = false ∨ ((c5.role == 2) = true ∧ (c6.term == c5.term) = true ∧ decide (lastD c6 < lastD c5) = false) := by
                by_cases h1 : c5.role = 2
                · exact .inr ⟨by simpa using h1, by simpa using HST.out h1, by have := HGR.out.lead h1 (HST.out h1); simp; omega⟩
                · exact .inl (by simpa using h1)
              rcases hcs with g4 | ⟨g4, g5, g6⟩
              all_goals
                go_wp2_with fail
                try
                  refine (cTerm_any _ _ n c6 lv6 sv6 (C20.out.k (by (repeat (first | (with_reducible exact Keeps.refl _ _) | (with_reducible assumption) | ((with_reducible refine Keeps.setCell ?_ ?_ _); rotate_left 1; (· first | (refine .inl ?_; simp; done) | (refine .inr ?_; first | exact Nat.le_refl _ | (simp; done) | (simp; omega) | omega))) | (with_reducible refine Keeps.alloc ?_ _) | (with_reducible refine Keeps.drewN ?_ _) | (with_reducible refine Keeps.drew ?_)))))).mono ?_
                  rintro x wa ⟨rfl, hwa⟩
                  rw [hwa]
                  clear hwa wa
                  go_wp2_with fail
                try
                  refine (cLast_any _ _ n c6 lv6 sv6 (C20.out.k (by (repeat (first | (with_reducible exact Keeps.refl _ _) | (with_reducible assumption) | ((with_reducible refine Keeps.setCell ?_ ?_ _); rotate_left 1; (· first | (refine .inl ?_; simp; done) | (refine .inr ?_; first | exact Nat.le_refl _ | (simp; done) | (simp; omega) | omega))) | (with_reducible refine Keeps.alloc ?_ _) | (with_reducible refine Keeps.drewN ?_ _) | (with_reducible refine Keeps.drew ?_)))))).mono ?_
                  rintro x wa ⟨rfl, q2, rfl⟩
                  go_wp2_with fail
                refine (cBase_any _ _ n c6 lv6 sv6 (C20.out.k (by (repeat (first | (with_reducible exact Keeps.refl _ _) | (with_reducible assumption) | ((with_reducible refine Keeps.setCell ?_ ?_ _); rotate_left 1; (· first | (refine .inl ?_; simp; done) | (refine .inr ?_; first | exact Nat.le_refl _ | (simp; done) | (simp; omega) | omega))) | (with_reducible refine Keeps.alloc ?_ _) | (with_reducible refine Keeps.drewN ?_ _) | (with_reducible refine Keeps.drew ?_)))))).mono ?_
                rintro x wa ⟨rfl, q3, rfl⟩
                go_wp2_with fail
                go_loopw [22] (fun iv wi => ∃ j : Nat, iv = .int .i64 j ∧ j ≤ c5.l.length ∧ Hid (Keeps [] w20 wi)) (fun iv _ => c5.l.length - (intOf iv).toNat)
                case atStart => exact ⟨0, rfl, Nat.zero_le _, by show Keeps _ _ _; (repeat (first | (with_reducible exact Keeps.refl _ _) | (with_reducible assumption) | ((with_reducible refine Keeps.setCell ?_ ?_ _); rotate_left 1; (· first | (refine .inl ?_; simp; done) | (refine .inr ?_; first | exact Nat.le_refl _ | (simp; done) | (simp; omega) | omega))) | (with_reducible refine Keeps.alloc ?_ _) | (with_reducible refine Keeps.drewN ?_ _) | (with_reducible refine Keeps.drew ?_)))⟩
                case round =>
                  obtain ⟨j, rfl, hj, HJ⟩ := hrel
                  have j0 : (0 : Int) ≤ (j : Int) := Int.natCast_nonneg _
                  have HREL : Hid (∃ (k' : Nat) (c : CoreD) (lv sv : Value), (k : Int) + 1 = (k' : Int) ∧ k' ≤ ops.length ∧ k' ≤ 40 ∧ CoreAt wr w4.heap.size n c lv sv ∧ Keeps [] w wr ∧ (0 ≤ c.patience ∧ c.patience ≤ k') ∧ lastD c ≤ 1099511627776 + 8 * k') :=
                    ⟨k + 1, c6, lv6, sv6, by omega, by omega, by omega, C20.out.k HJ.out, K20.out.trans HJ.out (fun _ _ h => h), by have := HGR.out.pat HW.out.2.2.1.1; have := HW.out.2.2.1; omega, by have := HGR.out.last; have := HW.out.2.2.2; omega⟩
                  by_cases hjl : j < c5.l.length
                  · have j1 : (j : Int) < (c5.l.length : Int) := by omega
                    have HBD : Hid (0 ≤ c5.base ∧ c5.base ≤ 2199023255552 ∧ (c5.l.length : Int) ≤ 5096) := by have := C12.out.ok.base; have := C12.out.ok.last; have := C12.out.ok.len; show _ ∧ _ ∧ _; omega
                    obtain ⟨bd0, bd1, bd2⟩ := HBD.out
                    have w01 : IntKind.i64.wrap (c5.base + 1) = c5.base + 1 := IntWalk.i64_in _ (by omega)
                    have w02 : IntKind.i64.wrap (c5.base + 1 + (j : Int)) = c5.base + 1 + (j : Int) := IntWalk.i64_in _ (by omega)
                    by_cases hjc : c5.base + 1 + (j : Int) ≤ c5.commit
                    · by_cases hib : c6.base < c5.base + 1 + (j : Int)
                      · obtain ⟨e, he⟩ : ∃ e, c5.l[j]? = some e := ⟨c5.l[j], List.getElem?_eq_getElem hjl⟩
                        have gd : decide (c6.base < c5.base + 1 + (j : Int)) = true := by simpa using hib
                        have HEN : Hid (entD c6 (c5.base + 1 + (j : Int)) = some e) := by
                          show _ = _
                          rw [HGR.out.ents _ (by omega) hjc hib]
                          unfold entD
                          have hcl := C12.out.ok.commit
                          rw [if_neg (by unfold lastD; omega), show (c5.base + 1 + (j : Int) - c5.base - 1).toNat = j by omega]
                          exact he
                        obtain ⟨g2, off2, cg2, hfa, hcg2, hcm2, hgl2, _⟩ := (L20.out.k HJ.out).addr (fun hn => by rw [hn] at hjl; simp at hjl)
                        simp at hfa
                        obtain ⟨hfa, hfq⟩ := hfa
                        subst hfa
                        subst hfq
                        have HPC : Hid (ListAt entL wr (fun _ => True) (.slice (some ⟨g2, off2 + j * 3, none⟩) 1 (fq - j)) [e]) := by
                          have h5 := (L20.out.k HJ.out).piece j 1 (fq - j) (some ⟨g2, off2 + j * 3, none⟩) (by omega) (by omega) (by omega) (fun _ => rfl)
                          rw [take_one_at he] at h5
                          exact h5
                        have f1 : (j : Int) ≤ (fq : Int) := by omega
                        have f2 : (j : Int) + 1 ≤ (fq : Int) := by omega
                        have f5 : (0 : Int) ≤ (j : Int) + 1 := by omega
                        have f3 : (fq : Int) ≤ 9223372036854775807 := by unfold maxLen at hcm2; omega
                        have f4 : ¬ fq = j := by omega
                        have w03 : IntKind.i64.wrap ((j : Int) + 1) = (j : Int) + 1 := IntWalk.i64_in _ (by omega)
                        clear he hgl2 hcg2 hcm2
                        go_wp2_with fail
                        refine (cEntry_yes _ _ n c6 lv6 sv6 (C20.out.k HJ.out) (c5.base + 1 + (j : Int)) e HEN.out).mono ?_
                        rintro x w22 ⟨a22, q22, rfl, hb22, hk22⟩
                        unfold entV
                        have K22 := hid hk22
                        have B22 := hid hb22
                        clear hb22 hk22
                        go_wp2_with fail
                        refine Plan.wp_region_plan (fun wx => wx.cell? ⟨w22.heap.size, 0, none⟩ = some (.int .i64 e.term) ∧ wx.cell? ⟨w22.heap.size, 1, none⟩ = some (.bool e.cmd) ∧ wx.cell? ⟨w22.heap.size, 2, none⟩ = some (.slice a22 e.data.length q22)) 21 [(true, 0), (true, 1), (true, 2), (true, 3), (true, 4), (true, 5), (true, 6), (true, 7), (true, 8), (true, 9), (true, 10), (true, 12), (true, 13), (true, 14), (true, 15), (true, 16), (false, 11), (false, 17), (true, 18), (true, 19), (true, 20)] (by kernel_rfl) (by as_aux_lemma => kernel_rfl) (by kernel_rfl) (fun _ _ _ _ _ h => h) ?_ (fun hS => ?_)
                        (· go_simp)
                        simp only [Plan.pick, List.append_eq, List.cons_append, List.nil_append, List.getElem?_cons_zero, List.getElem?_cons_succ, Option.getD_some, List.drop_succ_cons, List.drop_zero]
                        iterate 15 (first | (refine Plan.take (v := ?_) (a' := ?_) (Plan.want_all (by rfl)) ?_ ?_ ?_; rotate_left 2; (· (intro w' hS'; (try dsimp only at hS'); go_simp; try with_reducible rfl)); (· (simp only [Act.put, List.setIfInBounds_toArray, List.set_cons_zero, List.set_cons_succ]; try with_reducible rfl))) | (refine Plan.take (v := ?_) (a' := ?_) (Plan.want_yes (by rfl) (by rfl) (by rfl) (by rfl)) ?_ ?_ ?_; rotate_left 2; (· (intro w' hS'; (try dsimp only at hS'); go_simp; try with_reducible rfl)); (· (simp only [Act.put, List.setIfInBounds_toArray, List.set_cons_zero, List.set_cons_succ]; try with_reducible rfl))) | (refine Plan.pass (a' := ?_) (Plan.want_no (by rfl) (by rfl) (by rfl) (by rfl)) ?_ ?_; rotate_left 1; (· (simp only [Act.put, List.setIfInBounds_toArray, List.set_cons_zero, List.set_cons_succ]; try with_reducible rfl))) | (refine Plan.pass (a' := ?_) (Plan.want_un (by rfl) (by rfl) (by rfl) (by rfl)) ?_ ?_; rotate_left 1; (· (simp only [Act.put, List.setIfInBounds_toArray, List.set_cons_zero, List.set_cons_succ]; try with_reducible rfl))) | fail)
                        refine Plan.take (v := .slice (some ⟨g2, off2 + j * 3, none⟩) 1 (fq - j)) (a' := ?_) (Plan.want_yes (by rfl) (by rfl) (by rfl) (by rfl)) ?_ ?_ ?_
                        rotate_left 1
                        (· intro w' hS'
                           (try dsimp only at hS')
                           go_simp)
                        (· simp only [Act.put, List.setIfInBounds_toArray, List.set_cons_zero, List.set_cons_succ]
                           try with_reducible rfl)
                        refine Plan.step ?_
                        go_wp2_with fail
                        refine ⟨?_, ?_⟩
                        (· go_simp)
                        refine Plan.step ?_
                        go_wp2_with fail
                        have HONE : Hid (ListAt entL ((w22.alloc (.cells #[.int .i64 e.term, .bool e.cmd, .slice a22 e.data.length q22] 59)).alloc (.cells #[.int .i64 e.term, .bool e.cmd, .slice a22 e.data.length q22] 59)).drew (fun _ => True) (.slice (some ⟨w22.heap.size + 1, 0, none⟩) 1 1) [e]) := by
                          have h1 := one_list (w := w22) (w1 := w22.alloc (.cells #[.int .i64 e.term, .bool e.cmd, .slice a22 e.data.length q22] 59)) ((Keeps.refl [] w22).alloc _) B22.out
                          rw [show (w22.alloc (.cells #[.int .i64 e.term, .bool e.cmd, .slice a22 e.data.length q22] 59)).heap.size = w22.heap.size + 1 by simp] at h1
                          exact h1.k ((Keeps.refl [] _).drew)
                        refine (sameEntries_is [e] 1 rfl (fun _ => True) (fun _ => True) _ _ _ _ _ HONE.out (HPC.out.k (Keeps.trans K22.out (by (repeat (first | (with_reducible exact Keeps.refl _ _) | (with_reducible assumption) | ((with_reducible refine Keeps.setCell ?_ ?_ _); rotate_left 1; (· first | (refine .inl ?_; simp; done) | (refine .inr ?_; first | exact Nat.le_refl _ | (simp; done) | (simp; omega) | omega))) | (with_reducible refine Keeps.alloc ?_ _) | (with_reducible refine Keeps.drewN ?_ _) | (with_reducible refine Keeps.drew ?_)))) (fun _ _ h => h))) (by omega)).mono ?_
                        rintro x w23 ⟨rfl, hk23⟩
                        have K23 : Hid (Keeps [] wr w23) := Keeps.trans K22.out (Keeps.trans (by (repeat (first | (with_reducible exact Keeps.refl _ _) | (with_reducible assumption) | ((with_reducible refine Keeps.setCell ?_ ?_ _); rotate_left 1; (· first | (refine .inl ?_; simp; done) | (refine .inr ?_; first | exact Nat.le_refl _ | (simp; done) | (simp; omega) | omega))) | (with_reducible refine Keeps.alloc ?_ _) | (with_reducible refine Keeps.drewN ?_ _) | (with_reducible refine Keeps.drew ?_)))) hk23 (fun _ _ h => h)) (fun _ _ h => h)
                        have hs23 : w23.cell? ⟨w22.heap.size, 0, none⟩ = some (.int .i64 e.term) ∧ w23.cell? ⟨w22.heap.size, 1, none⟩ = some (.bool e.cmd) ∧ w23.cell? ⟨w22.heap.size, 2, none⟩ = some (.slice a22 e.data.length q22) := ⟨hk23.cellSome (by go_simp) (by simp), hk23.cellSome (by go_simp) (by simp), hk23.cellSome (by go_simp) (by simp)⟩
                        clear hk23
                        go_wp2_with fail
                        refine ⟨hs23, ?_⟩
                        iterate 3 (first | (refine Plan.take (v := ?_) (a' := ?_) (Plan.want_all (by rfl)) ?_ ?_ ?_; rotate_left 2; (· (intro w' hS'; (try dsimp only at hS'); go_simp; try with_reducible rfl)); (· (simp only [Act.put, List.setIfInBounds_toArray, List.set_cons_zero, List.set_cons_succ]; try with_reducible rfl))) | (refine Plan.take (v := ?_) (a' := ?_) (Plan.want_yes (by rfl) (by rfl) (by rfl) (by rfl)) ?_ ?_ ?_; rotate_left 2; (· (intro w' hS'; (try dsimp only at hS'); go_simp; try with_reducible rfl)); (· (simp only [Act.put, List.setIfInBounds_toArray, List.set_cons_zero, List.set_cons_succ]; try with_reducible rfl))) | (refine Plan.pass (a' := ?_) (Plan.want_no (by rfl) (by rfl) (by rfl) (by rfl)) ?_ ?_; rotate_left 1; (· (simp only [Act.put, List.setIfInBounds_toArray, List.set_cons_zero, List.set_cons_succ]; try with_reducible rfl))) | (refine Plan.pass (a' := ?_) (Plan.want_un (by rfl) (by rfl) (by rfl) (by rfl)) ?_ ?_; rotate_left 1; (· (simp only [Act.put, List.setIfInBounds_toArray, List.set_cons_zero, List.set_cons_succ]; try with_reducible rfl))) | fail)
                        refine Plan.fin ?_
                        go_wp2_with fail
                        go_roundw
                        case rel => exact ⟨j + 1, by go_num, by omega, HJ.out.trans (K23.out.trans (by (repeat (first | (with_reducible exact Keeps.refl _ _) | (with_reducible assumption) | ((with_reducible refine Keeps.setCell ?_ ?_ _); rotate_left 1; (· first | (refine .inl ?_; simp; done) | (refine .inr ?_; first | exact Nat.le_refl _ | (simp; done) | (simp; omega) | omega))) | (with_reducible refine Keeps.alloc ?_ _) | (with_reducible refine Keeps.drewN ?_ _) | (with_reducible refine Keeps.drew ?_)))) (fun _ _ h => h)) (fun _ _ h => h)⟩
                        case measure => simp [intOf]; omega
                      · have hib2 : c5.base + 1 + (j : Int) ≤ c6.base := by omega
                        have gd : decide (c6.base < c5.base + 1 + (j : Int)) = false := by simpa using hib2
                        have HEN : Hid (entD c6 (c5.base + 1 + (j : Int)) = none) := by
                          show _ = _
                          unfold entD
                          rw [if_pos (.inl hib2)]
                        clear hib
                        go_wp2_with fail
                        refine (cEntry_no _ _ n c6 lv6 sv6 (C20.out.k HJ.out) (c5.base + 1 + (j : Int)) HEN.out).mono ?_
                        rintro x w22 ⟨rfl, hk22⟩
                        unfold entV
                        have K22 := hid hk22
                        clear hk22
                        go_wp2_with fail
                        refine Plan.wp_region_plan (fun wx => True) 21 [(true, 0), (true, 1), (true, 2), (true, 3), (true, 4), (true, 5), (true, 6), (true, 7), (true, 8), (true, 9), (true, 10), (true, 12), (true, 13), (true, 14), (true, 15), (true, 16), (false, 11), (false, 17), (true, 18), (true, 19), (true, 20)] (by kernel_rfl) (by as_aux_lemma => kernel_rfl) (by kernel_rfl) (fun _ _ _ _ _ h => h) ?_ (fun hS => ?_)
                        (· trivial)
                        simp only [Plan.pick, List.append_eq, List.cons_append, List.nil_append, List.getElem?_cons_zero, List.getElem?_cons_succ, Option.getD_some, List.drop_succ_cons, List.drop_zero]
                        iterate 16 (first | (refine Plan.take (v := ?_) (a' := ?_) (Plan.want_all (by rfl)) ?_ ?_ ?_; rotate_left 2; (· (intro w' hS'; (try dsimp only at hS'); go_simp; try with_reducible rfl)); (· (simp only [Act.put, List.setIfInBounds_toArray, List.set_cons_zero, List.set_cons_succ]; try with_reducible rfl))) | (refine Plan.take (v := ?_) (a' := ?_) (Plan.want_yes (by rfl) (by rfl) (by rfl) (by rfl)) ?_ ?_ ?_; rotate_left 2; (· (intro w' hS'; (try dsimp only at hS'); go_simp; try with_reducible rfl)); (· (simp only [Act.put, List.setIfInBounds_toArray, List.set_cons_zero, List.set_cons_succ]; try with_reducible rfl))) | (refine Plan.pass (a' := ?_) (Plan.want_no (by rfl) (by rfl) (by rfl) (by rfl)) ?_ ?_; rotate_left 1; (· (simp only [Act.put, List.setIfInBounds_toArray, List.set_cons_zero, List.set_cons_succ]; try with_reducible rfl))) | (refine Plan.pass (a' := ?_) (Plan.want_un (by rfl) (by rfl) (by rfl) (by rfl)) ?_ ?_; rotate_left 1; (· (simp only [Act.put, List.setIfInBounds_toArray, List.set_cons_zero, List.set_cons_succ]; try with_reducible rfl))) | fail)
                        refine Plan.step ?_
                        go_wp2_with fail
                        refine ⟨trivial, ?_⟩
                        refine Plan.step ?_
                        go_wp2_with fail
                        refine ⟨trivial, ?_⟩
                        iterate 3 (first | (refine Plan.take (v := ?_) (a' := ?_) (Plan.want_all (by rfl)) ?_ ?_ ?_; rotate_left 2; (· (intro w' hS'; (try dsimp only at hS'); go_simp; try with_reducible rfl)); (· (simp only [Act.put, List.setIfInBounds_toArray, List.set_cons_zero, List.set_cons_succ]; try with_reducible rfl))) | (refine Plan.take (v := ?_) (a' := ?_) (Plan.want_yes (by rfl) (by rfl) (by rfl) (by rfl)) ?_ ?_ ?_; rotate_left 2; (· (intro w' hS'; (try dsimp only at hS'); go_simp; try with_reducible rfl)); (· (simp only [Act.put, List.setIfInBounds_toArray, List.set_cons_zero, List.set_cons_succ]; try with_reducible rfl))) | (refine Plan.pass (a' := ?_) (Plan.want_no (by rfl) (by rfl) (by rfl) (by rfl)) ?_ ?_; rotate_left 1; (· (simp only [Act.put, List.setIfInBounds_toArray, List.set_cons_zero, List.set_cons_succ]; try with_reducible rfl))) | (refine Plan.pass (a' := ?_) (Plan.want_un (by rfl) (by rfl) (by rfl) (by rfl)) ?_ ?_; rotate_left 1; (· (simp only [Act.put, List.setIfInBounds_toArray, List.set_cons_zero, List.set_cons_succ]; try with_reducible rfl))) | fail)
                        refine Plan.fin ?_
                        go_wp2_with fail
                        go_roundw
                        case rel => exact ⟨j + 1, by go_num, by omega, HJ.out.trans (Keeps.trans K22.out (by (repeat (first | (with_reducible exact Keeps.refl _ _) | (with_reducible assumption) | ((with_reducible refine Keeps.setCell ?_ ?_ _); rotate_left 1; (· first | (refine .inl ?_; simp; done) | (refine .inr ?_; first | exact Nat.le_refl _ | (simp; done) | (simp; omega) | omega))) | (with_reducible refine Keeps.alloc ?_ _) | (with_reducible refine Keeps.drewN ?_ _) | (with_reducible refine Keeps.drew ?_)))) (fun _ _ h => h)) (fun _ _ h => h)⟩
                        case measure => simp [intOf]; omega
                    · have hjc2 : c5.commit < c5.base + 1 + (j : Int) := by omega
                      clear hjc
                      go_wp2_with fail
                      go_roundw
                      case rel => obtain ⟨k', c, lv, sv, h1, h2, h3, h4⟩ := HREL.out; exact ⟨k', c, lv, sv, by first | rw [← h1] | (rw [← h1]; go_num), h2, h3, h4⟩
                      case measure => simp [intOf]; omega
                  · have j1 : (c5.l.length : Int) ≤ (j : Int) := by omega
                    go_wp2_with fail
                    go_roundw
                    case rel => obtain ⟨k', c, lv, sv, h1, h2, h3, h4⟩ := HREL.out; exact ⟨k', c, lv, sv, by first | rw [← h1] | (rw [← h1]; go_num), h2, h3, h4⟩
                    case measure => simp [intOf]; omega
        · as_aux_lemma =>
            have n0 : (pk == 0) = false := by simp; omega
            have n1 : (pk == 1) = false := by simp; omega
            have n8 : (pk == 8) = false := by simp; omega
            have n9 : (pk == 9) = false := by simp; omega
            have n10 : (pk == 10) = false := by simp; omega
            have n11 : (pk == 11) = false := by simp; omega
            clear e0 e8 e9 e1
            have hsy := smallD_yes HSM.out
            have HSY := hid hsy
            clear hsy
            go_wp2_with fail
            refine (lMsg_any _ o.m ea da ec dc _ ((EV.out.k K6.out).k K12.out) ((DV.out.k K6.out).k K12.out) (by have := HSY.out.2.1; omega) (fun e he => by have := HSY.out.2.2 e he; omega) (by have := HSY.out.1; omega)).mono ?_
            rintro x w14 ⟨ea', ec', da', dc', rfl, hl14, hd14, hk14⟩
            have K14 := hid hk14
            have OFF : Hid (∀ b, w12.heap.size ≤ b → Off n lv5 b) := fun b hb => ⟨fun h => by have := (C12.out.lt n (by simp)).2; omega, fun h => by have := (C12.out.lt b (List.mem_cons_of_mem _ h)).2; omega⟩
            have L14 : Hid (ListAt entL w14 (Off n lv5) (.slice ea' o.m.entries.length ec') o.m.entries) := hl14.mono (fun b _ hb => OFF.out b hb)
            have D14 : Hid (BytesAt w14 (Off n lv5) (.slice da' o.m.data.length dc') o.m.data) := hd14.mono (fun b _ hb => OFF.out b hb)
            clear hl14 hd14 hk14
            unfold msgV
            go_wp2_with fail
            refine (hear_any w14 _ n c5 lv5 sv5 o.m ea' da' ec' dc' (C12.out.k K14.out) L14.out D14.out (by have := HSY.out.1; omega) (fun e he => by have := HSY.out.2.2 e he; omega) HLS.out).mono ?_
            rintro x w20 ⟨ta, tq, lv6, sv6, rfl, hc20, _, hk20, _⟩
            have HGR : Hid (GrowsR c5 (hearD c5 o.m).1) := hear_grows C12.out.ok
            have HT : Hid (∃ lv6 sv6, CoreAt w20 w4.heap.size n (hearD c5 o.m).1 lv6 sv6 ∧ Keeps [] w w20 ∧ ListAt entL w20 (fun _ => True) (.slice fa c5.l.length fq) c5.l) := by
              refine ⟨lv6, sv6, hc20, (HKW.out.trans K14.out (fun _ _ h => h)).trans hk20 (fun b hb hb' => by have := (C6.out.lt b hb').1; have := HBW.out; omega), ((L12.out.k K14.out).keep hk20 (fun b hb hb' => by have := (C6.out.lt b hb').2; omega)).mono (fun _ _ _ => trivial)⟩
            generalize (hearD c5 o.m).1 = c6 at HGR HT
            generalize (hearD c5 o.m).2.length = zl
            clear hc20 hk20
            obtain ⟨lv6, sv6, hC20, hK20, hL20⟩ := HT.out
            have C20 := hid hC20
            have K20 := hid hK20
            have L20 := hid hL20
            have gcm := hC20.ok.commit
            have gls : lastD c6 = c6.base + c6.l.length := rfl
            have g1 : decide (c6.term < c5.term) = false := by have := HGR.out.term; simp; omega
            have g2 : decide (c6.commit < c5.commit) = false := by have := HGR.out.commit; simp; omega
            have g3 : decide (lastD c6 < c6.commit) = false := by simp; omega
            clear hC20 hK20 hL20 HT gcm gls z0 z1 z2 z3 z4 z5 z6 z7 z8 z9 z10 z11 z12
            go_wp2_with fail
            refine (cTerm_any _ _ n c6 lv6 sv6 C20.out).mono ?_
            rintro x wa ⟨rfl, hwa⟩
            rw [hwa]
            clear hwa wa
            go_wp2_with fail
            refine (cCommit_any _ _ n c6 lv6 sv6 C20.out).mono ?_
            rintro x wa ⟨rfl, hwa⟩
            rw [hwa]
            clear hwa wa
            go_wp2_with fail
            refine (cCommit_any _ _ n c6 lv6 sv6 C20.out).mono ?_
            rintro x wa ⟨rfl, hwa⟩
            rw [hwa]
            clear hwa wa
            go_wp2_with fail
            refine (cLast_any _ _ n c6 lv6 sv6 C20.out).mono ?_
            rintro x wa ⟨rfl, q1, rfl⟩
            have hcs : (c5.role == 2) = false ∨ ((c5.role == 2) = true ∧ (c6.term == c5.term) = false) ∨ ((c5.role == 2) = true ∧ (c6.term == c5.term) = true ∧ decide (lastD c6 < lastD c5) = false) := by
              by_cases h1 : c5.role = 2
              · by_cases h2 : c6.term = c5.term
                · exact .inr (.inr ⟨by simpa using h1, by simpa using h2, by have := HGR.out.lead h1 h2; simp; omega⟩)
                · exact .inr (.inl ⟨by simpa using h1, by simpa using h2⟩)
              · exact .inl (by simpa using h1)
            rcases hcs with g4 | ⟨g4, g5⟩ | ⟨g4, g5, g6⟩
            all_goals
              go_wp2_with fail
              try
                refine (cTerm_any _ _ n c6 lv6 sv6 (C20.out.k (by (repeat (first | (with_reducible exact Keeps.refl _ _) | (with_reducible assumption) | ((with_reducible refine Keeps.setCell ?_ ?_ _); rotate_left 1; (· first | (refine .inl ?_; simp; done) | (refine .inr ?_; first | exact Nat.le_refl _ | (simp; done) | (simp; omega) | omega))) | (with_reducible refine Keeps.alloc ?_ _) | (with_reducible refine Keeps.drewN ?_ _) | (with_reducible refine Keeps.drew ?_)))))).mono ?_
                rintro x wa ⟨rfl, hwa⟩
                rw [hwa]
                clear hwa wa
                go_wp2_with fail
              try
                refine (cLast_any _ _ n c6 lv6 sv6 (C20.out.k (by (repeat (first | (with_reducible exact Keeps.refl _ _) | (with_reducible assumption) | ((with_reducible refine Keeps.setCell ?_ ?_ _); rotate_left 1; (· first | (refine .inl ?_; simp; done) | (refine .inr ?_; first | exact Nat.le_refl _ | (simp; done) | (simp; omega) | omega))) | (with_reducible refine Keeps.alloc ?_ _) | (with_reducible refine Keeps.drewN ?_ _) | (with_reducible refine Keeps.drew ?_)))))).mono ?_
                rintro x wa ⟨rfl, q2, rfl⟩
                go_wp2_with fail
              refine (cBase_any _ _ n c6 lv6 sv6 (C20.out.k (by (repeat (first | (with_reducible exact Keeps.refl _ _) | (with_reducible assumption) | ((with_reducible refine Keeps.setCell ?_ ?_ _); rotate_left 1; (· first | (refine .inl ?_; simp; done) | (refine .inr ?_; first | exact Nat.le_refl _ | (simp; done) | (simp; omega) | omega))) | (with_reducible refine Keeps.alloc ?_ _) | (with_reducible refine Keeps.drewN ?_ _) | (with_reducible refine Keeps.drew ?_)))))).mono ?_
              rintro x wa ⟨rfl, q3, rfl⟩
              go_wp2_with fail
              go_loopw [22] (fun iv wi => ∃ j : Nat, iv = .int .i64 j ∧ j ≤ c5.l.length ∧ Hid (Keeps [] w20 wi)) (fun iv _ => c5.l.length - (intOf iv).toNat)
              case atStart => exact ⟨0, rfl, Nat.zero_le _, by show Keeps _ _ _; (repeat (first | (with_reducible exact Keeps.refl _ _) | (with_reducible assumption) | ((with_reducible refine Keeps.setCell ?_ ?_ _); rotate_left 1; (· first | (refine .inl ?_; simp; done) | (refine .inr ?_; first | exact Nat.le_refl _ | (simp; done) | (simp; omega) | omega))) | (with_reducible refine Keeps.alloc ?_ _) | (with_reducible refine Keeps.drewN ?_ _) | (with_reducible refine Keeps.drew ?_)))⟩
              case round =>
                obtain ⟨j, rfl, hj, HJ⟩ := hrel
                have j0 : (0 : Int) ≤ (j : Int) := Int.natCast_nonneg _
                have HREL : Hid (∃ (k' : Nat) (c : CoreD) (lv sv : Value), (k : Int) + 1 = (k' : Int) ∧ k' ≤ ops.length ∧ k' ≤ 40 ∧ CoreAt wr w4.heap.size n c lv sv ∧ Keeps [] w wr ∧ (0 ≤ c.patience ∧ c.patience ≤ k') ∧ lastD c ≤ 1099511627776 + 8 * k') :=
                  ⟨k + 1, c6, lv6, sv6, by omega, by omega, by omega, C20.out.k HJ.out, K20.out.trans HJ.out (fun _ _ h => h), by have := HGR.out.pat HW.out.2.2.1.1; have := HW.out.2.2.1; omega, by have := HGR.out.last; have := HW.out.2.2.2; omega⟩
                by_cases hjl : j < c5.l.length
                · have j1 : (j : Int) < (c5.l.length : Int) := by omega
                  have HBD : Hid (0 ≤ c5.base ∧ c5.base ≤ 2199023255552 ∧ (c5.l.length : Int) ≤ 5096) := by have := C12.out.ok.base; have := C12.out.ok.last; have := C12.out.ok.len; show _ ∧ _ ∧ _; omega
                  obtain ⟨bd0, bd1, bd2⟩ := HBD.out
                  have w01 : IntKind.i64.wrap (c5.base + 1) = c5.base + 1 := IntWalk.i64_in _ (by omega)
                  have w02 : IntKind.i64.wrap (c5.base + 1 + (j : Int)) = c5.base + 1 + (j : Int) := IntWalk.i64_in _ (by omega)
                  by_cases hjc : c5.base + 1 + (j : Int) ≤ c5.commit
                  · by_cases hib : c6.base < c5.base + 1 + (j : Int)
                    · obtain ⟨e, he⟩ : ∃ e, c5.l[j]? = some e := ⟨c5.l[j], List.getElem?_eq_getElem hjl⟩
                      have gd : decide (c6.base < c5.base + 1 + (j : Int)) = true := by simpa using hib
                      have HEN : Hid (entD c6 (c5.base + 1 + (j : Int)) = some e) := by
                        show _ = _
                        rw [HGR.out.ents _ (by omega) hjc hib]
                        unfold entD
                        have hcl := C12.out.ok.commit
                        rw [if_neg (by unfold lastD; omega), show (c5.base + 1 + (j : Int) - c5.base - 1).toNat = j by omega]
                        exact he
                      obtain ⟨g2, off2, cg2, hfa, hcg2, hcm2, hgl2, _⟩ := (L20.out.k HJ.out).addr (fun hn => by rw [hn] at hjl; simp at hjl)
                      simp at hfa
                      obtain ⟨hfa, hfq⟩ := hfa
                      subst hfa
                      subst hfq
                      have HPC : Hid (ListAt entL wr (fun _ => True) (.slice (some ⟨g2, off2 + j * 3, none⟩) 1 (fq - j)) [e]) := by
                        have h5 := (L20.out.k HJ.out).piece j 1 (fq - j) (some ⟨g2, off2 + j * 3, none⟩) (by omega) (by omega) (by omega) (fun _ => rfl)
                        rw [take_one_at he] at h5
                        exact h5
                      have f1 : (j : Int) ≤ (fq : Int) := by omega
                      have f2 : (j : Int) + 1 ≤ (fq : Int) := by omega
                      have f5 : (0 : Int) ≤ (j : Int) + 1 := by omega
                      have f3 : (fq : Int) ≤ 9223372036854775807 := by unfold maxLen at hcm2; omega
                      have f4 : ¬ fq = j := by omega
                      have w03 : IntKind.i64.wrap ((j : Int) + 1) = (j : Int) + 1 := IntWalk.i64_in _ (by omega)
                      clear he hgl2 hcg2 hcm2
                      go_wp2_with fail
                      refine (cEntry_yes _ _ n c6 lv6 sv6 (C20.out.k HJ.out) (c5.base + 1 + (j : Int)) e HEN.out).mono ?_
                      rintro x w22 ⟨a22, q22, rfl, hb22, hk22⟩
                      unfold entV
                      have K22 := hid hk22
                      have B22 := hid hb22
                      clear hb22 hk22
                      go_wp2_with fail
                      refine Plan.wp_region_plan (fun wx => wx.cell? ⟨w22.heap.size, 0, none⟩ = some (.int .i64 e.term) ∧ wx.cell? ⟨w22.heap.size, 1, none⟩ = some (.bool e.cmd) ∧ wx.cell? ⟨w22.heap.size, 2, none⟩ = some (.slice a22 e.data.length q22)) 21 [(true, 0), (true, 1), (true, 2), (true, 3), (true, 4), (true, 5), (true, 6), (true, 7), (true, 8), (true, 9), (true, 10), (true, 12), (true, 13), (true, 14), (true, 15), (true, 16), (false, 11), (false, 17), (true, 18), (true, 19), (true, 20)] (by kernel_rfl) (by as_aux_lemma => kernel_rfl) (by kernel_rfl) (fun _ _ _ _ _ h => h) ?_ (fun hS => ?_)
                      (· go_simp)
                      simp only [Plan.pick, List.append_eq, List.cons_append, List.nil_append, List.getElem?_cons_zero, List.getElem?_cons_succ, Option.getD_some, List.drop_succ_cons, List.drop_zero]
                      iterate 15 (first | (refine Plan.take (v := ?_) (a' := ?_) (Plan.want_all (by rfl)) ?_ ?_ ?_; rotate_left 2; (· (intro w' hS'; (try dsimp only at hS'); go_simp; try with_reducible rfl)); (· (simp only [Act.put, List.setIfInBounds_toArray, List.set_cons_zero, List.set_cons_succ]; try with_reducible rfl))) | (refine Plan.take (v := ?_) (a' := ?_) (Plan.want_yes (by rfl) (by rfl) (by rfl) (by rfl)) ?_ ?_ ?_; rotate_left 2; (· (intro w' hS'; (try dsimp only at hS'); go_simp; try with_reducible rfl)); (· (simp only [Act.put, List.setIfInBounds_toArray, List.set_cons_zero, List.set_cons_succ]; try with_reducible rfl))) | (refine Plan.pass (a' := ?_) (Plan.want_no (by rfl) (by rfl) (by rfl) (by rfl)) ?_ ?_; rotate_left 1; (· (simp only [Act.put, List.setIfInBounds_toArray, List.set_cons_zero, List.set_cons_succ]; try with_reducible rfl))) | (refine Plan.pass (a' := ?_) (Plan.want_un (by rfl) (by rfl) (by rfl) (by rfl)) ?_ ?_; rotate_left 1; (· (simp only [Act.put, List.setIfInBounds_toArray, List.set_cons_zero, List.set_cons_succ]; try with_reducible rfl))) | fail)
                      refine Plan.take (v := .slice (some ⟨g2, off2 + j * 3, none⟩) 1 (fq - j)) (a' := ?_) (Plan.want_yes (by rfl) (by rfl) (by rfl) (by rfl)) ?_ ?_ ?_
                      rotate_left 1
                      (· intro w' hS'
                         (try dsimp only at hS')
                         go_simp)
                      (· simp only [Act.put, List.setIfInBounds_toArray, List.set_cons_zero, List.set_cons_succ]
                         try with_reducible rfl)
                      refine Plan.step ?_
                      go_wp2_with fail
                      refine ⟨?_, ?_⟩
                      (· go_simp)
                      refine Plan.step ?_
                      go_wp2_with fail
                      have HONE : Hid (ListAt entL ((w22.alloc (.cells #[.int .i64 e.term, .bool e.cmd, .slice a22 e.data.length q22] 59)).alloc (.cells #[.int .i64 e.term, .bool e.cmd, .slice a22 e.data.length q22] 59)).drew (fun _ => True) (.slice (some ⟨w22.heap.size + 1, 0, none⟩) 1 1) [e]) := by
                        have h1 := one_list (w := w22) (w1 := w22.alloc (.cells #[.int .i64 e.term, .bool e.cmd, .slice a22 e.data.length q22] 59)) ((Keeps.refl [] w22).alloc _) B22.out
                        rw [show (w22.alloc (.cells #[.int .i64 e.term, .bool e.cmd, .slice a22 e.data.length q22] 59)).heap.size = w22.heap.size + 1 by simp] at h1
                        exact h1.k ((Keeps.refl [] _).drew)
                      refine (sameEntries_is [e] 1 rfl (fun _ => True) (fun _ => True) _ _ _ _ _ HONE.out (HPC.out.k (Keeps.trans K22.out (by (repeat (first | (with_reducible exact Keeps.refl _ _) | (with_reducible assumption) | ((with_reducible refine Keeps.setCell ?_ ?_ _); rotate_left 1; (· first | (refine .inl ?_; simp; done) | (refine .inr ?_; first | exact Nat.le_refl _ | (simp; done) | (simp; omega) | omega))) | (with_reducible refine Keeps.alloc ?_ _) | (with_reducible refine Keeps.drewN ?_ _) | (with_reducible refine Keeps.drew ?_)))) (fun _ _ h => h))) (by omega)).mono ?_
                      rintro x w23 ⟨rfl, hk23⟩
                      have K23 : Hid (Keeps [] wr w23) := Keeps.trans K22.out (Keeps.trans (by (repeat (first | (with_reducible exact Keeps.refl _ _) | (with_reducible assumption) | ((with_reducible refine Keeps.setCell ?_ ?_ _); rotate_left 1; (· first | (refine .inl ?_; simp; done) | (refine .inr ?_; first | exact Nat.le_refl _ | (simp; done) | (simp; omega) | omega))) | (with_reducible refine Keeps.alloc ?_ _) | (with_reducible refine Keeps.drewN ?_ _) | (with_reducible refine Keeps.drew ?_)))) hk23 (fun _ _ h => h)) (fun _ _ h => h)
                      have hs23 : w23.cell? ⟨w22.heap.size, 0, none⟩ = some (.int .i64 e.term) ∧ w23.cell? ⟨w22.heap.size, 1, none⟩ = some (.bool e.cmd) ∧ w23.cell? ⟨w22.heap.size, 2, none⟩ = some (.slice a22 e.data.length q22) := ⟨hk23.cellSome (by go_simp) (by simp), hk23.cellSome (by go_simp) (by simp), hk23.cellSome (by go_simp) (by simp)⟩
                      clear hk23
                      go_wp2_with fail
                      refine ⟨hs23, ?_⟩
                      iterate 3 (first | (refine Plan.take (v := ?_) (a' := ?_) (Plan.want_all (by rfl)) ?_ ?_ ?_; rotate_left 2; (· (intro w' hS'; (try dsimp only at hS'); go_simp; try with_reducible rfl)); (· (simp only [Act.put, List.setIfInBounds_toArray, List.set_cons_zero, List.set_cons_succ]; try with_reducible rfl))) | (refine Plan.take (v := ?_) (a' := ?_) (Plan.want_yes (by rfl) (by rfl) (by rfl) (by rfl)) ?_ ?_ ?_; rotate_left 2; (· (intro w' hS'; (try dsimp only at hS'); go_simp; try with_reducible rfl)); (· (simp only [Act.put, List.setIfInBounds_toArray, List.set_cons_zero, List.set_cons_succ]; try with_reducible rfl))) | (refine Plan.pass (a' := ?_) (Plan.want_no (by rfl) (by rfl) (by rfl) (by rfl)) ?_ ?_; rotate_left 1; (· (simp only [Act.put, List.setIfInBounds_toArray, List.set_cons_zero, List.set_cons_succ]; try with_reducible rfl))) | (refine Plan.pass (a' := ?_) (Plan.want_un (by rfl) (by rfl) (by rfl) (by rfl)) ?_ ?_; rotate_left 1; (· (simp only [Act.put, List.setIfInBounds_toArray, List.set_cons_zero, List.set_cons_succ]; try with_reducible rfl))) | fail)
                      refine Plan.fin ?_
                      go_wp2_with fail
                      go_roundw
                      case rel => exact ⟨j + 1, by go_num, by omega, HJ.out.trans (K23.out.trans (by (repeat (first | (with_reducible exact Keeps.refl _ _) | (with_reducible assumption) | ((with_reducible refine Keeps.setCell ?_ ?_ _); rotate_left 1; (· first | (refine .inl ?_; simp; done) | (refine .inr ?_; first | exact Nat.le_refl _ | (simp; done) | (simp; omega) | omega))) | (with_reducible refine Keeps.alloc ?_ _) | (with_reducible refine Keeps.drewN ?_ _) | (with_reducible refine Keeps.drew ?_)))) (fun _ _ h => h)) (fun _ _ h => h)⟩
                      case measure => simp [intOf]; omega
                    · have hib2 : c5.base + 1 + (j : Int) ≤ c6.base := by omega
                      have gd : decide (c6.base < c5.base + 1 + (j : Int)) = false := by simpa using hib2
                      have HEN : Hid (entD c6 (c5.base + 1 + (j : Int)) = none) := by
                        show _ = _
                        unfold entD
                        rw [if_pos (.inl hib2)]
                      clear hib
                      go_wp2_with fail
                      refine (cEntry_no _ _ n c6 lv6 sv6 (C20.out.k HJ.out) (c5.base + 1 + (j : Int)) HEN.out).mono ?_
                      rintro x w22 ⟨rfl, hk22⟩
                      unfold entV
                      have K22 := hid hk22
                      clear hk22
                      go_wp2_with fail
                      refine Plan.wp_region_plan (fun wx => True) 21 [(true, 0), (true, 1), (true, 2), (true, 3), (true, 4), (true, 5), (true, 6), (true, 7), (true, 8), (true, 9), (true, 10), (true, 12), (true, 13), (true, 14), (true, 15), (true, 16), (false, 11), (false, 17), (true, 18), (true, 19), (true, 20)] (by kernel_rfl) (by as_aux_lemma => kernel_rfl) (by kernel_rfl) (fun _ _ _ _ _ h => h) ?_ (fun hS => ?_)
                      (· trivial)
                      simp only [Plan.pick, List.append_eq, List.cons_append, List.nil_append, List.getElem?_cons_zero, List.getElem?_cons_succ, Option.getD_some, List.drop_succ_cons, List.drop_zero]
                      iterate 16 (first | (refine Plan.take (v := ?_) (a' := ?_) (Plan.want_all (by rfl)) ?_ ?_ ?_; rotate_left 2; (· (intro w' hS'; (try dsimp only at hS'); go_simp; try with_reducible rfl)); (· (simp only [Act.put, List.setIfInBounds_toArray, List.set_cons_zero, List.set_cons_succ]; try with_reducible rfl))) | (refine Plan.take (v := ?_) (a' := ?_) (Plan.want_yes (by rfl) (by rfl) (by rfl) (by rfl)) ?_ ?_ ?_; rotate_left 2; (· (intro w' hS'; (try dsimp only at hS'); go_simp; try with_reducible rfl)); (· (simp only [Act.put, List.setIfInBounds_toArray, List.set_cons_zero, List.set_cons_succ]; try with_reducible rfl))) | (refine Plan.pass (a' := ?_) (Plan.want_no (by rfl) (by rfl) (by rfl) (by rfl)) ?_ ?_; rotate_left 1; (· (simp only [Act.put, List.setIfInBounds_toArray, List.set_cons_zero, List.set_cons_succ]; try with_reducible rfl))) | (refine Plan.pass (a' := ?_) (Plan.want_un (by rfl) (by rfl) (by rfl) (by rfl)) ?_ ?_; rotate_left 1; (· (simp only [Act.put, List.setIfInBounds_toArray, List.set_cons_zero, List.set_cons_succ]; try with_reducible rfl))) | fail)
                      refine Plan.step ?_
                      go_wp2_with fail
                      refine ⟨trivial, ?_⟩
                      refine Plan.step ?_
                      go_wp2_with fail
                      refine ⟨trivial, ?_⟩
                      iterate 3 (first | (refine Plan.take (v := ?_) (a' := ?_) (Plan.want_all (by rfl)) ?_ ?_ ?_; rotate_left 2; (· (intro w' hS'; (try dsimp only at hS'); go_simp; try with_reducible rfl)); (· (simp only [Act.put, List.setIfInBounds_toArray, List.set_cons_zero, List.set_cons_succ]; try with_reducible rfl))) | (refine Plan.take (v := ?_) (a' := ?_) (Plan.want_yes (by rfl) (by rfl) (by rfl) (by rfl)) ?_ ?_ ?_; rotate_left 2; (· (intro w' hS'; (try dsimp only at hS'); go_simp; try with_reducible rfl)); (· (simp only [Act.put, List.setIfInBounds_toArray, List.set_cons_zero, List.set_cons_succ]; try with_reducible rfl))) | (refine Plan.pass (a' := ?_) (Plan.want_no (by rfl) (by rfl) (by rfl) (by rfl)) ?_ ?_; rotate_left 1; (· (simp only [Act.put, List.setIfInBounds_toArray, List.set_cons_zero, List.set_cons_succ]; try with_reducible rfl))) | (refine Plan.pass (a' := ?_) (Plan.want_un (by rfl) (by rfl) (by rfl) (by rfl)) ?_ ?_; rotate_left 1; (· (simp only [Act.put, List.setIfInBounds_toArray, List.set_cons_zero, List.set_cons_succ]; try with_reducible rfl))) | fail)
                      refine Plan.fin ?_
                      go_wp2_with fail
                      go_roundw
                      case rel => exact ⟨j + 1, by go_num, by omega, HJ.out.trans (Keeps.trans K22.out (by (repeat (first | (with_reducible exact Keeps.refl _ _) | (with_reducible assumption) | ((with_reducible refine Keeps.setCell ?_ ?_ _); rotate_left 1; (· first | (refine .inl ?_; simp; done) | (refine .inr ?_; first | exact Nat.le_refl _ | (simp; done) | (simp; omega) | omega))) | (with_reducible refine Keeps.alloc ?_ _) | (with_reducible refine Keeps.drewN ?_ _) | (with_reducible refine Keeps.drew ?_)))) (fun _ _ h => h)) (fun _ _ h => h)⟩
                      case measure => simp [intOf]; omega
                  · have hjc2 : c5.commit < c5.base + 1 + (j : Int) := by omega
                    clear hjc
                    go_wp2_with fail
                    go_roundw
                    case rel => obtain ⟨k', c, lv, sv, h1, h2, h3, h4⟩ := HREL.out; exact ⟨k', c, lv, sv, by first | rw [← h1] | (rw [← h1]; go_num), h2, h3, h4⟩
                    case measure => simp [intOf]; omega
                · have j1 : (c5.l.length : Int) ≤ (j : Int) := by omega
                  go_wp2_with fail
                  go_roundw
                  case rel => obtain ⟨k', c, lv, sv, h1, h2, h3, h4⟩ := HREL.out; exact ⟨k', c, lv, sv, by first | rw [← h1] | (rw [← h1]; go_num), h2, h3, h4⟩
                  case measure => simp [intOf]; omega
      · have i1 : (k : Int) < (ops.length : Int) := by omega
        have i2 : (40 : Int) ≤ (k : Int) := by omega
        go_wp2_with fail
        refine (cAwake_any _).mono ?_
        rintro e w10 ⟨rfl, k10⟩
        have K10 : Hid (Keeps [] w w10) := HW.out.2.1.trans k10 (fun _ _ h => h)
        clear k10
        go_wp2_with fail
        go_ret
        exact ⟨rfl, K10.out.below (Nat.le_refl _) (fun _ h => by cases h)⟩
    · have i1 : (ops.length : Int) ≤ (k : Int) := by omega
      go_wp2_with fail
      refine (cAwake_any _).mono ?_
      rintro e w10 ⟨rfl, k10⟩
      have K10 : Hid (Keeps [] w w10) := HW.out.2.1.trans k10 (fun _ _ h => h)
      clear k10
      go_wp2_with fail
      go_ret
      exact ⟨rfl, K10.out.below (Nat.le_refl _) (fun _ h => by cases h)⟩

end Go.Proofs.Ytpppoajnbhipeaa
