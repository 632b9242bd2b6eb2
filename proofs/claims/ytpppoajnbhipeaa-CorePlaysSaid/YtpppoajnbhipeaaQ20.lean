/- Joined of ApP, RefM. -/
import Derived.Test.YtpppoajnbhipeaaQ07
import Derived.Test.YtpppoajnbhipeaaQ19
import Derived.ArgAppend
import Derived.Test.YtpppoajnbhipeaaRefH

/- append, plain: entries that fit. -/
namespace Go.Proofs.Ytpppoajnbhipeaa
open Go Go.RowKit

theorem reads_olds {w : World} {size n cap : Nat} {a : Option Addr} {xs : List Value} (h : Reads w size (.slice a n cap) n xs) : xs.length = n * size ∧ ∀ b, a = some b → ∀ j u, xs[j]? = some u → w.cell? (b.add j) = some u := by
  refine ⟨h.1, fun b hb j u hu => ?_⟩
  rcases h.2 with ⟨h0, _⟩ | ⟨_, g, off, c, hv, _, _, _, hx⟩
  · have := h.1
    rw [h0, Nat.zero_mul] at this
    rw [List.eq_nil_of_length_eq_zero this] at hu
    simp at hu
  · rw [hb] at hv
    simp at hv
    rw [hv.1, Addr.add_lit]
    exact hx j u hu

/-- append onto a slice that is full: the row is the call's own. -/
theorem wpList_append_full {α : Type} {L : Lay α} {P : Program} {ops : Array Oper} {rest : List Oper} {o : Oper} {a : Act} {Q : Exit → Act → World → Prop} (w : World) (hgd : o.guard = none) (s x : Operand) (t : TypeId)
    (ho : o.op = .call { callee := .builtin .append, args := #[s, x], argTypes := #[t, t] })
    (e : TypeId) (i : TypeInfo) (z : Value) (bytes : Nat) (ht : P.underlying t = some (.slice e)) (hi : P.info? e = some i) (hz : i.zero = some z)
    (hsize : i.size = L.size) (hby : i.bytes = bytes) (hzs : z.cells.size = L.size)
    {R PA PB : Nat → Prop} (ao : Option Addr) (n1 : Nat) (hs : a.eval s = .slice ao n1 n1) (l : List α) (y : α) (hn1 : l.length = n1) (hl : ListAt L w PA (.slice ao n1 n1) l) (cs : List Value) (b : Nat) (hx : a.eval x = .slice (some ⟨b, 0, none⟩) 1 1) (h3 : L.at_ w PB cs y) (t' : TypeId) (fr : Nat × Nat) (hb : w.heap[b]? = some (.cells cs.toArray t' fr)) (hbytes : (n1 + 1) * bytes ≤ 140737488355328) (h63 : n1 + 1 ≤ maxLen)
    (hA : ∀ b, b < w.heap.size → PA b → R b) (hB : ∀ b, b < w.heap.size → PB b → R b)
    (h : ∀ a' c' w', Hid (OwnAt L e w' w.heap.size (fun b => R b ∧ b < w.heap.size) (.slice a' (n1 + 1) c') (l ++ [y])) → Hid (Keeps [] w w') → wpList P ops Q rest (a.put o.dst (.slice a' (n1 + 1) c')) w') : wpList P ops Q (o :: rest) a w := by
  subst hn1
  obtain ⟨css, h1, h2, _⟩ := hl
  obtain ⟨r1, r2⟩ := reads_olds h2
  have hcl := L.len h3
  refine wpList_append_grows w hgd s x t ho e i z L.size bytes ht hi hz hsize hby hzs L.pos ao l.length l.length css.flatten hs ?_ r1 r2 ⟨b, 0, none⟩ 1 1 cs hx (by rw [hcl, Nat.one_mul]) ?_ (L.one h3) (by omega) h63 hbytes fun v' w' g1 g2 => ?_
  · intro hn
    rcases h2.2 with ⟨h0, _⟩ | ⟨_, g, off, c, hv, _⟩
    · exact ⟨h0, h0⟩
    · rw [hn] at hv; cases hv
  · intro j u hu
    rw [Addr.add_lit, Nat.zero_add]
    refine (cell_of_block hb j).trans ?_
    simpa using hu
  · obtain ⟨qa, qc, hv⟩ := len_form g1
    subst hv
    have k : Keeps [] w w' := Keeps.ofGrown g2 (fun _ h => by cases h)
    refine h qa qc w' ⟨css ++ [cs], ?_, ?_⟩ k
    · exact ((h1.mono (P' := fun b => R b ∧ b < w.heap.size) (fun b hb h => ⟨hA b hb h, hb⟩)).keep k (fun _ _ h => by cases h)).append ((ElemsAt.one1 (L.mono h3 (P' := fun b => R b ∧ b < w.heap.size) (fun b hb h => ⟨hB b hb h, hb⟩))).keep k (fun _ _ h => by cases h))
    · simpa using g1

/-- A core whose log was cut: its row is full, and not its own. -/
structure CoreCut (w : World) (B n : Nat) (c : CoreD) (lv sv : Value) : Prop where
  blk : CoreBlk w n c lv sv
  list : ListAt entL w (fun b => b ≠ n ∧ ¬ c.ban b) lv c.l
  full : ∃ a, lv = .slice a c.l.length c.l.length
  snap : BytesAt w (fun b => b ≠ n ∧ ¬ c.ban b) sv c.snap
  base : B ≤ n
  old : ∀ b, c.ban b → b < w.heap.size
  free : ¬ c.ban n
  ok : CoreOk c

def CutPost (B n : Nat) (c : CoreD) (sv : Value) (w : World) (x : Ending) (w' : World) : Prop :=
  ∃ lv', x = .returned (.tuple #[]) ∧ CoreAt w' B n c lv' sv ∧ Keeps [n] w w' ∧ ∀ b ∈ ownB lv', w.heap.size ≤ b

set_option maxRecDepth 100000 in
set_option maxHeartbeats 3200000 in
theorem put_cut (w : World) (B n : Nat) (c : CoreD) (lv sv : Value) (e : Ent) (ea : Option Addr) (ec : Nat) (h : CoreCut w B n c lv sv) (hb : BytesAt w (fun b => b ≠ n ∧ ¬ c.ban b) (.slice ea e.data.length ec) e.data) (hlen : c.l.length < 5096) (hlast : lastD c + 1 ≤ 2199023255552) (ht : 0 ≤ e.term ∧ e.term ≤ 1099511627776) (hd : e.data.length ≤ 1000000) :
    Calls Try.prog 66 #[.pointer (some ⟨n, 0, none⟩), entV e (.slice ea e.data.length ec)] w (CutPost B n (putD c e) sv w) := by
  obtain ⟨it, hi0, hz0, hz1, hz2⟩ := info_parts Try.infoEnt
  obtain ⟨q, rfl⟩ := h.full
  unfold entV
  have h17 : w.cell? ⟨n, 17, none⟩ = some (.slice q c.l.length c.l.length) := h.blk.cell 17
  have f17 : w.frozen? ⟨n, 17, none⟩ = false := h.blk.free 17
  have hlt := h.blk.lt
  have H := hid h
  have HOK := hid (putL_ok h.ok hlen hlast ht hd)
  have hls : 0 ≤ lastD c + 1 := by have := h.ok.base; unfold lastD; omega
  have HLS : Hid (0 ≤ lastD c + 1 ∧ lastD c + 1 ≤ 2199023255553) := ⟨hls, by omega⟩
  have HEL : Hid (∀ wx, Keeps [] w wx → entL.at_ wx (fun b => (b ≠ n ∧ ¬ c.ban b) ∧ b < w.heap.size) [.int .i64 e.term, .bool e.cmd, .slice ea e.data.length ec] e) := fun wx kx => ⟨_, rfl, (BytesAt.mono (P' := fun b => (b ≠ n ∧ ¬ c.ban b) ∧ b < w.heap.size) hb (fun b h1 h2 => ⟨h2, h1⟩)).k kx⟩
  have HLA : Hid (∀ wx, Keeps [] w wx → ListAt entL wx (fun b => (b ≠ n ∧ ¬ c.ban b) ∧ b < w.heap.size) (.slice q c.l.length c.l.length) c.l) := fun wx kx => (h.list.mono (P' := fun b => (b ≠ n ∧ ¬ c.ban b) ∧ b < w.heap.size) (fun b h1 h2 => ⟨h2, h1⟩)).k kx
  have HNL : Hid (n < w.heap.size) := hlt
  clear h hb hls hlast
  go_enter Try.func66, Try.ntmps66
  go_wp2_with fail
  refine Plan.wp_region_plan (fun wx => wx.cell? ⟨n, 17, none⟩ = some (.slice q c.l.length c.l.length) ∧ wx.cell? ⟨w.heap.size, 0, none⟩ = some (.int .i64 e.term) ∧ wx.cell? ⟨w.heap.size, 1, none⟩ = some (.bool e.cmd) ∧ wx.cell? ⟨w.heap.size, 2, none⟩ = some (.slice ea e.data.length ec)) 8 [(true, 0), (true, 1), (true, 2), (true, 3), (true, 4), (true, 5), (false, 6), (false, 7)] (by kernel_rfl) (by as_aux_lemma => kernel_rfl) (by kernel_rfl) (fun _ _ _ _ _ h => h) ?_ (fun hS => ?_)
  (· go_simp)
  simp only [Plan.pick, List.append_eq, List.cons_append, List.nil_append, Plan.g1, Plan.g2, Option.getD_some, List.drop_succ_cons, List.drop_zero]
  iterate 6 (first | refine Plan.tA ?_ | refine Plan.tY ?_ | refine Plan.pN ?_ | refine Plan.pU ?_ | fail)
  refine Plan.step ?_
  go_wp2_with fail
  refine ⟨?_, ?_⟩
  (· go_simp)
  refine Plan.step ?_
  have HX : Hid (∃ w1, w1 = ((w.alloc (.cells #[.int .i64 e.term, .bool e.cmd, .slice ea e.data.length ec] 59)).alloc (.cells #[.int .i64 e.term, .bool e.cmd, .slice ea e.data.length ec] 59)).drew ∧ Keeps [] w w1 ∧ w1.heap[w.heap.size + 1]? = some (.cells #[.int .i64 e.term, .bool e.cmd, .slice ea e.data.length ec] 59 (0, 0)) ∧ w1.heap[w.heap.size]? = some (.cells #[.int .i64 e.term, .bool e.cmd, .slice ea e.data.length ec] 59 (0, 0))) := by
    have e1 := heap_alloc_new w (.cells #[.int .i64 e.term, .bool e.cmd, .slice ea e.data.length ec] 59)
    have e2 := heap_alloc_new (w.alloc (.cells #[.int .i64 e.term, .bool e.cmd, .slice ea e.data.length ec] 59)) (.cells #[.int .i64 e.term, .bool e.cmd, .slice ea e.data.length ec] 59)
    have k2 : Keeps [] (w.alloc (.cells #[.int .i64 e.term, .bool e.cmd, .slice ea e.data.length ec] 59)) ((w.alloc (.cells #[.int .i64 e.term, .bool e.cmd, .slice ea e.data.length ec] 59)).alloc (.cells #[.int .i64 e.term, .bool e.cmd, .slice ea e.data.length ec] 59)).drew := by exact Keeps.K
    refine ⟨_, rfl, by exact Keeps.K, ?_, (k2.block w.heap.size (by simp) (by simp)).trans e1⟩
    rw [show (w.alloc (.cells #[.int .i64 e.term, .bool e.cmd, .slice ea e.data.length ec] 59)).heap.size = w.heap.size + 1 by simp] at e2
    exact e2
  obtain ⟨w1, hw1, k1, b1, b0⟩ := HX.out
  rw [← hw1]
  obtain ⟨⟨x0, x1, x2⟩, _⟩ := blk3 b0
  have K1 := hid k1
  have HB1 := hid b1
  have z1 : w.heap.size + 1 < w1.heap.size := (Array.getElem?_eq_some_iff.1 b1).1
  have a17 := k1.cellSome h17 (by simp)
  have g17 : w1.frozen? ⟨n, 17, none⟩ = false := (k1.frozen (a := ⟨n, 17, none⟩) hlt (by simp)).trans f17
  clear hw1 k1 b1 b0 HX h17 f17
  go_wp2_with (at_builtin; go_must (refine wpList_append_full (L := entL) (PA := fun b => (b ≠ n ∧ ¬ c.ban b) ∧ b < w.heap.size) (PB := fun b => (b ≠ n ∧ ¬ c.ban b) ∧ b < w.heap.size) (R := fun b => (b ≠ n ∧ ¬ c.ban b) ∧ b < w.heap.size) _ (by rfl) _ _ _ (by rfl) 59 it _ 40 Try.underlying35 hi0 hz0 hz1 hz2 rfl q c.l.length (by rfl) c.l e rfl (HLA.out _ K1.out) [.int .i64 e.term, .bool e.cmd, .slice ea e.data.length ec] (w.heap.size + 1) (by rfl) (HEL.out _ K1.out) 59 (0, 0) HB1.out (by omega) (le_maxLen (by omega)) (fun b _ hb => hb) (fun b _ hb => hb) ?_; intro a4 q4 w4 ho4 hk4))
  have e17 := hk4.out.cellSome a17 (by simp)
  have e0 := hk4.out.cellSome x0 (by simp)
  have e1 := hk4.out.cellSome x1 (by simp)
  have e2 := hk4.out.cellSome x2 (by simp)
  have hfz : w4.frozen? ⟨n, 17, none⟩ = false := (hk4.out.frozen (a := ⟨n, 17, none⟩) (by show n < w1.heap.size; omega) (by simp)).trans g17
  refine ⟨⟨e17, e0, e1, e2⟩, ?_⟩
  refine Plan.fin ?_
  have HG : Hid (∃ w5, w5 = w4.setCell ⟨n, 17, none⟩ (.slice a4 (c.l.length + 1) q4) ∧ CoreAt w5 B n { c with l := c.l ++ [e] } (.slice a4 (c.l.length + 1) q4) sv ∧ Keeps [n] w w5) := by
    have ka : Keeps [] w w4 := K1.out.trans hk4.out (fun _ _ h => h)
    have kb : Keeps [n] w4 (w4.setCell ⟨n, 17, none⟩ (.slice a4 (c.l.length + 1) q4)) := (Keeps.refl _ _).setCell (.inl (by simp)) _
    have hge : ∀ b ∈ ownB (.slice a4 (c.l.length + 1) q4), w1.heap.size ≤ b := fun b hb => (OwnAt.ge ho4.out b hb).1
    have hz : w.heap.size ≤ w1.heap.size := K1.out.size
    have hnl := HNL.out
    have kab : Keeps [n] w (w4.setCell ⟨n, 17, none⟩ (.slice a4 (c.l.length + 1) q4)) := (ka.mono (G := [n]) (fun _ _ h => by cases h)).trans kb (fun _ _ h => h)
    refine ⟨_, rfl, { blk := (H.out.blk.keep ka (by simp)).set 17 _ rfl, own := ?_, snap := ?_, apart := fun hb => by have := hge n hb; omega, base := H.out.base, old := fun b hb => Nat.lt_of_lt_of_le (H.out.old b hb) kab.size, free := ⟨H.out.free, fun b hb hb' => by have := hge b hb; have := H.out.old b hb'; omega⟩, ok := HOK.out }, kab⟩
    · refine OwnAt.mono (P := fun b => ((b ≠ n ∧ ¬ c.ban b) ∧ b < w.heap.size) ∧ b < w1.heap.size) ((OwnAt.base ho4.out (Nat.le_trans H.out.base (by omega))).keep kb (fun b hb hb' => by simp at hb'; have := hge b hb; omega) (fun b hb hb' => by simp at hb'; exact hb.1.1.1 hb')) (fun b _ hb => ⟨⟨hb.1.1.1, fun h2 => by have := hge b h2; omega⟩, hb.1.1.2⟩)
    · refine ((H.out.snap.mono (P' := fun b => (b ≠ n ∧ ¬ c.ban b) ∧ b < w.heap.size) (fun b h1 h2 => ⟨h2, h1⟩)).keep kab (fun b hb hb' => by simp at hb'; exact hb.1.1 hb')).mono (fun b _ hb => ⟨⟨hb.1.1, fun h2 => by have := hge b h2; omega⟩, hb.1.2⟩)
  have HV : Hid (∀ b ∈ ownB (.slice a4 (c.l.length + 1) q4), w.heap.size ≤ b) := fun b hb => Nat.le_trans K1.out.size (OwnAt.ge ho4.out b hb).1
  clear a17 g17 x0 x1 x2
  go_wp2_with fail
  obtain ⟨w5, hw5, hc5, hk5⟩ := HG.out
  rw [← hw5]
  have C5 := hid hc5
  have K5 := hid hk5
  clear hw5 hc5 hk5 HG e17 e0 e1 e2 hfz
  refine (cLast_is _ B n _ _ sv C5.out (lastD c + 1) (by unfold lastD; simp; omega)).mono ?_
  rintro z w' ⟨rfl, k, rfl⟩
  go_wp2_with fail
  refine (from_any _ B n _ _ sv (lastD c + 1) (C5.out.k ((Keeps.refl [] _).drewN _)) HLS.out).mono ?_
  rintro z w6 ⟨rfl, hc6, hk6⟩
  have HF : Hid (CoreAt w6 B n (putD c e) (.slice a4 (c.l.length + 1) q4) sv ∧ Keeps [n] w w6) := ⟨hc6, (K5.out.drewN _).trans hk6 (fun b _ h => h)⟩
  clear hc6 hk6
  go_wp2_with fail
  exact bodyPost_end (by simp [results, Try.results66, go_sem]) rfl ⟨_, rfl, HF.out.1, HF.out.2, HV.out⟩


theorem puts_nil (c : CoreD) (a : Int) : putsD c a [] = some c := rfl
theorem puts_match {c : CoreD} {a : Int} {e : Ent} {r : List Ent} (h : (atD c (a + 1)).2 = true ∧ (atD c (a + 1)).1 = e.term) : putsD c a (e :: r) = putsD c (a + 1) r := by
  conv => lhs; unfold putsD
  rw [if_pos h]
theorem puts_none {c : CoreD} {a : Int} {e : Ent} {r : List Ent} (h : ¬ ((atD c (a + 1)).2 = true ∧ (atD c (a + 1)).1 = e.term)) (h2 : a + 1 ≤ c.commit ∨ 5096 < a - c.base + ((r.length : Int) + 1)) : putsD c a (e :: r) = none := by
  conv => lhs; unfold putsD
  rw [if_neg h, if_pos h2]
theorem puts_some {c : CoreD} {a : Int} {e : Ent} {r : List Ent} (h : ¬ ((atD c (a + 1)).2 = true ∧ (atD c (a + 1)).1 = e.term)) (h2 : ¬ (a + 1 ≤ c.commit ∨ 5096 < a - c.base + ((r.length : Int) + 1))) : putsD c a (e :: r) = some ((e :: r).foldl putD { c with l := c.l.take (a - c.base).toNat }) := by
  conv => lhs; unfold putsD
  rw [if_neg h, if_neg h2]
theorem drop_cons {l : List Ent} {i : Nat} {e : Ent} (h : l[i]? = some e) : l.drop i = e :: l.drop (i + 1) := by
  have hi := (List.getElem?_eq_some_iff.1 h)
  rw [List.drop_eq_getElem_cons hi.1, hi.2]

structure SameBut (c c' : CoreD) : Prop where
  conf : c'.conf = c.conf
  id : c'.id = c.id
  term : c'.term = c.term
  commit : c'.commit = c.commit
  base : c'.base = c.base
  ban : c'.ban = c.ban
theorem fold_same : ∀ (r : List Ent) (c : CoreD), SameBut c (r.foldl putD c) ∧ (r.foldl putD c).l = c.l ++ r
  | [], c => ⟨⟨rfl, rfl, rfl, rfl, rfl, rfl⟩, by simp⟩
  | e :: r, c => by
    obtain ⟨h1, h2⟩ := fold_same r (putD c e)
    refine ⟨⟨h1.conf, h1.id, h1.term, h1.commit, h1.base, h1.ban⟩, ?_⟩
    show (r.foldl putD (putD c e)).l = _
    rw [h2]
    show (c.l ++ [e]) ++ r = _
    simp
theorem fold_snoc (r : List Ent) (c : CoreD) (e : Ent) : (r ++ [e]).foldl putD c = putD (r.foldl putD c) e := by simp

theorem cut_ok {c : CoreD} (h : CoreOk c) {d : Nat} (hd : d ≤ c.l.length) (hc : c.commit ≤ c.base + d) : CoreOk { c with l := c.l.take d } := by
  have e : (c.l.take d).length = d := by simp; omega
  have h1 := h.len
  have h2 := h.last
  exact { may := h.may, id := h.id, term := h.term, base := h.base, baseTerm := h.baseTerm, len := by show (c.l.take d).length ≤ _; omega, last := by show c.base + ((c.l.take d).length : Int) ≤ _; omega, commit := by show c.commit ≤ c.base + ((c.l.take d).length : Int); omega, draw := h.draw, votes := h.votes, next := h.next, matc := h.matc, nexts := h.nexts, matcs := h.matcs, ents := fun e he => h.ents e (List.mem_of_mem_take he), frm := h.frm, data := fun e he => h.data e (List.mem_of_mem_take he), snap := h.snap }
theorem commitT_ok {c : CoreD} (h : CoreOk c) {v : Int} (hv : c.base ≤ v ∧ v ≤ c.base + c.l.length) : CoreOk { c with commit := v } :=
  { may := h.may, id := h.id, term := h.term, base := ⟨h.base.1, hv.1⟩, baseTerm := h.baseTerm, len := h.len, last := h.last, commit := hv.2, draw := h.draw, votes := h.votes, next := h.next, matc := h.matc, nexts := h.nexts, matcs := h.matcs, ents := h.ents, frm := h.frm, data := h.data, snap := h.snap }
theorem answerD_same {c c' : CoreD} (h1 : c'.id = c.id) (h2 : c'.term = c.term) (m : MsgD) (ok : Bool) (a : Int) : answerD c' m ok a = answerD c m ok a := by
  unfold answerD saysD
  rw [h1, h2]

/-- A core, and what Keeps says of it, behind puts. -/
def Grown (B n : Nat) (lv sv : Value) (w : World) (c : CoreD) (wx : World) : Prop :=
  ∃ lv', CoreAt wx B n c lv' sv ∧ Keeps (n :: ownB lv) w wx ∧ ∀ b ∈ ownB lv', b ∈ ownB lv ∨ w.heap.size ≤ b

/-- The end of append: what is agreed, the answer. -/
theorem ap_last {B n : Nat} {lv sv : Value} {w w1 w2 : World} {c c' : CoreD} {m : MsgD} {last : Int} {e : Ending} (hs : SameBut c c') (hg : ∃ lv', CoreAt w1 B n { c' with commit := max c.commit (min m.c last) } lv' sv ∧ Keeps (n :: ownB lv) w w1 ∧ ∀ b ∈ ownB lv', b ∈ ownB lv ∨ w.heap.size ≤ b)
    (hp : MsgsPost (answerD { c' with commit := max c.commit (min m.c last) } m true last) w1 e w2) : CallPost B n lv ({ c' with commit := max c.commit (min m.c last) }, answerD c m true last) w e w2 := by
  obtain ⟨lv', h1, h2, h3⟩ := hg
  rw [answerD_same (c := c) (c' := { c' with commit := max c.commit (min m.c last) }) hs.id hs.term] at hp
  exact CallPost.tellsOf h1 h2 h3 hp

/-- What append leaves behind entries that fit. -/
def appEnd (c : CoreD) (m : MsgD) (A : Int) (l : List Ent) : CoreD × List MsgD :=
  match putsD c A l with
  | none => (c, [])
  | some c' => ({ c' with commit := max c.commit (min m.c (A + l.length)) }, answerD c m true (A + l.length))
theorem appEnd_none {c : CoreD} {m : MsgD} {A : Int} {l : List Ent} (h : putsD c A l = none) : appEnd c m A l = (c, []) := by unfold appEnd; rw [h]
theorem appEnd_some {c c' : CoreD} {m : MsgD} {A : Int} {l : List Ent} (h : putsD c A l = some c') : appEnd c m A l = ({ c' with commit := max c.commit (min m.c (A + l.length)) }, answerD c m true (A + l.length)) := by unfold appEnd; rw [h]

/-- An element of a list of entries, wherever it may be read. -/
theorem list_elem {w : World} {P : Nat → Prop} {xa : Option Addr} {m xc : Nat} {l : List Ent} (hl : ListAt entL w P (.slice xa m xc) l) (hm : l.length = m) {i : Nat} {e : Ent} (he : l[i]? = some e) :
    ∃ g off va vc, xa = some ⟨g, off, none⟩ ∧ (m ≤ xc ∧ xc ≤ maxLen) ∧ ∀ F wx, Keeps F w wx → (∀ b, P b → b ∉ F) → wx.cell? ⟨g, off + i * 3, none⟩ = some (.int .i64 e.term) ∧ wx.cell? ⟨g, off + i * 3 + 1, none⟩ = some (.bool e.cmd) ∧ wx.cell? ⟨g, off + i * 3 + 2, none⟩ = some (.slice va e.data.length vc) ∧ Reads wx 1 (.slice va e.data.length vc) e.data.length (u8s e.data) := by
  subst hm
  obtain ⟨g, off, cg, ha, hcg, hcm, hgl, hgP⟩ := hl.addr (fun hn => by rw [hn] at he; simp at he)
  simp at ha
  obtain ⟨ha, hcc⟩ := ha
  subst ha
  subst hcc
  obtain ⟨cs, ⟨v, rfl, hbv⟩, hcs⟩ := hl.get he
  obtain ⟨va, vc, rfl⟩ := hbv.form
  refine ⟨g, off, va, vc, rfl, ⟨hcg, hcm⟩, fun F wx k hF => ?_⟩
  have hg : g ∉ F := hF g hgP
  exact ⟨k.cellSome (hcs 0 _ rfl) hg, k.cellSome (hcs 1 _ rfl) hg, k.cellSome (hcs 2 _ rfl) hg, (hbv.keep k hF).1⟩

theorem list_elems {w : World} {P : Nat → Prop} {xa : Option Addr} {m xc : Nat} {l : List Ent} (hl : ListAt entL w P (.slice xa m xc) l) (hm : l.length = m) (h0 : 0 < m) :
    ∃ g off, xa = some ⟨g, off, none⟩ ∧ (m ≤ xc ∧ xc ≤ maxLen) ∧ ∀ (i : Nat) (e : Ent), l[i]? = some e → ∃ va vc, ∀ F wx, Keeps F w wx → (∀ b, P b → b ∉ F) → wx.cell? ⟨g, off + i * 3, none⟩ = some (.int .i64 e.term) ∧ wx.cell? ⟨g, off + i * 3 + 1, none⟩ = some (.bool e.cmd) ∧ wx.cell? ⟨g, off + i * 3 + 2, none⟩ = some (.slice va e.data.length vc) ∧ Reads wx 1 (.slice va e.data.length vc) e.data.length (u8s e.data) := by
  obtain ⟨e0, he0⟩ : ∃ e, l[0]? = some e := ⟨l[0]'(by omega), List.getElem?_eq_getElem _⟩
  obtain ⟨g, off, _, _, hxa, hc, _⟩ := list_elem hl hm he0
  refine ⟨g, off, hxa, hc, fun i e he => ?_⟩
  obtain ⟨g2, off2, va, vc, hxa2, _, h⟩ := list_elem hl hm he
  rw [hxa] at hxa2
  cases hxa2
  exact ⟨va, vc, h⟩
theorem list_take {α : Type} {L : Lay α} {w : World} {P : Nat → Prop} {a : Option Addr} {n c : Nat} {l : List α} (h : ListAt L w P (.slice a n c) l) (hn : l.length = n) {d : Nat} (hd : d ≤ n) : ListAt L w P (.slice a d d) (l.take d) := by
  subst hn
  rcases Nat.eq_zero_or_pos d with rfl | h0
  · exact ListAt.nil _ _ _ _
  · obtain ⟨g, off, cg, ha, hcg, hcm, _⟩ := h.addr (fun hn => by rw [hn] at hd; simp at hd; omega)
    simp at ha
    obtain ⟨ha, hcc⟩ := ha
    subst ha
    subst hcc
    have h5 := h.piece 0 d d (some ⟨g, off, none⟩) (by omega) (Nat.le_refl _) (by omega) (fun _ => by simp)
    simpa using h5
theorem CoreCut.k {w w' : World} {B n : Nat} {c : CoreD} {lv sv : Value} (h : CoreCut w B n c lv sv) (k : Keeps [] w w') : CoreCut w' B n c lv sv :=
  { blk := h.blk.keep k (by simp), list := h.list.k k, full := h.full, snap := h.snap.k k, base := h.base, old := fun b hb => Nat.lt_of_lt_of_le (h.old b hb) k.size, free := h.free, ok := h.ok }
/-- The log is cut. -/
theorem CoreAt.cut {w w' : World} {B n : Nat} {c : CoreD} {lv sv : Value} {la : Option Addr} {lq d : Nat} (h : CoreAt w B n c lv sv) (hv : lv = .slice la c.l.length lq) (hd : d ≤ c.l.length) (hc : c.commit ≤ c.base + d) (k : Keeps [] w w') :
    CoreCut (w'.setCell ⟨n, 17, none⟩ (.slice la d d)) B n { c with l := c.l.take d } (.slice la d d) sv ∧ Keeps [n] w (w'.setCell ⟨n, 17, none⟩ (.slice la d d)) := by
  have hl : ListAt entL w (fun b => b ≠ n ∧ ¬ c.ban b) (.slice la c.l.length lq) c.l := by
    rw [← hv]
    exact h.own.list (fun b _ hb => ⟨hb.1.1, hb.2⟩) (fun b hb => ⟨fun e => h.apart (by rw [← e]; exact hb), h.free.2 b hb⟩)
  have kb : Keeps [n] w' (w'.setCell ⟨n, 17, none⟩ (.slice la d d)) := (Keeps.refl _ _).setCell (.inl (by simp)) _
  have kab : Keeps [n] w (w'.setCell ⟨n, 17, none⟩ (.slice la d d)) := (k.mono (G := [n]) (fun _ _ h => by cases h)).trans kb (fun _ _ h => h)
  have e : (c.l.take d).length = d := by simp; omega
  refine ⟨{ blk := (h.blk.keep k (by simp)).set 17 _ rfl, list := (list_take hl rfl hd).keep kab (fun b hb hb' => by simp at hb'; exact hb.1 hb'), full := ⟨la, by show _ = Value.slice la (c.l.take d).length (c.l.take d).length; rw [e]⟩, snap := (h.snap.mono (P' := fun b => b ≠ n ∧ ¬ c.ban b) (fun b _ hb => ⟨hb.1.1, hb.2⟩)).keep kab (fun b hb hb' => by simp at hb'; exact hb.1 hb'), base := h.base, old := fun b hb => Nat.lt_of_lt_of_le (h.old b hb) kab.size, free := h.free.1, ok := cut_ok h.ok hd hc }, kab⟩

end Go.Proofs.Ytpppoajnbhipeaa

/- The document's core: taken. -/
namespace Go.Proofs.Ytpppoajnbhipeaa
open Go Go.RowKit

theorem rmsgs_one {w w1 : World} {P : Nat → Prop} {m : MsgD} {ev dv : Value} (k : Keeps [] w w1) (he : ListAt entL w1 (Gr P w w1) ev m.entries) (hd : BytesAt w1 (Gr P w w1) dv m.data) (hP : ∀ b, P b → b < w.heap.size) :
    RMsgsPost [m] P w (.returned (.slice (some ⟨w1.heap.size, 0, none⟩) 1 1)) (w1.alloc (.cells #[.int .i64 m.kind, .int .i64 m.frm, .int .i64 m.to, .int .i64 m.term, .int .i64 m.a, .int .i64 m.b, .int .i64 m.c, .bool m.ok, ev, dv] 40)) := by
  have k1 : Keeps [] w1 (w1.alloc (.cells #[.int .i64 m.kind, .int .i64 m.frm, .int .i64 m.to, .int .i64 m.term, .int .i64 m.a, .int .i64 m.b, .int .i64 m.c, .bool m.ok, ev, dv] 40)) := (Keeps.refl _ _).alloc _
  have e1 := he.k k1
  have d1 := hd.k k1
  have hb : ∀ b, b ∈ ownB (.slice (some ⟨w1.heap.size, 0, none⟩) 1 1) → b = w1.heap.size := fun b hb => by simpa [mem_ownB, Value.ownBlock, eq_comm] using hb
  have hG : ∀ b, Gr P w w1 b → (P b ∨ w.heap.size ≤ b) ∧ b ∉ ownB (.slice (some ⟨w1.heap.size, 0, none⟩) 1 1) := fun b h => by
    refine ⟨?_, fun h2 => ?_⟩
    · rcases h with h | h
      · exact .inl h
      · exact .inr h.1
    · have h3 := hb b h2
      have := Gr.lt hP k.size b h
      omega
  refine ⟨_, _, rfl, ⟨[[.int .i64 m.kind, .int .i64 m.frm, .int .i64 m.to, .int .i64 m.term, .int .i64 m.a, .int .i64 m.b, .int .i64 m.c, .bool m.ok, ev, dv]], ElemsAt.one1 ⟨ev, dv, rfl, e1.mono (fun b _ h => hG b h), d1.mono (fun b _ h => hG b h)⟩, ?_⟩, k.trans k1 (fun _ _ h => h)⟩
  exact World.ownsRow_lit (size := 10) w1 _ 1 k.size (le_maxLen (by omega)) rfl

set_option maxRecDepth 100000 in
set_option maxHeartbeats 3200000 in
theorem rtaken_no (w : World) (B n : Nat) (c : CoreD) (P : Nat → Prop) (lv sv : Value) (m : MsgD) (ea da : Option Addr) (ec dc : Nat) (h : RefAt w B n c P lv sv) (hn : m.term ≠ c.term ∨ c.role ≠ 2 ∨ (m.ok = true ∧ lastD c < m.a)) :
    Calls Try.prog 86 #[.pointer (some ⟨n, 0, none⟩), msgV m (.slice ea m.entries.length ec) (.slice da m.data.length dc)] w (RCallPost B n P (appendedD c m) w) := by
  rw [appendedD_no hn]
  have h10 : w.cell? ⟨n, 10, none⟩ = some (.int .i64 c.term) := h.blk.cell 10
  have h12 : w.cell? ⟨n, 12, none⟩ = some (.int .i64 c.role) := h.blk.cell 12
  have hlt := h.blk.lt
  have H := hid h
  have HE : Hid (∀ w', Keeps [] w w' → RCallPost B n P (c, []) w (.returned (.slice none 0 0)) w') := fun w' k => RCallPost.silent rfl ((h.k k).toGr hlt) (k.mono (fun _ _ h => by cases h))
  have hcs : (c.role != 2) = true ∨ ((c.role != 2) = false ∧ (m.term != c.term) = true) ∨ ((c.role != 2) = false ∧ (m.term != c.term) = false ∧ m.ok = true ∧ decide (lastD c < m.a) = true) := by
    by_cases e2 : c.role = 2
    · by_cases e1 : m.term = c.term
      · rcases hn with h | h | h
        · exact absurd e1 h
        · exact absurd e2 h
        · exact .inr (.inr ⟨by simpa using e2, by simpa using e1, h.1, by simpa using h.2⟩)
      · exact .inr (.inl ⟨by simpa using e2, by simpa using e1⟩)
    · exact .inl (by simpa using e2)
  clear h hn
  unfold msgV
  rcases hcs with hb1 | ⟨hb1, hb2⟩ | ⟨hb1, hb2, hb3, hb4⟩
  · go_enter Try.func86, Try.ntmps86
    go_wp2_with fail
    go_quiet (fail)
    go_wp2_with fail
    go_ret
    exact HE.out _ (by exact Keeps.K)
  · go_enter Try.func86, Try.ntmps86
    go_wp2_with fail
    go_quiet (fail)
    go_wp2_with fail
    go_ret
    exact HE.out _ (by exact Keeps.K)
  · go_enter Try.func86, Try.ntmps86
    go_wp2_with fail
    go_quiet (fail)
    go_wp2_with fail
    refine Plan.wp_region_plan (fun wx => wx.cell? ⟨w.heap.size, 4, none⟩ = some (.int .i64 m.a)) 4 [(true, 0), (true, 1), (true, 2), (false, 3)] (by kernel_rfl) (by as_aux_lemma => kernel_rfl) (by kernel_rfl) (fun _ _ _ _ _ h => h) ?_ (fun hS => ?_)
    (· go_simp)
    simp only [Plan.pick, List.append_eq, List.cons_append, List.nil_append, Plan.g1, Plan.g2, Option.getD_some, List.drop_succ_cons, List.drop_zero]
    iterate 3 (first | refine Plan.tA ?_ | refine Plan.tY ?_ | refine Plan.pN ?_ | refine Plan.pU ?_ | fail)
    refine Plan.step ?_
    go_wp2_with fail
    refine (rLast_any _ B n c P lv sv (H.out.k (by exact Keeps.K))).mono ?_
    rintro e w' ⟨rfl, k3, rfl⟩
    go_wp2_with fail
    refine ⟨?_, ?_⟩
    (· go_simp)
    refine Plan.fin ?_
    go_wp2_with fail
    go_ret
    exact HE.out _ (by exact Keeps.K)

set_option maxRecDepth 100000 in
set_option maxHeartbeats 3200000 in
theorem rtaken_send (w : World) (B n : Nat) (c : CoreD) (P : Nat → Prop) (lv sv : Value) (m : MsgD) (ea da : Option Addr) (ec dc : Nat) (h : RefAt w B n c P lv sv) (hP : ∀ b, P b → b < w.heap.size) (g1 : m.term = c.term) (g2 : c.role = 2) (g3 : m.ok = false) (hf : 1 ≤ m.frm ∧ m.frm ≤ 7) (ha : 0 ≤ m.a ∧ m.a ≤ 1099511627776) :
    Calls Try.prog 86 #[.pointer (some ⟨n, 0, none⟩), msgV m (.slice ea m.entries.length ec) (.slice da m.data.length dc)] w (RCallPost B n P (appendedD c m) w) := by
  have h10 : w.cell? ⟨n, 10, none⟩ = some (.int .i64 c.term) := h.blk.cell 10
  have h12 : w.cell? ⟨n, 12, none⟩ = some (.int .i64 c.role) := h.blk.cell 12
  have f8n : m.frm.toNat < 8 := by omega
  have h29 := rnext_cell h.blk h.ok.votes h.ok.next m.frm.toNat f8n
  have h37 := rmatc_cell h.blk h.ok.votes h.ok.next h.ok.matc m.frm.toNat f8n
  have hfz : w.frozen? ⟨n, 29 + m.frm.toNat, none⟩ = false := h.blk.free _
  have hnx : 0 ≤ c.next.getD m.frm.toNat 0 ∧ c.next.getD m.frm.toNat 0 ≤ 2199023255553 := getD_bd (p := fun x => 0 ≤ x ∧ x ≤ 2199023255553) h.ok.nexts (by omega)
  have hmt : 0 ≤ c.matc.getD m.frm.toNat 0 ∧ c.matc.getD m.frm.toNat 0 ≤ 2199023255552 := getD_bd (p := fun x => 0 ≤ x ∧ x ≤ 2199023255552) h.ok.matcs (by omega)
  have hlt := h.blk.lt
  have HPB := hid hP
  have HR : Hid (appendedD c m = (appNo c m, [sendD (appNo c m) m.frm])) := by
    show _ = _
    unfold appendedD
    rw [if_neg (by rw [g1, g2, g3]; simp), if_pos g3]
  have HNO : Hid (appNo c m = { c with next := c.next.set m.frm.toNat (max (c.matc.getD m.frm.toNat 0 + 1) (nextV (c.next.getD m.frm.toNat 0) m.a)) }) := rfl
  obtain ⟨nx, hnxe⟩ : ∃ x, c.next.getD m.frm.toNat 0 = x := ⟨_, rfl⟩
  obtain ⟨mt, hmte⟩ : ∃ x, c.matc.getD m.frm.toNat 0 = x := ⟨_, rfl⟩
  rw [hnxe] at h29 hnx HNO
  rw [hmte] at h37 hmt HNO
  have hnv : nextV nx m.a = min (nx - 1) (m.a + 1) := by unfold nextV; split <;> omega
  rw [hnv] at HNO
  obtain ⟨V, hV⟩ : ∃ V, max (mt + 1) (min (nx - 1) (m.a + 1)) = V := ⟨_, rfl⟩
  rw [hV] at HNO
  have HV := hid hV
  have HOK : Hid (CoreOk { c with next := c.next.set m.frm.toNat V }) := nextT_ok h.ok (by simp [h.ok.next]) (mem_set_bd (p := fun x => 0 ≤ x ∧ x ≤ 2199023255553) h.ok.nexts (by omega))
  have H := hid h
  have hb1 : (m.term != c.term) = false := by simpa using g1
  have hb2 : (c.role != 2) = false := by simpa using g2
  have HY : Hid (∀ wx, Keeps [] w wx → ∀ v, v = V → RefAt (wx.setCell ⟨n, 29 + m.frm.toNat, none⟩ (.int .i64 v)) B n (appNo c m) (Gr P w (wx.setCell ⟨n, 29 + m.frm.toNat, none⟩ (.int .i64 v))) lv sv ∧ Keeps [n] w (wx.setCell ⟨n, 29 + m.frm.toNat, none⟩ (.int .i64 v))) := fun wx k0 v hv => by
    subst hv
    rw [HNO.out]
    have r0 := h.k k0
    have k1 : Keeps [n] wx (wx.setCell ⟨n, 29 + m.frm.toNat, none⟩ (.int .i64 v)) := (Keeps.refl _ _).setCell (.inl (by simp)) _
    exact ⟨(r0.wrote k1 (r0.blk.next r0.ok.votes r0.ok.next _ f8n v) rfl rfl HOK.out).toGr hlt, (k0.mono (G := [n]) (fun _ _ h => by cases h)).trans k1 (fun _ _ h => h)⟩
  obtain ⟨f1, f7⟩ := hf
  have f0 : 0 ≤ m.frm := by omega
  have f8 : m.frm < 8 := by omega
  obtain ⟨a0, a1⟩ := ha
  obtain ⟨x0, x1⟩ := hnx
  obtain ⟨z0, z1⟩ := hmt
  have wr1 : IntKind.i64.wrap (nx - 1) = nx - 1 := IntWalk.i64_in _ (by omega)
  have wr3 : IntKind.i64.wrap (m.a + 1) = m.a + 1 := IntWalk.i64_in _ (by omega)
  have wr4 : IntKind.i64.wrap (mt + 1) = mt + 1 := IntWalk.i64_in _ (by omega)
  unfold msgV
  rw [g3]
  clear h g1 g2 g3 hnxe hmte hnv hP hV
  go_enter Try.func86, Try.ntmps86
  go_wp2_with fail
  go_quiet (fail)
  go_wp2_with fail
  refine Plan.wp_region_plan (fun wx => wx.cell? ⟨w.heap.size, 4, none⟩ = some (.int .i64 m.a) ∧ wx.cell? ⟨n, 29 + m.frm.toNat, none⟩ = some (.int .i64 nx) ∧ wx.cell? ⟨n, 37 + m.frm.toNat, none⟩ = some (.int .i64 mt)) 23 [(true, 0), (true, 1), (true, 2), (true, 3), (true, 4), (true, 5), (true, 6), (true, 7), (true, 8), (true, 9), (true, 10), (true, 11), (true, 12), (true, 13), (true, 14), (true, 15), (true, 16), (true, 17), (true, 18), (true, 19), (true, 20), (true, 21), (true, 22)] (by kernel_rfl) (by as_aux_lemma => kernel_rfl) (by kernel_rfl) (fun _ _ _ _ _ h => h) ?_ (fun hS => ?_)
  (· go_simp)
  simp only [Plan.pick, List.append_eq, List.cons_append, List.nil_append, Plan.g1, Plan.g2, Option.getD_some, List.drop_succ_cons, List.drop_zero]
  iterate 23 (first | refine Plan.tA ?_ | refine Plan.tY ?_ | refine Plan.pN ?_ | refine Plan.pU ?_ | fail)
  refine Plan.fin ?_
  go_wp2_with fail
  all_goals
    refine (rsend_any _ B n (appNo c m) _ lv sv m.frm (HY.out _ (by exact Keeps.K) _ ?_).1 (Gr.lt HPB.out (by simp)) (by omega)).mono ?_
    (· have := HV.out; omega)
    rintro e w5 ⟨ea5, ec5, da5, dc5, rfl, he5, hd5, hk5⟩
    have HP : Hid (RCallPost B n P (appendedD c m) w (.returned (.slice (some ⟨w5.heap.size, 0, none⟩) 1 1)) (w5.alloc (.cells #[.int .i64 (sendD (appNo c m) m.frm).kind, .int .i64 (sendD (appNo c m) m.frm).frm, .int .i64 (sendD (appNo c m) m.frm).to, .int .i64 (sendD (appNo c m) m.frm).term, .int .i64 (sendD (appNo c m) m.frm).a, .int .i64 (sendD (appNo c m) m.frm).b, .int .i64 (sendD (appNo c m) m.frm).c, .bool (sendD (appNo c m) m.frm).ok, .slice ea5 (sendD (appNo c m) m.frm).entries.length ec5, .slice da5 (sendD (appNo c m) m.frm).data.length dc5] 40))) := by
      show RCallPost _ _ _ _ _ _ _
      rw [HR.out]
      have hv := HV.out
      exact RCallPost.tells (r := (appNo c m, [(sendD (appNo c m) m.frm)])) (HY.out _ (by exact Keeps.K) _ (by omega)).1 hlt (HY.out _ (by exact Keeps.K) _ (by omega)).2 (rmsgs_one hk5 he5 hd5 (Gr.lt HPB.out (by simp)))
    clear he5 hd5 hk5
    unfold msgV
    go_wp2_with fail
    go_ret
    exact HP.out

end Go.Proofs.Ytpppoajnbhipeaa
