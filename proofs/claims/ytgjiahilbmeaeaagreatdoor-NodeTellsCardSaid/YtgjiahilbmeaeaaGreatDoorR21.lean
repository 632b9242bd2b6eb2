/- Joined of PpD, PpE. -/
import Derived.Test.YtgjiahilbmeaeaaGreatDoorR20
set_option maxRecDepth 100000
set_option maxHeartbeats 8000000
set_option linter.unusedSimpArgs false
set_option linter.unusedVariables false
/- A paper over a form: all formulas worked. -/
namespace Go.Proofs.YtgjiahilbmeaeaaGreatDoor
open Go Go.RowKit
def workQ (fs : List SfdD) (names : List ByteArray) : List Nat → List ValD → Option (List ValD)
 | [], vals => some vals
 | i :: r, vals => match fs[i]? with
   | none => none
   | some x => match x.formula with
     | none => none
     | some e => if exprOk e = true then (match evalQ e names vals with
       | none => none
       | some v => workQ fs names r (vals.set i v)) else none
theorem ValsAt.list {w : World} {g n : Nat} {l : List ValD} (h : ValsAt w g l) (hn : l.length = n) (h1 : 1 ≤ n) (h2 : n ≤ 1000) : ListAt valL w (fun _ => True) (.slice (some ⟨g, 0, none⟩) n n) l := by
 subst hn
 have hr := Reads.ofBlock (n := l.length) (size := 3) h (by rw [List.size_toArray, vals_len]) (le_maxLen (by omega))
 exact ⟨l.map valC, elems_vals w _ l, by simpa [valL] using hr, fun _ _ _ => trivial⟩
theorem ValsAt.k {w w' : World} {g : Nat} {l : List ValD} (h : ValsAt w g l) (k : Keeps [] w w') : ValsAt w' g l := (k.block g (Array.getElem?_eq_some_iff.1 h).1 (by simp)).trans h
theorem set3 {css : List (List Value)} {i : Nat} {a b c : Value} (h : ∀ x ∈ css, x.length = 3) (hi : i < css.length) : ((css.flatten.set (i * 3) a).set (i * 3 + 1) b).set (i * 3 + 2) c = (css.set i [a, b, c]).flatten := by
 have h3 : ∀ (ds : List (List Value)) (x : List Value), (∀ y ∈ ds, y.length = 3) → x.length = 3 → ∀ y ∈ ds.set i x, y.length = 3 := fun ds x hd hx y hy => by
  rcases List.mem_or_eq_of_mem_set hy with h | h
  ·exact hd y h
  ·rw [h]; exact hx
 obtain ⟨y, hy⟩ : ∃ y, css[i]? = some y := ⟨_, List.getElem?_eq_getElem hi⟩
 have hyl := h y (List.mem_of_getElem? hy)
 have e0 := flatten_set i 0 a h (by decide) hi
 rw [Nat.add_zero, List.getD_eq_getElem?_getD, hy, Option.getD_some] at e0
 rw [e0]
 have e1 := flatten_set (css := css.set i (y.set 0 a)) i 1 b (h3 css _ h (by simp [hyl])) (by decide) (by simpa using hi)
 rw [List.getD_eq_getElem?_getD, List.getElem?_set_self hi, Option.getD_some, List.set_set] at e1
 rw [e1]
 have e2 := flatten_set (css := css.set i ((y.set 0 a).set 1 b)) i 2 c (h3 css _ h (by simp [hyl])) (by decide) (by simpa using hi)
 rw [List.getD_eq_getElem?_getD, List.getElem?_set_self hi, Option.getD_some, List.set_set] at e2
 rw [e2]
 match y, hyl with
 | [_, _, _], _ => rfl
theorem ValsAt.set {w : World} {g i : Nat} {l : List ValD} (h : ValsAt w g l) (hi : i < l.length) (v : ValD) : ValsAt (((w.setCell ⟨g, i * 3, none⟩ (.int .i64 v.kind)).setCell ⟨g, i * 3 + 1, none⟩ (.int .i64 v.n)).setCell ⟨g, i * 3 + 2, none⟩ (.string v.s)) g (l.set i v) := by
 have h5 := heap_setCell_same _ g (i * 3 + 2) _ _ (.string v.s) (heap_setCell_same _ g (i * 3 + 1) _ _ (.int .i64 v.n) (heap_setCell_same _ g (i * 3) _ _ (.int .i64 v.kind) h))
 unfold ValsAt
 rw [h5]
 have e := set3 (css := l.map valC) (i := i) (a := .int .i64 v.kind) (b := .int .i64 v.n) (c := .string v.s) (fun x hx => by obtain ⟨v, _, rfl⟩ := List.mem_map.1 hx; rfl) (by simpa using hi)
 have e2 : (l.map valC).set i [.int .i64 v.kind, .int .i64 v.n, .string v.s] = (l.set i v).map valC := by
  rw [List.map_set]
  rfl
 rw [e2] at e
 simp only [List.setIfInBounds_toArray, e]
theorem ValsAt.cell {w : World} {g i : Nat} {l : List ValD} (h : ValsAt w g l) (hi : i < l.length) : (∀ k, k < 3 → ∃ u, w.cell? ⟨g, i * 3 + k, none⟩ = some u) ∧ ∀ k, w.frozen? ⟨g, k, none⟩ = false := by
 refine ⟨fun k hk => ?_, fun k => frozen_of_row w g k _ _ h⟩
 rw [cell_of_row w g _ _ _ (0, 0) h]
 have hlt : i * 3 + k < ((l.map valC).flatten).length := by rw [vals_len]; omega
 exact ⟨_, by rw [List.getElem?_toArray]; exact List.getElem?_eq_getElem hlt⟩
theorem ppValues_ok (w : World) (F : Nat → Prop) (sb : Nat) (d : SchD) (a b : Option Addr) (c n m q : Nat) (vals fin : List ValD) (hT : Tabs w) (hE : Errs w) (h : ScAt w F sb d) (hn : d.l.length = n) (hn2 : vals.length = n) (hl : ListAt valL w (fun _ => True) (.slice a n c) vals) (hv : ∀ v ∈ vals, checkD v = true ∧ v.s.size ≤ 1000000) (h1 : 1 ≤ n) (h1000 : n ≤ 1000) (ho : d.order.length ≤ 1000)
 (hq : workQ d.l (d.l.map fun x => str x.f.name) d.order vals = some fin) :
 Calls Tryz.prog 129 #[ptrV sb, .agg #[.slice a n c, .slice b m q, .bool false]] w fun y w' => ∃ g, y = .returned (.slice (some ⟨g, 0, none⟩) n n) ∧ w.heap.size ≤ g ∧ ValsAt w' g fin ∧ Keeps [] w w' := by
 have HFU := hid (fun wx (k : Keeps [] w wx) => ppFull_ok wx F sb d _ a c n vals (h.k k) hn hn2 (hl.k k) h1 h1000)
 have HO := hid (fun wx (k : Keeps [] w wx) => scOrder_ok wx F sb d (h.k k) ho)
 have HW := hid (fun wx (k : Keeps [] w wx) i x e vk v g (hx : d.l[i]? = some x) (he : x.formula = some e) (hok : exprOk e = true) (hk : vk.length = n) (hg : ValsAt wx g vk) (hvk : ∀ v ∈ vk, checkD v = true ∧ v.s.size ≤ 1000000) (hq : evalQ e (d.l.map fun x => str x.f.name) vk = some v) => ppWork_ok wx F sb i d x e (some ⟨g, 0, none⟩) n n vk v (hT.k k) (hE.k k) (h.k k) hx he hok hn hk (hg.list hk h1 h1000) hvk h1000 hq)
 have HQ := hid (And.intro hq (And.intro hn2 hv))
 have HN := hid hn
 clear h hn hn2 hl hv hq hT hE
 unfold ptrV at HFU HO HW ⊢
 go_enter Tryz.func129, Tryz.ntmps129
 go_wp2_with fail
 have k0 : Keeps [] w (w.alloc (.cells #[.slice a n c, .slice b m q, .bool false] 127)) := by exact Keeps.K
 refine (HFU.out _ k0).mono ?_
 rintro _ w1 ⟨g, rfl, hg1, hv1, hk1⟩
 have K1 := hid (k0.trans hk1 (fun _ _ h => h))
 have HV1 := hid hv1
 have HG : Hid (w.heap.size ≤ g) := Nat.le_trans k0.size hg1
 clear k0 hk1 hv1 hg1
 go_wp2_with fail
 refine (HO.out _ K1.out).mono ?_
 rintro _ w2 ⟨ao, qo, rfl, ho2, hk2⟩
 have K2 := hid (K1.out.trans hk2 (fun _ _ h => h))
 have HV2 := hid (HV1.out.k hk2)
 have HO2 := hid ho2
 have HGO : Hid (g ∉ ownB (.slice ao d.order.length qo)) := fun hm => by
  have h1 := (ownB_ge ho2 g hm).1
  have h2 := (Array.getElem?_eq_some_iff.1 HV1.out).1
  omega
 obtain ⟨od, hod⟩ : ∃ od, d.order = od := ⟨_, rfl⟩
 rw [hod] at HQ HO2 HGO ho ⊢
 have o0 : (0 : Int) ≤ (od.length : Int) := Int.natCast_nonneg _
 clear hk2 ho2 hod HO HFU
 go_wp2_with fail
 go_loopw [15] (fun kv wr => ∃ k : Nat, kv = .int .i64 (k : Int) ∧ k ≤ od.length ∧ Hid (∃ vk, workQ d.l (d.l.map fun x => str x.f.name) (od.drop k) vk = some fin ∧ vk.length = n ∧ (∀ v ∈ vk, checkD v = true ∧ v.s.size ≤ 1000000) ∧ ValsAt wr g vk ∧ Keeps [g] w2 wr ∧ Keeps [] w wr)) (fun kv _ => od.length - (intOf kv).toNat)
 case atStart => exact ⟨0, rfl, Nat.zero_le _, vals, HQ.out.1, HQ.out.2.1, HQ.out.2.2, HV2.out.k (by exact Keeps.K), by exact Keeps.K, K2.out.trans (G := []) (by exact Keeps.K) (fun _ _ h => h)⟩
 case round =>
  obtain ⟨k, rfl, hk, hU⟩ := hrel
  obtain ⟨vk, hU⟩ := hU.out
  have HU := hid hU
  clear hU
  have j0 : (0 : Int) ≤ (k : Int) := Int.natCast_nonneg _
  by_cases hlt : k < od.length
  ·have j1 : (k : Int) < (od.length : Int) := by omega
   obtain ⟨i, hi⟩ : ∃ i, od[k]? = some i := ⟨_, List.getElem?_eq_getElem hlt⟩
   have hdr : od.drop k = i :: od.drop (k + 1) := by
    rw [List.drop_eq_getElem_cons hlt]
    congr 1
    rw [List.getElem?_eq_getElem hlt] at hi
    simpa using hi
   have hwq := HU.out.1
   rw [hdr, workQ] at hwq
   cases hx : d.l[i]? with
   | none => rw [hx] at hwq; cases hwq
   | some x =>
     simp only [hx] at hwq
     cases he : x.formula with
     | none => rw [he] at hwq; cases hwq
     | some e =>
       simp only [he] at hwq
       split at hwq
       ·rename_i hok
        cases hev : evalQ e (d.l.map fun x => str x.f.name) vk with
        | none => rw [hev] at hwq; cases hwq
        | some v =>
          simp only [hev] at hwq
          have hin : i < n := by rw [← HN.out]; exact (List.getElem?_eq_some_iff.1 hx).1
          have HIN := hid hin
          have i0 : (0 : Int) ≤ (i : Int) := Int.natCast_nonneg _
          have i1 : (i : Int) < (n : Int) := by omega
          have HWQ := hid hwq
          have hvok := evalQ_ok _ vk HU.out.2.2.1 e v hev
          have HVK := hid hvok
          have HC := hid (HW.out wr HU.out.2.2.2.2.2 i x e vk v g hx he hok HU.out.2.1 HU.out.2.2.2.1 HU.out.2.2.1 hev)
          obtain ⟨g8, rfl⟩ : ∃ g8, ao = some ⟨g8, 0, none⟩ := by
           obtain ⟨_, ⟨e1, e2⟩ | ⟨g8, cap, cur, e1, _⟩⟩ := HO2.out
           ·omega
           ·simp only [Value.slice.injEq] at e1
            exact ⟨g8, e1.1⟩
          have c8 : wr.cell? ⟨g8, k, none⟩ = some (.int .i64 (i : Int)) := HU.out.2.2.2.2.1.cellSome (natrow_cell HO2.out hi) (fun hm => HGO.out (by simp at hm; rw [← hm]; simp [mem_ownB, Value.ownBlock]))
          have HLT := hid hlt
          clear hx he hok hev hwq hvok hi hdr hlt hin
          go_wp2_with fail
          refine HC.out.mono ?_
          rintro _ w5 ⟨rfl, hk5⟩
          have hv5 := HU.out.2.2.2.1.k hk5
          obtain ⟨hcell, hfz⟩ := hv5.cell (i := i) (by rw [HU.out.2.1]; exact HIN.out)
          obtain ⟨q0, p0⟩ := hcell 0 (by decide)
          obtain ⟨q1, p1⟩ := hcell 1 (by decide)
          obtain ⟨q2, p2⟩ := hcell 2 (by decide)
          have p0 : w5.cell? ⟨g, i * 3, none⟩ = some q0 := p0
          have f0 := hfz (i * 3)
          have f1 := hfz (i * 3 + 1)
          have f2 := hfz (i * 3 + 2)
          have HSET := hid (hv5.set (i := i) (by rw [HU.out.2.1]; exact HIN.out) v)
          have K5 := hid hk5
          unfold valV
          clear hv5 hcell hfz hk5
          go_wp2_with fail
          have kS : Keeps [g] w5 (((w5.setCell ⟨g, i * 3, none⟩ (.int .i64 v.kind)).setCell ⟨g, i * 3 + 1, none⟩ (.int .i64 v.n)).setCell ⟨g, i * 3 + 2, none⟩ (.string v.s)) := (((Keeps.refl _ _).setCell (.inl (by simp)) _).setCell (.inl (by simp)) _).setCell (.inl (by simp)) _
          have hlt := HLT.out
          refine ⟨⟨k + 1, rfl, by omega, vk.set i v, HWQ.out, by simp [HU.out.2.1], fun u hu => ?_, HSET.out, (HU.out.2.2.2.2.1.trans K5.out (fun _ _ h => by cases h)).trans kS (fun _ _ h => h), (HU.out.2.2.2.2.2.trans K5.out (fun _ _ h => h)).trans kS (fun b hb hm => by have := HG.out; simp at hm; omega)⟩, by simp [intOf]; omega⟩
          rcases List.mem_or_eq_of_mem_set hu with h | rfl
          ·exact HU.out.2.2.1 u h
          ·exact HVK.out
       ·cases hwq
  ·obtain rfl : k = od.length := by omega
   have hwq := HU.out.1
   rw [List.drop_length, workQ] at hwq
   have HF : Hid (vk = fin) := by show _ = _; simpa using hwq
   clear hwq
   go_wp2_with fail
   go_ret
   exact ⟨g, rfl, HG.out, by rw [← HF.out]; exact HU.out.2.2.2.1, HU.out.2.2.2.2.2⟩
def stateV (v x : Value) (b : Bool) : Value := .agg #[v, x, .bool b]
theorem ppOwn_ok (w : World) (P : Nat → Prop) (a b : Option Addr) (c q n m : Nat) (vals : List ValD) (vers : List Nat) (z : Bool) (hn : vals.length = n) (hm : vers.length = m) (hl : ListAt valL w P (.slice a n c) vals) (hr : Reads w 1 (.slice b m q) m (natC vers)) (h1 : n ≤ 1000) (h2 : m ≤ 1000) :
 Calls Tryz.prog 128 #[.agg #[.slice a n c, .slice b m q, .bool z]] w fun y w' => ∃ a' c' b' q', y = .returned (stateV (.slice a' n c') (.slice b' m q') z) ∧ OwnAt valL 61 w' w.heap.size P (.slice a' n c') vals ∧ w'.ownsRow w.heap.size 3 1 (.slice b' m q') m (natC vers) ∧ Keeps [] w w' := by
 have HV := hid (fun wx (k : Keeps [] w wx) => plListV_ok wx P vals _ n hn (hl.k k) (by omega))
 have HI := hid (fun wx (k : Keeps [] w wx) => plListI_ok wx vers _ m hm (hr.keeps k (fun _ _ h => by cases h)) (by omega))
 clear hn hm hl hr
 go_enter Tryz.func128, Tryz.ntmps128
 go_wp2_with fail
 obtain ⟨w0, hw0⟩ : ∃ w0, (w.alloc (.cells #[.slice a n c, .slice b m q, .bool z] 127)).alloc (.cells #[.slice none 0 0, .slice none 0 0, .bool false] 127) = w0 := ⟨_, rfl⟩
 have K0 : Hid (Keeps [] w w0) := by rw [← hw0]; show Keeps _ _ _; exact Keeps.K
 have HB0 : Hid (w0.heap[w.heap.size]? = some (.cells #[.slice a n c, .slice b m q, .bool z] 127 (0, 0))) := by rw [← hw0]; exact new2 w _ _ 0 rfl
 have HB1 : Hid (w0.heap[w.heap.size + 1]? = some (.cells #[.slice none 0 0, .slice none 0 0, .bool false] 127 (0, 0))) := by rw [← hw0]; exact new2K w _ _
 rw [hw0]
 clear hw0
 obtain ⟨⟨x0, x1, x2⟩, _⟩ := blk3 HB0.out
 refine Plan.wp_region_plan (fun wx => wx.cell? ⟨w.heap.size, 0, none⟩ = some (.slice a n c) ∧ wx.cell? ⟨w.heap.size, 1, none⟩ = some (.slice b m q)) 7 [(true, 0), (true, 1), (true, 3), (true, 4), (false, 2), (true, 6), (false, 5)] (by kernel_rfl) (by as_aux_lemma => kernel_rfl) (by kernel_rfl) (fun _ _ _ _ _ h => h) ?_ (fun hS => ?_)
 ·exact ⟨x0, x1⟩
 simp only [Plan.pick, List.append_eq, List.cons_append, List.nil_append, Plan.g1, Plan.g2, Option.getD_some, List.drop_succ_cons, List.drop_zero]
 iterate 4 (first | refine Plan.tA ?_ | refine Plan.tY ?_ | refine Plan.pN ?_ | refine Plan.pU ?_ | fail)
 refine Plan.step ?_
 go_wp2_with fail
 refine (HV.out _ (K0.out.trans (G := []) (by exact Keeps.K) (fun _ _ h => h))).mono ?_
 rintro _ w1 ⟨a1, c1, rfl, ho1, hk1⟩
 have K1 : Hid (Keeps [] w0 w1) := Keeps.trans (F := []) (G := []) (by exact Keeps.K) hk1 (fun _ _ h => h)
 have HO1 := hid ho1
 have HB0' := hid ((K1.out.block w.heap.size (Array.getElem?_eq_some_iff.1 HB0.out).1 (by simp)).trans HB0.out)
 obtain ⟨⟨y0, y1, y2⟩, _⟩ := blk3 HB0'.out
 clear ho1 hk1 x0 x1 x2
 go_wp2_with fail
 refine ⟨⟨y0, y1⟩, ?_⟩
 iterate 1 (first | refine Plan.tA ?_ | refine Plan.tY ?_ | refine Plan.pN ?_ | refine Plan.pU ?_ | fail)
 refine Plan.step ?_
 go_wp2_with fail
 refine (HI.out _ ((K0.out.trans K1.out (fun _ _ h => h)).trans (G := []) (by exact Keeps.K) (fun _ _ h => h))).mono ?_
 rintro _ w2 ⟨b2, q2, rfl, ho2, hk2⟩
 have K2 : Hid (Keeps [] w1 w2) := Keeps.trans (F := []) (G := []) (by exact Keeps.K) hk2 (fun _ _ h => h)
 have HO2 := hid ho2
 have HB2 := hid ((K2.out.block w.heap.size (Array.getElem?_eq_some_iff.1 HB0'.out).1 (by simp)).trans HB0'.out)
 have HB3 := hid (((K1.out.trans K2.out (fun _ _ h => h)).block (w.heap.size + 1) (Array.getElem?_eq_some_iff.1 HB1.out).1 (by simp)).trans HB1.out)
 obtain ⟨⟨z0, z1, z2⟩, f⟩ := blk3 HB2.out
 obtain ⟨⟨u0, u1, u2⟩, e⟩ := blk3 HB3.out
 have f0 := f 0
 have f1 := f 1
 have f2 := f 2
 have e0 := e 0
 have e1 := e 1
 have e2 := e 2
 have hne : ¬ w.heap.size = w.heap.size + 1 := by omega
 clear ho2 hk2 y0 y1 y2 f e
 go_wp2_with fail
 refine ⟨⟨z0, z1⟩, ?_⟩
 refine Plan.fin ?_
 clear hS
 go_wp2_with fail
 have kA : Keeps [w.heap.size] w2 ((w2.setCell ⟨w.heap.size, 0, none⟩ (.slice a1 n c1)).setCell ⟨w.heap.size, 1, none⟩ (.slice b2 m q2)) := ((Keeps.refl _ _).setCell (.inl (by simp)) _).setCell (.inl (by simp)) _
 have hb5 := (kA.block (w.heap.size + 1) (Array.getElem?_eq_some_iff.1 HB3.out).1 (by simp)).trans HB3.out
 obtain ⟨w5, hw5⟩ : ∃ w5, (w2.setCell ⟨w.heap.size, 0, none⟩ (.slice a1 n c1)).setCell ⟨w.heap.size, 1, none⟩ (.slice b2 m q2) = w5 := ⟨_, rfl⟩
 rw [hw5] at kA hb5 ⊢
 have h5 := heap_setCell_same _ (w.heap.size + 1) 2 _ _ (.bool z) (heap_setCell_same _ (w.heap.size + 1) 1 _ _ (.slice b2 m q2) (heap_setCell_same _ (w.heap.size + 1) 0 _ _ (.slice a1 n c1) hb5))
 simp only [List.setIfInBounds_toArray, List.set_cons_zero, List.set_cons_succ] at h5
 have kS : Keeps [w.heap.size, w.heap.size + 1] w2 (((w5.setCell ⟨w.heap.size + 1, 0, none⟩ (.slice a1 n c1)).setCell ⟨w.heap.size + 1, 1, none⟩ (.slice b2 m q2)).setCell ⟨w.heap.size + 1, 2, none⟩ (.bool z)) := (((kA.mono (fun _ _ h => by simp at h; simp [h])).setCell (.inl (by simp)) _).setCell (.inl (by simp)) _).setCell (.inl (by simp)) _
 have hz0 : w.heap.size + 2 ≤ w0.heap.size := (Array.getElem?_eq_some_iff.1 HB1.out).1
 have hz1 := K1.out.size
 have hoff : ∀ b ∈ ownB (.slice a1 n c1), b ∉ [w.heap.size, w.heap.size + 1] := fun b hb hm => by
  have h9 : w0.heap.size ≤ b := (OwnAt.ge HO1.out b hb).1
  simp at hm
  omega
 refine bodyPost_ret (results_cell_row rfl _ _ (w.heap.size + 1) 127 _ (0, 0) _ rfl h5 Tryz.underlying127 rfl (by kernel_rfl)) rfl ⟨a1, c1, b2, q2, rfl, ?_, ?_, ?_⟩
 ·obtain ⟨css, he, hr⟩ := HO1.out
  refine OwnAt.base ⟨css, ?_, ownsRow_keeps (ownsRow_keeps hr K2.out (fun _ _ h => by cases h)) kS hoff⟩ (Nat.le_trans (Nat.le_trans (Nat.le_add_right _ 2) hz0) (Nat.le_refl _))
  exact ⟨he.1, fun i cs v h1 h2 => he.2 i cs v h1 h2⟩
 ·refine ownsRow_base (ownsRow_keeps HO2.out kS (fun b hb hm => ?_)) (Nat.le_trans (by omega : w.heap.size ≤ w1.heap.size) (Nat.le_refl _))
  have h9 : w1.heap.size ≤ b := (ownB_ge HO2.out b hb).1
  simp at hm
  omega
 ·exact ((K0.out.trans K1.out (fun _ _ h => h)).trans K2.out (fun _ _ h => h)).trans kS (fun b hb hm => by simp at hm; omega)
end Go.Proofs.YtgjiahilbmeaeaaGreatDoor