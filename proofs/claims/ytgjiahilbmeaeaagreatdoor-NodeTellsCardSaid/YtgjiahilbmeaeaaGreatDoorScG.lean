/- A form of fields, made. -/
import Derived.Test.YtgjiahilbmeaeaaGreatDoorScF
set_option maxRecDepth 100000
set_option maxHeartbeats 16000000
set_option linter.unusedSimpArgs false
set_option linter.unusedVariables false
namespace Go.Proofs.YtgjiahilbmeaeaaGreatDoor
open Go Go.RowKit
def isF (fs : List SfdD) (i : Nat) : Bool := match fs[i]? with
 | some x => x.formula.isSome
 | none => false
def NewEnd (w : World) (fs : List SfdD) (e : Ending) (w' : World) : Prop :=
 ∃ sb, e = .returned (.tuple #[ptrV sb, .int .i64 0, .int .i64 0]) ∧ w.heap.size ≤ sb ∧ ScAt w' (fun b => w.heap.size ≤ b) sb ⟨fs, (orderQ fs.length (fs.map (·.needs))).1.filter (isF fs)⟩ ∧ Keeps [] w w'
theorem AtMap.zero {w : World} {bm : Nat} (h : w.ownsMap Tryz.prog 9 heldR bm 0 (fmV [])) : AtMap w bm [] := ⟨[], h, fun i nm hi => by simp at hi, fun _ _ => rfl⟩
def MidG (w0 wr : World) (fs : List SfdD) (i i1 i2 : Nat) (lv nv kv : Value) (fb : Nat) (f : FldD) : Prop :=
 wr.heap[w0.heap.size + 1]? = some (.cells #[lv, .map (some w0.heap.size), .slice none 0 0] 68 (0, 0)) ∧
 wr.heap[fb]? = some (.cells #[.string (str f.name), .int .i64 f.typ, .string (str f.formula), .string (str f.rule), .string (str f.shown)] 71 (0, 0)) ∧
 wr.ownsRow (w0.heap.size + 2) 80 21 lv i (((fs.take i).map fun x => blankC x.f).flatten) ∧
 AtMap wr w0.heap.size ((fs.map (·.f.name)).take (i + 1)) ∧
 wr.ownsRow (w0.heap.size + 2) 9 1 nv i1 ((fs.take i1).map fun x => .string (str x.f.name)) ∧
 wr.ownsRow (w0.heap.size + 2) 3 1 kv i2 (i64s ((fs.take i2).map (·.f.typ))) ∧
 (∀ x ∈ ownB lv, x ∉ ownB nv ∧ x ∉ ownB kv) ∧ (∀ x ∈ ownB nv, x ∉ ownB kv) ∧ (fb ∉ ownB lv ∧ fb ∉ ownB nv ∧ fb ∉ ownB kv) ∧ Keeps [] w0 wr
theorem MidG.k {w0 w w' : World} {fs : List SfdD} {i i1 i2 : Nat} {lv nv kv : Value} {fb : Nat} {f : FldD} (h : MidG w0 w fs i i1 i2 lv nv kv fb f) (k : Keeps [] w w') : MidG w0 w' fs i i1 i2 lv nv kv fb f := by
 obtain ⟨h1, h2, h3, h4, h5, h6, h7, h8, h9, h10⟩ := h
 exact ⟨(k.block _ (Array.getElem?_eq_some_iff.1 h1).1 (by simp)).trans h1, (k.block _ (Array.getElem?_eq_some_iff.1 h2).1 (by simp)).trans h2, ownsRow_keeps h3 k (fun _ _ h => by cases h), h4.keep k (by simp), ownsRow_keeps h5 k (fun _ _ h => by cases h), ownsRow_keeps h6 k (fun _ _ h => by cases h), h7, h8, h9, h10.trans k (fun _ _ h => h)⟩
theorem MidG.names {w0 w w' : World} {fs : List SfdD} {i i2 : Nat} {lv nv nv' kv : Value} {fb : Nat} {f : FldD} {x : SfdD} (h : MidG w0 w fs i i i2 lv nv kv fb f) (hx : fs[i]? = some x) (k : Keeps (ownB nv) w w') (ho : w'.ownsRow (w0.heap.size + 2) 9 1 nv' (i + 1) (((fs.take i).map fun x => .string (str x.f.name)) ++ [.string (str x.f.name)])) (hb : ∀ b ∈ ownB nv', b ∈ ownB nv ∨ w.heap.size ≤ b) : MidG w0 w' fs i (i + 1) i2 lv nv' kv fb f := by
 obtain ⟨h1, h2, h3, h4, h5, h6, h7, h8, h9, h10⟩ := h
 have hge := fun b hb => (ownB_ge h5 b hb)
 have l2 := (Array.getElem?_eq_some_iff.1 h2).1
 refine ⟨(k.block _ (Array.getElem?_eq_some_iff.1 h1).1 (fun hm => by have := (hge _ hm).1; omega)).trans h1, (k.block _ l2 h9.2.1).trans h2, ownsRow_keeps h3 k (fun b hb hm => (h7 b hb).1 hm), h4.keep k (fun hm => by have := (hge _ hm).1; omega), ?_, ownsRow_keeps h6 k (fun b hb hm => h8 b hm hb), fun b hbl => ⟨fun hm => ?_, (h7 b hbl).2⟩, fun b hm hk => ?_, ⟨h9.1, fun hm => ?_, h9.2.2⟩, h10.trans k (fun b hb hm => by have := (hge b hm).1; omega)⟩
 ·rw [List.take_add_one, hx]
  simpa using ho
 ·rcases hb b hm with h | h
  ·exact (h7 b hbl).1 h
  ·have := (ownB_ge h3 b hbl).2; omega
 ·rcases hb b hm with h | h
  ·exact h8 b h hk
  ·have := (ownB_ge h6 b hk).2; omega
 ·rcases hb fb hm with h | h
  ·exact h9.2.1 h
  ·omega
theorem MidG.kinds {w0 w w' : World} {fs : List SfdD} {i i1 : Nat} {lv nv kv kv' : Value} {fb : Nat} {f : FldD} {x : SfdD} (h : MidG w0 w fs i i1 i lv nv kv fb f) (hx : fs[i]? = some x) (k : Keeps (ownB kv) w w') (ho : w'.ownsRow (w0.heap.size + 2) 3 1 kv' (i + 1) (i64s ((fs.take i).map (·.f.typ)) ++ [.int .i64 x.f.typ])) (hb : ∀ b ∈ ownB kv', b ∈ ownB kv ∨ w.heap.size ≤ b) : MidG w0 w' fs i i1 (i + 1) lv nv kv' fb f := by
 obtain ⟨h1, h2, h3, h4, h5, h6, h7, h8, h9, h10⟩ := h
 have hge := fun b hb => (ownB_ge h6 b hb)
 have l2 := (Array.getElem?_eq_some_iff.1 h2).1
 refine ⟨(k.block _ (Array.getElem?_eq_some_iff.1 h1).1 (fun hm => by have := (hge _ hm).1; omega)).trans h1, (k.block _ l2 h9.2.2).trans h2, ownsRow_keeps h3 k (fun b hb hm => (h7 b hb).2 hm), h4.keep k (fun hm => by have := (hge _ hm).1; omega), ownsRow_keeps h5 k (fun b hb hm => h8 b hb hm), ?_, fun b hbl => ⟨(h7 b hbl).1, fun hm => ?_⟩, fun b hn hm => ?_, ⟨h9.1, h9.2.1, fun hm => ?_⟩, h10.trans k (fun b hb hm => by have := (hge b hm).1; omega)⟩
 ·rw [List.take_add_one, hx]
  simpa [i64s] using ho
 ·rcases hb b hm with h | h
  ·exact (h7 b hbl).2 h
  ·have := (ownB_ge h3 b hbl).2; omega
 ·rcases hb b hm with h | h
  ·exact h8 b hn h
  ·have := (ownB_ge h5 b hn).2; omega
 ·rcases hb fb hm with h | h
  ·exact h9.2.2 h
  ·omega
theorem MidG.done {w0 w w' : World} {fs : List SfdD} {i : Nat} {lv lv' nv kv : Value} {fb : Nat} {f : FldD} {x : SfdD} (h : MidG w0 w fs i (i + 1) (i + 1) lv nv kv fb f) (hx : fs[i]? = some x) (k : Keeps (ownB lv) w w') (ho : w'.ownsRow (w0.heap.size + 2) 80 21 lv' (i + 1) ((((fs.take i).map fun x => blankC x.f).flatten) ++ blankC x.f)) (hb : ∀ b ∈ ownB lv', b ∈ ownB lv ∨ w.heap.size ≤ b) : NwAt w0 (w'.setCell ⟨w0.heap.size + 1, 0, none⟩ lv') fs (i + 1) lv' nv kv := by
 obtain ⟨h1, h2, h3, h4, h5, h6, h7, h8, h9, h10⟩ := h
 have hge := fun b hb => (ownB_ge h3 b hb)
 have l1 := (Array.getElem?_eq_some_iff.1 h1).1
 have hs1 := (k.block _ l1 (fun hm => by have := (hge _ hm).1; omega)).trans h1
 have kS : Keeps [w0.heap.size + 1] w' (w'.setCell ⟨w0.heap.size + 1, 0, none⟩ lv') := (Keeps.refl _ _).setCell (.inl (by simp)) _
 have hoff : ∀ {v : Value} {e : TypeId} {sz m : Nat} {xs : List Value}, w'.ownsRow (w0.heap.size + 2) e sz v m xs → ∀ b ∈ ownB v, b ∉ [w0.heap.size + 1] := fun h b hb hm => by
  have := (ownB_ge h b hb).1
  simp at hm
  omega
 have r5 := ownsRow_keeps h5 k (fun b hb hm => (h7 b hm).1 hb)
 have r6 := ownsRow_keeps h6 k (fun b hb hm => (h7 b hm).2 hb)
 refine ⟨?_, ?_, (h4.keep k (fun hm => by have := (hge _ hm).1; omega)).keep kS (by simp), ownsRow_keeps r5 kS (hoff r5), ownsRow_keeps r6 kS (hoff r6), fun b hm => ⟨fun hn => ?_, fun hn => ?_⟩, h8, (h10.trans k (fun b hb hm => by have := (hge b hm).1; omega)).trans kS (fun b hb hm => by simp at hm; omega)⟩
 ·have := heap_setCell_same w' (w0.heap.size + 1) 0 _ _ lv' hs1
  simpa using this
 ·rw [List.take_add_one, hx]
  have := ownsRow_keeps ho kS (hoff ho)
  simpa using this
 ·rcases hb b hm with h | h
  ·exact (h7 b h).1 hn
  ·have := (ownB_ge h5 b hn).2; omega
 ·rcases hb b hm with h | h
  ·exact (h7 b h).2 hn
  ·have := (ownB_ge h6 b hn).2; omega
def RdsAt (W1 wr : World) (H g n lc : Nat) (fs : List SfdD) (j : Nat) (css : List (List Value)) : Prop :=
 RowAt wr H g n lc css ∧ (∀ (k : Nat) cs x, css[k]? = some cs → fs[k]? = some x → if k < j then Sf0At wr (fun b => W1.heap.size ≤ b) x.f x.formula x.rule x.shown cs else cs = blankC x.f) ∧ Keeps [g] W1 wr
theorem RdsAt.k {W1 wr w' : World} {H g n lc : Nat} {fs : List SfdD} {j : Nat} {css : List (List Value)} (h : RdsAt W1 wr H g n lc fs j css) (k : Keeps [] wr w') : RdsAt W1 w' H g n lc fs j css := by
 refine ⟨h.1.keep k (by simp), fun i cs x hc hx => ?_, h.2.2.trans k (fun _ _ h => by cases h)⟩
 have := h.2.1 i cs x hc hx
 split
 ·rename_i hj
  rw [if_pos hj] at this
  exact this.keep k (fun _ _ => by simp)
 ·rename_i hj
  rw [if_neg hj] at this
  exact this
theorem RdsAt.step {W1 wr w' : World} {H g n lc : Nat} {fs : List SfdD} {j : Nat} {css : List (List Value)} {cs : List Value} {x : SfdD} (h : RdsAt W1 wr H g n lc fs j css) (hg : g < W1.heap.size) (hx : fs[j]? = some x) (hr : RowAt w' H g n lc (css.set j cs)) (hs : Sf0At w' (fun b => wr.heap.size ≤ b) x.f x.formula x.rule x.shown cs) (k : Keeps [g] wr w') : RdsAt W1 w' H g n lc fs (j + 1) (css.set j cs) := by
 refine ⟨hr, fun i c y hc hy => ?_, h.2.2.trans k (fun _ _ h => h)⟩
 rw [List.getElem?_set] at hc
 by_cases e : j = i
 ·subst e
  rw [if_pos rfl] at hc
  split at hc
  ·rw [if_pos (Nat.lt_succ_self _)]
   rw [hx] at hy
   cases hc
   cases hy
   exact hs.mono (fun b _ hb => Nat.le_trans h.2.2.size hb)
  ·cases hc
 ·rw [if_neg e] at hc
  have := h.2.1 i c y hc hy
  by_cases hj : i < j
  ·rw [if_pos hj] at this
   rw [if_pos (by omega)]
   exact this.keep k (fun b hb hm => by simp at hm; omega)
  ·rw [if_neg hj] at this
   rw [if_neg (by omega)]
   exact this
theorem SfAt.tail {w : World} {P : Nat → Prop} {cs : List Value} {x : SfdD} (h : SfAt w P cs x) : cs[17]? = some (.bool x.formula.isSome) := by
 obtain ⟨c1, c2, c3, nv, h1, h2, h3, h4, h5, rfl⟩ := h
 obtain ⟨x0, x1, x2, x3, rfl⟩ := list4 h1.len
 obtain ⟨y0, y1, y2, y3, rfl⟩ := list4 h2.len
 obtain ⟨z0, z1, z2, z3, rfl⟩ := list4 h3.len
 rfl
def OrdAt (w8 wr : World) (sb bm : Nat) (lv : Value) (fs : List SfdD) (od : List Nat) (k m : Nat) (oa : Option Addr) (oc : Nat) : Prop :=
 wr.heap[sb]? = some (.cells #[lv, .map (some bm), .slice oa m oc] 68 (0, 0)) ∧ ((od.take k).filter (isF fs)).length = m ∧ wr.ownsRow w8.heap.size 3 1 (.slice oa m oc) m (natC ((od.take k).filter (isF fs))) ∧ Keeps [sb] w8 wr
theorem OrdAt.k {w8 wr w' : World} {sb bm : Nat} {lv : Value} {fs : List SfdD} {od : List Nat} {k m : Nat} {oa : Option Addr} {oc : Nat} (h : OrdAt w8 wr sb bm lv fs od k m oa oc) (k' : Keeps [] wr w') : OrdAt w8 w' sb bm lv fs od k m oa oc :=
 ⟨(k'.block _ (Array.getElem?_eq_some_iff.1 h.1).1 (by simp)).trans h.1, h.2.1, ownsRow_keeps h.2.2.1 k' (fun _ _ h => by cases h), h.2.2.2.trans k' (fun _ _ h => by cases h)⟩
theorem natrow_cell {w : World} {base g n c : Nat} {l : List Nat} (h : w.ownsRow base 3 1 (.slice (some ⟨g, 0, none⟩) n c) n (natC l)) {k y : Nat} (hk : l[k]? = some y) : w.cell? ⟨g, k, none⟩ = some (.int .i64 (y : Int)) := by
 obtain ⟨h1, ⟨h2, _⟩ | ⟨g', cap', cur, hv, hb, hg, hn, hm, hs, ht⟩⟩ := h
 ·cases h2
 ·simp only [Value.slice.injEq, Option.some.injEq, Addr.mk.injEq, true_and, and_true] at hv
  obtain ⟨rfl, rfl⟩ := hv
  rw [cell_of_row w g k cur _ (0, 0) hg]
  have hl : l.length = n := by simpa [natC] using h1
  have hkl := (List.getElem?_eq_some_iff.1 hk).1
  have := congrArg (fun l : List Value => l[k]?) ht
  simp only [Nat.mul_one, List.getElem?_take, Array.getElem?_toList] at this
  rw [if_pos (by omega)] at this
  rw [this]
  simp [natC, hk]
theorem nodup_take {α : Type} {l : List α} {i : Nat} {a : α} (h : l.Nodup) (hi : l[i]? = some a) : a ∉ l.take i := by
 intro hm
 have h2 : (l.take i ++ l.drop i).Nodup := by rw [List.take_append_drop]; exact h
 have h3 : a ∈ l.drop i := by
  refine List.mem_of_getElem? (i := 0) ?_
  rw [List.getElem?_drop]
  exact hi
 exact (List.nodup_append.1 h2).2.2 a hm a h3 rfl
theorem fcells {w : World} {b : Nat} {f : FldD} (h : w.heap[b]? = some (.cells #[.string (str f.name), .int .i64 f.typ, .string (str f.formula), .string (str f.rule), .string (str f.shown)] 71 (0, 0))) :
 w.cell? ⟨b, 0, none⟩ = some (.string (str f.name)) ∧ w.cell? ⟨b, 1, none⟩ = some (.int .i64 f.typ) ∧ w.cell? ⟨b, 2, none⟩ = some (.string (str f.formula)) ∧ w.cell? ⟨b, 3, none⟩ = some (.string (str f.rule)) ∧ w.cell? ⟨b, 4, none⟩ = some (.string (str f.shown)) :=
 ⟨cell_of_block h 0, cell_of_block h 1, cell_of_block h 2, cell_of_block h 3, cell_of_block h 4⟩
theorem scNew_ok (fs : List SfdD) (n : Nat) (a : Option Addr) (c : Nat) (P : Nat → Prop) (w W0 : World) (hTE : TE W0 w) (hl : ListAt fldL w P (.slice a n c) (fs.map (·.f))) (hn : fs.length = n) (h1 : 1 ≤ n) (h24 : n ≤ 24)
 (hnm : (fs.map (·.f.name)).Nodup) (hok : ∀ x ∈ fs, nameD (str x.f.name) = true ∧ x.f.name.length ≤ 1000 ∧ 1 ≤ x.f.typ ∧ x.f.typ ≤ 3)
 (hex : ∀ x ∈ fs, ExOk x.f.formula x.formula (fs.map fun x => str x.f.name) (fs.map (·.f.typ)) x.f.typ ∧ ExOk x.f.rule x.rule (fs.map fun x => str x.f.name) (fs.map (·.f.typ)) 2 ∧ ExOk x.f.shown x.shown (fs.map fun x => str x.f.name) (fs.map (·.f.typ)) 2)
 (hne : ∀ x ∈ fs, NeOk (fs.map (·.f.name)) x) (hs : ∀ l ∈ fs.map (·.needs), l.length ≤ 1000) (hall : (orderQ n (fs.map (·.needs))).1.length = n) (hlt : ∀ i ∈ (orderQ n (fs.map (·.needs))).1, i < n) :
 Calls Tryz.prog 11 #[.slice a n c] w (NewEnd w fs) := by
 have HTE := hid (fun wx (k : Keeps [] w wx) => hTE.k k)
 have HL := hid hl
 have HN := hid hn
 have HNM := hid hnm
 have HOK := hid hok
 have HEX := hid hex
 have HNE := hid hne
 have HS := hid (And.intro hs (And.intro hall hlt))
 have n0 : (0 : Int) ≤ (n : Int) := Int.natCast_nonneg _
 have n1 : ¬ (n : Int) < 1 := by omega
 have n2 : ¬ (24 : Int) < (n : Int) := by omega
 have hmm := @run_makeMap Tryz.prog
 clear hTE hl hn hnm hok hex hne hs hall hlt
 go_enter Tryz.func11, Tryz.ntmps11
 go_wp2_with fail
 go_step3
 go_wp2_with fail
 have HST : Hid (NwAt w ((w.alloc (.map #[] 0)).alloc (.cells #[.slice none 0 0, .map (some w.heap.size), .slice none 0 0] 68)) fs 0 (.slice none 0 0) (.slice none 0 0) (.slice none 0 0)) := by
  refine ⟨new2K w _ _, World.ownsRow_nil _ _ _ _, ?_, World.ownsRow_nil _ _ _ _, World.ownsRow_nil _ _ _ _, fun x hx => by simp [ownB, Value.ownBlock] at hx, fun x hx => by simp [ownB, Value.ownBlock] at hx, by exact Keeps.K⟩
  exact AtMap.zero ((World.ownsMap_made w Tryz.prog 9 heldR).alloc _)
 go_loopw [6, 7, 32] (fun nv kv iv wr => ∃ (i nc kc : Nat) (na ka : Option Addr), nv = .slice na i nc ∧ kv = .slice ka i kc ∧ iv = .int .i64 (i : Int) ∧ i ≤ n ∧ Hid (∃ lv, NwAt w wr fs i lv (.slice na i nc) (.slice ka i kc))) (fun _ _ iv _ => n - (intOf iv).toNat)
 case atStart => exact ⟨0, 0, 0, none, none, rfl, rfl, rfl, Nat.zero_le _, _, HST.out⟩
 case round =>
  clear HST
  obtain ⟨i, nc, kc, na, ka, rfl, rfl, rfl, hi, hW⟩ := hrel
  obtain ⟨lv, hW⟩ := hW.out
  obtain ⟨la, lc, rfl⟩ := len_form hW.2.1
  have HW := hid hW
  clear hW
  have i0 : (0 : Int) ≤ (i : Int) := Int.natCast_nonneg _
  by_cases hlt : i < n
  ·have i1 : (i : Int) < (n : Int) := by omega
   obtain ⟨x, hx⟩ : ∃ x, fs[i]? = some x := ⟨_, List.getElem?_eq_getElem (by rw [HN.out]; exact hlt)⟩
   have hxm := List.mem_of_getElem? hx
   have HX := hid hx
   have hok := HOK.out x hxm
   have hp : fs.map (·.f) ≠ [] := by intro e; rw [List.map_eq_nil_iff] at e; rw [e] at hxm; cases hxm
   obtain ⟨lg, lo, lc2, hv, hnc, _, hg, _⟩ := HL.out.addr hp
   simp only [Value.slice.injEq] at hv
   obtain ⟨rfl, hnl, rfl⟩ := hv
   obtain ⟨cs, hcs, hcell⟩ := HL.out.get (i := i) (a := x.f) (by rw [List.getElem?_map, hx]; rfl)
   have hcs : cs = fldC x.f := hcs
   subst hcs
   have HKW := hid HW.out.2.2.2.2.2.2.2
   have d0 : wr.cell? ⟨lg, lo + i * 5, none⟩ = some (.string (str x.f.name)) := HKW.out.cellSome (by simpa [fldL] using hcell 0 _ rfl) (by simp)
   have d1 : wr.cell? ⟨lg, lo + i * 5 + 1, none⟩ = some (.int .i64 x.f.typ) := HKW.out.cellSome (by simpa [fldL] using hcell 1 _ rfl) (by simp)
   have d2 : wr.cell? ⟨lg, lo + i * 5 + 2, none⟩ = some (.string (str x.f.formula)) := HKW.out.cellSome (by simpa [fldL] using hcell 2 _ rfl) (by simp)
   have d3 : wr.cell? ⟨lg, lo + i * 5 + 3, none⟩ = some (.string (str x.f.rule)) := HKW.out.cellSome (by simpa [fldL] using hcell 3 _ rfl) (by simp)
   have d4 : wr.cell? ⟨lg, lo + i * 5 + 4, none⟩ = some (.string (str x.f.shown)) := HKW.out.cellSome (by simpa [fldL] using hcell 4 _ rfl) (by simp)
   have s1 : wr.cell? ⟨w.heap.size + 1, 1, none⟩ = some (.map (some w.heap.size)) := cell_of_block HW.out.1 1
   have hnot : x.f.name ∉ (fs.map (·.f.name)).take i := nodup_take HNM.out (by rw [List.getElem?_map, hx]; rfl)
   have HLK := hid (fun wx (h : AtMap wx w.heap.size ((fs.map (·.f.name)).take i)) => h.look0 hnot hok.2.1)
   have HNOT := hid hnot
   have HOKX := hid hok
   have HLT := hid hlt
   have HNA := hid (fun wx (k : Keeps [] w wx) => lxName_any (str x.f.name) wx (HTE.out wx k).tabs (HTE.out wx k).errs)
   rw [hok.1] at HNA
   clear hx hxm hok hp hnc hg hnl hcell hnot hlt
   go_wp2_with fail
   have K1 : Hid (Keeps [] wr (wr.alloc (.cells #[.string (str x.f.name), .int .i64 x.f.typ, .string (str x.f.formula), .string (str x.f.rule), .string (str x.f.shown)] 71))) := by show Keeps _ _ _; exact Keeps.K
   have HB1 : Hid ((wr.alloc (.cells #[.string (str x.f.name), .int .i64 x.f.typ, .string (str x.f.formula), .string (str x.f.rule), .string (str x.f.shown)] 71)).heap[wr.heap.size]? = some (.cells #[.string (str x.f.name), .int .i64 x.f.typ, .string (str x.f.formula), .string (str x.f.rule), .string (str x.f.shown)] 71 (0, 0))) := heap_alloc_new wr _
   have HW1 := hid (HW.out.k K1.out)
   obtain ⟨w1, hw1⟩ : ∃ w1, wr.alloc (.cells #[.string (str x.f.name), .int .i64 x.f.typ, .string (str x.f.formula), .string (str x.f.rule), .string (str x.f.shown)] 71) = w1 := ⟨_, rfl⟩
   rw [hw1] at K1 HB1 HW1 ⊢
   obtain ⟨fb, hfb⟩ : ∃ fb, wr.heap.size = fb := ⟨_, rfl⟩
   have HFB := hid hfb
   rw [hfb] at HB1 ⊢
   clear d0 d1 d2 d3 d4 s1 hw1 hfb
   obtain ⟨f0, f1, f2, f3, f4⟩ := fcells HB1.out
   have s1 : w1.cell? ⟨w.heap.size + 1, 1, none⟩ = some (.map (some w.heap.size)) := cell_of_block HW1.out.1 1
   refine Plan.wp_region_plan (fun wx => wx.cell? ⟨fb, 0, none⟩ = some (.string (str x.f.name)) ∧ wx.cell? ⟨w.heap.size + 1, 1, none⟩ = some (.map (some w.heap.size)) ∧ (Instr.lookup 64 (.map (some w.heap.size)) (.string (str x.f.name)) true).run Tryz.prog wx = .ok (.tuple #[.int .i64 0, .bool false]) wx) 12 [(true, 0), (true, 1), (true, 2), (true, 3), (true, 4), (true, 5), (true, 6), (true, 7), (true, 8), (true, 9), (true, 10), (true, 11)] (by kernel_rfl) (by as_aux_lemma => kernel_rfl) (by kernel_rfl) (fun _ _ _ _ _ h => h) ?_ (fun hS => ?_)
   ·exact ⟨f0, s1, HLK.out _ (HW1.out.2.2.1.keep (F := []) (by exact Keeps.K) (by simp))⟩
   simp only [Plan.pick, List.append_eq, List.cons_append, List.nil_append, Plan.g1, Plan.g2, Option.getD_some, List.drop_succ_cons, List.drop_zero]
   iterate 12 (first | refine Plan.tA ?_ | refine Plan.tY ?_ | refine Plan.pN ?_ | refine Plan.pU ?_ | fail)
   refine Plan.fin ?_
   clear hS
   go_wp2_with fail
   refine (HNA.out _ (HW1.out.2.2.2.2.2.2.2.trans (G := []) (by exact Keeps.K) (fun _ _ h => h))).mono ?_
   rintro _ w2 ⟨rfl, hk2⟩
   have K2 : Hid (Keeps [] w1 w2) := Keeps.trans (F := []) (G := []) (by exact Keeps.K) hk2 (fun _ _ h => h)
   have HW2 := hid (HW1.out.k K2.out)
   have HB2 := hid ((K2.out.block fb (Array.getElem?_eq_some_iff.1 HB1.out).1 (by simp)).trans HB1.out)
   clear f0 f1 f2 f3 f4 s1 hk2
   obtain ⟨f0, f1, f2, f3, f4⟩ := fcells HB2.out
   have s1 : w2.cell? ⟨w.heap.size + 1, 1, none⟩ = some (.map (some w.heap.size)) := cell_of_block HW2.out.1 1
   have ty1 : ¬ x.f.typ < 1 := by have := HOKX.out.2.2.1; omega
   have ty2 : ¬ (3 : Int) < x.f.typ := by have := HOKX.out.2.2.2; omega
   go_wp2_with fail
   obtain ⟨A, hm, hA1, hA2⟩ := HW2.out.2.2.1
   have htl : ((fs.map (·.f.name)).take i).length = i := by simp [HN.out]; have := HLT.out; omega
   have HM := hid hm
   have HA := hid (And.intro htl (And.intro hA1 hA2))
   have hfw : w.heap.size + 1 < fb := by
    have h1 := (Array.getElem?_eq_some_iff.1 HW.out.1).1
    have h2 := HFB.out
    omega
   have HFW := hid hfw
   clear hm htl hA1 hA2 ty1 ty2
   refine Plan.wp_region_plan (fun wx => wx.cell? ⟨fb, 0, none⟩ = some (.string (str x.f.name)) ∧ wx.cell? ⟨w.heap.size + 1, 1, none⟩ = some (.map (some w.heap.size))) 8 [(true, 0), (true, 1), (true, 2), (true, 3), (true, 4), (true, 5), (true, 6), (false, 7)] (by kernel_rfl) (by as_aux_lemma => kernel_rfl) (by kernel_rfl) (fun _ _ _ _ _ h => h) ?_ (fun hS => ?_)
   ·exact ⟨f0, s1⟩
   simp only [Plan.pick, List.append_eq, List.cons_append, List.nil_append, Plan.g1, Plan.g2, Option.getD_some, List.drop_succ_cons, List.drop_zero]
   iterate 7 (first | refine Plan.tA ?_ | refine Plan.tY ?_ | refine Plan.pN ?_ | refine Plan.pU ?_ | fail)
   refine Plan.step ?_
   go_wp2_with (at_mapUpdate; go_must (refine wpList_mapUpdate_in _ rfl _ _ _ _ rfl _ _ nameKeyed Tryz.underlying64 heldR w.heap.size ((fs.map (·.f.name)).take i).length _ rfl HM.out.drew (by have := HA.out.1; unfold maxLen; omega) _ _ _ rfl rfl (nameKey x.f.name HOKX.out.2.1) _ _ rfl ?_; intro w3 ho ht))
   have hk3 := turned_keeps ht
   have K3 : Hid (Keeps [w.heap.size] w2 w3) := Keeps.trans (F := [w.heap.size]) (G := [w.heap.size]) (by exact Keeps.K) hk3 (fun _ _ h => h)
   have HB3 := hid ((K3.out.block fb (Array.getElem?_eq_some_iff.1 HB2.out).1 (by simp; omega)).trans HB2.out)
   have HS3 := hid ((K3.out.block (w.heap.size + 1) (Array.getElem?_eq_some_iff.1 HW2.out.1).1 (by simp)).trans HW2.out.1)
   have HA3 : Hid (AtMap w3 w.heap.size ((fs.map (·.f.name)).take (i + 1))) := by
    show AtMap _ _ _
    rw [List.take_add_one, List.getElem?_map, HX.out]
    refine AtMap.made (w := w3) HA.out.2.1 HA.out.2.2 HNOT.out ?_
    rw [HA.out.1] at ho ⊢
    exact ho
   have hoff : ∀ {v : Value} {e : TypeId} {sz m : Nat} {xs : List Value}, w2.ownsRow (w.heap.size + 2) e sz v m xs → ∀ b ∈ ownB v, b ∉ [w.heap.size] := fun h b hb hm => by
    have := (ownB_ge h b hb).1
    simp at hm
    omega
   have hfo : ∀ {v : Value} {e : TypeId} {sz m : Nat} {xs : List Value}, wr.ownsRow (w.heap.size + 2) e sz v m xs → fb ∉ ownB v := fun h hb => by
    have := (ownB_ge h fb hb).2
    have := HFB.out
    omega
   have HM3 : Hid (MidG w w3 fs i i i (.slice la i lc) (.slice na i nc) (.slice ka i kc) fb x.f) :=
    ⟨HS3.out, HB3.out, ownsRow_keeps HW2.out.2.1 K3.out (hoff HW2.out.2.1), HA3.out, ownsRow_keeps HW2.out.2.2.2.1 K3.out (hoff HW2.out.2.2.2.1), ownsRow_keeps HW2.out.2.2.2.2.1 K3.out (hoff HW2.out.2.2.2.2.1), HW2.out.2.2.2.2.2.1, HW2.out.2.2.2.2.2.2.1, ⟨hfo HW.out.2.1, hfo HW.out.2.2.2.1, hfo HW.out.2.2.2.2.1⟩, HW2.out.2.2.2.2.2.2.2.trans K3.out (fun b hb hm => by simp at hm; omega)⟩
   have e0 : w3.cell? ⟨fb, 0, none⟩ = some (.string (str x.f.name)) := cell_of_block HB3.out 0
   have e1 : w3.cell? ⟨fb, 1, none⟩ = some (.int .i64 x.f.typ) := cell_of_block HB3.out 1
   have e2 : w3.cell? ⟨w.heap.size + 1, 1, none⟩ = some (.map (some w.heap.size)) := cell_of_block HS3.out 1
   refine ⟨⟨e0, e2⟩, ?_⟩
   refine Plan.fin ?_
   clear hS ho ht hk3 hoff hfo f0 f1 f2 f3 f4 s1
   go_wp2_with fail
   refine Plan.wp_region_tree (fun wx => wx.cell? ⟨fb, 0, none⟩ = some (.string (str x.f.name)) ∧ wx.cell? ⟨fb, 1, none⟩ = some (.int .i64 x.f.typ)) 12 (.take 0 (.take 1 (.take 2 (.take 5 (.take 6 (.take 7 (.fork 3 8 (.fork 4 8 (.step 8 (.step 9 (.take 10 (.take 11 .fin)))) (.step 4 (.step 9 (.take 10 (.take 11 .fin))))) (.step 3 (.step 4 (.step 9 (.take 10 (.take 11 .fin)))))))))))) (by kernel_rfl) (by as_aux_lemma => kernel_rfl) (by kernel_rfl) (fun _ _ _ _ _ h => h) ⟨e0, e1⟩ (fun hS => ?_)
   simp only [Plan.pickT, List.append_eq, List.cons_append, List.nil_append, Plan.g1, Plan.g2, Option.getD_some, List.drop_succ_cons, List.drop_zero]
   iterate 6 (refine Plan.takeT (v := ?_) (a' := ?_) (Plan.want_all (by rfl)) ?_ ?_ ?_; rotate_left 2; (· (intro w' hS'; (try dsimp only at hS'); go_simp; try with_reducible rfl)); (· (simp only [Act.put, Plan.l1, Plan.l2, Plan.l3]; try with_reducible rfl)))
   refine Plan.forkT ?_ ?_
   ·go_wp2_with fail
    have Hq1 := hid (HM3.out.k (by exact Keeps.K : Keeps [] w3 (w3.alloc (.cells #[.string (str x.f.name)] 9)).drew))
    have Rq1 : Hid ((w3.alloc (.cells #[.string (str x.f.name)] 9)).drew.heap[w3.heap.size]? = some (.cells #[.string (str x.f.name)] 9 (0, 0))) := heap_alloc_new w3 _
    refine ⟨⟨(fcells Hq1.out.2.1).1, (fcells Hq1.out.2.1).2.1⟩, ?_⟩
    refine Plan.forkT ?_ ?_
    ·go_wp2_with (at_builtin; go_must (refine wpList_appG _ (by rfl) _ _ 69 9 _ 1 16 Tryz.infoStr rfl (by decide) (by rfl) Tryz.underlying69 (w.heap.size + 2) (.slice na i nc) (by rfl) i _ Hq1.out.2.2.2.2.1 _ (by rfl) [.string (str x.f.name)] (Reads.ofBlock (n := 1) Rq1.out rfl (by decide)) (fun u hu => by simp at hu; rw [hu]; rfl) (by omega) (by decide) (Nat.le_trans (Nat.succ_le_of_lt (Array.getElem?_eq_some_iff.1 Hq1.out.1).1) (Nat.le_refl _)) ?_; intro aq2 cq2 wq2 hoq2 hkq2 hbq2))
     have Hq2 := hid (MidG.names Hq1.out HX.out hkq2.out hoq2.out hbq2.out)
     refine ⟨⟨(fcells Hq2.out.2.1).1, (fcells Hq2.out.2.1).2.1⟩, ?_⟩
     refine Plan.stepT ?_
     go_wp2_with fail
     have Hq3 := hid (Hq2.out.k (by exact Keeps.K : Keeps [] wq2 (wq2.alloc (.cells #[.int .i64 x.f.typ] 3))))
     have Rq3 : Hid ((wq2.alloc (.cells #[.int .i64 x.f.typ] 3)).heap[wq2.heap.size]? = some (.cells #[.int .i64 x.f.typ] 3 (0, 0))) := heap_alloc_new wq2 _
     refine ⟨⟨(fcells Hq3.out.2.1).1, (fcells Hq3.out.2.1).2.1⟩, ?_⟩
     refine Plan.stepT ?_
     go_wp2_with (at_builtin; go_must (refine wpList_appG _ (by rfl) _ _ 66 3 _ 1 8 Tryz.infoIn8 rfl (by decide) (by rfl) Tryz.underlying66 (w.heap.size + 2) (.slice ka i kc) (by rfl) i _ Hq3.out.2.2.2.2.2.1 _ (by rfl) [.int .i64 x.f.typ] (Reads.ofBlock (n := 1) Rq3.out rfl (by decide)) (fun u hu => by simp at hu; rw [hu]; rfl) (by omega) (by decide) (Nat.le_trans (Nat.succ_le_of_lt (Array.getElem?_eq_some_iff.1 Hq3.out.1).1) (Nat.le_refl _)) ?_; intro aq4 cq4 wq4 hoq4 hkq4 hbq4))
     have Hq4 := hid (MidG.kinds Hq3.out HX.out hkq4.out hoq4.out hbq4.out)
     refine ⟨⟨(fcells Hq4.out.2.1).1, (fcells Hq4.out.2.1).2.1⟩, ?_⟩
     iterate 2 (refine Plan.takeT (v := ?_) (a' := ?_) (Plan.want_all (by rfl)) ?_ ?_ ?_; rotate_left 2; (· (intro w' hS'; (try dsimp only at hS'); go_simp; try with_reducible rfl)); (· (simp only [Act.put, Plan.l1, Plan.l2, Plan.l3]; try with_reducible rfl)))
     refine Plan.finT ?_
     clear hS e0 e1 e2
     obtain ⟨f0, f1, f2, f3, f4⟩ := fcells Hq4.out.2.1
     have s0 : wq4.cell? ⟨w.heap.size + 1, 0, none⟩ = some (.slice la i lc) := cell_of_block Hq4.out.1 0
     have sf : wq4.frozen? ⟨w.heap.size + 1, 0, none⟩ = false := frozen_of_row wq4 _ 0 _ _ Hq4.out.1
     go_wp2_with fail
     refine Plan.wp_region_plan (fun wx => wx.cell? ⟨w.heap.size + 1, 0, none⟩ = some (.slice la i lc) ∧ wx.cell? ⟨fb, 0, none⟩ = some (.string (str x.f.name)) ∧ wx.cell? ⟨fb, 1, none⟩ = some (.int .i64 x.f.typ) ∧ wx.cell? ⟨fb, 2, none⟩ = some (.string (str x.f.formula)) ∧ wx.cell? ⟨fb, 3, none⟩ = some (.string (str x.f.rule)) ∧ wx.cell? ⟨fb, 4, none⟩ = some (.string (str x.f.shown))) 9 [(true, 0), (true, 1), (true, 2), (true, 3), (true, 4), (true, 5), (true, 6), (false, 7), (false, 8)] (by kernel_rfl) (by as_aux_lemma => kernel_rfl) (by kernel_rfl) (fun _ _ _ _ _ h => h) ?_ (fun hS => ?_)
     (·go_simp)
     simp only [Plan.pick, List.append_eq, List.cons_append, List.nil_append, Plan.g1, Plan.g2, Option.getD_some, List.drop_succ_cons, List.drop_zero]
     iterate 7 (first | refine Plan.tA ?_ | refine Plan.tY ?_ | refine Plan.pN ?_ | refine Plan.pU ?_ | fail)
     refine Plan.step ?_
     go_wp2_with fail
     have HZ := hid (Hq4.out.k (by exact Keeps.K : Keeps [] wq4 (wq4.alloc (.cells #[.string (str x.f.name), .int .i64 x.f.typ, .string (str x.f.formula), .string (str x.f.rule), .string (str x.f.shown), .int .i64 0, .int .i64 0, .string ⟨#[]⟩, .slice none 0 0, .int .i64 0, .int .i64 0, .string ⟨#[]⟩, .slice none 0 0, .int .i64 0, .int .i64 0, .string ⟨#[]⟩, .slice none 0 0, .bool false, .bool false, .bool false, .slice none 0 0] 80)).drew))
     have HRZ : Hid ((wq4.alloc (.cells #[.string (str x.f.name), .int .i64 x.f.typ, .string (str x.f.formula), .string (str x.f.rule), .string (str x.f.shown), .int .i64 0, .int .i64 0, .string ⟨#[]⟩, .slice none 0 0, .int .i64 0, .int .i64 0, .string ⟨#[]⟩, .slice none 0 0, .int .i64 0, .int .i64 0, .string ⟨#[]⟩, .slice none 0 0, .bool false, .bool false, .bool false, .slice none 0 0] 80)).drew.heap[wq4.heap.size]? = some (.cells #[.string (str x.f.name), .int .i64 x.f.typ, .string (str x.f.formula), .string (str x.f.rule), .string (str x.f.shown), .int .i64 0, .int .i64 0, .string ⟨#[]⟩, .slice none 0 0, .int .i64 0, .int .i64 0, .string ⟨#[]⟩, .slice none 0 0, .int .i64 0, .int .i64 0, .string ⟨#[]⟩, .slice none 0 0, .bool false, .bool false, .bool false, .slice none 0 0] 80 (0, 0))) := heap_alloc_new wq4 _
     have hz := fcells HZ.out.2.1
     refine ⟨⟨cell_of_block HZ.out.1 0, hz⟩, ?_⟩
     clear hz
     refine Plan.step ?_
     go_wp2_with (at_builtin; go_must (refine wpList_appG _ (by rfl) _ _ 65 80 _ 21 272 Tryz.infoSf rfl (by decide) (by rfl) Tryz.underlying65 (w.heap.size + 2) (.slice la i lc) (by rfl) i _ HZ.out.2.2.1 _ (by rfl) (blankC x.f) (Reads.ofBlock (n := 1) (size := 21) HRZ.out rfl (by decide)) ((Sf0At.blank w (fun _ => True) x.f).one) (by omega) (by decide) (Nat.le_trans (Nat.succ_le_of_lt (Array.getElem?_eq_some_iff.1 HZ.out.1).1) (Nat.le_refl _)) ?_; intro a9 c9 w9 ho9 hk9 hb9))
     have hfn : fb ∉ ownB (.slice la i lc) := HZ.out.2.2.2.2.2.2.2.2.1.1
     have hs9 := (hk9.out.block _ (Array.getElem?_eq_some_iff.1 HZ.out.1).1 (fun hm => by have h1 := (ownB_ge HZ.out.2.2.1 _ hm).1; omega)).trans HZ.out.1
     have hf9 := (hk9.out.block _ (Array.getElem?_eq_some_iff.1 HZ.out.2.1).1 hfn).trans HZ.out.2.1
     refine ⟨⟨cell_of_block hs9 0, fcells hf9⟩, ?_⟩
     refine Plan.fin ?_
     have HD := hid (MidG.done HZ.out HX.out hk9.out ho9.out hb9.out)
     have t0 : w9.cell? ⟨w.heap.size + 1, 0, none⟩ = some (.slice la i lc) := cell_of_block hs9 0
     have t1 : w9.frozen? ⟨w.heap.size + 1, 0, none⟩ = false := frozen_of_row w9 _ 0 _ _ hs9
     clear hS hfn hs9 hf9 s0 sf f0 f1 f2 f3 f4
     go_wp2_with fail
     have hlt := HLT.out
     exact ⟨⟨i + 1, _, _, _, _, rfl, rfl, rfl, by omega, _, HD.out⟩, by simp [intOf]; omega⟩
    ·go_wp2_with fail
     have Hq5 := hid (HM3.out.k (by exact Keeps.K : Keeps [] w3 ((w3.alloc (.cells #[.string (str x.f.name)] 9)).alloc (.cells #[.int .i64 x.f.typ] 3)).drew))
     have Rq5 : Hid (((w3.alloc (.cells #[.string (str x.f.name)] 9)).alloc (.cells #[.int .i64 x.f.typ] 3)).drew.heap[w3.heap.size + 1]? = some (.cells #[.int .i64 x.f.typ] 3 (0, 0))) := new2K w3 _ _
     have Sq5 : Hid (((w3.alloc (.cells #[.string (str x.f.name)] 9)).alloc (.cells #[.int .i64 x.f.typ] 3)).drew.heap[w3.heap.size]? = some (.cells #[.string (str x.f.name)] 9 (0, 0))) := alloc_old Rq1.out
     refine ⟨⟨(fcells Hq5.out.2.1).1, (fcells Hq5.out.2.1).2.1⟩, ?_⟩
     refine Plan.stepT ?_
     go_wp2_with (at_builtin; go_must (refine wpList_appG _ (by rfl) _ _ 69 9 _ 1 16 Tryz.infoStr rfl (by decide) (by rfl) Tryz.underlying69 (w.heap.size + 2) (.slice na i nc) (by rfl) i _ Hq5.out.2.2.2.2.1 _ (by rfl) [.string (str x.f.name)] (Reads.ofBlock (n := 1) Sq5.out rfl (by decide)) (fun u hu => by simp at hu; rw [hu]; rfl) (by omega) (by decide) (Nat.le_trans (Nat.succ_le_of_lt (Array.getElem?_eq_some_iff.1 Hq5.out.1).1) (Nat.le_refl _)) ?_; intro aq6 cq6 wq6 hoq6 hkq6 hbq6))
     have Hq6 := hid (MidG.names Hq5.out HX.out hkq6.out hoq6.out hbq6.out)
     have Sq6 : Hid (wq6.heap[w3.heap.size + 1]? = some (.cells #[.int .i64 x.f.typ] 3 (0, 0))) := (hkq6.out.block _ (Array.getElem?_eq_some_iff.1 Rq5.out).1 (fun hm => by have h1 := (ownB_ge HM3.out.2.2.2.2.1 _ hm).2; omega)).trans Rq5.out
     refine ⟨⟨(fcells Hq6.out.2.1).1, (fcells Hq6.out.2.1).2.1⟩, ?_⟩
     refine Plan.stepT ?_
     go_wp2_with (at_builtin; go_must (refine wpList_appG _ (by rfl) _ _ 66 3 _ 1 8 Tryz.infoIn8 rfl (by decide) (by rfl) Tryz.underlying66 (w.heap.size + 2) (.slice ka i kc) (by rfl) i _ Hq6.out.2.2.2.2.2.1 _ (by rfl) [.int .i64 x.f.typ] (Reads.ofBlock (n := 1) Sq6.out rfl (by decide)) (fun u hu => by simp at hu; rw [hu]; rfl) (by omega) (by decide) (Nat.le_trans (Nat.succ_le_of_lt (Array.getElem?_eq_some_iff.1 Hq6.out.1).1) (Nat.le_refl _)) ?_; intro aq7 cq7 wq7 hoq7 hkq7 hbq7))
     have Hq7 := hid (MidG.kinds Hq6.out HX.out hkq7.out hoq7.out hbq7.out)
     refine ⟨⟨(fcells Hq7.out.2.1).1, (fcells Hq7.out.2.1).2.1⟩, ?_⟩
     iterate 2 (refine Plan.takeT (v := ?_) (a' := ?_) (Plan.want_all (by rfl)) ?_ ?_ ?_; rotate_left 2; (· (intro w' hS'; (try dsimp only at hS'); go_simp; try with_reducible rfl)); (· (simp only [Act.put, Plan.l1, Plan.l2, Plan.l3]; try with_reducible rfl)))
     refine Plan.finT ?_
     clear hS e0 e1 e2
     obtain ⟨f0, f1, f2, f3, f4⟩ := fcells Hq7.out.2.1
     have s0 : wq7.cell? ⟨w.heap.size + 1, 0, none⟩ = some (.slice la i lc) := cell_of_block Hq7.out.1 0
     have sf : wq7.frozen? ⟨w.heap.size + 1, 0, none⟩ = false := frozen_of_row wq7 _ 0 _ _ Hq7.out.1
     go_wp2_with fail
     refine Plan.wp_region_plan (fun wx => wx.cell? ⟨w.heap.size + 1, 0, none⟩ = some (.slice la i lc) ∧ wx.cell? ⟨fb, 0, none⟩ = some (.string (str x.f.name)) ∧ wx.cell? ⟨fb, 1, none⟩ = some (.int .i64 x.f.typ) ∧ wx.cell? ⟨fb, 2, none⟩ = some (.string (str x.f.formula)) ∧ wx.cell? ⟨fb, 3, none⟩ = some (.string (str x.f.rule)) ∧ wx.cell? ⟨fb, 4, none⟩ = some (.string (str x.f.shown))) 9 [(true, 0), (true, 1), (true, 2), (true, 3), (true, 4), (true, 5), (true, 6), (false, 7), (false, 8)] (by kernel_rfl) (by as_aux_lemma => kernel_rfl) (by kernel_rfl) (fun _ _ _ _ _ h => h) ?_ (fun hS => ?_)
     (·go_simp)
     simp only [Plan.pick, List.append_eq, List.cons_append, List.nil_append, Plan.g1, Plan.g2, Option.getD_some, List.drop_succ_cons, List.drop_zero]
     iterate 7 (first | refine Plan.tA ?_ | refine Plan.tY ?_ | refine Plan.pN ?_ | refine Plan.pU ?_ | fail)
     refine Plan.step ?_
     go_wp2_with fail
     have HZ := hid (Hq7.out.k (by exact Keeps.K : Keeps [] wq7 (wq7.alloc (.cells #[.string (str x.f.name), .int .i64 x.f.typ, .string (str x.f.formula), .string (str x.f.rule), .string (str x.f.shown), .int .i64 0, .int .i64 0, .string ⟨#[]⟩, .slice none 0 0, .int .i64 0, .int .i64 0, .string ⟨#[]⟩, .slice none 0 0, .int .i64 0, .int .i64 0, .string ⟨#[]⟩, .slice none 0 0, .bool false, .bool false, .bool false, .slice none 0 0] 80)).drew))
     have HRZ : Hid ((wq7.alloc (.cells #[.string (str x.f.name), .int .i64 x.f.typ, .string (str x.f.formula), .string (str x.f.rule), .string (str x.f.shown), .int .i64 0, .int .i64 0, .string ⟨#[]⟩, .slice none 0 0, .int .i64 0, .int .i64 0, .string ⟨#[]⟩, .slice none 0 0, .int .i64 0, .int .i64 0, .string ⟨#[]⟩, .slice none 0 0, .bool false, .bool false, .bool false, .slice none 0 0] 80)).drew.heap[wq7.heap.size]? = some (.cells #[.string (str x.f.name), .int .i64 x.f.typ, .string (str x.f.formula), .string (str x.f.rule), .string (str x.f.shown), .int .i64 0, .int .i64 0, .string ⟨#[]⟩, .slice none 0 0, .int .i64 0, .int .i64 0, .string ⟨#[]⟩, .slice none 0 0, .int .i64 0, .int .i64 0, .string ⟨#[]⟩, .slice none 0 0, .bool false, .bool false, .bool false, .slice none 0 0] 80 (0, 0))) := heap_alloc_new wq7 _
     have hz := fcells HZ.out.2.1
     refine ⟨⟨cell_of_block HZ.out.1 0, hz⟩, ?_⟩
     clear hz
     refine Plan.step ?_
     go_wp2_with (at_builtin; go_must (refine wpList_appG _ (by rfl) _ _ 65 80 _ 21 272 Tryz.infoSf rfl (by decide) (by rfl) Tryz.underlying65 (w.heap.size + 2) (.slice la i lc) (by rfl) i _ HZ.out.2.2.1 _ (by rfl) (blankC x.f) (Reads.ofBlock (n := 1) (size := 21) HRZ.out rfl (by decide)) ((Sf0At.blank w (fun _ => True) x.f).one) (by omega) (by decide) (Nat.le_trans (Nat.succ_le_of_lt (Array.getElem?_eq_some_iff.1 HZ.out.1).1) (Nat.le_refl _)) ?_; intro a9 c9 w9 ho9 hk9 hb9))
     have hfn : fb ∉ ownB (.slice la i lc) := HZ.out.2.2.2.2.2.2.2.2.1.1
     have hs9 := (hk9.out.block _ (Array.getElem?_eq_some_iff.1 HZ.out.1).1 (fun hm => by have h1 := (ownB_ge HZ.out.2.2.1 _ hm).1; omega)).trans HZ.out.1
     have hf9 := (hk9.out.block _ (Array.getElem?_eq_some_iff.1 HZ.out.2.1).1 hfn).trans HZ.out.2.1
     refine ⟨⟨cell_of_block hs9 0, fcells hf9⟩, ?_⟩
     refine Plan.fin ?_
     have HD := hid (MidG.done HZ.out HX.out hk9.out ho9.out hb9.out)
     have t0 : w9.cell? ⟨w.heap.size + 1, 0, none⟩ = some (.slice la i lc) := cell_of_block hs9 0
     have t1 : w9.frozen? ⟨w.heap.size + 1, 0, none⟩ = false := frozen_of_row w9 _ 0 _ _ hs9
     clear hS hfn hs9 hf9 s0 sf f0 f1 f2 f3 f4
     go_wp2_with fail
     have hlt := HLT.out
     exact ⟨⟨i + 1, _, _, _, _, rfl, rfl, rfl, by omega, _, HD.out⟩, by simp [intOf]; omega⟩
   ·go_wp2_with fail
    have Hq8 := hid (HM3.out.k (by exact Keeps.K : Keeps [] w3 (w3.alloc (.cells #[.int .i64 x.f.typ] 3)).drew))
    have Rq8 : Hid ((w3.alloc (.cells #[.int .i64 x.f.typ] 3)).drew.heap[w3.heap.size]? = some (.cells #[.int .i64 x.f.typ] 3 (0, 0))) := heap_alloc_new w3 _
    refine ⟨⟨(fcells Hq8.out.2.1).1, (fcells Hq8.out.2.1).2.1⟩, ?_⟩
    refine Plan.stepT ?_
    go_wp2_with fail
    have Hq9 := hid (HM3.out.k (by exact Keeps.K : Keeps [] w3 ((w3.alloc (.cells #[.int .i64 x.f.typ] 3)).alloc (.cells #[.string (str x.f.name)] 9)).drew))
    have Rq9 : Hid (((w3.alloc (.cells #[.int .i64 x.f.typ] 3)).alloc (.cells #[.string (str x.f.name)] 9)).drew.heap[w3.heap.size + 1]? = some (.cells #[.string (str x.f.name)] 9 (0, 0))) := new2K w3 _ _
    have Sq9 : Hid (((w3.alloc (.cells #[.int .i64 x.f.typ] 3)).alloc (.cells #[.string (str x.f.name)] 9)).drew.heap[w3.heap.size]? = some (.cells #[.int .i64 x.f.typ] 3 (0, 0))) := alloc_old Rq8.out
    refine ⟨⟨(fcells Hq9.out.2.1).1, (fcells Hq9.out.2.1).2.1⟩, ?_⟩
    refine Plan.stepT ?_
    go_wp2_with (at_builtin; go_must (refine wpList_appG _ (by rfl) _ _ 69 9 _ 1 16 Tryz.infoStr rfl (by decide) (by rfl) Tryz.underlying69 (w.heap.size + 2) (.slice na i nc) (by rfl) i _ Hq9.out.2.2.2.2.1 _ (by rfl) [.string (str x.f.name)] (Reads.ofBlock (n := 1) Rq9.out rfl (by decide)) (fun u hu => by simp at hu; rw [hu]; rfl) (by omega) (by decide) (Nat.le_trans (Nat.succ_le_of_lt (Array.getElem?_eq_some_iff.1 Hq9.out.1).1) (Nat.le_refl _)) ?_; intro aq10 cq10 wq10 hoq10 hkq10 hbq10))
    have Hq10 := hid (MidG.names Hq9.out HX.out hkq10.out hoq10.out hbq10.out)
    have Sq10 : Hid (wq10.heap[w3.heap.size]? = some (.cells #[.int .i64 x.f.typ] 3 (0, 0))) := (hkq10.out.block _ (Array.getElem?_eq_some_iff.1 Sq9.out).1 (fun hm => by have h1 := (ownB_ge HM3.out.2.2.2.2.1 _ hm).2; omega)).trans Sq9.out
    refine ⟨⟨(fcells Hq10.out.2.1).1, (fcells Hq10.out.2.1).2.1⟩, ?_⟩
    refine Plan.stepT ?_
    go_wp2_with (at_builtin; go_must (refine wpList_appG _ (by rfl) _ _ 66 3 _ 1 8 Tryz.infoIn8 rfl (by decide) (by rfl) Tryz.underlying66 (w.heap.size + 2) (.slice ka i kc) (by rfl) i _ Hq10.out.2.2.2.2.2.1 _ (by rfl) [.int .i64 x.f.typ] (Reads.ofBlock (n := 1) Sq10.out rfl (by decide)) (fun u hu => by simp at hu; rw [hu]; rfl) (by omega) (by decide) (Nat.le_trans (Nat.succ_le_of_lt (Array.getElem?_eq_some_iff.1 Hq10.out.1).1) (Nat.le_refl _)) ?_; intro aq11 cq11 wq11 hoq11 hkq11 hbq11))
    have Hq11 := hid (MidG.kinds Hq10.out HX.out hkq11.out hoq11.out hbq11.out)
    refine ⟨⟨(fcells Hq11.out.2.1).1, (fcells Hq11.out.2.1).2.1⟩, ?_⟩
    iterate 2 (refine Plan.takeT (v := ?_) (a' := ?_) (Plan.want_all (by rfl)) ?_ ?_ ?_; rotate_left 2; (· (intro w' hS'; (try dsimp only at hS'); go_simp; try with_reducible rfl)); (· (simp only [Act.put, Plan.l1, Plan.l2, Plan.l3]; try with_reducible rfl)))
    refine Plan.finT ?_
    clear hS e0 e1 e2
    obtain ⟨f0, f1, f2, f3, f4⟩ := fcells Hq11.out.2.1
    have s0 : wq11.cell? ⟨w.heap.size + 1, 0, none⟩ = some (.slice la i lc) := cell_of_block Hq11.out.1 0
    have sf : wq11.frozen? ⟨w.heap.size + 1, 0, none⟩ = false := frozen_of_row wq11 _ 0 _ _ Hq11.out.1
    go_wp2_with fail
    refine Plan.wp_region_plan (fun wx => wx.cell? ⟨w.heap.size + 1, 0, none⟩ = some (.slice la i lc) ∧ wx.cell? ⟨fb, 0, none⟩ = some (.string (str x.f.name)) ∧ wx.cell? ⟨fb, 1, none⟩ = some (.int .i64 x.f.typ) ∧ wx.cell? ⟨fb, 2, none⟩ = some (.string (str x.f.formula)) ∧ wx.cell? ⟨fb, 3, none⟩ = some (.string (str x.f.rule)) ∧ wx.cell? ⟨fb, 4, none⟩ = some (.string (str x.f.shown))) 9 [(true, 0), (true, 1), (true, 2), (true, 3), (true, 4), (true, 5), (true, 6), (false, 7), (false, 8)] (by kernel_rfl) (by as_aux_lemma => kernel_rfl) (by kernel_rfl) (fun _ _ _ _ _ h => h) ?_ (fun hS => ?_)
    (·go_simp)
    simp only [Plan.pick, List.append_eq, List.cons_append, List.nil_append, Plan.g1, Plan.g2, Option.getD_some, List.drop_succ_cons, List.drop_zero]
    iterate 7 (first | refine Plan.tA ?_ | refine Plan.tY ?_ | refine Plan.pN ?_ | refine Plan.pU ?_ | fail)
    refine Plan.step ?_
    go_wp2_with fail
    have HZ := hid (Hq11.out.k (by exact Keeps.K : Keeps [] wq11 (wq11.alloc (.cells #[.string (str x.f.name), .int .i64 x.f.typ, .string (str x.f.formula), .string (str x.f.rule), .string (str x.f.shown), .int .i64 0, .int .i64 0, .string ⟨#[]⟩, .slice none 0 0, .int .i64 0, .int .i64 0, .string ⟨#[]⟩, .slice none 0 0, .int .i64 0, .int .i64 0, .string ⟨#[]⟩, .slice none 0 0, .bool false, .bool false, .bool false, .slice none 0 0] 80)).drew))
    have HRZ : Hid ((wq11.alloc (.cells #[.string (str x.f.name), .int .i64 x.f.typ, .string (str x.f.formula), .string (str x.f.rule), .string (str x.f.shown), .int .i64 0, .int .i64 0, .string ⟨#[]⟩, .slice none 0 0, .int .i64 0, .int .i64 0, .string ⟨#[]⟩, .slice none 0 0, .int .i64 0, .int .i64 0, .string ⟨#[]⟩, .slice none 0 0, .bool false, .bool false, .bool false, .slice none 0 0] 80)).drew.heap[wq11.heap.size]? = some (.cells #[.string (str x.f.name), .int .i64 x.f.typ, .string (str x.f.formula), .string (str x.f.rule), .string (str x.f.shown), .int .i64 0, .int .i64 0, .string ⟨#[]⟩, .slice none 0 0, .int .i64 0, .int .i64 0, .string ⟨#[]⟩, .slice none 0 0, .int .i64 0, .int .i64 0, .string ⟨#[]⟩, .slice none 0 0, .bool false, .bool false, .bool false, .slice none 0 0] 80 (0, 0))) := heap_alloc_new wq11 _
    have hz := fcells HZ.out.2.1
    refine ⟨⟨cell_of_block HZ.out.1 0, hz⟩, ?_⟩
    clear hz
    refine Plan.step ?_
    go_wp2_with (at_builtin; go_must (refine wpList_appG _ (by rfl) _ _ 65 80 _ 21 272 Tryz.infoSf rfl (by decide) (by rfl) Tryz.underlying65 (w.heap.size + 2) (.slice la i lc) (by rfl) i _ HZ.out.2.2.1 _ (by rfl) (blankC x.f) (Reads.ofBlock (n := 1) (size := 21) HRZ.out rfl (by decide)) ((Sf0At.blank w (fun _ => True) x.f).one) (by omega) (by decide) (Nat.le_trans (Nat.succ_le_of_lt (Array.getElem?_eq_some_iff.1 HZ.out.1).1) (Nat.le_refl _)) ?_; intro a9 c9 w9 ho9 hk9 hb9))
    have hfn : fb ∉ ownB (.slice la i lc) := HZ.out.2.2.2.2.2.2.2.2.1.1
    have hs9 := (hk9.out.block _ (Array.getElem?_eq_some_iff.1 HZ.out.1).1 (fun hm => by have h1 := (ownB_ge HZ.out.2.2.1 _ hm).1; omega)).trans HZ.out.1
    have hf9 := (hk9.out.block _ (Array.getElem?_eq_some_iff.1 HZ.out.2.1).1 hfn).trans HZ.out.2.1
    refine ⟨⟨cell_of_block hs9 0, fcells hf9⟩, ?_⟩
    refine Plan.fin ?_
    have HD := hid (MidG.done HZ.out HX.out hk9.out ho9.out hb9.out)
    have t0 : w9.cell? ⟨w.heap.size + 1, 0, none⟩ = some (.slice la i lc) := cell_of_block hs9 0
    have t1 : w9.frozen? ⟨w.heap.size + 1, 0, none⟩ = false := frozen_of_row w9 _ 0 _ _ hs9
    clear hS hfn hs9 hf9 s0 sf f0 f1 f2 f3 f4
    go_wp2_with fail
    have hlt := HLT.out
    exact ⟨⟨i + 1, _, _, _, _, rfl, rfl, rfl, by omega, _, HD.out⟩, by simp [intOf]; omega⟩
  ·obtain rfl : i = n := by omega
   have htk : fs.take i = fs := by rw [← HN.out, List.take_length]
   have htk2 : (fs.map (·.f.name)).take i = fs.map (·.f.name) := by rw [← List.map_take, htk]
   have hW := HW.out
   unfold NwAt at hW
   rw [htk, htk2] at hW
   obtain ⟨hs1, ho1, ha1, hn1, hc1, hd1, hd2, hk1⟩ := hW
   obtain ⟨g, rfl⟩ : ∃ g, la = some ⟨g, 0, none⟩ := by
    obtain ⟨_, ⟨e1, e2⟩ | ⟨g, cap, cur, e1, _⟩⟩ := ho1
    ·omega
    ·simp only [Value.slice.injEq] at e1
     exact ⟨g, e1.1⟩
   have hrow : RowAt wr (w.heap.size + 2) g i lc (fs.map fun x => blankC x.f) := ⟨ho1, fun c hc => by
    obtain ⟨x, _, rfl⟩ := List.mem_map.1 hc
    exact (Sf0At.blank w (fun _ => True) x.f).len, by simp [HN.out]⟩
   have hgw := ownB_ge ho1 g (by simp [mem_ownB, Value.ownBlock])
   have hgn : g ∉ ownB (.slice na i nc) ∧ g ∉ ownB (.slice ka i kc) := hd1 g (by simp [mem_ownB, Value.ownBlock])
   have HS1 := hid hs1
   have HA1 := hid ha1
   have KW1 := hid hk1
   have HG := hid (And.intro hgw hgn)
   have HR1 := hid (Reads.ofOwn hn1)
   have HR2 := hid (Reads.ofOwn hc1)
   have HRS : Hid (RdsAt wr wr (w.heap.size + 2) g i lc fs 0 (fs.map fun x => blankC x.f)) := ⟨hrow, fun k cs x hc hx => by
    rw [List.getElem?_map, hx] at hc
    rw [if_neg (Nat.not_lt_zero _)]
    simpa using hc.symm, Keeps.refl _ _⟩
   have s0 : wr.cell? ⟨w.heap.size + 1, 0, none⟩ = some (.slice (some ⟨g, 0, none⟩) i lc) := cell_of_block hs1 0
   obtain ⟨W1, hW1⟩ : ∃ W1, wr = W1 := ⟨_, rfl⟩
   subst hW1
   clear htk htk2 hs1 ho1 ha1 hn1 hc1 hd1 hd2 hk1 hrow hgw hgn HW hi hmm
   go_wp2_with fail
   go_loopw [98] (fun jv w2 => ∃ j : Nat, jv = .int .i64 (j : Int) ∧ j ≤ i ∧ Hid (∃ css, RdsAt wr w2 (w.heap.size + 2) g i lc fs j css)) (fun jv _ => i - (intOf jv).toNat)
   case atStart => exact ⟨0, rfl, Nat.zero_le _, _, HRS.out.k (by exact Keeps.K)⟩
   case round =>
    clear HRS
    obtain ⟨j, rfl, hj, hV⟩ := hrel
    obtain ⟨css, hV⟩ := hV.out
    have HV := hid hV
    clear hV
    have j0 : (0 : Int) ≤ (j : Int) := Int.natCast_nonneg _
    have HVG : Hid (g ≠ w.heap.size + 1) := by have := HG.out.1.1; show _ ≠ _; omega
    have u0 : wr.cell? ⟨w.heap.size + 1, 0, none⟩ = some (.slice (some ⟨g, 0, none⟩) i lc) := HV.out.2.2.cellSome s0 (by have := HVG.out; simp; omega)
    by_cases hjl : j < i
    ·have j1 : (j : Int) < (i : Int) := by omega
     obtain ⟨x, hx⟩ : ∃ x, fs[j]? = some x := ⟨_, List.getElem?_eq_getElem (by rw [HN.out]; exact hjl)⟩
     have hxm := List.mem_of_getElem? hx
     obtain ⟨cs, hcs⟩ : ∃ cs, css[j]? = some cs := ⟨_, List.getElem?_eq_getElem (by rw [HV.out.1.2.2]; exact hjl)⟩
     have hcb := HV.out.2.1 j cs x hcs hx
     rw [if_neg (Nat.lt_irrefl _)] at hcb
     subst hcb
     have hok := HOK.out x hxm
     have hex := HEX.out x hxm
     have hrd : RoAt wr (w.heap.size + 2) g i lc j css (fun b => wr.heap.size ≤ b) x.f none none none := ⟨_, Sf0At.blank _ _ _, by rw [set_same hcs]; exact HV.out.1, by rw [HV.out.1.2.2]; exact hjl⟩
     have hte : TE W0 wr := (HTE.out _ KW1.out).keep HV.out.2.2 (by
      have h0 := (HTE.out _ (Keeps.refl _ _)).k0.size
      have := HG.out.1.1
      simp; omega)
     have hcall := scReads_ok x.f x.formula x.rule x.shown (fs.map fun x => str x.f.name) (fs.map (·.f.typ)) g i lc j (w.heap.size + 2) css na ka nc kc i wr W0 hte (by
      have h0 := (HTE.out _ (Keeps.refl _ _)).k0.size
      have := HG.out.1.1
      omega) hrd (by simp [HN.out]) (by simp [HN.out]) (by have h := HR1.out.keeps HV.out.2.2 (fun b hb hm => by simp at hm; subst hm; exact HG.out.2.1 hb); rw [List.map_map]; exact h) (HR2.out.keeps HV.out.2.2 (fun b hb hm => by simp at hm; subst hm; exact HG.out.2.2 hb)) (fun b hb hm => by simp at hm; subst hm; exact HG.out.2.1 hb) (fun b hb hm => by simp at hm; subst hm; exact HG.out.2.2 hb) (by omega) (by omega) hex.1 hex.2.1 hex.2.2
     have HC := hid hcall
     have HX := hid hx
     have HJ := hid hjl
     clear hx hxm hcs hok hex hrd hte hcall hjl
     go_wp2_with fail
     refine HC.out.mono ?_
     rintro _ w6 ⟨rfl, ⟨cs', hs', hr', _⟩, hk'⟩
     have HST := hid (HV.out.step HG.out.1.2 HX.out hr' hs' hk')
     clear hs' hr' hk' HC
     go_wp2_with fail
     exact ⟨⟨j + 1, rfl, HJ.out, _, HST.out.k (by exact Keeps.K)⟩, by have := HJ.out; simp [intOf]; omega⟩
    ·obtain rfl : j = i := by omega
     have hg2 := HG.out.1
     have hlk : LkAt wr (w.heap.size + 2) g j lc (fun b => (b ≠ g ∧ w.heap.size + 2 ≤ b) ∧ b < wr.heap.size) fs 0 css := ⟨HV.out.1, HN.out, fun k cs x hc hx => by
      have h := HV.out.2.1 k cs x hc hx
      rw [if_pos (by have := (List.getElem?_eq_some_iff.1 hc).1; rw [HV.out.1.2.2] at this; exact this)] at h
      rw [if_neg (Nat.not_lt_zero _)]
      exact h.mono (fun b hb hp => ⟨⟨by omega, by omega⟩, hb⟩)⟩
     have hte : TE W0 wr := (HTE.out _ KW1.out).keep HV.out.2.2 (by
      have h0 := (HTE.out _ (Keeps.refl _ _)).k0.size
      simp; omega)
     have hsb := (HV.out.2.2.block (w.heap.size + 1) (Array.getElem?_eq_some_iff.1 HS1.out).1 (by simp; omega)).trans HS1.out
     have hat := HA1.out.keep HV.out.2.2 (by simp; omega)
     have hlc := scLinks_ok (w.heap.size + 1) g j lc (w.heap.size + 2) w.heap.size (.slice none 0 0) fs css _ wr W0 hte (by
      have h0 := (HTE.out _ (Keeps.refl _ _)).k0.size
      omega) hsb (by omega) (by omega) hat hlk (fun b hb => ⟨hb.1.1, hb.2⟩) HNE.out (by omega)
     have HLC := hid hlc
     have HSB := hid hsb
     have HAT := hid hat
     have HZW : Hid (w.heap.size + 2 ≤ wr.heap.size) := by have h1 := HV.out.2.2.size; show _ ≤ _; omega
     have KW2 : Hid (Keeps [] w wr) := KW1.out.trans HV.out.2.2 (fun b hb hm => by simp at hm; omega)
     clear hlk hte hsb hat hlc
     go_wp2_with fail
     refine HLC.out.mono ?_
     rintro _ w7 ⟨a7, c7, css7, rfl, hl7, hk7, hkp7⟩
     have hoc := grOrder_ok j (fs.map (·.needs)) _ a7 c7 w7 h1 (by omega) (by simp [HN.out]) hl7 HS.out.1 HS.out.2.1
     have HOC := hid hoc
     have HK7 := hid hk7
     have KP7 := hid hkp7
     have HSB7 : Hid (w7.heap[w.heap.size + 1]? = some (.cells #[.slice (some ⟨g, 0, none⟩) j lc, .map (some w.heap.size), .slice none 0 0] 68 (0, 0))) := (hkp7.block (w.heap.size + 1) (Array.getElem?_eq_some_iff.1 HSB.out).1 (by simp; omega)).trans HSB.out
     have HAT7 := hid (HAT.out.keep hkp7 (by simp; omega))
     have KW7 : Hid (Keeps [] w w7) := KW2.out.trans hkp7 (fun b hb hm => by simp at hm; omega)
     clear hl7 hk7 hkp7 hoc HLC
     go_wp2_with fail
     refine HOC.out.mono ?_
     rintro _ w8 ⟨a8, c8, rfl, ho8, hk8⟩
     obtain ⟨od, hod⟩ : ∃ od, (orderQ j (fs.map (·.needs))).1 = od := ⟨_, rfl⟩
     have hol := HS.out.2
     rw [hod] at hol ho8
     have HOL := hid hol
     have HOD := hid hod
     have HO8 := hid ho8
     have HK8 := hid (HK7.out.keep hk8 (by simp) (fun _ _ => by simp))
     have HSB8 := hid ((hk8.block (w.heap.size + 1) (Array.getElem?_eq_some_iff.1 HSB7.out).1 (by simp)).trans HSB7.out)
     have HAT8 := hid (HAT7.out.keep hk8 (by simp))
     have KW8 : Hid (Keeps [] w w8) := KW7.out.trans hk8 (fun _ _ h => by cases h)
     have h78 : w7.heap.size ≤ w8.heap.size := hk8.size
     clear hol hod ho8 hk8 HOC
     go_wp2_with fail
     go_step3
     go_wp2_with fail
     obtain ⟨g8, rfl⟩ : ∃ g8, a8 = some ⟨g8, 0, none⟩ := by
      obtain ⟨_, ⟨e1, e2⟩ | ⟨g8, cap, cur, e1, _⟩⟩ := HO8.out
      ·omega
      ·simp only [Value.slice.injEq] at e1
       exact ⟨g8, e1.1⟩
     have HG8 := hid (ownB_ge HO8.out g8 (by simp [mem_ownB, Value.ownBlock]))
     have HOA : Hid (OrdAt w8 w8 (w.heap.size + 1) w.heap.size (.slice (some ⟨g, 0, none⟩) j lc) fs od 0 0 none 0) := ⟨HSB8.out, rfl, World.ownsRow_nil _ _ _ _, Keeps.refl _ _⟩
     have HZ8 : Hid (w.heap.size + 1 < w8.heap.size) := (Array.getElem?_eq_some_iff.1 HSB8.out).1
     go_loopw [134] (fun kv w9 => ∃ k : Nat, kv = .int .i64 (k : Int) ∧ k ≤ j ∧ Hid (∃ m oa oc, OrdAt w8 w9 (w.heap.size + 1) w.heap.size (.slice (some ⟨g, 0, none⟩) j lc) fs od k m oa oc)) (fun kv _ => j - (intOf kv).toNat)
     case atStart => exact ⟨0, rfl, Nat.zero_le _, _, _, _, HOA.out.k (by exact Keeps.K)⟩
     case round =>
      clear HOA
      obtain ⟨k, rfl, hk, hU⟩ := hrel
      obtain ⟨m, oa, oc, hU⟩ := hU.out
      have HU := hid hU
      clear hU
      have k0 : (0 : Int) ≤ (k : Int) := Int.natCast_nonneg _
      have v0 : wr.cell? ⟨w.heap.size + 1, 0, none⟩ = some (.slice (some ⟨g, 0, none⟩) j lc) := cell_of_block HU.out.1 0
      have v2 : wr.cell? ⟨w.heap.size + 1, 2, none⟩ = some (.slice oa m oc) := cell_of_block HU.out.1 2
      have v2f : wr.frozen? ⟨w.heap.size + 1, 2, none⟩ = false := frozen_of_row wr _ 2 _ _ HU.out.1
      by_cases hkl : k < j
      ·have k1 : (k : Int) < (j : Int) := by omega
       obtain ⟨y, hy⟩ : ∃ y, od[k]? = some y := ⟨_, List.getElem?_eq_getElem (by rw [HOL.out.1]; exact hkl)⟩
       have hyj : y < j := HOL.out.2 y (List.mem_of_getElem? hy)
       have y0 : (0 : Int) ≤ (y : Int) := Int.natCast_nonneg _
       have y1 : (y : Int) < (j : Int) := by omega
       have c8y : wr.cell? ⟨g8, k, none⟩ = some (.int .i64 (y : Int)) := HU.out.2.2.2.cellSome (natrow_cell HO8.out hy) (by
        have h1 := HG8.out.1
        have h2 := (Array.getElem?_eq_some_iff.1 HSB7.out).1
        simp; omega)
       obtain ⟨x, hx⟩ : ∃ x, fs[y]? = some x := ⟨_, List.getElem?_eq_getElem (by rw [HN.out]; exact hyj)⟩
       obtain ⟨cs, hcs⟩ : ∃ cs, css7[y]? = some cs := ⟨_, List.getElem?_eq_getElem (by rw [HK8.out.1.2.2]; exact hyj)⟩
       have hsf := HK8.out.2.2 y cs x hcs hx
       rw [if_pos hyj] at hsf
       have c17 : wr.cell? ⟨g, y * 21 + 17, none⟩ = some (.bool x.formula.isSome) := HU.out.2.2.2.cellSome ((HK8.out.1.cell hcs (j := 17) (by decide)).1.trans hsf.tail) (by have := HG.out.1.1; simp; omega)
       have hisf : isF fs y = x.formula.isSome := by unfold isF; rw [hx]
       have HTK : Hid ((od.take (k + 1)).filter (isF fs) = (od.take k).filter (isF fs) ++ (if x.formula.isSome = true then [y] else [])) := by
        show _ = _
        rw [List.take_add_one, hy, List.filter_append]
        congr 1
        simp only [Option.toList_some, List.filter_cons, List.filter_nil, hisf]
       have hml : m ≤ k := by
        rw [← HU.out.2.1]
        exact Nat.le_trans (List.length_filter_le _ _) (by simp; omega)
       have HKL := hid hkl
       clear hx hcs hsf hisf hy hkl
       obtain ⟨fx, o1, o2, o3, nx⟩ := x
       rcases o1 with _ | e
       ·have htk := HTK.out
        simp only [Option.isSome_none, Bool.false_eq_true, if_false, List.append_nil] at htk c17
        have HU2 : Hid (OrdAt w8 wr (w.heap.size + 1) w.heap.size (.slice (some ⟨g, 0, none⟩) j lc) fs od (k + 1) m oa oc) := by
         have h := HU.out
         unfold OrdAt at h
         rw [← htk] at h
         exact h
        clear htk
        go_wp2_with fail
        exact ⟨⟨k + 1, rfl, HKL.out, _, _, _, HU2.out.k (by exact Keeps.K)⟩, by have := HKL.out; simp [intOf]; omega⟩
       ·have htk := HTK.out
        simp only [Option.isSome_some, if_true] at htk c17
        have HT2 := hid htk
        have KA : Hid (Keeps [] wr (wr.alloc (.cells #[.int .i64 (y : Int)] 3))) := by show Keeps _ _ _; exact Keeps.K
        have HRW : Hid ((wr.alloc (.cells #[.int .i64 (y : Int)] 3)).heap[wr.heap.size]? = some (.cells #[.int .i64 (y : Int)] 3 (0, 0))) := heap_alloc_new wr _
        clear htk
        go_wp2_with (at_builtin; go_must (refine wpList_appI _ (by rfl) _ _ (by rfl) w8.heap.size (.slice oa m oc) (by rfl) ((od.take k).filter (isF fs)) m HU.out.2.1 (ownsRow_keeps HU.out.2.2.1 KA.out (fun _ _ h => by cases h)) _ (by rfl) y (Reads.ofBlock (n := 1) HRW.out rfl (by decide)) (by omega) (Nat.le_trans HU.out.2.2.2.size KA.out.size) ?_; intro a9 c9 w9 ho9 hk9 hb9; have K9 : Hid (Keeps (ownB (.slice oa m oc)) wr w9) := (KA.out.mono (G := ownB (.slice oa m oc)) (fun _ _ h => by cases h)).trans hk9.out (fun _ _ h => h); have HS9 := hid ((K9.out.block (w.heap.size + 1) (Array.getElem?_eq_some_iff.1 HU.out.1).1 (fun hm => by have h1 := (ownB_ge HU.out.2.2.1 _ hm).1; have := HZ8.out; omega)).trans HU.out.1); have z2 : w9.cell? ⟨w.heap.size + 1, 2, none⟩ = some (.slice oa m oc) := cell_of_block HS9.out 2; have z2f : w9.frozen? ⟨w.heap.size + 1, 2, none⟩ = false := frozen_of_row w9 _ 2 _ _ HS9.out))
        have HU2 : Hid (OrdAt w8 (w9.setCell ⟨w.heap.size + 1, 2, none⟩ (.slice a9 (m + 1) c9)) (w.heap.size + 1) w.heap.size (.slice (some ⟨g, 0, none⟩) j lc) fs od (k + 1) (m + 1) a9 c9) := by
         have hst := heap_setCell_same w9 (w.heap.size + 1) 2 _ _ (.slice a9 (m + 1) c9) HS9.out
         simp only [List.setIfInBounds_toArray, List.set_cons_zero, List.set_cons_succ] at hst
         have hz := HZ8.out
         have kS : Keeps [w.heap.size + 1] w9 (w9.setCell ⟨w.heap.size + 1, 2, none⟩ (.slice a9 (m + 1) c9)) := (Keeps.refl _ _).setCell (.inl (by simp)) _
         refine ⟨hst, by rw [HT2.out]; simp [HU.out.2.1], ?_, (HU.out.2.2.2.trans K9.out (fun b hb hm => by have h1 := (ownB_ge HU.out.2.2.1 b hm).1; omega)).trans kS (fun _ _ h => h)⟩
         rw [HT2.out]
         exact ownsRow_keeps ho9.out kS (fun b hb hm => by have h1 := (ownB_ge ho9.out b hb).1; simp at hm; omega)
        exact ⟨⟨k + 1, rfl, HKL.out, _, _, _, HU2.out.k (by exact Keeps.K)⟩, by have := HKL.out; simp [intOf]; omega⟩
      ·obtain rfl : k = j := by omega
       have htk : od.take k = od := by rw [← HOL.out.1, List.take_length]
       have HU3 := hid HU.out
       have hwz : w.heap.size + 2 ≤ w7.heap.size := by have h1 := (Array.getElem?_eq_some_iff.1 HSB7.out).1; omega
       have HKZ := hid hwz
       go_wp2_with fail
       rw [Exit.noGoto_ret]
       refine bodyPost_ret (v := .tuple #[ptrV (w.heap.size + 1), .int .i64 0, .int .i64 0]) (by simp [results, Tryz.results11, go_sem, ptrV]) rfl ?_
       have hu := HU3.out
       unfold OrdAt at hu
       rw [htk] at hu
       obtain ⟨hu1, hu2, hu3, hu4⟩ := hu
       have hel : ElemsAt sfL w8 (fun b => w.heap.size + 2 ≤ b) css7 fs := ⟨by rw [HK8.out.1.2.2, HN.out], fun i cs x hc hx => by
        have h := HK8.out.2.2 i cs x hc hx
        rw [if_pos (by have := (List.getElem?_eq_some_iff.1 hc).1; rw [HK8.out.1.2.2] at this; exact this)] at h
        refine h.mono (fun b _ hb => ?_)
        rcases hb with hb | hb
        ·exact hb.1.2
        ·have h1 := KW1.out.size
         have h2 := HG.out.1
         have h3 := HZW.out
         omega⟩
       have hls : ListAt sfL w8 (fun b => w.heap.size + 2 ≤ b) (.slice (some ⟨g, 0, none⟩) k lc) fs := ⟨css7, hel, by rw [HN.out]; exact Reads.ofOwn HK8.out.1.1, fun _ b hb => (ownB_ge HK8.out.1.1 b hb).1⟩
       refine ⟨w.heap.size + 1, rfl, by omega, ⟨_, _, _, hu1, by show _ ≤ _; omega, Nat.le_refl _, (hls.keep hu4 (fun b hb hm => by simp at hm; omega)).mono (fun b _ hb => by omega), HAT8.out.keep hu4 (by simp), ?_, ?_⟩, KW8.out.trans hu4 (fun b hb hm => by simp at hm; omega)⟩
       ·rw [HN.out, HOD.out, hu2]
        exact Reads.ofOwn hu3
       ·exact fun _ b hb => by
         have h1 := (ownB_ge hu3 b hb).1
         have h2 := HZ8.out
         omega
end Go.Proofs.YtgjiahilbmeaeaaGreatDoor