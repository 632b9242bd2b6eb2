/- What must come ahead: the order. -/
import Derived.Test.YtgjiahilbmeaeaaGreatDoorR12
set_option linter.unusedSimpArgs false
set_option linter.unusedVariables false
namespace Go.Proofs.YtgjiahilbmeaeaaGreatDoor
open Go Go.RowKit
def linkP (i : Nat) (st : List Int × List (List Nat)) (k : Nat) : List Int × List (List Nat) :=
 (st.1.set i (IntKind.i64.wrap (st.1.getD i 0 + 1)), st.2.set k (st.2.getD k [] ++ [i]))
def linksP (n : Nat) (needs : List (List Nat)) (i : Nat) (st : List Int × List (List Nat)) : List Int × List (List Nat) := (listP n needs i).foldl (linkP i) st
def buildP (n : Nat) (needs : List (List Nat)) (m : Nat) : List Int × List (List Nat) := (List.range m).foldl (fun st i => linksP n needs i st) (List.replicate n 0, List.replicate n [])
def unlinkP (ws : List Int) (k : Nat) : List Int := ws.set k (IntKind.i64.wrap (ws.getD k 0 - 1))
def pickP (n : Nat) (told : List Bool) (ws : List Int) : Option Nat := (List.range n).find? fun i => !(told.getD i false || decide (0 < ws.getD i 0))
def tellP (n : Nat) (back : List (List Nat)) : Nat → List Int → List Bool → List Nat → List Nat × List Bool
 | 0, _, told, l => (l, told)
 | f + 1, ws, told, l => match pickP n told ws with
   | none => (l, told)
   | some i => tellP n back f ((back.getD i []).foldl unlinkP ws) (told.set i true) (l ++ [i])
def orderQ (n : Nat) (needs : List (List Nat)) : List Nat × List Bool := tellP n (buildP n needs n).2 n (buildP n needs n).1 (List.replicate n false) []
structure GrAt (w : World) (off : Nat → Prop) (H gw gb gt : Nat) (ws : List Int) (back : List (List Nat)) (told : List Bool) : Prop where
 lt : gw < H ∧ gb < H ∧ gt < H ∧ H ≤ w.heap.size ∧ gw ≠ gb ∧ gw ≠ gt ∧ gb ≠ gt
 wants : w.heap[gw]? = some (.cells (i64s ws).toArray 3 (0, 0))
 told : w.heap[gt]? = some (.cells (told.map Value.bool).toArray 4 (0, 0))
 back : ∃ vs : List Value, w.heap[gb]? = some (.cells vs.toArray 66 (0, 0)) ∧ vs.length = back.length ∧ (∀ (k : Nat) (v : Value) (l : List Nat), vs[k]? = some v → back[k]? = some l → w.ownsRow H 3 1 v l.length (natC l)) ∧ (∀ (j k : Nat) (v u : Value), j ≠ k → vs[j]? = some v → vs[k]? = some u → ∀ b ∈ ownB v, b ∉ ownB u) ∧ ∀ (k : Nat) (v : Value), vs[k]? = some v → ∀ b ∈ ownB v, ¬ off b
theorem GrAt.k {w w' : World} {off : Nat → Prop} {H gw gb gt : Nat} {ws : List Int} {back : List (List Nat)} {told : List Bool} (h : GrAt w off H gw gb gt ws back told) (k : Keeps [] w w') : GrAt w' off H gw gb gt ws back told := by
 obtain ⟨⟨h1, h2, h3, h4, h5⟩, a1, a2, vs, a3, a4, a5, a6, a7⟩ := h
 refine ⟨⟨h1, h2, h3, Nat.le_trans h4 k.size, h5⟩, (k.block gw (by omega) (by simp)).trans a1, (k.block gt (by omega) (by simp)).trans a2, vs, (k.block gb (by omega) (by simp)).trans a3, a4, fun i v l hv hl => ownsRow_keeps (a5 i v l hv hl) k (fun _ _ h => by cases h), a6, a7⟩
theorem GrAt.setWant {w : World} {off : Nat → Prop} {H gw gb gt : Nat} {ws : List Int} {back : List (List Nat)} {told : List Bool} (h : GrAt w off H gw gb gt ws back told) (i : Nat) (x : Int) : GrAt (w.setCell ⟨gw, i, none⟩ (.int .i64 x)) off H gw gb gt (ws.set i x) back told := by
 obtain ⟨⟨h1, h2, h3, h4, h5, h6, h7⟩, a1, a2, vs, a3, a4, a5, a6, a7⟩ := h
 have k : Keeps [gw] w (w.setCell ⟨gw, i, none⟩ (.int .i64 x)) := (Keeps.refl _ _).setCell (.inl (by simp)) _
 refine ⟨⟨h1, h2, h3, by simpa using h4, h5, h6, h7⟩, ?_, (k.block gt (by omega) (by simp; omega)).trans a2, vs, (k.block gb (by omega) (by simp; omega)).trans a3, a4, fun j v l hv hl => ownsRow_keeps (a5 j v l hv hl) k (fun b hb e => by have := (ownB_ge (a5 j v l hv hl) b hb).1; simp at e; omega), a6, a7⟩
 have e := heap_setCell_same w gw i _ _ (.int .i64 x) a1
 rw [e]
 unfold i64s
 rw [List.setIfInBounds_toArray, List.map_set]
theorem GrAt.setTold {w : World} {off : Nat → Prop} {H gw gb gt : Nat} {ws : List Int} {back : List (List Nat)} {told : List Bool} (h : GrAt w off H gw gb gt ws back told) (i : Nat) (x : Bool) : GrAt (w.setCell ⟨gt, i, none⟩ (.bool x)) off H gw gb gt ws back (told.set i x) := by
 obtain ⟨⟨h1, h2, h3, h4, h5, h6, h7⟩, a1, a2, vs, a3, a4, a5, a6, a7⟩ := h
 have k : Keeps [gt] w (w.setCell ⟨gt, i, none⟩ (.bool x)) := (Keeps.refl _ _).setCell (.inl (by simp)) _
 refine ⟨⟨h1, h2, h3, by simpa using h4, h5, h6, h7⟩, (k.block gw (by omega) (by simp; omega)).trans a1, ?_, vs, (k.block gb (by omega) (by simp; omega)).trans a3, a4, fun j v l hv hl => ownsRow_keeps (a5 j v l hv hl) k (fun b hb e => by have := (ownB_ge (a5 j v l hv hl) b hb).1; simp at e; omega), a6, a7⟩
 have e := heap_setCell_same w gt i _ _ (.bool x) a2
 rw [e, List.setIfInBounds_toArray, List.map_set]
theorem GrAt.grow {w w6 : World} {off : Nat → Prop} {H gw gb gt k n q : Nat} {ws : List Int} {back : List (List Nat)} {told : List Bool} {vs : List Value} {v : Value} {l : List Nat} {y : Nat} {a6 : Option Addr} (h : GrAt w off H gw gb gt ws back told) (h3 : w.heap[gb]? = some (.cells vs.toArray 66 (0, 0)))
 (hv : vs[k]? = some v) (hl : back[k]? = some l) (hn : l.length = n) (ho : w6.ownsRow H 3 1 (.slice a6 (n + 1) q) (n + 1) (natC (l ++ [y]))) (hk : Keeps (ownB v) w w6) (hn6 : ∀ b ∈ ownB (.slice a6 (n + 1) q), b ∈ ownB v ∨ w.heap.size ≤ b) (hoff : ∀ b, off b → b < w.heap.size) :
 GrAt (w6.setCell ⟨gb, k, none⟩ (.slice a6 (n + 1) q)) off H gw gb gt ws (back.set k (l ++ [y])) told := by
 obtain ⟨⟨h1, h2, h3', h4, h5, h6, h7⟩, a1, a2, vs', a3, a4, a5, a6', a7⟩ := h
 obtain rfl : vs' = vs := by
  rw [a3] at h3
  simpa using h3
 have hge := fun b hb => (ownB_ge (a5 k v l hv hl) b hb).1
 have hlt := fun j v l hv hl b hb => (ownB_ge (a5 j v l hv hl) b hb).2
 have kk : Keeps [gb] w6 (w6.setCell ⟨gb, k, none⟩ (.slice a6 (n + 1) q)) := (Keeps.refl _ _).setCell (.inl (by simp)) _
 have hs6 := hk.size
 have nm : ∀ g, g < H → g ∉ ownB v := fun g hg hm => by have := hge g hm; omega
 have b3 := (hk.block gb (by omega) (nm gb h2)).trans a3
 refine ⟨⟨h1, h2, h3', by simp; omega, h5, h6, h7⟩, (kk.block gw (by omega) (by simp; omega)).trans ((hk.block gw (by omega) (nm gw h1)).trans a1), (kk.block gt (by omega) (by simp; omega)).trans ((hk.block gt (by omega) (nm gt h3')).trans a2), vs'.set k (.slice a6 (n + 1) q), ?_, by simpa using a4, fun j v2 l2 hv2 hl2 => ?_, fun i j v1 v2 hij hv1 hv2 b hb1 hb2 => ?_, fun j v2 hv2 b hb ho => ?_⟩
 ·rw [heap_setCell_same w6 gb k _ _ _ b3, List.setIfInBounds_toArray]
 ·by_cases hj : k = j
  ·subst hj
   rw [List.getElem?_set_self (List.getElem?_eq_some_iff.1 hv).1] at hv2
   rw [List.getElem?_set_self (List.getElem?_eq_some_iff.1 hl).1] at hl2
   cases hv2
   cases hl2
   have e : (l ++ [y]).length = n + 1 := by simp [hn]
   rw [e]
   exact ownsRow_keeps ho kk (fun b hb e => by have := (ownB_ge ho b hb).1; simp at e; omega)
  ·rw [List.getElem?_set_ne hj] at hv2 hl2
   have h8 := a5 j v2 l2 hv2 hl2
   exact ownsRow_keeps (ownsRow_keeps h8 hk (fun b hb hm => a6' j k v2 v (Ne.symm hj) hv2 hv b hb hm)) kk (fun b hb e => by have := (ownB_ge h8 b hb).1; simp at e; omega)
 ·have key : ∀ j v2, k ≠ j → vs'[j]? = some v2 → ∀ b ∈ ownB (.slice a6 (n + 1) q), b ∉ ownB v2 := fun j v2 hj hv2 b hb hm => by
   obtain ⟨l2, hl2⟩ : ∃ l2, back[j]? = some l2 := ⟨_, List.getElem?_eq_getElem (by rw [← a4]; exact (List.getElem?_eq_some_iff.1 hv2).1)⟩
   rcases hn6 b hb with h | h
   ·exact a6' k j v v2 hj hv hv2 b h hm
   ·have := hlt j v2 l2 hv2 hl2 b hm
    omega
  by_cases hi : k = i
  ·subst hi
   rw [List.getElem?_set_self (List.getElem?_eq_some_iff.1 hv).1] at hv1
   cases hv1
   rw [List.getElem?_set_ne hij] at hv2
   exact key j v2 hij hv2 b hb1 hb2
  ·rw [List.getElem?_set_ne hi] at hv1
   by_cases hj : k = j
   ·subst hj
    rw [List.getElem?_set_self (List.getElem?_eq_some_iff.1 hv).1] at hv2
    cases hv2
    exact key i v1 hi hv1 b hb2 hb1
   ·rw [List.getElem?_set_ne hj] at hv2
    exact a6' i j v1 v2 hij hv1 hv2 b hb1 hb2
 ·by_cases hj : k = j
  ·subst hj
   rw [List.getElem?_set_self (List.getElem?_eq_some_iff.1 hv).1] at hv2
   cases hv2
   rcases hn6 b hb with h | h
   ·exact a7 k v hv b h ho
   ·have := hoff b ho
    omega
  ·rw [List.getElem?_set_ne hj] at hv2
   exact a7 j v2 hv2 b hb ho
theorem GrAt.reoff {w : World} {off off' : Nat → Prop} {H gw gb gt : Nat} {ws : List Int} {back : List (List Nat)} {told : List Bool} (h : GrAt w off H gw gb gt ws back told) (ho : ∀ b, off' b → w.heap.size ≤ b) : GrAt w off' H gw gb gt ws back told := by
 obtain ⟨h1, a1, a2, vs, a3, a4, a5, a6, a7⟩ := h
 refine ⟨h1, a1, a2, vs, a3, a4, a5, a6, fun k v hv b hb hm => ?_⟩
 obtain ⟨l, hl⟩ : ∃ l, back[k]? = some l := ⟨_, List.getElem?_eq_getElem (by rw [← a4]; exact (List.getElem?_eq_some_iff.1 hv).1)⟩
 have := (ownB_ge (a5 k v l hv hl) b hb).2
 have := ho b hm
 omega
theorem GrAt.past {w w' : World} {off off' : Nat → Prop} {G : List Nat} {H gw gb gt : Nat} {ws : List Int} {back : List (List Nat)} {told : List Bool} (h : GrAt w off H gw gb gt ws back told) (k : Keeps G w w') (hG : ∀ b ∈ G, off b ∧ H ≤ b) (ho : ∀ b, off' b → off b ∨ w.heap.size ≤ b) : GrAt w' off' H gw gb gt ws back told := by
 obtain ⟨⟨h1, h2, h3, h4, h5⟩, a1, a2, vs, a3, a4, a5, a6, a7⟩ := h
 have nm : ∀ g, g < H → g ∉ G := fun g hg hm => by have := (hG g hm).2; omega
 refine ⟨⟨h1, h2, h3, Nat.le_trans h4 k.size, h5⟩, (k.block gw (by omega) (nm _ h1)).trans a1, (k.block gt (by omega) (nm _ h3)).trans a2, vs, (k.block gb (by omega) (nm _ h2)).trans a3, a4, fun i v l hv hl => ownsRow_keeps (a5 i v l hv hl) k (fun b hb hm => a7 i v hv b hb (hG b hm).1), a6, fun i v hv b hb hm => ?_⟩
 rcases ho b hm with h | h
 ·exact a7 i v hv b hb h
 ·obtain ⟨l, hl⟩ : ∃ l, back[i]? = some l := ⟨_, List.getElem?_eq_getElem (by rw [← a4]; exact (List.getElem?_eq_some_iff.1 hv).1)⟩
  have := (ownB_ge (a5 i v l hv hl) b hb).2
  omega
end Go.Proofs.YtgjiahilbmeaeaaGreatDoor