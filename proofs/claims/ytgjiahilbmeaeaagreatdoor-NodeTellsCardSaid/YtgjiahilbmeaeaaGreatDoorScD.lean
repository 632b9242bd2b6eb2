/- A form's names' map; rows of numbers: sorted, appended. -/
import Derived.Test.YtgjiahilbmeaeaaGreatDoorR14
import Derived.Test.YtgjiahilbmeaeaaGreatDoorGrB
import Derived.Test.YtgjiahilbmeaeaaGreatDoorR13
import Derived.Test.YtgjiahilbmeaeaaGreatDoorR03
import Derived.Lib.SlKeysI
set_option linter.unusedSimpArgs false
set_option linter.unusedVariables false
namespace Go.Proofs.YtgjiahilbmeaeaaGreatDoor
open Go Go.RowKit
theorem insN_perm (x : Nat) : ∀ l, (insN x l).Perm (x :: l)
 | [] => List.Perm.refl _
 | y :: r => by
   unfold insN
   split
   ·exact (List.Perm.cons y (insN_perm x r)).trans (List.Perm.swap x y r)
   ·exact List.Perm.refl _
theorem sortN_perm : ∀ l : List Nat, (sortN l).Perm l
 | [] => List.Perm.refl _
 | x :: r => by
   show (insN x (sortN r)).Perm _
   exact (insN_perm x _).trans (List.Perm.cons x (sortN_perm r))
theorem insN_sorted (x : Nat) : ∀ l : List Nat, l.Pairwise (fun a b => a ≤ b) → (insN x l).Pairwise (fun a b => a ≤ b)
 | [], _ => by simp [insN]
 | y :: r, h => by
   obtain ⟨h1, h2⟩ := List.pairwise_cons.1 h
   unfold insN
   split
   ·rename_i hb
    refine List.pairwise_cons.2 ⟨fun z hz => ?_, insN_sorted x r h2⟩
    rcases List.mem_cons.1 ((insN_perm x r).mem_iff.1 hz) with rfl | hz
    ·omega
    ·exact h1 z hz
   ·rename_i hb
    refine List.pairwise_cons.2 ⟨fun z hz => ?_, h⟩
    rcases List.mem_cons.1 hz with rfl | hz
    ·omega
    ·have := h1 z hz
     omega
theorem sortN_sorted : ∀ l : List Nat, (sortN l).Pairwise (fun a b => a ≤ b)
 | [] => List.Pairwise.nil
 | x :: r => insN_sorted x _ (sortN_sorted r)
def intsL (l : List Nat) : List Int := l.map fun (k : Nat) => (k : Int)
theorem sortN_is (l : List Nat) : (intsL l).mergeSort (fun x y => decide (x ≤ y)) = intsL (sortN l) := by
 have tr : ∀ a b c : Int, decide (a ≤ b) = true → decide (b ≤ c) = true → decide (a ≤ c) = true := fun a b c h1 h2 => by simp only [decide_eq_true_eq] at *; omega
 have tot : ∀ a b : Int, (decide (a ≤ b) || decide (b ≤ a)) = true := fun a b => by simp only [Bool.or_eq_true, decide_eq_true_eq]; omega
 refine List.Perm.eq_of_pairwise (le := fun a b => decide (a ≤ b) = true) (fun a b _ _ h1 h2 => ?_) (List.pairwise_mergeSort tr tot _) ?_ ((List.mergeSort_perm _ _).trans ((sortN_perm l).map _).symm)
 ·simp only [decide_eq_true_eq] at h1 h2
  omega
 ·unfold intsL
  rw [List.pairwise_map]
  exact (sortN_sorted l).imp fun {a b} h => by simp only [decide_eq_true_eq]; omega
theorem natC_ints (l : List Nat) : natC l = (intsL l).map (Value.int .i64) := by simp [natC, intsL]
theorem sort_cellsI (zs : List Int) (cur : Array Value) (h : zs.length ≤ cur.size) : (Sort.putCells (Value.int .i64) 0 zs.toArray cur).toList.take zs.length = zs.map (Value.int .i64) := by
 apply List.ext_getElem?
 intro j
 rw [List.getElem?_take]
 split
 ·rename_i hj
  unfold Sort.putCells
  simp only [Array.getElem?_toList, Array.getElem?_mapIdx, List.getElem?_map, List.size_toArray]
  rw [Array.getElem?_eq_getElem (by omega), List.getElem?_eq_getElem hj]
  simp only [Option.map_some, Nat.zero_le, true_and, Nat.zero_add, Nat.sub_zero]
  rw [if_pos hj]
  simp [hj]
 ·rename_i hj
  rw [List.getElem?_eq_none (by simp; omega)]
theorem sort_ownI (w : World) (base : Nat) (v : Value) (l : List Nat) (hown : w.ownsRow base 3 1 v l.length (natC l)) (hs : l.length ≤ 1000000) :
 Calls Tryz.prog 83 #[v] w fun e w' => e = .returned (.tuple #[]) ∧ w'.ownsRow base 3 1 v l.length (natC (sortN l)) ∧ Keeps (ownB v) w w' := by
 obtain ⟨hl, ⟨rfl, hx⟩ | ⟨g, cap, cur, rfl, hb, hg, hnc, hcm, hcs, htake⟩⟩ := hown
 ·have h0 : l = [] := by simpa using hx
  subst h0
  refine (Tryz.slices_Sort_int_none none 0 w).mono ?_
  rintro e w' ⟨rfl, rfl⟩
  exact ⟨rfl, World.ownsRow_nil _ _ _ _, Keeps.refl _ _⟩
 ·rcases Nat.eq_zero_or_pos l.length with h0 | hp
  ·have h0' : l = [] := List.eq_nil_of_length_eq_zero h0
   subst h0'
   refine (Tryz.slices_Sort_int_none (some ⟨g, 0, none⟩) cap w).mono ?_
   rintro e w' ⟨rfl, rfl⟩
   exact ⟨rfl, ⟨by simp [natC, sortN], .inr ⟨g, cap, cur, rfl, hb, hg, hnc, hcm, hcs, by simp [natC, sortN]⟩⟩, Keeps.refl _ _⟩
  ·have hil : (intsL l).length = l.length := by simp [intsL]
   have hsl : (intsL (sortN l)).length = l.length := by simp [intsL, (sortN_perm l).length_eq]
   have hsz : l.length ≤ cur.size := by omega
   have hH : Sort.Holds (Value.int .i64) w g 0 (intsL l).toArray := fun j hj => by
    simp [hil] at hj
    refine ⟨?_, frozen_of_row w g _ _ _ hg⟩
    rw [Nat.zero_add, cell_of_row w g j cur _ (0, 0) hg]
    have := congrArg (fun l : List Value => l[j]?) htake
    simp only [Nat.mul_one, List.getElem?_take, hj, if_true, natC_ints, List.getElem?_map, Array.getElem?_toList] at this
    rw [this, List.getElem?_eq_getElem (by omega)]
    simp [hil, hj]
   have hc := Tryz.slices_Sort_int g 0 cap (intsL l) w hH (Array.getElem?_eq_some_iff.1 hg).1 (by omega)
   rw [sortN_is, hil] at hc
   refine hc.mono ?_
   rintro e w' ⟨rfl, n, os, rfl⟩
   refine ⟨rfl, ⟨by simp [natC, (sortN_perm l).length_eq], .inr ⟨g, cap, Sort.putCells (Value.int .i64) 0 (intsL (sortN l)).toArray cur, rfl, hb, ?_, hnc, hcm, by simp [Sort.putCells]; omega, ?_⟩⟩, ?_⟩
   ·show (w.heap.modify g _ ++ os)[g]? = _
    rw [Array.getElem?_append_left (by simpa using (Array.getElem?_eq_some_iff.1 hg).1), Array.getElem?_modify, if_pos rfl, hg]
    rfl
   ·have := sort_cellsI (intsL (sortN l)) cur (by omega)
    rw [hsl] at this
    rw [Nat.mul_one, this, natC_ints]
   ·exact (keeps_sort w n g _ os).mono (fun x _ hm => by simpa [mem_ownB, Value.ownBlock, eq_comm] using hm)
theorem getA_insA {α : Type} (n : Nm) (a : α) (m : Nm) : ∀ l : List (Nm × α), (∀ p ∈ l, p.1 ≠ n) → getA (insA (n, a) l) m = if n == m then some a else getA l m
 | [], _ => by simp [insA, getA]
 | (k, b) :: r, h => by
   have ih := getA_insA n a m r (fun p hp => h p (List.mem_cons_of_mem _ hp))
   have hk := h (k, b) (by simp)
   unfold insA
   split
   ·simp [getA]
   ·rw [getA, ih, getA]
    by_cases h1 : k == m
    ·have e : k = m := by simpa using h1
     have : (n == m) = false := by simpa using fun e2 => hk (by rw [e, ← e2])
     simp [h1, this]
    ·simp [h1]
theorem getA_delA {α : Type} (n m : Nm) : ∀ l : List (Nm × α), getA (delA l n) m = if n == m then none else getA l m
 | [] => by simp [delA, getA]
 | (k, b) :: r => by
   have ih := getA_delA n m r
   unfold delA at ih ⊢
   by_cases h1 : k == n
   ·have e : k = n := by simpa using h1
    simp only [List.filter_cons, h1, Bool.not_true, Bool.false_eq_true, if_false, ih, getA]
    by_cases h2 : n == m
    ·simp [h2]
    ·simp [h2, e]
   ·simp only [List.filter_cons, h1, Bool.not_false, if_true, getA, ih]
    by_cases h2 : k == m
    ·have e2 : k = m := by simpa using h2
     have : (n == m) = false := by simpa using fun e => h1 (by simp [e2, e])
     simp [h2, this]
    ·simp [h2]
theorem getA_putA {α : Type} (l : List (Nm × α)) (n m : Nm) (a : α) : getA (putA l n a) m = if n == m then some a else getA l m := by
 unfold putA
 rw [getA_insA n a m _ (fun p hp => by
  unfold delA at hp
  simp at hp
  exact hp.2), getA_delA]
 split <;> rfl
def AtMap (w : World) (bm : Nat) (l : List (List UInt8)) : Prop := ∃ A : List (Nm × Value), w.ownsMap Tryz.prog 9 heldR bm l.length (fmV A) ∧ (∀ (i : Nat) (nm : Nm), l[i]? = some nm → getA A nm = some (.int .i64 (i : Int))) ∧ (∀ nm, nm ∉ l → getA A nm = none)
theorem AtMap.keep {F : List Nat} {w w' : World} {bm : Nat} {l : List (List UInt8)} (h : AtMap w bm l) (k : Keeps F w w') (hb : bm ∉ F) : AtMap w' bm l := by
 obtain ⟨A, h1, h2⟩ := h
 exact ⟨A, ownsFm_keep h1 k hb, h2⟩
theorem AtMap.lt {w : World} {bm : Nat} {l : List (List UInt8)} (h : AtMap w bm l) : bm < w.heap.size := h.elim fun _ h => h.1.lt
theorem zeroInt (w : World) : (zeroValue 3).run Tryz.prog w = .ok (.int .i64 0) w := by kernel_rfl
theorem AtMap.look {w : World} {bm : Nat} {l : List (List UInt8)} (h : AtMap w bm l) {i : Nat} {nm : List UInt8} (hi : l[i]? = some nm) (hn : nm.length ≤ 1000) :
 (Instr.lookup 64 (.map (some bm)) (.string (str nm)) false).run Tryz.prog w = .ok (.int .i64 (i : Int)) w := by
 obtain ⟨A, h1, h2, _⟩ := h
 obtain ⟨v, ps, hrun, hv⟩ := h1.lookup nameKeyed Tryz.underlying64 (zeroInt w) (zd := .held (.int .i64 0)) (zp := []) rfl (nameKey nm hn)
 rw [fm_at, h2 i nm hi] at hv
 simp only [heldR, Option.some.injEq, Prod.mk.injEq, DataW.held.injEq, Option.getD_some] at hv
 obtain ⟨rfl, -⟩ := hv
 exact hrun
theorem AtMap.look0 {w : World} {bm : Nat} {l : List (List UInt8)} (h : AtMap w bm l) {nm : List UInt8} (hi : nm ∉ l) (hn : nm.length ≤ 1000) :
 (Instr.lookup 64 (.map (some bm)) (.string (str nm)) true).run Tryz.prog w = .ok (.tuple #[.int .i64 0, .bool false]) w := by
 obtain ⟨A, h1, _, h3⟩ := h
 obtain ⟨v, ps, hrun, hv⟩ := h1.look_ok nameKeyed Tryz.underlying64 (zeroInt w) (zd := .held (.int .i64 0)) (zp := []) rfl (nameKey nm hn)
 rw [fm_at, h3 nm hi] at hv
 rw [fm_has, h3 nm hi] at hrun
 simp only [heldR, Option.some.injEq, Prod.mk.injEq, DataW.held.injEq, Option.getD_none] at hv
 obtain ⟨rfl, -⟩ := hv
 exact hrun
theorem AtMap.made {w w' : World} {bm : Nat} {l : List (List UInt8)} {A : List (Nm × Value)} {nm : List UInt8} (h2 : ∀ (i : Nat) (nm : Nm), l[i]? = some nm → getA A nm = some (.int .i64 (i : Int))) (h3 : ∀ nm, nm ∉ l → getA A nm = none) (hi : nm ∉ l) (hput : w'.ownsMap Tryz.prog 9 heldR bm (l.length + 1) ((fmV A).put (.string nm) (.held (.int .i64 (l.length : Int))))) : AtMap w' bm (l ++ [nm]) := by
 rw [fm_put] at hput
 refine ⟨_, by simpa using hput, fun i m hm => ?_, fun m hm => ?_⟩
 ·rw [getA_putA]
  rw [List.getElem?_append] at hm
  split at hm
  ·have : (nm == m) = false := by simpa using fun e => hi (by rw [e]; exact List.mem_of_getElem? hm)
   rw [this]
   simpa using h2 i m hm
  ·rename_i hlt
   have e : i - l.length = 0 := by
    have := (List.getElem?_eq_some_iff.1 hm).1
    simp at this
    omega
   rw [e] at hm
   simp at hm
   subst hm
   have : i = l.length := by omega
   simp [this]
 ·simp at hm
  rw [getA_putA]
  have : (nm == m) = false := by simpa using fun e => hm.2 e.symm
  rw [this]
  simpa using h3 m hm.1
end Go.Proofs.YtgjiahilbmeaeaaGreatDoor