/- The type of a name. -/
import Derived.Test.YtgjiahilbmeaeaaGreatDoorR06
import Derived.Test.YtgjiahilbmeaeaaGreatDoorR07
set_option maxRecDepth 100000
set_option maxHeartbeats 8000000
set_option linter.unusedSimpArgs false
set_option linter.unusedVariables false
namespace Go.Proofs.YtgjiahilbmeaeaaGreatDoor
open Go Go.RowKit
theorem atName_some {s : ByteArray} : ∀ {l : List ByteArray} {i : Nat}, atName s l = some i → ∃ x, l[i]? = some x ∧ x.toList = s.toList ∧ ∀ j y, j < i → l[j]? = some y → (y.toList == s.toList) = false
 | [], _, h => by simp [atName] at h
 | x :: r, i, h => by
   unfold atName at h
   split at h
   ·rename_i hx
    simp at h
    subst h
    exact ⟨x, rfl, by simpa using hx, fun j y hj => by omega⟩
   ·rename_i hx
    rw [Option.map_eq_some_iff] at h
    obtain ⟨k, hk, rfl⟩ := h
    obtain ⟨y, h1, h2, h3⟩ := atName_some hk
    refine ⟨y, by simpa using h1, h2, fun j z hj hz => ?_⟩
    cases j with
    | zero => simp at hz; subst hz; simpa using hx
    | succ j => exact h3 j z (by omega) (by simpa using hz)
theorem tyFind_ok (s : ByteArray) (names : List ByteArray) (types : List Int) (t : Int) (a1 a2 : Option Addr) (c1 c2 n m : Nat) (w : World) (hn : names.length = n) (hm : types.length = m) (hr1 : Reads w 1 (.slice a1 n c1) n (names.map Value.string)) (hr2 : Reads w 1 (.slice a2 m c2) m (i64s types)) (hs : n ≤ 1000) (h : findT s names types = some t) :
 Calls Tryz.prog 195 #[.string s, .slice a1 n c1, .slice a2 m c2] w fun e w' => e = .returned (.tuple #[.int .i64 t, .bool true]) ∧ Keeps [] w w' := by
 unfold findT at h
 split at h
 ·cases h
 ·rename_i i hi
  split at h
  ·cases h
  ·rename_i t' ht
   split at h
   ·cases h
   ·rename_i hr
    simp at h
    subst h
    obtain ⟨x, hx1, hx2, hx3⟩ := atName_some hi
    have hin : i < n := by rw [← hn]; exact (List.getElem?_eq_some_iff.1 hx1).1
    have him : i < m := by rw [← hm]; exact (List.getElem?_eq_some_iff.1 ht).1
    obtain ⟨g1, o1, rfl, hc1⟩ : ∃ g o, a1 = some ⟨g, o, none⟩ ∧ ∀ j y, names[j]? = some y → w.cell? ⟨g, o + j, none⟩ = some (.string y) := by
     rcases hr1.2 with ⟨h0, _⟩ | ⟨_, g, off, c', e, _, _, _, hx⟩
     ·omega
     ·simp only [Value.slice.injEq] at e
      exact ⟨g, off, e.1, fun j y hy => hx j _ (by rw [List.getElem?_map, hy]; rfl)⟩
    obtain ⟨g2, o2, rfl, hc2⟩ : ∃ g o, a2 = some ⟨g, o, none⟩ ∧ w.cell? ⟨g, o + i, none⟩ = some (.int .i64 t') := by
     rcases hr2.2 with ⟨h0, _⟩ | ⟨_, g, off, c', e, _, _, _, hx⟩
     ·omega
     ·simp only [Value.slice.injEq] at e
      exact ⟨g, off, e.1, hx i _ (by unfold i64s; rw [List.getElem?_map, ht]; rfl)⟩
    have H1 := hid hc1
    have H2 := hid hc2
    have HX := hid (And.intro hx1 (And.intro hx2 hx3))
    have HL := hid hn
    clear hr1 hr2 hi ht hc1 hc2 hx1 hx2 hx3 hn hm
    go_enter Tryz.func195, Tryz.ntmps195
    go_wp2_with fail
    go_step3
    go_wp2_with fail
    go_step3
    go_wp2_with fail
    go_loopw [8, 13] (fun av iv wr => ∃ k : Nat, av = .int .i64 (-1) ∧ iv = .int .i64 (k : Int) ∧ k ≤ i ∧ Hid (Keeps [] w wr)) (fun _ iv _ => i + 1 - (intOf iv).toNat)
    case atStart => exact ⟨0, rfl, rfl, Nat.zero_le _, by show Keeps _ _ _; exact Keeps.K⟩
    case round =>
     obtain ⟨k, rfl, rfl, hk, hW⟩ := hrel
     have HW := hid hW.out
     clear hW
     have j0 : (0 : Int) ≤ (k : Int) := Int.natCast_nonneg _
     have i1 : (k : Int) < (n : Int) := by omega
     have hw1 : IntKind.i64.wrap ((k : Int) + 1) = (k : Int) + 1 := by rw [IntKind.wrap_i64]; omega
     by_cases hki : k = i
     ·subst hki
      have hcell := HW.out.cellSome (H1.out k x HX.out.1) (by simp)
      have hc2 := HW.out.cellSome H2.out (by simp)
      have hq : (x.toList == s.toList) = true := by rw [HX.out.2.1]; simp
      have q1 : ((k : Int) < 0) = False := eq_false (by omega)
      have q2 : decide (m ≤ k) = false := decide_eq_false (by omega)
      have q3 : decide (t' < 1) = false := decide_eq_false (by omega)
      have q4 : decide (3 < t') = false := decide_eq_false (by omega)
      have i2 : (k : Int) < (m : Int) := by omega
      go_wp2_with fail
      rw [Exit.noGoto_ret]
      refine bodyPost_ret (v := .tuple #[.int .i64 t', .bool true]) (by simp [results, Tryz.results195, go_sem]) rfl ?_
      exact ⟨rfl, HW.out⟩
     ·obtain ⟨y, hy⟩ : ∃ y, names[k]? = some y := ⟨_, List.getElem?_eq_getElem (by have := HL.out; omega)⟩
      have hcell := HW.out.cellSome (H1.out k y hy) (by simp)
      have hq := HX.out.2.2 k y (by omega) hy
      have hki2 : k < i := by omega
      clear hy hki
      go_wp2_with fail
      exact ⟨⟨k + 1, rfl, rfl, by omega, HW.out⟩, by simp [intOf]; omega⟩
theorem ofK_cons {e : ExprD} {r : List ExprD} {names : List ByteArray} {types : List Int} {l : List Int} (h : ofK (e :: r) names types = .ok l) : ∃ t rest, l = t :: rest ∧ ofE e names types = (t, 0) ∧ ofK r names types = .ok rest := by
 unfold ofK at h
 split at h
 ·cases h
 ·rename_i h0
  split at h
  ·cases h
  ·rename_i rest hr
   simp at h
   exact ⟨_, _, h.symm, Prod.ext rfl (by simpa using h0), hr⟩
theorem ofE_parts {o n : Int} {s : ByteArray} {ks : List ExprD} {names : List ByteArray} {types : List Int} {t : Int} (h : ofE (.mk o n s ks) names types = (t, 0)) :
 ∃ ts, ofK ks names types = .ok ts ∧ ((o = 4 ∧ findT s names types = some t) ∨ (o ≠ 4 ∧ madeT o (ts.getD 0 0) (ts.getD 1 0) (ts.getD 2 0) = t ∧ t ≠ 0)) := by
 unfold ofE at h
 split at h
 ·rename_i e he
  simp at h
  exfalso
  have key : ∀ (ks : List ExprD) (e : Int), ofK ks names types = .error e → e ≠ 0 := by
   intro ks
   induction ks with
   | nil => intro e h; unfold ofK at h; cases h
   | cons x r ih =>
     intro e h
     unfold ofK at h
     split at h
     ·rename_i h0
      simp at h
      rw [← h]
      exact h0
     ·split at h
      ·rename_i hx
       simp at h
       subst h
       exact ih _ hx
      ·cases h
  exact key ks e he h.2
 ·rename_i ts hts
  refine ⟨ts, hts, ?_⟩
  split at h
  ·rename_i h4
   split at h
   ·simp at h
   ·rename_i t' ht
    simp at h
    subst h
    exact .inl ⟨h4, ht⟩
  ·rename_i h4
   split at h
   ·simp at h
   ·rename_i h0
    simp at h
    exact .inr ⟨h4, h, by rw [← h]; exact h0⟩
end Go.Proofs.YtgjiahilbmeaeaaGreatDoor