/- 'CoreKeeps' returns true whatever the input, and what came in reads as it did. -/
import Derived.Test.YtpppoajnbhipeaaKeepsH
import Derived.Test.YtpppoajnbhipeaaLaw
namespace Go.Proofs.Ytpppoajnbhipeaa
open Go Go.RowKit Go.WideShapes Go.ChangeShapes Go.Deep

section
variable {H : Type} {enc : TypeId × Value → H}
theorem trodAll_three' {P : Program} {w : World} {base : Nat} {spare : Nat → Bool} {held : Bool} {t t1 t2 : TypeId} {args : Array Value} {ds : List (DataW H)} {ps : List MemPlace} (h : DataW.TrodAll enc P w base spare held [t, t1, t2] args.toList ds ps) :
    ∃ v v1 v2 d d1 d2 p p1 p2, args = #[v, v1, v2] ∧ DataW.Trod enc P w base spare held t v d p ∧ DataW.Trod enc P w base spare held t1 v1 d1 p1 ∧ DataW.Trod enc P w base spare held t2 v2 d2 p2 := by
  obtain ⟨v, vs, d, ds', p, q, hargs, rfl, rfl, hd, hrest⟩ := trodAll_cons h
  obtain ⟨v1, vs1, d1, ds1, p1, q1, rfl, rfl, rfl, hd1, hr1⟩ := trodAll_cons hrest
  obtain ⟨v2, vs2, d2, ds2, p2, q2, rfl, rfl, rfl, hd2, hr2⟩ := trodAll_cons hr1
  obtain ⟨rfl, rfl, rfl⟩ := trodAll_nil hr2
  exact ⟨v, v1, v2, d, d1, d2, p, p1, p2, by cases args; simp_all, hd, hd1, hd2⟩
end

theorem keeps_any (ts : List Int) (at_ : Int) (same : Bool) (a0 : Option Addr) (c0 : Nat) (P : Nat → Prop) (w : World) (hl : ListAt intL w P (.slice a0 ts.length c0) ts) (hw : ∀ x ∈ ts, IntW x) (hat : IntW at_) :
    Calls Try.prog 7 #[.slice a0 ts.length c0, .int .i64 at_, .bool same] w fun e w' => e = .returned (.bool true) ∧ Below w.heap.size w w' := by
  have hb := placeOf_bd at_ 15 (by omega)
  obtain ⟨j, hj⟩ : ∃ j : Nat, placeOf at_ 15 = (j : Int) := ⟨(placeOf at_ 15).toNat, by omega⟩
  have h15 : j < 15 := by omega
  have hK : ((j + 1 : Nat) : Int) = (j : Int) + 1 := by omega
  rcases he : (oldL ts)[j]? with _ | e
  · have hn := List.getElem?_eq_none_iff.1 he
    obtain ⟨c2, h1, h2, h3⟩ := keeps_other ts (k := ((j + 1 : Nat) : Int)) (t := 5) (by omega) (by omega) (fun i e hi hk => by
      have : i = j := by omega
      rw [this, he] at hi
      cases hi)
    exact keeps_walk ts at_ _ 5 j (j + 1) same a0 c0 P w c2 [] hl hw hat hj rfl rfl h15 (by omega) h1 h2 h3 (.inr (.inr (.inr ⟨hn, rfl, rfl⟩)))
  · have ht := oldL_terms ts e (List.mem_of_getElem? he)
    have hjl := (List.getElem?_eq_some_iff.1 he).1
    cases same with
    | true =>
      obtain ⟨c2, h1, h2, h3⟩ := keeps_same ts he
      rw [← hK] at h1 h2
      by_cases hl2 : j + 1 < (oldL ts).length
      · exact keeps_walk ts at_ _ e.term j (j + 1) true a0 c0 P w c2 _ hl hw hat hj rfl rfl h15 ht h1 h2 h3 (.inl ⟨e, he, rfl, rfl, hl2, rfl⟩)
      · rw [List.drop_eq_nil_of_le (by omega)] at h3
        exact keeps_walk ts at_ _ e.term j (j + 1) true a0 c0 P w c2 [] hl hw hat hj rfl rfl h15 ht h1 h2 h3 (.inr (.inl ⟨e, he, rfl, rfl, by omega, rfl⟩))
    | false =>
      obtain ⟨c2, h1, h2, h3⟩ := keeps_other ts (k := ((j + 1 : Nat) : Int)) (t := e.term % 5 + 1) (by omega) (by omega) (fun i e' hi hk => by
        have : i = j := by omega
        rw [this, he] at hi
        cases hi
        omega)
      exact keeps_walk ts at_ _ (e.term % 5 + 1) j (j + 1) false a0 c0 P w c2 [] hl hw hat hj rfl rfl h15 (by omega) h1 h2 h3 (.inr (.inr (.inl ⟨e, he, rfl, rfl, rfl⟩)))

set_option maxRecDepth 100000 in
theorem coreKeeps_lifted (os : Os) (started : os.Started) (H : Type) (enc : TypeId × Value → H) :
    ReturnsInHanded {} Try.checked os 7 .any (Rows.coreKeepsSpec.pre6 enc Try.prog Try.f7 Rows.coreKeepsRow.domain false) (Rows.coreKeepsSpec.post enc Try.prog Try.f7 false true false false) := by
  refine law_lifted os started H enc (by kernel_rfl) Try.func7 rfl rfl (by kernel_rfl) (fun ds hl => ?_) (ChangeSpec.witness6 (enc := enc) (C := Try.checked) false ⟨#[], #[.slice none 0 0, .int .i64 0, .bool false], []⟩ 8 (by kernel_rfl) (by kernel_rfl) (by kernel_rfl) (by kernel_rfl)) ?_
  · match ds, hl with
    | [_, _, _], _ => rfl
  · intro W base args ds p hval hA hlt
    rw [Try.params7] at hA hval
    obtain ⟨v0, v1, v2, d0, d1, d2, p0, p1, p2, rfl, h0, h1, h2⟩ := trodAll_three' hA
    obtain ⟨a1, len1, cap1, rfl⟩ := okWide_slice Try.underlying50 (hval 0 50 v0 rfl rfl)
    obtain ⟨z, rfl, rfl, rfl, wz⟩ := open_int Try.underlying3 (hval 1 3 v1 rfl rfl) h1
    obtain ⟨b, rfl⟩ := okWide_bool Try.underlying4 (hval 2 4 v2 rfl rfl)
    obtain ⟨ts, rfl, hl, hw⟩ := open_list_arg intL IntW Try.underlying50 (by kernel_rfl) (fun fu cs x h hl => open_int1 W fu cs x h hl) h0
    exact keeps_any ts z b a1 cap1 _ W hl hw wz

theorem coreKeeps_holds : Rows.CoreKeepsSaid :=
  OpenClaim.holds_of_wide 7 Try.f7 rfl rfl rfl rfl rfl rfl rfl ⟨rfl, rfl, rfl, rfl, rfl⟩ rfl rfl rfl rfl rfl (by kernel_rfl) Try.func7 (by kernel_rfl) (of_decide_eq_true (by kernel_rfl))
    (by unfold Func.isWrapper; rw [if_neg (of_decide_eq_false (by kernel_rfl))]; exact ⟨rfl, rfl⟩) (fun os started H enc _ => coreKeeps_lifted os started H enc)

end Go.Proofs.Ytpppoajnbhipeaa
