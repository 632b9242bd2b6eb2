/- 'CoreSteps' returns true whatever the input, and what came in reads as it did. -/
import Derived.Test.YtpppoajnbhipeaaStepsH
import Derived.Test.YtpppoajnbhipeaaLaw
namespace Go.Proofs.Ytpppoajnbhipeaa
open Go Go.RowKit Go.WideShapes Go.ChangeShapes Go.Deep

section
variable {H : Type} {enc : TypeId × Value → H}
theorem trodAll_four' {P : Program} {w : World} {base : Nat} {spare : Nat → Bool} {held : Bool} {t t1 t2 t3 : TypeId} {args : Array Value} {ds : List (DataW H)} {ps : List MemPlace} (h : DataW.TrodAll enc P w base spare held [t, t1, t2, t3] args.toList ds ps) :
    ∃ v v1 v2 v3 d d1 d2 d3 p p1 p2 p3, args = #[v, v1, v2, v3] ∧ DataW.Trod enc P w base spare held t v d p ∧ DataW.Trod enc P w base spare held t1 v1 d1 p1 ∧ DataW.Trod enc P w base spare held t2 v2 d2 p2 ∧ DataW.Trod enc P w base spare held t3 v3 d3 p3 := by
  obtain ⟨v, vs, d, ds', p, q, hargs, rfl, rfl, hd, hrest⟩ := trodAll_cons h
  obtain ⟨v1, vs1, d1, ds1, p1, q1, rfl, rfl, rfl, hd1, hr1⟩ := trodAll_cons hrest
  obtain ⟨v2, vs2, d2, ds2, p2, q2, rfl, rfl, rfl, hd2, hr2⟩ := trodAll_cons hr1
  obtain ⟨v3, vs3, d3, ds3, p3, q3, rfl, rfl, rfl, hd3, hr3⟩ := trodAll_cons hr2
  obtain ⟨rfl, rfl, rfl⟩ := trodAll_nil hr3
  exact ⟨v, v1, v2, v3, d, d1, d2, d3, p, p1, p2, p3, by cases args; simp_all, hd, hd1, hd2, hd3⟩
end

theorem steps_any (ts : List Int) (kind by_ from_ : Int) (a0 : Option Addr) (c0 : Nat) (P : Nat → Prop) (w : World) (hl : ListAt intL w P (.slice a0 ts.length c0) ts) (hw : ∀ x ∈ ts, IntW x) (w1 : IntW kind) (w2 : IntW by_) (w3 : IntW from_) :
    Calls Try.prog 6 #[.slice a0 ts.length c0, .int .i64 kind, .int .i64 by_, .int .i64 from_] w fun e w' => e = .returned (.bool true) ∧ Below w.heap.size w w' := by
  have hb := placeOf_bd kind 5 (by omega)
  have h5 : 1 + placeOf kind 5 = 1 ∨ 1 + placeOf kind 5 = 2 ∨ 1 + placeOf kind 5 = 3 ∨ 1 + placeOf kind 5 = 4 ∨ 1 + placeOf kind 5 = 5 := by omega
  rcases h5 with h | h | h | h | h
  · exact steps_walk ts kind by_ from_ _ _ _ (2 + placeOf from_ 4) 0 a0 c0 P w hl hw w1 w2 w3 h rfl rfl (.inl ⟨rfl, rfl, rfl⟩)
  · exact steps_walk ts kind by_ from_ _ (2 + placeOf from_ 4) _ 0 0 a0 c0 P w hl hw w1 w2 w3 h rfl rfl (.inr (.inl ⟨rfl, rfl, rfl⟩))
  · exact steps_walk ts kind by_ from_ _ _ _ 0 (2 + placeOf from_ 4) a0 c0 P w hl hw w1 w2 w3 h rfl rfl (.inr (.inr (.inl ⟨rfl, rfl, rfl⟩)))
  · exact steps_walk ts kind by_ from_ _ (2 + placeOf from_ 4) _ 0 0 a0 c0 P w hl hw w1 w2 w3 h rfl rfl (.inr (.inr (.inr (.inl ⟨rfl, rfl, rfl⟩))))
  · exact steps_walk ts kind by_ from_ _ _ _ 0 (2 + placeOf from_ 4) a0 c0 P w hl hw w1 w2 w3 h rfl rfl (.inr (.inr (.inr (.inr ⟨rfl, rfl, rfl⟩))))

set_option maxRecDepth 100000 in
theorem coreSteps_lifted (os : Os) (started : os.Started) (H : Type) (enc : TypeId × Value → H) :
    ReturnsInHanded {} Try.checked os 6 .any (Rows.coreStepsSpec.pre6 enc Try.prog Try.f6 Rows.coreStepsRow.domain false) (Rows.coreStepsSpec.post enc Try.prog Try.f6 false true false false) := by
  refine law_lifted os started H enc (by kernel_rfl) Try.func6 rfl rfl (by kernel_rfl) (fun ds hl => ?_) (ChangeSpec.witness6 (enc := enc) (C := Try.checked) false ⟨#[], #[.slice none 0 0, .int .i64 0, .int .i64 0, .int .i64 0], []⟩ 8 (by kernel_rfl) (by kernel_rfl) (by kernel_rfl) (by kernel_rfl)) ?_
  · match ds, hl with
    | [_, _, _, _], _ => rfl
  · intro W base args ds p hval hA hlt
    rw [Try.params6] at hA hval
    obtain ⟨v0, v1, v2, v3, d0, d1, d2, d3, p0, p1, p2, p3, rfl, h0, h1, h2, h3⟩ := trodAll_four' hA
    obtain ⟨a1, len1, cap1, rfl⟩ := okWide_slice Try.underlying50 (hval 0 50 v0 rfl rfl)
    obtain ⟨z1, rfl, rfl, rfl, wz1⟩ := open_int Try.underlying3 (hval 1 3 v1 rfl rfl) h1
    obtain ⟨z2, rfl, rfl, rfl, wz2⟩ := open_int Try.underlying3 (hval 2 3 v2 rfl rfl) h2
    obtain ⟨z3, rfl, rfl, rfl, wz3⟩ := open_int Try.underlying3 (hval 3 3 v3 rfl rfl) h3
    obtain ⟨ts, rfl, hl, hw⟩ := open_list_arg intL IntW Try.underlying50 (by kernel_rfl) (fun fu cs x h hl => open_int1 W fu cs x h hl) h0
    exact steps_any ts z1 z2 z3 a1 cap1 _ W hl hw wz1 wz2 wz3

theorem coreSteps_holds : Rows.CoreStepsSaid :=
  OpenClaim.holds_of_wide 6 Try.f6 rfl rfl rfl rfl rfl rfl rfl ⟨rfl, rfl, rfl, rfl, rfl⟩ rfl rfl rfl rfl rfl (by kernel_rfl) Try.func6 (by kernel_rfl) (of_decide_eq_true (by kernel_rfl))
    (by unfold Func.isWrapper; rw [if_neg (of_decide_eq_false (by kernel_rfl))]; exact ⟨rfl, rfl⟩) (fun os started H enc _ => coreSteps_lifted os started H enc)

end Go.Proofs.Ytpppoajnbhipeaa
