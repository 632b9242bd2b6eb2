/- 'CoreOld' returns true whatever the input, and what came in reads as it did. -/
import Derived.Test.YtpppoajnbhipeaaOldH
import Derived.Test.YtpppoajnbhipeaaLaw
namespace Go.Proofs.Ytpppoajnbhipeaa
open Go Go.RowKit Go.WideShapes Go.ChangeShapes Go.Deep

section
variable {H : Type} {enc : TypeId × Value → H}
theorem trodAll_two' {P : Program} {w : World} {base : Nat} {spare : Nat → Bool} {held : Bool} {t t1 : TypeId} {args : Array Value} {ds : List (DataW H)} {ps : List MemPlace} (h : DataW.TrodAll enc P w base spare held [t, t1] args.toList ds ps) :
    ∃ v v1 d d1 p p1, args = #[v, v1] ∧ DataW.Trod enc P w base spare held t v d p ∧ DataW.Trod enc P w base spare held t1 v1 d1 p1 := by
  obtain ⟨v, vs, d, ds', p, q, hargs, rfl, rfl, hd, hrest⟩ := trodAll_cons h
  obtain ⟨v1, vs1, d1, ds1, p1, q1, rfl, rfl, rfl, hd1, hr1⟩ := trodAll_cons hrest
  obtain ⟨rfl, rfl, rfl⟩ := trodAll_nil hr1
  exact ⟨v, v1, d, d1, p, p1, by cases args; simp_all, hd, hd1⟩
end

set_option maxRecDepth 100000 in
theorem coreOld_lifted (os : Os) (started : os.Started) (H : Type) (enc : TypeId × Value → H) :
    ReturnsInHanded {} Try.checked os 5 .any (Rows.coreOldSpec.pre6 enc Try.prog Try.f5 Rows.coreOldRow.domain false) (Rows.coreOldSpec.post enc Try.prog Try.f5 false true false false) := by
  refine law_lifted os started H enc (by kernel_rfl) Try.func5 rfl rfl (by kernel_rfl) (fun ds hl => ?_) (ChangeSpec.witness6 (enc := enc) (C := Try.checked) false ⟨#[], #[.slice none 0 0, .slice none 0 0], []⟩ 8 (by kernel_rfl) (by kernel_rfl) (by kernel_rfl) (by kernel_rfl)) ?_
  · match ds, hl with
    | [_, _], _ => rfl
  · intro W base args ds p hval hA hlt
    rw [Try.params5] at hA hval
    obtain ⟨v0, v1, d0, d1, p0, p1, rfl, h0, h1⟩ := trodAll_two' hA
    obtain ⟨a1, len1, cap1, rfl⟩ := okWide_slice Try.underlying50 (hval 0 50 v0 rfl rfl)
    obtain ⟨a2, len2, cap2, rfl⟩ := okWide_slice Try.underlying36 (hval 1 36 v1 rfl rfl)
    obtain ⟨ts, rfl, hl, hw⟩ := open_list_arg intL IntW Try.underlying50 (by kernel_rfl) (fun fu cs x h hl => open_int1 W fu cs x h hl) h0
    obtain ⟨ms, rfl, hms, hmw⟩ := open_list_arg msgL MsgW Try.underlying36 (by kernel_rfl) (fun fu cs x h hl => open_msg W fu cs x h hl) h1
    exact old_walk ts ms a1 a2 cap1 cap2 _ W hl hw hms hmw

theorem coreOld_holds : Rows.CoreOldSaid :=
  OpenClaim.holds_of_wide 5 Try.f5 rfl rfl rfl rfl rfl rfl rfl ⟨rfl, rfl, rfl, rfl, rfl⟩ rfl rfl rfl rfl rfl (by kernel_rfl) Try.func5 (by kernel_rfl) (of_decide_eq_true (by kernel_rfl))
    (by unfold Func.isWrapper; rw [if_neg (of_decide_eq_false (by kernel_rfl))]; exact ⟨rfl, rfl⟩) (fun os started H enc _ => coreOld_lifted os started H enc)

end Go.Proofs.Ytpppoajnbhipeaa
