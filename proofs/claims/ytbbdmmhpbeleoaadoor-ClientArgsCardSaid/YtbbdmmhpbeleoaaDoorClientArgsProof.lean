/- 'ClientArgs' returns true whatever the input, and what came in reads as it did; the library's tables are what the program's text lays. -/
import Derived.Test.YtbbdmmhpbeleoaaDoorClK
import Derived.Test.YtbbdmmhpbeleoaaDoorOpenC
import Derived.Test.YtbbdmmhpbeleoaaDoorQ29
import Derived.Deep.DeepHandedRow

set_option linter.unusedSimpArgs false
set_option linter.unusedVariables false
namespace Go.Proofs.YtbbdmmhpbeleoaaDoor
open Go Go.RowKit Go.WideShapes Go.ChangeShapes Go.ChangeAt

theorem tabs {W : World} (h : laidMetH Tryd.prog Rows.clientArgsRow.laid W) : Tabs W := by
  rw [MakeChecks.laidMetH_plain _ _ _ (by kernel_rfl)] at h
  exact tabs_of_laid h (by simp [Rows.clientArgsRow]) (by simp [Rows.clientArgsRow]) (by simp [Rows.clientArgsRow])
theorem errs {W : World} (h : laidMetH Tryd.prog Rows.clientArgsRow.laid W) : Errs W := by
  rw [MakeChecks.laidMetH_plain _ _ _ (by kernel_rfl)] at h
  exact errs_of_laid h (by simp [Rows.clientArgsRow]) (by simp [Rows.clientArgsRow])

set_option maxRecDepth 100000 in
theorem lifted (os : Os) (started : os.Started) (H : Type) (enc : TypeId × Value → H) :
    ReturnsInHanded {} Tryd.checked os 4 .any (fun w args => (Rows.clientArgsSpec.pre enc Tryd.prog Tryd.f4 Rows.clientArgsRow.domain false w args ∧ laidMetH Tryd.prog Rows.clientArgsRow.laid w) ∧ sizedMet enc Tryd.prog Tryd.f4 (OpenSpec.ofChange Rows.clientArgsSpec) false w args)
      (Rows.clientArgsSpec.post enc Tryd.prog Tryd.f4 false true false false) := by
  refine laid_lifted os started H enc (by kernel_rfl) Tryd.func4 rfl rfl (by kernel_rfl) (fun ds hl => ?_)
    (ChangeSpec.witness_shaped (enc := enc) (C := Tryd.checked) (os := os) (X := fun w _ => laidMetH Tryd.prog Rows.clientArgsRow.laid w) false (World.laidAll Tryd.prog os Rows.clientArgsRow.laid) #[.agg #[.int .i64 0, .int .i64 0, .int .i64 0, .string ⟨#[]⟩, .int .i64 0, .int .i64 0, .int .i64 0, .string ⟨#[]⟩]] 8 (World.laidAll_os _ _ _)
      (World.shaped_of_ZipB (by kernel_rfl) (by kernel_rfl)) (by kernel_rfl) (by kernel_rfl) (by kernel_rfl)
      (by rw [MakeChecks.laidMetH_plain _ _ _ (by kernel_rfl)]; exact laidMet_laidAll _ (by kernel_rfl) (by kernel_rfl))) ?_
  · match ds, hl with
    | [_], _ => rfl
  · intro W base args ds p hval hA hlt hL
    rw [Tryd.params4] at hA hval
    obtain ⟨v0, d0, rfl, _, h0⟩ := trodAll_one hA
    obtain ⟨x0, rfl, xi0⟩ := open_cmd_arg (hval 0 34 v0 rfl rfl) h0
    exact (args_any x0 W (tabs hL) (errs hL) xi0).mono fun _ _ h => ⟨h.1, h.2.belowSize⟩

theorem said : Rows.ClientArgsSaid :=
  OpenClaim.holds_of_wide 4 Tryd.f4 rfl rfl rfl rfl rfl rfl rfl ⟨rfl, rfl, rfl, rfl, rfl⟩ rfl rfl rfl rfl rfl (by kernel_rfl) Tryd.func4 (by kernel_rfl)
    (of_decide_eq_true (by kernel_rfl)) (by unfold Func.isWrapper; first | (rw [if_pos (by decide +kernel)]; kernel_rfl) | (rw [if_neg (by decide +kernel)]; exact ⟨rfl, rfl⟩))
    (fun os started H enc _ => lifted os started H enc)
theorem plainP (f : FuncId) (fn : Func) (hf : Tryd.pinned.checked.prog.funcNamed "palaver/palaverlaw24.ClientArgs" = some f) (hfn : Tryd.pinned.checked.prog.funcs[f]? = some fn) :
    true = Tryd.pinned.checked.prog.looks [] ∧ ∀ (j : Nat) t, fn.params[j]? = some t → Tryd.pinned.checked.prog.wantsStandIn t = false := by
  obtain rfl : f = 4 := Option.some.inj ((show Tryd.prog.funcNamed "palaver/palaverlaw24.ClientArgs" = some 4 by kernel_rfl).symm.trans hf) |>.symm
  obtain rfl : fn = Tryd.f4 := (Option.some.inj (Tryd.func4.symm.trans hfn)).symm
  refine ⟨by kernel_rfl, fun j t ht => ?_⟩
  rw [Tryd.params4] at ht
  have hm : t ∈ [34] := by simpa using Array.mem_of_getElem? ht
  have hall : ([34].all fun u => !Tryd.prog.wantsStandIn u) = true := by kernel_rfl
  exact (show Tryd.prog.wantsStandIn t = false by simpa using List.all_eq_true.1 hall t hm)

theorem clientArgs_card : Rows.ClientArgsCardSaid :=
  Claim7.holds_tied_plain_at .later [] _ _ _ _ said (fun _ h => by cases h) (by kernel_rfl) (fun _ h => by cases h) clientArgs_row_tie rfl ⟨rfl, rfl⟩ (by kernel_rfl) rfl plainP (by kernel_rfl)

end Go.Proofs.YtbbdmmhpbeleoaaDoor
