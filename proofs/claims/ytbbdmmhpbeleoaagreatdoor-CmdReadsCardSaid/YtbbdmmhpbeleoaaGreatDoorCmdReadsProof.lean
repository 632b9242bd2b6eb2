/- 'CmdReads' returns true whatever the input, and what came in reads as it did; the library's tables are what the program's text lays. -/
import Derived.Test.YtbbdmmhpbeleoaaGreatDoorCmN
import Derived.Test.YtbbdmmhpbeleoaaGreatDoorOpenC
import Derived.Test.YtbbdmmhpbeleoaaGreatDoorQ32
import Derived.Deep.DeepHandedRow

set_option linter.unusedSimpArgs false
set_option linter.unusedVariables false
namespace Go.Proofs.YtbbdmmhpbeleoaaGreatDoor
open Go Go.RowKit Go.WideShapes Go.ChangeShapes Go.ChangeAt

theorem tabs {W : World} (h : laidMetH Tryz.prog Rows.cmdReadsRow.laid W) : Tabs W := by
  rw [MakeChecks.laidMetH_plain _ _ _ (by kernel_rfl)] at h
  exact tabs_of_laid h (by simp [Rows.cmdReadsRow]) (by simp [Rows.cmdReadsRow]) (by simp [Rows.cmdReadsRow])
theorem errs {W : World} (h : laidMetH Tryz.prog Rows.cmdReadsRow.laid W) : Errs W := by
  rw [MakeChecks.laidMetH_plain _ _ _ (by kernel_rfl)] at h
  exact errs_of_laid h (by simp [Rows.cmdReadsRow]) (by simp [Rows.cmdReadsRow])

set_option maxRecDepth 100000 in
theorem lifted (os : Os) (started : os.Started) (H : Type) (enc : TypeId × Value → H) :
    ReturnsInHanded {} Tryz.checked os 7 .any (fun w args => (Rows.cmdReadsSpec.pre enc Tryz.prog Tryz.f7 Rows.cmdReadsRow.domain false w args ∧ laidMetH Tryz.prog Rows.cmdReadsRow.laid w) ∧ sizedMet enc Tryz.prog Tryz.f7 (OpenSpec.ofChange Rows.cmdReadsSpec) false w args)
      (Rows.cmdReadsSpec.post enc Tryz.prog Tryz.f7 false true false false) := by
  refine laid_lifted_sized os started H enc (by kernel_rfl) Tryz.func7 rfl rfl (by kernel_rfl) (fun ds hl => ?_)
    (ChangeSpec.witness_shaped (enc := enc) (C := Tryz.checked) (os := os) (X := fun w _ => laidMetH Tryz.prog Rows.cmdReadsRow.laid w) false (World.laidAll Tryz.prog os Rows.cmdReadsRow.laid) #[.slice none 0 0] 8 (World.laidAll_os _ _ _)
      (World.shaped_of_ZipB (by kernel_rfl) (by kernel_rfl)) (by kernel_rfl) (by kernel_rfl) (by kernel_rfl)
      (by rw [MakeChecks.laidMetH_plain _ _ _ (by kernel_rfl)]; exact laidMet_laidAll _ (by kernel_rfl) (by kernel_rfl))) ?_
  · match ds, hl with
    | [_], _ => rfl
  · intro W base args ds p hval hA hlt hL hZ
    rw [Tryz.params7] at hA hval
    obtain ⟨v0, d0, rfl, rfl, h0⟩ := trodAll_one hA
    obtain ⟨a0, len0, cap0, rfl⟩ := okWide_slice Tryz.underlying28 (hval 0 28 v0 rfl rfl)
    obtain ⟨bs0, rfl, hr0, hb0⟩ := open_bytes_arg h0
    have hz0 := bytes_short h0 (fun elems spare e => hZ 0 28 5 elems spare rfl (by rw [e]; rfl) Tryz.underlying28)
    exact (cmdReads_any a0 cap0 bs0 W (tabs hL) (errs hL) hr0 hz0).mono fun _ _ h => ⟨h.1, h.2.belowSize⟩

theorem said : Rows.CmdReadsSaid :=
  OpenClaim.holds_of_wide 7 Tryz.f7 rfl rfl rfl rfl rfl rfl rfl ⟨rfl, rfl, rfl, rfl, rfl⟩ rfl rfl rfl rfl rfl (by kernel_rfl) Tryz.func7 (by kernel_rfl)
    (of_decide_eq_true (by kernel_rfl)) (by unfold Func.isWrapper; first | (rw [if_pos (by decide +kernel)]; kernel_rfl) | (rw [if_neg (by decide +kernel)]; exact ⟨rfl, rfl⟩))
    (fun os started H enc _ => lifted os started H enc)
theorem plainP (f : FuncId) (fn : Func) (hf : Tryz.pinned.checked.prog.funcNamed "palaver/palaverlaw14.CmdReads" = some f) (hfn : Tryz.pinned.checked.prog.funcs[f]? = some fn) :
    true = Tryz.pinned.checked.prog.looks [] ∧ ∀ (j : Nat) t, fn.params[j]? = some t → Tryz.pinned.checked.prog.wantsStandIn t = false := by
  obtain rfl : f = 7 := Option.some.inj ((show Tryz.prog.funcNamed "palaver/palaverlaw14.CmdReads" = some 7 by kernel_rfl).symm.trans hf) |>.symm
  obtain rfl : fn = Tryz.f7 := (Option.some.inj (Tryz.func7.symm.trans hfn)).symm
  refine ⟨by kernel_rfl, fun j t ht => ?_⟩
  rw [Tryz.params7] at ht
  have hm : t ∈ [28] := by simpa using Array.mem_of_getElem? ht
  have hall : ([28].all fun u => !Tryz.prog.wantsStandIn u) = true := by kernel_rfl
  exact (show Tryz.prog.wantsStandIn t = false by simpa using List.all_eq_true.1 hall t hm)

theorem cmdReads_card : Rows.CmdReadsCardSaid :=
  Claim7.holds_tied_plain_at .later [] _ _ _ _ said (fun _ h => by cases h) (by kernel_rfl) (fun _ h => by cases h) cmdReads_row_tie rfl ⟨rfl, rfl⟩ (by kernel_rfl) rfl plainP (by kernel_rfl)

end Go.Proofs.YtbbdmmhpbeleoaaGreatDoor
