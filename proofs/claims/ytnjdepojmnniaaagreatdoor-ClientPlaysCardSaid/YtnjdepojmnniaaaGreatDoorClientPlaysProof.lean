/- 'ClientPlays' returns true whatever the input, and what came in reads as it did; the library's tables are what the program's text lays. -/
import Derived.Test.YtnjdepojmnniaaaGreatDoorClW
import Derived.Test.YtnjdepojmnniaaaGreatDoorQ38
import Derived.Test.YtnjdepojmnniaaaGreatDoorLawE
import Derived.Deep.DeepHandedRow

set_option linter.unusedSimpArgs false
set_option linter.unusedVariables false
namespace Go.Proofs.YtnjdepojmnniaaaGreatDoor
open Go Go.RowKit Go.WideShapes Go.ChangeShapes Go.ChangeAt

theorem tabs {W : World} (h : laidMetH Tryz.prog Rows.clientPlaysRow.laid W) : Tabs W := by
  rw [MakeChecks.laidMetH_plain _ _ _ (by kernel_rfl)] at h
  exact tabs_of_laid h (by simp [Rows.clientPlaysRow]) (by simp [Rows.clientPlaysRow]) (by simp [Rows.clientPlaysRow])
theorem errs {W : World} (h : laidMetH Tryz.prog Rows.clientPlaysRow.laid W) : Errs W := by
  rw [MakeChecks.laidMetH_plain _ _ _ (by kernel_rfl)] at h
  exact errs_of_laid h (by simp [Rows.clientPlaysRow]) (by simp [Rows.clientPlaysRow])

set_option maxRecDepth 100000 in
theorem lifted (os : Os) (started : os.Started) (H : Type) (enc : TypeId × Value → H) :
    ReturnsInHanded {} Tryz.checked os 4 .any (fun w args => (Rows.clientPlaysSpec.pre enc Tryz.prog Tryz.f4 Rows.clientPlaysRow.domain false w args ∧ laidMetH Tryz.prog Rows.clientPlaysRow.laid w) ∧ sizedMet enc Tryz.prog Tryz.f4 (OpenSpec.ofChange Rows.clientPlaysSpec) false w args)
      (Rows.clientPlaysSpec.post enc Tryz.prog Tryz.f4 false true false false) := by
  refine laid_lifted_weights os started H enc (by kernel_rfl) Tryz.func4 rfl rfl (by kernel_rfl) (fun ds hl => ?_)
    (ChangeSpec.witness_shaped (enc := enc) (C := Tryz.checked) (os := os) (X := fun w _ => laidMetH Tryz.prog Rows.clientPlaysRow.laid w) false (World.laidAll Tryz.prog os Rows.clientPlaysRow.laid) #[.int .i64 0, .int .i64 0, .int .i64 0, .slice none 0 0] 8 (World.laidAll_os _ _ _)
      (World.shaped_of_ZipB (by kernel_rfl) (by kernel_rfl)) (by kernel_rfl) (by kernel_rfl) (by kernel_rfl)
      (by rw [MakeChecks.laidMetH_plain _ _ _ (by kernel_rfl)]; exact laidMet_laidAll _ (by kernel_rfl) (by kernel_rfl))) ?_
  · match ds, hl with
    | [_, _, _, _], _ => rfl
  · intro W base args ds p hval hA hlt hL hZ
    rw [Tryz.params4] at hA hval
    obtain ⟨v0, v1, v2, v3, d0, d1, d2, d3, p0, p1, p2, p3, rfl, rfl, _, h0, h1, h2, h3⟩ := trodAll_four hA
    obtain ⟨x0, rfl, _, _, xw0⟩ := open_int Tryz.underlying3 (hval 0 3 v0 rfl rfl) h0
    obtain ⟨x1, rfl, _, _, xw1⟩ := open_int Tryz.underlying3 (hval 1 3 v1 rfl rfl) h1
    obtain ⟨x2, rfl, _, _, xw2⟩ := open_int Tryz.underlying3 (hval 2 3 v2 rfl rfl) h2
    obtain ⟨a3, len3, cap3, rfl⟩ := okWide_slice Tryz.underlying22 (hval 3 22 v3 rfl rfl)
    obtain ⟨ls3, rfl, hr3, hz3⟩ := open_ops24 h3 (hZ 3 22 d3 rfl rfl)
    exact (plays24_any x0 x1 x2 a3 cap3 ls3 W (tabs hL) (errs hL) xw0 xw1 xw2 hr3 hz3).mono fun _ _ h => ⟨h.1, h.2.belowSize⟩

theorem said : Rows.ClientPlaysSaid :=
  OpenClaim.holds_of_wide 4 Tryz.f4 rfl rfl rfl rfl rfl rfl rfl ⟨rfl, rfl, rfl, rfl, rfl⟩ rfl rfl rfl rfl rfl (by kernel_rfl) Tryz.func4 (by kernel_rfl)
    (of_decide_eq_true (by kernel_rfl)) (by unfold Func.isWrapper; first | (rw [if_pos (by decide +kernel)]; kernel_rfl) | (rw [if_neg (by decide +kernel)]; exact ⟨rfl, rfl⟩))
    (fun os started H enc _ => lifted os started H enc)
theorem plainP (f : FuncId) (fn : Func) (hf : Tryz.pinned.checked.prog.funcNamed "palaver/palaverlaw24.ClientPlays" = some f) (hfn : Tryz.pinned.checked.prog.funcs[f]? = some fn) :
    true = Tryz.pinned.checked.prog.looks [] ∧ ∀ (j : Nat) t, fn.params[j]? = some t → Tryz.pinned.checked.prog.wantsStandIn t = false := by
  obtain rfl : f = 4 := Option.some.inj ((show Tryz.prog.funcNamed "palaver/palaverlaw24.ClientPlays" = some 4 by kernel_rfl).symm.trans hf) |>.symm
  obtain rfl : fn = Tryz.f4 := (Option.some.inj (Tryz.func4.symm.trans hfn)).symm
  refine ⟨by kernel_rfl, fun j t ht => ?_⟩
  rw [Tryz.params4] at ht
  have hm : t ∈ [3, 3, 3, 22] := by simpa using Array.mem_of_getElem? ht
  have hall : ([3, 3, 3, 22].all fun u => !Tryz.prog.wantsStandIn u) = true := by kernel_rfl
  exact (show Tryz.prog.wantsStandIn t = false by simpa using List.all_eq_true.1 hall t hm)

theorem clientPlays_card : Rows.ClientPlaysCardSaid :=
  Claim7.holds_tied_plain_at .later [] _ _ _ _ said (fun _ h => by cases h) (by kernel_rfl) (fun _ h => by cases h) clientPlays_row_tie rfl ⟨rfl, rfl⟩ (by kernel_rfl) rfl plainP (by kernel_rfl)

end Go.Proofs.YtnjdepojmnniaaaGreatDoor
