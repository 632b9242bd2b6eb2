/- 'CmdReplies' returns true whatever the input, and what came in reads as it did; the library's tables are what the program's text lays. -/
import Derived.Test.YtbbdmmhpbeleoaaDoorCmO
import Derived.Test.YtbbdmmhpbeleoaaDoorOpenC
import Derived.Test.YtbbdmmhpbeleoaaDoorQ11
import Derived.Deep.DeepHandedRow
namespace Go.Proofs.YtbbdmmhpbeleoaaDoor
open Go Go.RowKit Go.WideShapes Go.ChangeShapes Go.ChangeAt

theorem tabs {W : World} (h : laidMetH Tryd.prog Rows.cmdRepliesRow.laid W) : Tabs W := by
  rw [MakeChecks.laidMetH_plain _ _ _ (by kernel_rfl)] at h
  exact tabs_of_laid h (by simp [Rows.cmdRepliesRow]) (by simp [Rows.cmdRepliesRow]) (by simp [Rows.cmdRepliesRow])
theorem errs {W : World} (h : laidMetH Tryd.prog Rows.cmdRepliesRow.laid W) : Errs W := by
  rw [MakeChecks.laidMetH_plain _ _ _ (by kernel_rfl)] at h
  exact errs_of_laid h (by simp [Rows.cmdRepliesRow]) (by simp [Rows.cmdRepliesRow])

set_option maxRecDepth 100000 in
theorem lifted (os : Os) (started : os.Started) (H : Type) (enc : TypeId × Value → H) :
    ReturnsInHanded {} Tryd.checked os 3 .any (fun w args => (Rows.cmdRepliesSpec.pre enc Tryd.prog Tryd.f3 Rows.cmdRepliesRow.domain false w args ∧ laidMetH Tryd.prog Rows.cmdRepliesRow.laid w) ∧ sizedMet enc Tryd.prog Tryd.f3 (OpenSpec.ofChange Rows.cmdRepliesSpec) false w args)
      (Rows.cmdRepliesSpec.post enc Tryd.prog Tryd.f3 false true false false) := by
  refine laid_lifted os started H enc (by kernel_rfl) Tryd.func3 rfl rfl (by kernel_rfl) (fun ds hl => ?_)
    (ChangeSpec.witness_shaped (enc := enc) (C := Tryd.checked) (os := os) (X := fun w _ => laidMetH Tryd.prog Rows.cmdRepliesRow.laid w) false (World.laidAll Tryd.prog os Rows.cmdRepliesRow.laid) #[.agg #[.int .i64 0, .int .i64 0, .int .i64 0, .int .i64 0, .string ⟨#[]⟩]] 8 (World.laidAll_os _ _ _)
      (World.shaped_of_ZipB (by kernel_rfl) (by kernel_rfl)) (by kernel_rfl) (by kernel_rfl) (by kernel_rfl)
      (by rw [MakeChecks.laidMetH_plain _ _ _ (by kernel_rfl)]; exact laidMet_laidAll _ (by kernel_rfl) (by kernel_rfl))) ?_
  · match ds, hl with
    | [_], _ => rfl
  · intro W base args ds p hval hA hlt hL
    rw [Tryd.params3] at hA hval
    obtain ⟨v0, d0, rfl, _, h0⟩ := trodAll_one hA
    obtain ⟨x0, rfl, xi0⟩ := open_reply_arg (hval 0 26 v0 rfl rfl) h0
    exact (cmdReplies_any x0 W (tabs hL) (errs hL) xi0).mono fun _ _ h => ⟨h.1, h.2.belowSize⟩

theorem said : Rows.CmdRepliesSaid :=
  OpenClaim.holds_of_wide 3 Tryd.f3 rfl rfl rfl rfl rfl rfl rfl ⟨rfl, rfl, rfl, rfl, rfl⟩ rfl rfl rfl rfl rfl (by kernel_rfl) Tryd.func3 (by kernel_rfl)
    (of_decide_eq_true (by kernel_rfl)) (by unfold Func.isWrapper; first | (rw [if_pos (by decide +kernel)]; kernel_rfl) | (rw [if_neg (by decide +kernel)]; exact ⟨rfl, rfl⟩))
    (fun os started H enc _ => lifted os started H enc)
theorem plainP (f : FuncId) (fn : Func) (hf : Tryd.pinned.checked.prog.funcNamed "palaver/palaverlaw14.CmdReplies" = some f) (hfn : Tryd.pinned.checked.prog.funcs[f]? = some fn) :
    true = Tryd.pinned.checked.prog.looks [] ∧ ∀ (j : Nat) t, fn.params[j]? = some t → Tryd.pinned.checked.prog.wantsStandIn t = false := by
  obtain rfl : f = 3 := Option.some.inj ((show Tryd.prog.funcNamed "palaver/palaverlaw14.CmdReplies" = some 3 by kernel_rfl).symm.trans hf) |>.symm
  obtain rfl : fn = Tryd.f3 := (Option.some.inj (Tryd.func3.symm.trans hfn)).symm
  refine ⟨by kernel_rfl, fun j t ht => ?_⟩
  rw [Tryd.params3] at ht
  have hm : t ∈ [26] := by simpa using Array.mem_of_getElem? ht
  have hall : ([26].all fun u => !Tryd.prog.wantsStandIn u) = true := by kernel_rfl
  exact (show Tryd.prog.wantsStandIn t = false by simpa using List.all_eq_true.1 hall t hm)

theorem cmdReplies_card : Rows.CmdRepliesCardSaid :=
  Claim7.holds_tied_plain_at .later [] _ _ _ _ said (fun _ h => by cases h) (by kernel_rfl) (fun _ h => by cases h) cmdReplies_row_tie rfl ⟨rfl, rfl⟩ (by kernel_rfl) rfl plainP (by kernel_rfl)

end Go.Proofs.YtbbdmmhpbeleoaaDoor
