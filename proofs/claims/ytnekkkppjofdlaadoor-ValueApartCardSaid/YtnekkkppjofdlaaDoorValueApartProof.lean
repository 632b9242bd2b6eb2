/- 'ValueApart' returns true whatever the input, and what came in reads as it did; the library's tables are what the program's text lays. -/
import Derived.Test.YtnekkkppjofdlaaDoorVaApart
import Derived.Test.YtnekkkppjofdlaaDoorOpenV
import Derived.Deep.DeepHandedRow
namespace Go.Proofs.YtnekkkppjofdlaaDoor
open Go Go.RowKit Go.WideShapes Go.ChangeShapes Go.ChangeAt

theorem tabs {W : World} (h : laidMetH Tryd.prog Rows.valueApartRow.laid W) : Tabs W := by
  rw [MakeChecks.laidMetH_plain _ _ _ (by kernel_rfl)] at h
  exact tabs_of_laid h (by simp [Rows.valueApartRow]) (by simp [Rows.valueApartRow]) (by simp [Rows.valueApartRow])

set_option maxRecDepth 100000 in
theorem lifted (os : Os) (started : os.Started) (H : Type) (enc : TypeId × Value → H) :
    ReturnsInHanded {} Tryd.checked os 7 .any (fun w args => (Rows.valueApartSpec.pre enc Tryd.prog Tryd.f7 Rows.valueApartRow.domain false w args ∧ laidMetH Tryd.prog Rows.valueApartRow.laid w) ∧ sizedMet enc Tryd.prog Tryd.f7 (OpenSpec.ofChange Rows.valueApartSpec) false w args)
      (Rows.valueApartSpec.post enc Tryd.prog Tryd.f7 false true false false) := by
  refine laid_lifted os started H enc (by kernel_rfl) Tryd.func7 rfl rfl (by kernel_rfl) (fun ds hl => ?_)
    (ChangeSpec.witness_shaped (enc := enc) (C := Tryd.checked) (os := os) (X := fun w _ => laidMetH Tryd.prog Rows.valueApartRow.laid w) false (World.laidAll Tryd.prog os Rows.valueApartRow.laid) #[.agg #[.int .i64 0, .int .i64 0, .string ⟨#[]⟩], .agg #[.int .i64 0, .int .i64 0, .string ⟨#[]⟩]] 8 (World.laidAll_os _ _ _)
      (World.shaped_of_ZipB (by kernel_rfl) (by kernel_rfl)) (by kernel_rfl) (by kernel_rfl) (by kernel_rfl)
      (by rw [MakeChecks.laidMetH_plain _ _ _ (by kernel_rfl)]; exact laidMet_laidAll _ (by kernel_rfl) (by kernel_rfl))) ?_
  · match ds, hl with
    | [_, _], _ => rfl
  · intro W base args ds p hval hA hlt hL
    rw [Tryd.params7] at hA hval
    obtain ⟨v0, v1, d0, d1, p0, p1, rfl, _, _, h0, h1⟩ := trodAll_two hA
    obtain ⟨x0, rfl, xk0, xn0, xs0⟩ := open_val_arg (hval 0 23 v0 rfl rfl) h0
    obtain ⟨x1, rfl, xk1, xn1, xs1⟩ := open_val_arg (hval 1 23 v1 rfl rfl) h1
    exact (apart_any x0 x1 W (tabs hL) xk0 xn0 xk1 xn1).mono fun _ _ h => ⟨h.1, h.2.belowSize⟩

theorem said : Rows.ValueApartSaid :=
  OpenClaim.holds_of_wide 7 Tryd.f7 rfl rfl rfl rfl rfl rfl rfl ⟨rfl, rfl, rfl, rfl, rfl⟩ rfl rfl rfl rfl rfl (by kernel_rfl) Tryd.func7 (by kernel_rfl)
    (of_decide_eq_true (by kernel_rfl)) (by unfold Func.isWrapper; first | (rw [if_pos (by decide +kernel)]; kernel_rfl) | (rw [if_neg (by decide +kernel)]; exact ⟨rfl, rfl⟩))
    (fun os started H enc _ => lifted os started H enc)
theorem plainP (f : FuncId) (fn : Func) (hf : Tryd.pinned.checked.prog.funcNamed "palaver/palaverlaw05.ValueApart" = some f) (hfn : Tryd.pinned.checked.prog.funcs[f]? = some fn) :
    true = Tryd.pinned.checked.prog.looks [] ∧ ∀ (j : Nat) t, fn.params[j]? = some t → Tryd.pinned.checked.prog.wantsStandIn t = false := by
  obtain rfl : f = 7 := Option.some.inj ((show Tryd.prog.funcNamed "palaver/palaverlaw05.ValueApart" = some 7 by kernel_rfl).symm.trans hf) |>.symm
  obtain rfl : fn = Tryd.f7 := (Option.some.inj (Tryd.func7.symm.trans hfn)).symm
  refine ⟨by kernel_rfl, fun j t ht => ?_⟩
  rw [Tryd.params7] at ht
  have hm : t ∈ [23, 23] := by simpa using Array.mem_of_getElem? ht
  have hall : ([23, 23].all fun u => !Tryd.prog.wantsStandIn u) = true := by kernel_rfl
  exact (show Tryd.prog.wantsStandIn t = false by simpa using List.all_eq_true.1 hall t hm)

theorem valueApart_card : Rows.ValueApartCardSaid :=
  Claim7.holds_tied_plain_at .later [] _ _ _ _ said (fun _ h => by cases h) (by kernel_rfl) (fun _ h => by cases h) valueApart_row_tie rfl ⟨rfl, rfl⟩ (by kernel_rfl) rfl plainP (by kernel_rfl)

end Go.Proofs.YtnekkkppjofdlaaDoor
