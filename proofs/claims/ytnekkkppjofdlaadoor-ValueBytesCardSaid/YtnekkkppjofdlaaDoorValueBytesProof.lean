/- 'ValueBytes' returns true whatever the input, and what came in reads as it did; the library's tables are what the program's text lays. -/
import Derived.Test.YtnekkkppjofdlaaDoorVaBytes
import Derived.Test.YtnekkkppjofdlaaDoorOpenV
import Derived.Test.YtnekkkppjofdlaaDoorLawZ
import Derived.Deep.DeepHandedRow
namespace Go.Proofs.YtnekkkppjofdlaaDoor
open Go Go.RowKit Go.WideShapes Go.ChangeShapes Go.ChangeAt

theorem tabs {W : World} (h : laidMetH Tryd.prog Rows.valueBytesRow.laid W) : Tabs W := by
  rw [MakeChecks.laidMetH_plain _ _ _ (by kernel_rfl)] at h
  exact tabs_of_laid h (by simp [Rows.valueBytesRow]) (by simp [Rows.valueBytesRow]) (by simp [Rows.valueBytesRow])

set_option maxRecDepth 100000 in
theorem lifted (os : Os) (started : os.Started) (H : Type) (enc : TypeId × Value → H) :
    ReturnsInHanded {} Tryd.checked os 8 .any (fun w args => (Rows.valueBytesSpec.pre enc Tryd.prog Tryd.f8 Rows.valueBytesRow.domain false w args ∧ laidMetH Tryd.prog Rows.valueBytesRow.laid w) ∧ sizedMet enc Tryd.prog Tryd.f8 (OpenSpec.ofChange Rows.valueBytesSpec) false w args)
      (Rows.valueBytesSpec.post enc Tryd.prog Tryd.f8 false true false false) := by
  refine laid_lifted_sized os started H enc (by kernel_rfl) Tryd.func8 rfl rfl (by kernel_rfl) (fun ds hl => ?_)
    (ChangeSpec.witness_shaped (enc := enc) (C := Tryd.checked) (os := os) (X := fun w _ => laidMetH Tryd.prog Rows.valueBytesRow.laid w) false (World.laidAll Tryd.prog os Rows.valueBytesRow.laid) #[.agg #[.int .i64 0, .int .i64 0, .string ⟨#[]⟩], .slice none 0 0] 8 (World.laidAll_os _ _ _)
      (World.shaped_of_ZipB (by kernel_rfl) (by kernel_rfl)) (by kernel_rfl) (by kernel_rfl) (by kernel_rfl)
      (by rw [MakeChecks.laidMetH_plain _ _ _ (by kernel_rfl)]; exact laidMet_laidAll _ (by kernel_rfl) (by kernel_rfl))) ?_
  · match ds, hl with
    | [_, _], _ => rfl
  · intro W base args ds p hval hA hlt hL hZ
    rw [Tryd.params8] at hA hval
    obtain ⟨v0, v1, d0, d1, p0, p1, rfl, rfl, _, h0, h1⟩ := trodAll_two hA
    obtain ⟨x0, rfl, xk0, xn0, xs0⟩ := open_val_arg (hval 0 23 v0 rfl rfl) h0
    obtain ⟨a1, len1, cap1, rfl⟩ := okWide_slice Tryd.underlying50 (hval 1 50 v1 rfl rfl)
    obtain ⟨bs1, rfl, hr1, hb1⟩ := open_bytes_arg h1
    have hz1 := bytes_short h1 (fun elems spare e => hZ 1 50 5 elems spare rfl (by rw [e]; rfl) Tryd.underlying50)
    exact (bytes_any x0 a1 cap1 bs1 W (tabs hL) hr1 hb1 hz1 xk0 xn0).mono fun _ _ h => ⟨h.1, h.2.belowSize⟩

theorem said : Rows.ValueBytesSaid :=
  OpenClaim.holds_of_wide 8 Tryd.f8 rfl rfl rfl rfl rfl rfl rfl ⟨rfl, rfl, rfl, rfl, rfl⟩ rfl rfl rfl rfl rfl (by kernel_rfl) Tryd.func8 (by kernel_rfl)
    (of_decide_eq_true (by kernel_rfl)) (by unfold Func.isWrapper; first | (rw [if_pos (by decide +kernel)]; kernel_rfl) | (rw [if_neg (by decide +kernel)]; exact ⟨rfl, rfl⟩))
    (fun os started H enc _ => lifted os started H enc)
theorem plainP (f : FuncId) (fn : Func) (hf : Tryd.pinned.checked.prog.funcNamed "palaver/palaverlaw05.ValueBytes" = some f) (hfn : Tryd.pinned.checked.prog.funcs[f]? = some fn) :
    true = Tryd.pinned.checked.prog.looks [] ∧ ∀ (j : Nat) t, fn.params[j]? = some t → Tryd.pinned.checked.prog.wantsStandIn t = false := by
  obtain rfl : f = 8 := Option.some.inj ((show Tryd.prog.funcNamed "palaver/palaverlaw05.ValueBytes" = some 8 by kernel_rfl).symm.trans hf) |>.symm
  obtain rfl : fn = Tryd.f8 := (Option.some.inj (Tryd.func8.symm.trans hfn)).symm
  refine ⟨by kernel_rfl, fun j t ht => ?_⟩
  rw [Tryd.params8] at ht
  have hm : t ∈ [23, 50] := by simpa using Array.mem_of_getElem? ht
  have hall : ([23, 50].all fun u => !Tryd.prog.wantsStandIn u) = true := by kernel_rfl
  exact (show Tryd.prog.wantsStandIn t = false by simpa using List.all_eq_true.1 hall t hm)

theorem valueBytes_card : Rows.ValueBytesCardSaid :=
  Claim7.holds_tied_plain_at .later [] _ _ _ _ said (fun _ h => by cases h) (by kernel_rfl) (fun _ h => by cases h) valueBytes_row_tie rfl ⟨rfl, rfl⟩ (by kernel_rfl) rfl plainP (by kernel_rfl)

end Go.Proofs.YtnekkkppjofdlaaDoor
