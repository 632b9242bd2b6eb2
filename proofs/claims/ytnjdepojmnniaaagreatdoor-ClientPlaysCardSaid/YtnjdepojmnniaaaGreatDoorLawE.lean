/- strconv's two errors, laid. No function is named here. -/
import Derived.Test.YtnjdepojmnniaaaGreatDoorQ37
import Derived.LaidLaws

set_option linter.unusedSimpArgs false
set_option linter.unusedVariables false
namespace Go.Proofs.YtnjdepojmnniaaaGreatDoor
open Go Go.RowKit Go.WideShapes Go.ChangeShapes Go.ChangeAt

theorem err_of_laid {l : List (String × DataW Unit)} {W : World} (h : laidMet Tryz.prog l W) {nm : String} {x : DataW Unit} {g : Nat} (hg : Tryz.prog.globalNamed nm = some g) (ht : (Tryz.prog.globals[g]?).map (·.type) = some 124) (hm : (nm, .iface "*errors.errorString" x) ∈ l) : ∃ tp p, W.var? Tryz.prog nm = some #[.iface tp p] := by
  obtain ⟨g', t, cs, fuel, p, hg', hty, hvar, hd⟩ := Lib.laidMet.reads h hm
  obtain rfl := Option.some.inj (hg.symm.trans hg')
  obtain rfl := Option.some.inj (ht.symm.trans hty)
  obtain ⟨_, u, v, hc, _⟩ := iface_of_trod Tryz.underlying124 hd
  refine ⟨u, v, ?_⟩
  rw [hvar]
  congr 1
  exact Array.toList_inj.1 hc
theorem errs_of_laid {l : List (String × DataW Unit)} {W : World} (h : laidMet Tryz.prog l W) (h1 : ("strconv.ErrSyntax", Rows.laid_strconv_ErrSyntax) ∈ l) (h2 : ("strconv.ErrRange", Rows.laid_strconv_ErrRange) ∈ l) : Errs W :=
  ⟨err_of_laid h (g := 2) (by kernel_rfl) (by kernel_rfl) h1, err_of_laid h (g := 3) (by kernel_rfl) (by kernel_rfl) h2⟩

end Go.Proofs.YtnjdepojmnniaaaGreatDoor
