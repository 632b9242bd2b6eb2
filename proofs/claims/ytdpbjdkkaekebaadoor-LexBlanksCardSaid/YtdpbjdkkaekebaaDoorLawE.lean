/- strconv's two errors, laid. No function is named here. -/
import Derived.Test.YtdpbjdkkaekebaaDoorLawL
import Derived.LaidLaws
namespace Go.Proofs.YtdpbjdkkaekebaaDoor
open Go Go.RowKit Go.WideShapes Go.ChangeShapes Go.ChangeAt

theorem err_of_laid {l : List (String × DataW Unit)} {W : World} (h : laidMet Tryd.prog l W) {nm : String} {x : DataW Unit} {g : Nat} (hg : Tryd.prog.globalNamed nm = some g) (ht : (Tryd.prog.globals[g]?).map (·.type) = some 59) (hm : (nm, .iface "*errors.errorString" x) ∈ l) : ∃ tp p, W.var? Tryd.prog nm = some #[.iface tp p] := by
  obtain ⟨g', t, cs, fuel, p, hg', hty, hvar, hd⟩ := Lib.laidMet.reads h hm
  obtain rfl := Option.some.inj (hg.symm.trans hg')
  obtain rfl := Option.some.inj (ht.symm.trans hty)
  obtain ⟨_, u, v, hc, _⟩ := iface_of_trod Tryd.underlying59 hd
  refine ⟨u, v, ?_⟩
  rw [hvar]
  congr 1
  exact Array.toList_inj.1 hc
theorem errs_of_laid {l : List (String × DataW Unit)} {W : World} (h : laidMet Tryd.prog l W) (h1 : ("strconv.ErrSyntax", Rows.laid_strconv_ErrSyntax) ∈ l) (h2 : ("strconv.ErrRange", Rows.laid_strconv_ErrRange) ∈ l) : Errs W :=
  ⟨err_of_laid h (g := 0) (by kernel_rfl) (by kernel_rfl) h1, err_of_laid h (g := 1) (by kernel_rfl) (by kernel_rfl) h2⟩

end Go.Proofs.YtdpbjdkkaekebaaDoor
