/- A value that comes in, opened. No function is named here. -/
import Derived.Test.YtdpbjdkkaekebaaDoorLawL
import Derived.Test.YtdpbjdkkaekebaaDoorVaD
namespace Go.Proofs.YtdpbjdkkaekebaaDoor
open Go Go.RowKit Go.WideShapes Go.ChangeShapes Go.ChangeAt

theorem i64_of_wf {n : Int} (h : (Lit.int .i64 n).wf = true) : I64 n := by
  have e1 : IntKind.i64.min = -9223372036854775808 := by rfl
  have e2 : IntKind.i64.max = 9223372036854775807 := by rfl
  simp [Lit.wf, e1, e2] at h
  exact ⟨by omega, by omega⟩
theorem maxLen_le {n : Nat} (h : n ≤ maxLen) : n ≤ 9223372036854775807 := by unfold maxLen at h; omega

section
variable {H : Type} {enc : TypeId × Value → H}
set_option maxRecDepth 100000 in
theorem open_val_arg {w : World} {r : Reach} {b0 : Nat} {v : Value} {d : DataW H} {p : List MemPlace} (hv : Value.okWide Tryd.prog w r b0 53 v) (h : DataW.Trod enc Tryd.prog w 0 (fun _ => true) true 53 v d p) :
    ∃ x : ValD, v = valV x ∧ I64 x.kind ∧ I64 x.n ∧ x.s.size ≤ 9223372036854775807 := by
  obtain ⟨v0, v1, v2, y0, y1, y2, n, rfl, _, _, h0, h1, h2⟩ := Joins.open_agg3 Tryd.underlying53 (by kernel_rfl) (by kernel_rfl) hv h
  obtain ⟨a, e0, x0, w0⟩ := DataW.trod_int Tryd.underlying3 h0
  obtain ⟨b, e1, x1, w1⟩ := DataW.trod_int Tryd.underlying2 h1
  obtain ⟨s, e2, x2, w2⟩ := DataW.trod_string Tryd.underlying9 h2
  simp at e0 e1 e2
  subst e0 e1 e2
  exact ⟨⟨a, b, s⟩, rfl, i64_of_wf w0, i64_of_wf w1, maxLen_le w2⟩
end

end Go.Proofs.YtdpbjdkkaekebaaDoor
