/- 'NetLines' returns true whatever the input, and what came in reads as it did. -/
import Derived.Test.YthgdknhocjlphaaNetW
import Derived.Test.YthgdknhocjlphaaLaw
import Derived.Test.YthgdknhocjlphaaOpen
namespace Go.Proofs.Ythgdknhocjlphaa
open Go Go.RowKit Go.WideShapes Go.ChangeShapes Go.Deep

section
variable {H : Type} {enc : TypeId × Value → H}
/-- A SLICE OF INTS that comes in. -/
theorem open_ints_arg {w : World} {a : Option Addr} {len cap : Nat} {d : DataW H} {ps : List MemPlace} (h : DataW.Trod enc Try.prog w 0 (fun _ => true) true 22 (.slice a len cap) d ps) :
    ∃ b off, len ≤ maxLen ∧ (0 < len → a = some ⟨b, off, none⟩) ∧ ∀ j, j < len → ∃ z, w.cell? ⟨b, off + j, none⟩ = some (.int .i64 z) ∧ (Lit.int .i64 z).wf = true := by
  obtain ⟨fuel, h⟩ := h
  rcases open_ints Try.underlying22 Try.underlying3 (by kernel_rfl) h with ⟨e, _⟩ | ⟨a', len', cap', zs, e, _, hlc, hcm, hzs, _, hc, hw⟩
  · simp [Value.cells] at e
    obtain ⟨_, rfl, _⟩ := e
    exact ⟨0, 0, Nat.zero_le _, fun h => absurd h (by omega), fun j h => absurd h (by omega)⟩
  · simp [Value.cells] at e
    obtain ⟨rfl, rfl, rfl⟩ := e
    simp only [if_true] at hzs
    refine ⟨a'.block, a'.off, Nat.le_trans hlc hcm, fun h0 => ?_, fun j hj => ?_⟩
    · have h0 := hc 0 (by omega)
      have hs : a'.spot = none := by simpa [Addr.add] using spot_of_cell h0
      cases a'; simp at hs; subst hs; rfl
    · have h0 := hc 0 (by omega)
      have hs : a'.spot = none := by simpa [Addr.add] using spot_of_cell h0
      have h1 := hc j (by omega)
      rw [addr_at hs] at h1
      refine ⟨_, h1, ?_⟩
      rw [List.getD_eq_getElem?_getD, List.getElem?_eq_getElem (by omega)]
      exact hw _ (List.getElem_mem _)
end

set_option maxRecDepth 100000 in
theorem netLines_lifted (os : Os) (started : os.Started) (H : Type) (enc : TypeId × Value → H) :
    ReturnsInHanded {} Try.checked os 3 .any (Rows.netLinesSpec.pre6 enc Try.prog Try.f3 Rows.netLinesRow.domain false) (Rows.netLinesSpec.post enc Try.prog Try.f3 false true false false) := by
  refine law_lifted os started H enc (by kernel_rfl) Try.func3 rfl rfl (by kernel_rfl) (fun ds hl => ?_) (ChangeSpec.witness6 (enc := enc) (C := Try.checked) false ⟨#[], #[.int .i64 0, .int .i64 0, .slice none 0 0], []⟩ 8 (by kernel_rfl) (by kernel_rfl) (by kernel_rfl) (by kernel_rfl)) ?_
  · match ds, hl with
    | [_, _, _], _ => rfl
  · intro W base args ds p hval hA hlt
    rw [Try.params3] at hA hval
    obtain ⟨v0, v1, v2, d0, d1, d2, p0, p1, p2, rfl, rfl, rfl, h0, h1, h2⟩ := trodAll_three hA
    obtain ⟨z, rfl, rfl, rfl, wz⟩ := open_int Try.underlying3 (hval 0 3 v0 rfl rfl) h0
    obtain ⟨z2, rfl, rfl, rfl, wz2⟩ := open_int Try.underlying3 (hval 1 3 v1 rfl rfl) h1
    obtain ⟨a, len, cap, rfl⟩ := okWide_slice Try.underlying22 (hval 2 22 v2 rfl rfl)
    obtain ⟨b, off, hl, ha, hz⟩ := open_ints_arg h2
    exact lines_walk z z2 b off len cap a W wz wz2 hl ha hz

theorem netLines_holds : Rows.NetLinesSaid :=
  OpenClaim.holds_of_wide 3 Try.f3 rfl rfl rfl rfl rfl rfl rfl ⟨rfl, rfl, rfl, rfl, rfl⟩ rfl rfl rfl rfl rfl (by kernel_rfl) Try.func3 (by kernel_rfl) (of_decide_eq_true (by kernel_rfl))
    (by unfold Func.isWrapper; rw [if_neg (of_decide_eq_false (by kernel_rfl))]; exact ⟨rfl, rfl⟩) (fun os started H enc _ => netLines_lifted os started H enc)

end Go.Proofs.Ythgdknhocjlphaa
