/- 'NetOnce' returns true whatever the input, and what came in reads as it did. -/
import Derived.Test.YthgdknhocjlphaaNetV
import Derived.Test.YthgdknhocjlphaaPlaysProof
namespace Go.Proofs.Ythgdknhocjlphaa
open Go Go.RowKit Go.WideShapes Go.ChangeShapes Go.Deep

theorem Once_any (bs : List UInt8) (c : Nat) (a : Option Addr) (w : World) (hr : Reads w 1 (.slice a bs.length c) bs.length (u8s bs)) (hb : ∀ k ∈ ownB (.slice a bs.length c), bs.length ≠ 0 → k < w.heap.size)
    (b off len cap : Nat) (a0 : Option Addr) (ha : 0 < len → a0 = some ⟨b, off, none⟩) (hbb : 0 < len → b < w.heap.size) (hop : ∀ j, j < len → OpAt w w.heap.size b (off + j * 5)) :
    Calls Try.prog 6 #[.slice a bs.length c, .slice a0 len cap] w fun e w' => e = .returned (.bool true) ∧ Below w.heap.size w w' := by
  by_cases hl : 1 ≤ bs.length ∧ bs.length ≤ 300
  · exact once_walk bs c a w hr hb hl.1 hl.2 b off len cap a0 ha hbb hop
  · clear hr hb ha hbb hop
    have hd : bs.length < 1 ∨ 300 < bs.length := by omega
    rcases hd with hd | hd
    all_goals
      go_enter Try.func6, Try.ntmps6
      go_wp2_with fail
      refine (awake_any _).mono ?_
      rintro e w9 ⟨rfl, k9⟩
      go_wp2_with fail
      go_ret
      exact ⟨rfl, k9.below (Nat.le_refl _) (fun _ h => by cases h)⟩

set_option maxRecDepth 100000 in
theorem netOnce_lifted (os : Os) (started : os.Started) (H : Type) (enc : TypeId × Value → H) :
    ReturnsInHanded {} Try.checked os 6 .any (Rows.netOnceSpec.pre6 enc Try.prog Try.f6 Rows.netOnceRow.domain false) (Rows.netOnceSpec.post enc Try.prog Try.f6 false true false false) := by
  refine law_lifted os started H enc (by kernel_rfl) Try.func6 rfl rfl (by kernel_rfl) (fun ds hl => ?_) (ChangeSpec.witness6 (enc := enc) (C := Try.checked) false ⟨#[], #[.slice none 0 0, .slice none 0 0], []⟩ 8 (by kernel_rfl) (by kernel_rfl) (by kernel_rfl) (by kernel_rfl)) ?_
  · match ds, hl with
    | [_, _], _ => rfl
  · intro W base args ds p hval hA hlt
    rw [Try.params6] at hA hval
    obtain ⟨v0, v1, d0, d1, p0, p1, rfl, rfl, rfl, h0, h1⟩ := trodAll_two hA
    obtain ⟨a, len, cap, rfl⟩ := okWide_slice Try.underlying26 (hval 0 26 v0 rfl rfl)
    obtain ⟨bs, rfl, hr, hb⟩ := open_bytes_arg h0
    obtain ⟨a1, len1, cap1, rfl⟩ := okWide_slice Try.underlying37 (hval 1 37 v1 rfl rfl)
    obtain ⟨b, off, ha, hb1, hop⟩ := open_ops h1
    exact Once_any bs cap a W hr hb b off len1 cap1 a1 ha hb1 hop

theorem netOnce_holds : Rows.NetOnceSaid :=
  OpenClaim.holds_of_wide 6 Try.f6 rfl rfl rfl rfl rfl rfl rfl ⟨rfl, rfl, rfl, rfl, rfl⟩ rfl rfl rfl rfl rfl (by kernel_rfl) Try.func6 (by kernel_rfl) (of_decide_eq_true (by kernel_rfl))
    (by unfold Func.isWrapper; rw [if_neg (of_decide_eq_false (by kernel_rfl))]; exact ⟨rfl, rfl⟩) (fun os started H enc _ => netOnce_lifted os started H enc)

end Go.Proofs.Ythgdknhocjlphaa
