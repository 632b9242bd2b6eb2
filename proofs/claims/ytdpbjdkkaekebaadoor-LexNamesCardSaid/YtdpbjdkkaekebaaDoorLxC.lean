/- palaverref01.Class: one walk, all its ways. -/
import Derived.Test.YtdpbjdkkaekebaaDoorLxK
namespace Go.Proofs.YtdpbjdkkaekebaaDoor
open Go Go.RowKit

theorem cls_a {r : Nat} (h : r = 9 ∨ r = 10 ∨ r = 13 ∨ r = 32 ∨ r = 160 ∨ r = 12288) : clsR r = 3 := clsR_space h
theorem cls_b {r : Nat} (h : r = 95 ∨ r = 170 ∨ r = 181 ∨ r = 186) : clsR r = 1 := clsR_four (by omega) h
theorem cls_c {r : Nat} (h : 48 ≤ r ∧ r ≤ 57) : clsR r = 2 := clsR_digit (by omega) (by omega) h
theorem cls_d {r : Nat} (h : ¬ (r = 9 ∨ r = 10 ∨ r = 13 ∨ r = 32 ∨ r = 160 ∨ r = 12288)) (h3 : ¬ (48 ≤ r ∧ r ≤ 57)) (h4 : (97 ≤ r ∧ r ≤ 122) ∨ (65 ≤ r ∧ r ≤ 90) ∨ (192 ≤ r ∧ r ≤ 214) ∨ (216 ≤ r ∧ r ≤ 246) ∨ (248 ≤ r ∧ r ≤ 591) ∨ (913 ≤ r ∧ r ≤ 929) ∨ (931 ≤ r ∧ r ≤ 937) ∨ (945 ≤ r ∧ r ≤ 969) ∨ (1040 ≤ r ∧ r ≤ 1103) ∨ (19968 ≤ r ∧ r ≤ 40959)) : clsR r = 1 := by
  unfold clsR
  rw [if_neg h, if_neg (by omega), if_neg h3, if_pos h4]
theorem cls_e {r : Nat} (h : ¬ (r = 9 ∨ r = 10 ∨ r = 13 ∨ r = 32 ∨ r = 160 ∨ r = 12288)) (h2 : ¬ (r = 95 ∨ r = 170 ∨ r = 181 ∨ r = 186)) (h3 : ¬ (48 ≤ r ∧ r ≤ 57)) (h4 : ¬ (97 ≤ r ∧ r ≤ 122)) (h5 : ¬ (65 ≤ r ∧ r ≤ 90)) (h6 : ¬ (192 ≤ r ∧ r ≤ 591 ∧ r ≠ 215 ∧ r ≠ 247)) (h7 : ¬ (913 ≤ r ∧ r ≤ 937 ∧ r ≠ 930)) (h8 : ¬ (945 ≤ r ∧ r ≤ 969)) (h9 : ¬ (1040 ≤ r ∧ r ≤ 1103)) (h10 : ¬ (19968 ≤ r ∧ r ≤ 40959)) : clsR r = 0 := by
  unfold clsR
  rw [if_neg h, if_neg h2, if_neg h3, if_neg (by omega)]
set_option maxHeartbeats 20000000 in
set_option maxRecDepth 100000 in
theorem r1Class_any (r : Nat) (w : World) : Calls Tryd.prog 40 #[.int .i32 r] w fun e w' => e = .returned (.int .i64 (clsR r)) ∧ Keeps [] w w' := by
  obtain ⟨z, hz⟩ : ∃ z : Int, (r : Int) = z := ⟨_, rfl⟩
  rw [hz]
  have HZ := hid hz
  have HP : ∀ n : Nat, clsR r = n → (Ending.returned (.int .i64 n) = .returned (.int .i64 (clsR r)) ∧ Keeps [] w w) := fun n h => ⟨by rw [h], Keeps.refl [] w⟩
  have HP := hid HP
  clear hz
  go_enter Tryd.func40, Tryd.ntmps40
  go_wp2_with fail
  all_goals
    go_ret
    have hz := HZ.out
    try simp only [Bool.or_eq_true, Bool.and_eq_true, beq_iff_eq, bne_iff_ne, decide_eq_true_eq, ne_eq, not_or, not_and, Bool.not_eq_true, beq_eq_false_iff_ne, decide_eq_false_iff_not, Bool.or_eq_false_iff, Bool.and_eq_false_imp, bne_eq_false_iff_eq] at *
    first
    | exact HP.out 2 (cls_c (by omega))
    | exact HP.out 3 (cls_a (by omega))
    | exact HP.out 1 (cls_b (by omega))
    | exact HP.out 1 (cls_d (by omega) (by omega) (by omega))
    | exact HP.out 0 (cls_e (by omega) (by omega) (by omega) (by omega) (by omega) (by omega) (by omega) (by omega) (by omega) (by omega))
    | fail

end Go.Proofs.YtdpbjdkkaekebaaDoor
