/- ValueBoxes, walked kind by kind. (Printed by gen_boxes.py.) -/
import Derived.Test.YtnekkkppjofdlaaDoorVaChecks
namespace Go.Proofs.YtnekkkppjofdlaaDoor
open Go Go.RowKit

set_option maxRecDepth 100000 in
theorem one5_yes (n : Int) (w : World) : Calls Tryd.prog 17 #[.bool true, .int .i64 n] w fun e w' => e = .returned (.int .i64 n) ∧ w = w' := by
  go_enter Tryd.func17, Tryd.ntmps17
  go_wp2_with fail
  go_ret
  exact ⟨rfl, rfl⟩
set_option maxRecDepth 100000 in
theorem one5_no (n : Int) (w : World) : Calls Tryd.prog 17 #[.bool false, .int .i64 n] w fun e w' => e = .returned (.int .i64 0) ∧ w = w' := by
  go_enter Tryd.func17, Tryd.ntmps17
  go_wp2_with fail
  go_ret
  exact ⟨rfl, rfl⟩
theorem empty_of {s : ByteArray} (h : emptyB s = true) : s = ⟨#[]⟩ := by
  have h1 := emptyB_data h
  obtain ⟨d⟩ := s
  simp at h1
  subst h1
  rfl

end Go.Proofs.YtnekkkppjofdlaaDoor
