/- SameEntry, SameEntries: of like entries. -/
import Derived.Test.YtpppoajnbhipeaaCoreT
import Derived.Test.YtpppoajnbhipeaaStrs
namespace Go.Proofs.Ytpppoajnbhipeaa
open Go Go.RowKit

theorem conv_str {w : World} {v : Value} {bs : List UInt8} (hr : Reads w 1 v bs.length (u8s bs)) : (convert 38 9 v).run Try.prog w = .ok (.string (str bs)) w :=
  run_convert_str _ _ _ 5 _ bs Try.underlying38 Try.underlying5 Try.underlying9 hr

set_option maxHeartbeats 800000 in
theorem sameEntry_any (e : Ent) (a1 a2 : Option Addr) (c1 c2 : Nat) (w : World) (h1 : Reads w 1 (.slice a1 e.data.length c1) e.data.length (u8s e.data)) (h2 : Reads w 1 (.slice a2 e.data.length c2) e.data.length (u8s e.data)) :
    Calls Try.prog 60 #[.agg #[.int .i64 e.term, .bool e.cmd, .slice a1 e.data.length c1], .agg #[.int .i64 e.term, .bool e.cmd, .slice a2 e.data.length c2]] w fun x w' => x = .returned (.bool true) ∧ Keeps [] w w' := by
  have k2 : Keeps [] w ((w.alloc (.cells #[.int .i64 e.term, .bool e.cmd, .slice a1 e.data.length c1] 59)).alloc (.cells #[.int .i64 e.term, .bool e.cmd, .slice a2 e.data.length c2] 59)) := ((Keeps.refl [] w).alloc _).alloc _
  have v1 := conv_str (h1.keeps k2 (fun _ _ h => by cases h))
  have v2 := conv_str (h2.keeps k2 (fun _ _ h => by cases h))
  have K2 := hid k2
  clear h1 h2 k2
  go_enter Try.func60, Try.ntmps60
  go_wp2
  go_ret
  exact ⟨rfl, K2.out⟩

set_option maxRecDepth 100000 in
set_option maxHeartbeats 1600000 in
theorem sameEntries_any (l : List Ent) (P1 P2 : Nat → Prop) (a1 a2 : Option Addr) (c1 c2 : Nat) (w : World) (h1 : ListAt entL w P1 (.slice a1 l.length c1) l) (h2 : ListAt entL w P2 (.slice a2 l.length c2) l) (hl : l.length ≤ 100000) :
    Calls Try.prog 34 #[.slice a1 l.length c1, .slice a2 l.length c2] w fun x w' => x = .returned (.bool true) ∧ Keeps [] w w' := by
  have H1 := hid h1
  have H2 := hid h2
  clear h1 h2
  go_enter Try.func34, Try.ntmps34
  go_wp2_with fail
  go_loopw [5] (fun i wr => ∃ k : Nat, k ≤ l.length ∧ i = .int .i64 k ∧ Hid (Keeps [] w wr)) (fun i _ => l.length - (intOf i).toNat)
  case atStart => exact ⟨0, Nat.zero_le _, rfl, Keeps.refl [] w⟩
  case round =>
    obtain ⟨k, hk, rfl, HK⟩ := hrel
    by_cases hlt : k < l.length
    · have i0 : (0 : Int) ≤ (k : Int) := Int.natCast_nonneg _
      have i1 : (k : Int) < (l.length : Int) := by omega
      obtain ⟨e, he⟩ : ∃ e, l[k]? = some e := ⟨l[k], List.getElem?_eq_getElem hlt⟩
      obtain ⟨g, off, cg, av, cv, ha, _, _, x0, x1, x2, xb⟩ := (H1.out.k HK.out).ent he
      simp at ha
      obtain ⟨ha, hcc⟩ := ha
      subst ha
      subst hcc
      obtain ⟨g2, off2, cg2, av2, cv2, ha, _, _, y0, y1, y2, yb⟩ := (H2.out.k HK.out).ent he
      simp at ha
      obtain ⟨ha, hcc⟩ := ha
      subst ha
      subst hcc
      have XB := hid xb.1
      have YB := hid yb.1
      clear xb yb he
      go_wp2_with fail
      refine Plan.wp_region_plan (fun w' => w'.cell? ⟨g, off + k * 3, none⟩ = some (.int .i64 e.term) ∧ w'.cell? ⟨g, off + k * 3 + 1, none⟩ = some (.bool e.cmd) ∧ w'.cell? ⟨g, off + k * 3 + 2, none⟩ = some (.slice av e.data.length cv) ∧ w'.cell? ⟨g2, off2 + k * 3, none⟩ = some (.int .i64 e.term) ∧ w'.cell? ⟨g2, off2 + k * 3 + 1, none⟩ = some (.bool e.cmd) ∧ w'.cell? ⟨g2, off2 + k * 3 + 2, none⟩ = some (.slice av2 e.data.length cv2)) 8 [(true, 0), (true, 1), (true, 2), (true, 3), (true, 4), (true, 5), (true, 6), (true, 7)] (by kernel_rfl) (by as_aux_lemma => kernel_rfl) (by kernel_rfl) (fun _ _ _ _ _ h => h) ?_ (fun hS => ?_)
      (· exact ⟨x0, x1, x2, y0, y1, y2⟩)
      simp only [Plan.pick, List.append_eq, List.cons_append, List.nil_append, List.getElem?_cons_zero, List.getElem?_cons_succ, Option.getD_some, List.drop_succ_cons, List.drop_zero]
      repeat (first | (refine Plan.take (v := ?_) (a' := ?_) (by rfl) ?_ ?_ ?_; rotate_left 2; (· (intro w' hS'; (try dsimp only at hS'); go_simp; try with_reducible rfl)); (· (simp only [Act.put, List.setIfInBounds_toArray, List.set_cons_zero, List.set_cons_succ]; try with_reducible rfl))) | (refine Plan.pass (a' := ?_) (by rfl) ?_ ?_; rotate_left 1; (· (simp only [Act.put, List.setIfInBounds_toArray, List.set_cons_zero, List.set_cons_succ]; try with_reducible rfl))))
      refine Plan.fin ?_
      go_wp2_with fail
      refine (sameEntry_any e av av2 cv cv2 _ (by exact XB.out) (by exact YB.out)).mono ?_
      rintro x w3 ⟨rfl, k3⟩
      have K3 : Hid (Keeps [] w w3) := HK.out.drew.trans k3 (fun _ _ h => h)
      clear k3
      go_wp2_with fail
      go_roundw
      case rel => exact ⟨k + 1, by omega, by go_num, K3.out⟩
      case measure => simp [intOf]; omega
    · have hkl : k = l.length := by omega
      subst hkl
      go_wp2_with fail
      go_ret
      exact ⟨rfl, HK.out⟩

end Go.Proofs.Ytpppoajnbhipeaa
