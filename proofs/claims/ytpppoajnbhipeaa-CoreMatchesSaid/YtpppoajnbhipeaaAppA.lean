/- appended: who follows has entries, or has not. -/
import Derived.Test.YtpppoajnbhipeaaVotedA
namespace Go.Proofs.Ytpppoajnbhipeaa
open Go Go.RowKit

theorem appendedD_no {c : CoreD} {m : MsgD} (h : m.term ≠ c.term ∨ c.role ≠ 2 ∨ (m.ok = true ∧ lastD c < m.a)) : appendedD c m = (c, []) := by unfold appendedD; rw [if_pos h]

set_option maxRecDepth 100000 in
set_option maxHeartbeats 3200000 in
theorem appended_no (w : World) (B n : Nat) (c : CoreD) (lv sv : Value) (m : MsgD) (ea da : Option Addr) (ec dc : Nat) (h : CoreAt w B n c lv sv) (hn : m.term ≠ c.term ∨ c.role ≠ 2 ∨ (m.ok = true ∧ lastD c < m.a)) :
    Calls Try.prog 56 #[.pointer (some ⟨n, 0, none⟩), msgV m (.slice ea m.entries.length ec) (.slice da m.data.length dc)] w (CallPost B n lv (appendedD c m) w) := by
  rw [appendedD_no hn]
  have h10 : w.cell? ⟨n, 10, none⟩ = some (.int .i64 c.term) := h.blk.cell 10
  have h12 : w.cell? ⟨n, 12, none⟩ = some (.int .i64 c.role) := h.blk.cell 12
  have hlt := h.blk.lt
  have H := hid h
  have HE : Hid (∀ w', Keeps [] w w' → CallPost B n lv (c, []) w (.returned (.slice none 0 0)) w') := fun w' k => CallPost.silent rfl (h.k k) (k.mono (fun _ _ h => by cases h))
  have hcs : (m.term != c.term) = true ∨ ((m.term != c.term) = false ∧ (c.role != 2) = true) ∨ ((m.term != c.term) = false ∧ (c.role != 2) = false ∧ m.ok = true ∧ decide (lastD c < m.a) = true) := by
    by_cases e1 : m.term = c.term
    · by_cases e2 : c.role = 2
      · rcases hn with h | h | h
        · exact absurd e1 h
        · exact absurd e2 h
        · exact .inr (.inr ⟨by simpa using e1, by simpa using e2, h.1, by simpa using h.2⟩)
      · exact .inr (.inl ⟨by simpa using e1, by simpa using e2⟩)
    · exact .inl (by simpa using e1)
  clear h hn
  unfold msgV
  rcases hcs with hb1 | ⟨hb1, hb2⟩ | ⟨hb1, hb2, hb3, hb4⟩
  all_goals
    go_enter Try.func56, Try.ntmps56
    go_wp2_with fail
    refine Plan.wp_region_plan (fun wx => (wx.cell? ⟨w.heap.size, 0, none⟩ = some (.int .i64 m.kind) ∧ wx.cell? ⟨w.heap.size, 1, none⟩ = some (.int .i64 m.frm) ∧ wx.cell? ⟨w.heap.size, 2, none⟩ = some (.int .i64 m.to) ∧ wx.cell? ⟨w.heap.size, 3, none⟩ = some (.int .i64 m.term) ∧ wx.cell? ⟨w.heap.size, 4, none⟩ = some (.int .i64 m.a) ∧ wx.cell? ⟨w.heap.size, 5, none⟩ = some (.int .i64 m.b) ∧ wx.cell? ⟨w.heap.size, 6, none⟩ = some (.int .i64 m.c) ∧ wx.cell? ⟨w.heap.size, 7, none⟩ = some (.bool m.ok) ∧ wx.cell? ⟨w.heap.size, 8, none⟩ = some (.slice ea m.entries.length ec) ∧ wx.cell? ⟨w.heap.size, 9, none⟩ = some (.slice da m.data.length dc)) ∧ wx.cell? ⟨n, 10, none⟩ = some (.int .i64 c.term) ∧ wx.cell? ⟨n, 12, none⟩ = some (.int .i64 c.role)) 25 [(true, 0), (true, 1), (true, 2), (true, 3), (true, 4), (true, 5), (true, 6), (true, 7), (true, 8), (true, 9), (true, 10), (true, 11), (true, 12), (true, 13), (true, 14), (true, 15), (true, 16), (true, 17), (true, 18), (true, 19), (true, 20), (false, 21), (true, 22), (true, 23), (true, 24)] (by kernel_rfl) (by as_aux_lemma => kernel_rfl) (by kernel_rfl) (fun _ _ _ _ _ h => h) ?_ (fun hS => ?_)
    (· go_simp)
    simp only [Plan.pick, List.append_eq, List.cons_append, List.nil_append, List.getElem?_cons_zero, List.getElem?_cons_succ, Option.getD_some, List.drop_succ_cons, List.drop_zero]
    iterate 21 (first | (refine Plan.take (v := ?_) (a' := ?_) (Plan.want_all (by rfl)) ?_ ?_ ?_; rotate_left 2; (· (intro w' hS'; (try dsimp only at hS'); go_simp; try with_reducible rfl)); (· (simp only [Act.put, List.setIfInBounds_toArray, List.set_cons_zero, List.set_cons_succ]; try with_reducible rfl))) | (refine Plan.take (v := ?_) (a' := ?_) (Plan.want_yes (by rfl) (by rfl) (by rfl) (by rfl)) ?_ ?_ ?_; rotate_left 2; (· (intro w' hS'; (try dsimp only at hS'); go_simp; try with_reducible rfl)); (· (simp only [Act.put, List.setIfInBounds_toArray, List.set_cons_zero, List.set_cons_succ]; try with_reducible rfl))) | (refine Plan.pass (a' := ?_) (Plan.want_no (by rfl) (by rfl) (by rfl) (by rfl)) ?_ ?_; rotate_left 1; (· (simp only [Act.put, List.setIfInBounds_toArray, List.set_cons_zero, List.set_cons_succ]; try with_reducible rfl))) | (refine Plan.pass (a' := ?_) (Plan.want_un (by rfl) (by rfl) (by rfl) (by rfl)) ?_ ?_; rotate_left 1; (· (simp only [Act.put, List.setIfInBounds_toArray, List.set_cons_zero, List.set_cons_succ]; try with_reducible rfl))) | fail)
    refine Plan.step ?_
    go_wp2_with fail
    first
      | (refine (cLast_any _ B n c lv sv (H.out.k ?_)).mono ?_
         (· (repeat (first | (with_reducible exact Keeps.refl _ _) | (with_reducible assumption) | ((with_reducible refine Keeps.setCell ?_ ?_ _); rotate_left 1; (· first | (refine .inl ?_; simp; done) | (refine .inr ?_; first | exact Nat.le_refl _ | (simp; done) | (simp; omega) | omega))) | (with_reducible refine Keeps.alloc ?_ _) | (with_reducible refine Keeps.drewN ?_ _) | (with_reducible refine Keeps.drew ?_))))
         rintro e w' ⟨rfl, k3, rfl⟩
         go_wp2_with fail)
      | skip
    refine ⟨?_, ?_⟩
    (· go_simp)
    iterate 3 (first | (refine Plan.take (v := ?_) (a' := ?_) (Plan.want_all (by rfl)) ?_ ?_ ?_; rotate_left 2; (· (intro w' hS'; (try dsimp only at hS'); go_simp; try with_reducible rfl)); (· (simp only [Act.put, List.setIfInBounds_toArray, List.set_cons_zero, List.set_cons_succ]; try with_reducible rfl))) | (refine Plan.take (v := ?_) (a' := ?_) (Plan.want_yes (by rfl) (by rfl) (by rfl) (by rfl)) ?_ ?_ ?_; rotate_left 2; (· (intro w' hS'; (try dsimp only at hS'); go_simp; try with_reducible rfl)); (· (simp only [Act.put, List.setIfInBounds_toArray, List.set_cons_zero, List.set_cons_succ]; try with_reducible rfl))) | (refine Plan.pass (a' := ?_) (Plan.want_no (by rfl) (by rfl) (by rfl) (by rfl)) ?_ ?_; rotate_left 1; (· (simp only [Act.put, List.setIfInBounds_toArray, List.set_cons_zero, List.set_cons_succ]; try with_reducible rfl))) | (refine Plan.pass (a' := ?_) (Plan.want_un (by rfl) (by rfl) (by rfl) (by rfl)) ?_ ?_; rotate_left 1; (· (simp only [Act.put, List.setIfInBounds_toArray, List.set_cons_zero, List.set_cons_succ]; try with_reducible rfl))) | fail)
    refine Plan.fin ?_
    go_wp2_with fail
    go_ret
    exact HE.out _ (by (repeat (first | (with_reducible exact Keeps.refl _ _) | (with_reducible assumption) | ((with_reducible refine Keeps.setCell ?_ ?_ _); rotate_left 1; (· first | (refine .inl ?_; simp; done) | (refine .inr ?_; first | exact Nat.le_refl _ | (simp; done) | (simp; omega) | omega))) | (with_reducible refine Keeps.alloc ?_ _) | (with_reducible refine Keeps.drewN ?_ _) | (with_reducible refine Keeps.drew ?_))))

end Go.Proofs.Ytpppoajnbhipeaa
