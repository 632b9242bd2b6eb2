/- append: what does not fit; what has been here. -/
import Derived.Test.YtpppoajnbhipeaaPutA
namespace Go.Proofs.Ytpppoajnbhipeaa
open Go Go.RowKit

theorem appendD_no {c : CoreD} {m : MsgD} (hb : c.base ≤ m.a) (hf : fitD c m.a m.b false = false) : appendD c m = (c, answerD c m false (max c.commit (min (lastD c) (m.a - 1)))) := by
  unfold appendD
  rw [if_pos hb]
  unfold appendAt
  rw [hf]
  rfl

theorem answer_is (w : World) (B n : Nat) (c : CoreD) (lv sv : Value) (m : MsgD) (ea da : Option Addr) (ec dc : Nat) (ok : Bool) (a b : Int) (hab : a = b) (h : CoreAt w B n c lv sv) :
    Calls Try.prog 57 #[.pointer (some ⟨n, 0, none⟩), msgV m (.slice ea m.entries.length ec) (.slice da m.data.length dc), .bool ok, .int .i64 a] w (MsgsPost (answerD c m ok b) w) := by
  subst hab
  exact answer_any w B n c lv sv m ea da ec dc ok a h

set_option maxRecDepth 100000 in
set_option maxHeartbeats 3200000 in
theorem append_no (w : World) (B n : Nat) (c : CoreD) (lv sv : Value) (m : MsgD) (ea da : Option Addr) (ec dc : Nat) (h : CoreAt w B n c lv sv) (hb : c.base ≤ m.a) (ha : m.a ≤ 1099511627776) (hf : fitD c m.a m.b false = false) :
    Calls Try.prog 59 #[.pointer (some ⟨n, 0, none⟩), msgV m (.slice ea m.entries.length ec) (.slice da m.data.length dc)] w (CallPost B n lv (appendD c m) w) := by
  rw [appendD_no hb hf]
  have h14 : w.cell? ⟨n, 14, none⟩ = some (.int .i64 c.commit) := h.blk.cell 14
  have h15 : w.cell? ⟨n, 15, none⟩ = some (.int .i64 c.base) := h.blk.cell 15
  have hlt := h.blk.lt
  have hbs := h.ok.base
  have hbd := lastD_bd h
  have H := hid h
  have ib1 : -4611686018427387904 ≤ m.a := by omega
  have ib2 : m.a ≤ 4611686018427387904 := by omega
  have d1 : decide (m.a < c.base) = false := by simp; omega
  have wr1 : IntKind.i64.wrap (m.a - 1) = m.a - 1 := IntWalk.i64_in _ (by omega)
  obtain ⟨T, okT, hT⟩ : ∃ t o, atD c m.a = (t, o) := ⟨_, _, rfl⟩
  have HT := hid hT
  obtain ⟨L, hL⟩ : ∃ L, lastD c = L := ⟨_, rfl⟩
  have HLL := hid hL
  obtain ⟨V, hV⟩ : ∃ V, max c.commit (min L (m.a - 1)) = V := ⟨_, rfl⟩
  have HV := hid hV
  rw [hL, hV]
  unfold fitD at hf
  rw [hT] at hf
  unfold msgV
  clear h hb hT hL hV hbs hbd
  have hc : okT = false ∨ (okT = true ∧ (T != m.b) = true) := by
    cases okT
    · exact .inl rfl
    · refine .inr ⟨rfl, ?_⟩
      simpa using hf
  clear hf
  rcases hc with rfl | ⟨rfl, hne⟩
  all_goals
    go_enter Try.func59, Try.ntmps59
    go_wp2_with fail
    go_step3
    go_wp2_with fail
    go_quiet (fail)
    go_wp2_with fail
    first
      | (refine (cAt_is _ B n c lv sv (H.out.k (by (repeat (first | (with_reducible exact Keeps.refl _ _) | (with_reducible assumption) | ((with_reducible refine Keeps.setCell ?_ ?_ _); rotate_left 1; (· first | (refine .inl ?_; simp; done) | (refine .inr ?_; first | exact Nat.le_refl _ | (simp; done) | (simp; omega) | omega))) | (with_reducible refine Keeps.alloc ?_ _) | (with_reducible refine Keeps.drewN ?_ _) | (with_reducible refine Keeps.drew ?_))))) m.a T false ib1 ib2 HT.out).mono ?_)
      | (refine (cAt_is _ B n c lv sv (H.out.k (by (repeat (first | (with_reducible exact Keeps.refl _ _) | (with_reducible assumption) | ((with_reducible refine Keeps.setCell ?_ ?_ _); rotate_left 1; (· first | (refine .inl ?_; simp; done) | (refine .inr ?_; first | exact Nat.le_refl _ | (simp; done) | (simp; omega) | omega))) | (with_reducible refine Keeps.alloc ?_ _) | (with_reducible refine Keeps.drewN ?_ _) | (with_reducible refine Keeps.drew ?_))))) m.a T true ib1 ib2 HT.out).mono ?_)
    rintro e w' ⟨rfl, kk, rfl⟩
    go_wp2_with fail
    refine Plan.wp_region_plan (fun wx => (wx.cell? ⟨w.heap.size, 0, none⟩ = some (.int .i64 m.kind) ∧ wx.cell? ⟨w.heap.size, 1, none⟩ = some (.int .i64 m.frm) ∧ wx.cell? ⟨w.heap.size, 2, none⟩ = some (.int .i64 m.to) ∧ wx.cell? ⟨w.heap.size, 3, none⟩ = some (.int .i64 m.term) ∧ wx.cell? ⟨w.heap.size, 4, none⟩ = some (.int .i64 m.a) ∧ wx.cell? ⟨w.heap.size, 5, none⟩ = some (.int .i64 m.b) ∧ wx.cell? ⟨w.heap.size, 6, none⟩ = some (.int .i64 m.c) ∧ wx.cell? ⟨w.heap.size, 7, none⟩ = some (.bool m.ok) ∧ wx.cell? ⟨w.heap.size, 8, none⟩ = some (.slice ea m.entries.length ec) ∧ wx.cell? ⟨w.heap.size, 9, none⟩ = some (.slice da m.data.length dc)) ∧ wx.cell? ⟨n, 14, none⟩ = some (.int .i64 c.commit)) 12 [(true, 0), (true, 1), (true, 2), (true, 3), (true, 4), (true, 5), (true, 6), (true, 8), (true, 9), (false, 7), (true, 10), (true, 11)] (by kernel_rfl) (by as_aux_lemma => kernel_rfl) (by kernel_rfl) (fun _ _ _ _ _ h => h) ?_ (fun hS => ?_)
    (· go_simp)
    simp only [Plan.pick, List.append_eq, List.cons_append, List.nil_append, List.getElem?_cons_zero, List.getElem?_cons_succ, Option.getD_some, List.drop_succ_cons, List.drop_zero]
    iterate 9 (first | (refine Plan.take (v := ?_) (a' := ?_) (Plan.want_all (by rfl)) ?_ ?_ ?_; rotate_left 2; (· (intro w' hS'; (try dsimp only at hS'); go_simp; try with_reducible rfl)); (· (simp only [Act.put, List.setIfInBounds_toArray, List.set_cons_zero, List.set_cons_succ]; try with_reducible rfl))) | (refine Plan.take (v := ?_) (a' := ?_) (Plan.want_yes (by rfl) (by rfl) (by rfl) (by rfl)) ?_ ?_ ?_; rotate_left 2; (· (intro w' hS'; (try dsimp only at hS'); go_simp; try with_reducible rfl)); (· (simp only [Act.put, List.setIfInBounds_toArray, List.set_cons_zero, List.set_cons_succ]; try with_reducible rfl))) | (refine Plan.pass (a' := ?_) (Plan.want_no (by rfl) (by rfl) (by rfl) (by rfl)) ?_ ?_; rotate_left 1; (· (simp only [Act.put, List.setIfInBounds_toArray, List.set_cons_zero, List.set_cons_succ]; try with_reducible rfl))) | (refine Plan.pass (a' := ?_) (Plan.want_un (by rfl) (by rfl) (by rfl) (by rfl)) ?_ ?_; rotate_left 1; (· (simp only [Act.put, List.setIfInBounds_toArray, List.set_cons_zero, List.set_cons_succ]; try with_reducible rfl))) | fail)
    refine Plan.step ?_
    go_wp2_with fail
    refine (cLast_is _ B n c lv sv (H.out.k ?_) L HLL.out).mono ?_
    (· (repeat (first | (with_reducible exact Keeps.refl _ _) | (with_reducible assumption) | ((with_reducible refine Keeps.setCell ?_ ?_ _); rotate_left 1; (· first | (refine .inl ?_; simp; done) | (refine .inr ?_; first | exact Nat.le_refl _ | (simp; done) | (simp; omega) | omega))) | (with_reducible refine Keeps.alloc ?_ _) | (with_reducible refine Keeps.drewN ?_ _) | (with_reducible refine Keeps.drew ?_))))
    rintro e w' ⟨rfl, kl, rfl⟩
    go_wp2_with fail
    refine ⟨?_, ?_⟩
    (· go_simp)
    iterate 2 (first | (refine Plan.take (v := ?_) (a' := ?_) (Plan.want_all (by rfl)) ?_ ?_ ?_; rotate_left 2; (· (intro w' hS'; (try dsimp only at hS'); go_simp; try with_reducible rfl)); (· (simp only [Act.put, List.setIfInBounds_toArray, List.set_cons_zero, List.set_cons_succ]; try with_reducible rfl))) | (refine Plan.take (v := ?_) (a' := ?_) (Plan.want_yes (by rfl) (by rfl) (by rfl) (by rfl)) ?_ ?_ ?_; rotate_left 2; (· (intro w' hS'; (try dsimp only at hS'); go_simp; try with_reducible rfl)); (· (simp only [Act.put, List.setIfInBounds_toArray, List.set_cons_zero, List.set_cons_succ]; try with_reducible rfl))) | (refine Plan.pass (a' := ?_) (Plan.want_no (by rfl) (by rfl) (by rfl) (by rfl)) ?_ ?_; rotate_left 1; (· (simp only [Act.put, List.setIfInBounds_toArray, List.set_cons_zero, List.set_cons_succ]; try with_reducible rfl))) | (refine Plan.pass (a' := ?_) (Plan.want_un (by rfl) (by rfl) (by rfl) (by rfl)) ?_ ?_; rotate_left 1; (· (simp only [Act.put, List.setIfInBounds_toArray, List.set_cons_zero, List.set_cons_succ]; try with_reducible rfl))) | fail)
    refine Plan.fin ?_
    go_wp2_with fail
    all_goals
      refine (answer_is _ B n c lv sv m ea da ec dc false _ V (by have := HV.out; omega) (H.out.k ?_)).mono ?_
      (· (repeat (first | (with_reducible exact Keeps.refl _ _) | (with_reducible assumption) | ((with_reducible refine Keeps.setCell ?_ ?_ _); rotate_left 1; (· first | (refine .inl ?_; simp; done) | (refine .inr ?_; first | exact Nat.le_refl _ | (simp; done) | (simp; omega) | omega))) | (with_reducible refine Keeps.alloc ?_ _) | (with_reducible refine Keeps.drewN ?_ _) | (with_reducible refine Keeps.drew ?_))))
      rintro e w4 hp
      obtain ⟨a, q, lv', sv', rfl, hp2⟩ : CallPost B n lv (c, answerD c m false V) w e w4 := CallPost.tells (H.out.k (by (repeat (first | (with_reducible exact Keeps.refl _ _) | (with_reducible assumption) | ((with_reducible refine Keeps.setCell ?_ ?_ _); rotate_left 1; (· first | (refine .inl ?_; simp; done) | (refine .inr ?_; first | exact Nat.le_refl _ | (simp; done) | (simp; omega) | omega))) | (with_reducible refine Keeps.alloc ?_ _) | (with_reducible refine Keeps.drewN ?_ _) | (with_reducible refine Keeps.drew ?_))))) (Keeps.mono (F := []) (by (repeat (first | (with_reducible exact Keeps.refl _ _) | (with_reducible assumption) | ((with_reducible refine Keeps.setCell ?_ ?_ _); rotate_left 1; (· first | (refine .inl ?_; simp; done) | (refine .inr ?_; first | exact Nat.le_refl _ | (simp; done) | (simp; omega) | omega))) | (with_reducible refine Keeps.alloc ?_ _) | (with_reducible refine Keeps.drewN ?_ _) | (with_reducible refine Keeps.drew ?_)))) (fun _ _ h => by cases h)) hp
      have HP := hid hp2
      clear hp hp2
      go_wp2_with fail
      rw [Exit.noGoto_ret]
      go_ret
      exact ⟨a, q, lv', sv', rfl, HP.out⟩

end Go.Proofs.Ytpppoajnbhipeaa
