/- Hear, whole; Compact. -/
import Derived.Test.YtpppoajnbhipeaaApQ
import Derived.Test.YtpppoajnbhipeaaHearA
namespace Go.Proofs.Ytpppoajnbhipeaa
open Go Go.RowKit

set_option maxRecDepth 100000 in
set_option maxHeartbeats 3200000 in
theorem append_over (w : World) (B n : Nat) (c : CoreD) (lv sv : Value) (m : MsgD) (ea da : Option Addr) (ec dc : Nat) (h : CoreAt w B n c lv sv) (hb : m.a < c.base) (ha : 0 ≤ m.a) (ho : (m.entries.length : Int) ≤ c.base - m.a) :
    Calls Try.prog 59 #[.pointer (some ⟨n, 0, none⟩), msgV m (.slice ea m.entries.length ec) (.slice da m.data.length dc)] w (CallPost B n lv (c, answerD c m true c.base) w) := by
  have h15 : w.cell? ⟨n, 15, none⟩ = some (.int .i64 c.base) := h.blk.cell 15
  have hlt := h.blk.lt
  have hbs := h.ok.base
  have hbd := lastD_bd h
  have hcm := h.ok.commit
  have hla : lastD c = c.base + c.l.length := rfl
  have H := hid h
  have d1 : decide (m.a < c.base) = true := by simpa using hb
  have wr1 : IntKind.i64.wrap (c.base - m.a) = c.base - m.a := IntWalk.i64_in _ (by omega)
  unfold msgV
  clear h hb hbs hbd hcm hla
  go_enter Try.func59, Try.ntmps59
  go_wp2_with fail
  go_step3
  go_wp2_with fail
  go_quiet (fail)
  go_wp2_with fail
  refine Plan.wp_region_plan (fun wx => (wx.cell? ⟨w.heap.size, 0, none⟩ = some (.int .i64 m.kind) ∧ wx.cell? ⟨w.heap.size, 1, none⟩ = some (.int .i64 m.frm) ∧ wx.cell? ⟨w.heap.size, 2, none⟩ = some (.int .i64 m.to) ∧ wx.cell? ⟨w.heap.size, 3, none⟩ = some (.int .i64 m.term) ∧ wx.cell? ⟨w.heap.size, 4, none⟩ = some (.int .i64 m.a) ∧ wx.cell? ⟨w.heap.size, 5, none⟩ = some (.int .i64 m.b) ∧ wx.cell? ⟨w.heap.size, 6, none⟩ = some (.int .i64 m.c) ∧ wx.cell? ⟨w.heap.size, 7, none⟩ = some (.bool m.ok) ∧ wx.cell? ⟨w.heap.size, 8, none⟩ = some (.slice ea m.entries.length ec) ∧ wx.cell? ⟨w.heap.size, 9, none⟩ = some (.slice da m.data.length dc)) ∧ wx.cell? ⟨n, 15, none⟩ = some (.int .i64 c.base)) 6 [(true, 0), (true, 1), (true, 2), (true, 3), (true, 4), (true, 5)] (by kernel_rfl) (by as_aux_lemma => kernel_rfl) (by kernel_rfl) (fun _ _ _ _ _ h => h) ?_ (fun hS => ?_)
  (· go_simp)
  simp only [Plan.pick, List.append_eq, List.cons_append, List.nil_append, List.getElem?_cons_zero, List.getElem?_cons_succ, Option.getD_some, List.drop_succ_cons, List.drop_zero]
  iterate 6 (first | (refine Plan.take (v := ?_) (a' := ?_) (Plan.want_all (by rfl)) ?_ ?_ ?_; rotate_left 2; (· (intro w' hS'; (try dsimp only at hS'); go_simp; try with_reducible rfl)); (· (simp only [Act.put, List.setIfInBounds_toArray, List.set_cons_zero, List.set_cons_succ]; try with_reducible rfl))) | (refine Plan.take (v := ?_) (a' := ?_) (Plan.want_yes (by rfl) (by rfl) (by rfl) (by rfl)) ?_ ?_ ?_; rotate_left 2; (· (intro w' hS'; (try dsimp only at hS'); go_simp; try with_reducible rfl)); (· (simp only [Act.put, List.setIfInBounds_toArray, List.set_cons_zero, List.set_cons_succ]; try with_reducible rfl))) | (refine Plan.pass (a' := ?_) (Plan.want_no (by rfl) (by rfl) (by rfl) (by rfl)) ?_ ?_; rotate_left 1; (· (simp only [Act.put, List.setIfInBounds_toArray, List.set_cons_zero, List.set_cons_succ]; try with_reducible rfl))) | (refine Plan.pass (a' := ?_) (Plan.want_un (by rfl) (by rfl) (by rfl) (by rfl)) ?_ ?_; rotate_left 1; (· (simp only [Act.put, List.setIfInBounds_toArray, List.set_cons_zero, List.set_cons_succ]; try with_reducible rfl))) | fail)
  refine Plan.fin ?_
  go_wp2_with fail
  refine (answer_any _ B n c lv sv m ea da ec dc true c.base (H.out.k ?_)).mono ?_
  (· (repeat (first | (with_reducible exact Keeps.refl _ _) | (with_reducible assumption) | ((with_reducible refine Keeps.setCell ?_ ?_ _); rotate_left 1; (· first | (refine .inl ?_; simp; done) | (refine .inr ?_; first | exact Nat.le_refl _ | (simp; done) | (simp; omega) | omega))) | (with_reducible refine Keeps.alloc ?_ _) | (with_reducible refine Keeps.drewN ?_ _) | (with_reducible refine Keeps.drew ?_))))
  rintro e w4 hp
  obtain ⟨a, q, lv', sv', rfl, hp2⟩ : CallPost B n lv (c, answerD c m true c.base) w e w4 := CallPost.tells (H.out.k (by (repeat (first | (with_reducible exact Keeps.refl _ _) | (with_reducible assumption) | ((with_reducible refine Keeps.setCell ?_ ?_ _); rotate_left 1; (· first | (refine .inl ?_; simp; done) | (refine .inr ?_; first | exact Nat.le_refl _ | (simp; done) | (simp; omega) | omega))) | (with_reducible refine Keeps.alloc ?_ _) | (with_reducible refine Keeps.drewN ?_ _) | (with_reducible refine Keeps.drew ?_))))) (Keeps.mono (F := []) (by (repeat (first | (with_reducible exact Keeps.refl _ _) | (with_reducible assumption) | ((with_reducible refine Keeps.setCell ?_ ?_ _); rotate_left 1; (· first | (refine .inl ?_; simp; done) | (refine .inr ?_; first | exact Nat.le_refl _ | (simp; done) | (simp; omega) | omega))) | (with_reducible refine Keeps.alloc ?_ _) | (with_reducible refine Keeps.drewN ?_ _) | (with_reducible refine Keeps.drew ?_)))) (fun _ _ h => by cases h)) hp
  have HP := hid hp2
  clear hp hp2
  go_wp2_with fail
  rw [Exit.noGoto_ret]
  go_ret
  exact ⟨a, q, lv', sv', rfl, HP.out⟩

theorem append_any (w : World) (B n : Nat) (c : CoreD) (lv sv : Value) (m : MsgD) (ea da : Option Addr) (ec dc : Nat) (P : Nat → Prop) (h : CoreAt w B n c lv sv) (hP : ∀ b, P b → Off n lv b) (hl : ListAt entL w P (.slice ea m.entries.length ec) m.entries) (he8 : m.entries.length ≤ 8) (het : ∀ e ∈ m.entries, 0 ≤ e.term ∧ e.term ≤ 1099511627776) (hed : ∀ e ∈ m.entries, e.data.length ≤ 1000000) (hll : lastD c + 8 ≤ 2199023255552) (ha : 0 ≤ m.a ∧ m.a ≤ 1099511627776) :
    Calls Try.prog 59 #[.pointer (some ⟨n, 0, none⟩), msgV m (.slice ea m.entries.length ec) (.slice da m.data.length dc)] w (CallPost B n lv (appendD c m) w) := by
  by_cases hb : c.base ≤ m.a
  · rcases hf : fitD c m.a m.b false with _ | _
    · exact append_no w B n c lv sv m ea da ec dc h hb ha.2 hf
    · have e : appendD c m = appEnd c m m.a m.entries := by
        unfold appendD
        rw [if_pos hb]
        unfold appendAt
        rw [hf]
        rfl
      rw [e]
      exact append_fit w B n c lv sv m ea da ec dc P h hP hl he8 het hed hll hb hf
  · by_cases ho : c.base - m.a < m.entries.length
    · obtain ⟨ov, hov⟩ : ∃ ov : Nat, c.base - m.a = (ov : Int) := ⟨(c.base - m.a).toNat, by omega⟩
      have e : appendD c m = appEnd c m c.base (m.entries.drop ov) := by
        unfold appendD
        rw [if_neg hb, if_pos ho, show (c.base - m.a).toNat = ov by omega]
        have hf : fitD c c.base m.b true = true := by unfold fitD atD; rw [if_pos rfl]; rfl
        unfold appendAt
        rw [hf]
        rfl
      rw [e]
      exact append_passed w B n c lv sv m ea da ec dc P h hP hl he8 het hed hll ov hov (by omega) (by omega) ha.1
    · have e : appendD c m = (c, answerD c m true c.base) := by
        unfold appendD
        rw [if_neg hb, if_neg ho]
      rw [e]
      exact append_over w B n c lv sv m ea da ec dc h (by omega) ha.1 (by omega)


theorem wrongD_terms {c : CoreD} {m : MsgD} (h : wrongD c m = false) : ∀ e ∈ m.entries, 1 ≤ e.term ∧ e.term ≤ m.term := fun e he => by
  unfold wrongD at h
  simp only [Bool.or_eq_false_iff, List.any_eq_false] at h
  have := h.2 e he
  simpa [inD] using this

theorem hear_any (w : World) (B n : Nat) (c : CoreD) (lv sv : Value) (m : MsgD) (ea da : Option Addr) (ec dc : Nat) (h : CoreAt w B n c lv sv) (hl : ListAt entL w (Off n lv) (.slice ea m.entries.length ec) m.entries) (hd : BytesAt w (Off n lv) (.slice da m.data.length dc) m.data)
    (hdl : m.data.length ≤ 1000000) (hed : ∀ e ∈ m.entries, e.data.length ≤ 1000000) (hll : lastD c + 8 ≤ 2199023255552) :
    Calls Try.prog 22 #[.pointer (some ⟨n, 0, none⟩), msgV m (.slice ea m.entries.length ec) (.slice da m.data.length dc)] w (CallPost B n lv (hearD c m) w) := by
  refine hear_but w B n c lv sv m ea da ec dc h hl hd hdl (by omega) (fun hw hk ht hr w1 h1 hl1 _ => ?_)
  have hz := hw
  unfold wrongD at hz
  simp only [Bool.or_eq_false_iff] at hz
  have hh := wrongHead_no hz.1
  have ht1 := hh.2.2.2.2.1
  exact append_any w1 B n _ lv sv m ea da ec dc _ h1 (fun b hb => hb) hl1 hh.2.2.2.2.2.2.2.2 (fun e he => by have := wrongD_terms hw e he; omega) hed (by show lastD (stepD c m) + 8 ≤ _; rw [stepD_last]; exact hll) hh.2.2.2.2.2.1

end Go.Proofs.Ytpppoajnbhipeaa
