/- wrong, the entries. (Printed by gen_wrong.py.) -/
import Derived.Test.YtpppoajnbhipeaaCoreJ
namespace Go.Proofs.Ytpppoajnbhipeaa
open Go Go.RowKit

set_option maxRecDepth 100000 in
set_option maxHeartbeats 6400000 in
theorem wrong_body (w : World) (B n : Nat) (c : CoreD) (lv sv : Value) (m : MsgD) (ea da : Option Addr) (ec dc : Nat) (h : CoreAt w B n c lv sv) (P : Nat → Prop) (hl : ListAt entL w P (.slice ea m.entries.length ec) m.entries) (hw : wrongHead c m = false) :
    Calls Try.prog 52 #[.pointer (some ⟨n, 0, none⟩), msgV m (.slice ea m.entries.length ec) (.slice da m.data.length dc)] w fun e w' => e = .returned (.bool (wrongD c m)) ∧ Keeps [] w w' := by
  have h0 : w.cell? ⟨n, 0, none⟩ = some (.int .i64 c.conf.nodes) := h.blk.cell 0
  have h9 : w.cell? ⟨n, 9, none⟩ = some (.int .i64 c.id) := h.blk.cell 9
  have hlt := h.blk.lt
  have HW0 := hid hw
  have HLA := hid hl
  obtain ⟨⟨k1, k5⟩, e2, hf, e4, h5, h6, h7, h8, h9l⟩ := wrongHead_no hw
  have hb0 : decide (m.kind < 1) = false := by simpa using k1
  have hb1 : decide (5 < m.kind) = false := by simpa using k5
  have hb2 : (m.to != c.id) = false := by simpa using e2
  have hb4 : (m.frm == c.id) = false := by simpa using e4
  have F3 : Hid (inD m.frm 1 c.conf.nodes = true) := by show _ = _; simp [inD, hf]
  have F5 : Hid (inD m.term 1 1099511627776 = true) := by show _ = _; simp [inD, h5]
  have F6 : Hid (inD m.a 0 1099511627776 = true) := by show _ = _; simp [inD, h6]
  have F7 : Hid (inD m.b 0 1099511627776 = true) := by show _ = _; simp [inD, h7]
  have F8 : Hid (inD m.c 0 1099511627776 = true) := by show _ = _; simp [inD, h8]
  have hlen : (m.entries.length : Int) ≤ 8 := by omega
  clear h hl hw k1 k5 e2 hf e4 h5 h6 h7 h8 h9l
  unfold msgV
  go_enter Try.func52, Try.ntmps52
  go_wp2_with fail
  refine Plan.wp_region_plan (fun wx => wx.cell? ⟨w.heap.size, 0, none⟩ = some (.int .i64 m.kind) ∧ wx.cell? ⟨w.heap.size, 1, none⟩ = some (.int .i64 m.frm) ∧ wx.cell? ⟨w.heap.size, 2, none⟩ = some (.int .i64 m.to) ∧ wx.cell? ⟨n, 9, none⟩ = some (.int .i64 c.id) ∧ wx.cell? ⟨n, 0, none⟩ = some (.int .i64 c.conf.nodes)) 35 [(true, 0), (true, 1), (true, 2), (true, 3), (true, 4), (true, 5), (true, 6), (true, 7), (true, 8), (true, 9), (true, 10), (true, 11), (true, 12), (true, 13), (true, 14), (true, 15), (true, 16), (true, 17), (true, 18), (true, 19), (true, 20), (true, 21), (true, 22), (true, 23), (true, 24), (false, 25), (true, 26), (true, 27), (true, 28), (true, 29), (true, 30), (true, 31), (true, 32), (true, 33), (true, 34)] (by kernel_rfl) (by as_aux_lemma => kernel_rfl) (by kernel_rfl) (fun _ _ _ _ _ h => h) ?_ (fun hS => ?_)
  (· go_simp)
  simp only [Plan.pick, List.append_eq, List.cons_append, List.nil_append, List.getElem?_cons_zero, List.getElem?_cons_succ, Option.getD_some, List.drop_succ_cons, List.drop_zero]
  iterate 25 (first | (refine Plan.take (v := ?_) (a' := ?_) (Plan.want_all (by rfl)) ?_ ?_ ?_; rotate_left 2; (· (intro w' hS'; (try dsimp only at hS'); go_simp; try with_reducible rfl)); (· (simp only [Act.put, List.setIfInBounds_toArray, List.set_cons_zero, List.set_cons_succ]; try with_reducible rfl))) | (refine Plan.take (v := ?_) (a' := ?_) (Plan.want_yes (by rfl) (by rfl) (by rfl) (by rfl)) ?_ ?_ ?_; rotate_left 2; (· (intro w' hS'; (try dsimp only at hS'); go_simp; try with_reducible rfl)); (· (simp only [Act.put, List.setIfInBounds_toArray, List.set_cons_zero, List.set_cons_succ]; try with_reducible rfl))) | (refine Plan.pass (a' := ?_) (Plan.want_no (by rfl) (by rfl) (by rfl) (by rfl)) ?_ ?_; rotate_left 1; (· (simp only [Act.put, List.setIfInBounds_toArray, List.set_cons_zero, List.set_cons_succ]; try with_reducible rfl))) | (refine Plan.pass (a' := ?_) (Plan.want_un (by rfl) (by rfl) (by rfl) (by rfl)) ?_ ?_; rotate_left 1; (· (simp only [Act.put, List.setIfInBounds_toArray, List.set_cons_zero, List.set_cons_succ]; try with_reducible rfl))) | fail)
  refine Plan.step ?_
  go_wp2_with fail
  refine (cin_is true _ _ _ _ F3.out).mono ?_
  rintro e w' ⟨rfl, hw'⟩
  subst hw'
  go_wp2_with fail
  refine ⟨?_, ?_⟩
  (· go_simp)
  iterate 9 (first | (refine Plan.take (v := ?_) (a' := ?_) (Plan.want_all (by rfl)) ?_ ?_ ?_; rotate_left 2; (· (intro w' hS'; (try dsimp only at hS'); go_simp; try with_reducible rfl)); (· (simp only [Act.put, List.setIfInBounds_toArray, List.set_cons_zero, List.set_cons_succ]; try with_reducible rfl))) | (refine Plan.take (v := ?_) (a' := ?_) (Plan.want_yes (by rfl) (by rfl) (by rfl) (by rfl)) ?_ ?_ ?_; rotate_left 2; (· (intro w' hS'; (try dsimp only at hS'); go_simp; try with_reducible rfl)); (· (simp only [Act.put, List.setIfInBounds_toArray, List.set_cons_zero, List.set_cons_succ]; try with_reducible rfl))) | (refine Plan.pass (a' := ?_) (Plan.want_no (by rfl) (by rfl) (by rfl) (by rfl)) ?_ ?_; rotate_left 1; (· (simp only [Act.put, List.setIfInBounds_toArray, List.set_cons_zero, List.set_cons_succ]; try with_reducible rfl))) | (refine Plan.pass (a' := ?_) (Plan.want_un (by rfl) (by rfl) (by rfl) (by rfl)) ?_ ?_; rotate_left 1; (· (simp only [Act.put, List.setIfInBounds_toArray, List.set_cons_zero, List.set_cons_succ]; try with_reducible rfl))) | fail)
  refine Plan.fin ?_
  go_wp2_with fail
  refine (cin_is true _ _ _ _ F5.out).mono ?_
  rintro e w' ⟨rfl, hw'⟩
  subst hw'
  go_wp2_with fail
  refine (cin_is true _ _ _ _ F6.out).mono ?_
  rintro e w' ⟨rfl, hw'⟩
  subst hw'
  go_wp2_with fail
  refine (cin_is true _ _ _ _ F7.out).mono ?_
  rintro e w' ⟨rfl, hw'⟩
  subst hw'
  go_wp2_with fail
  refine (cin_is true _ _ _ _ F8.out).mono ?_
  rintro e w' ⟨rfl, hw'⟩
  subst hw'
  go_wp2_with fail
  have HZ : Hid (∀ k, k < m.entries.length → ∃ e, m.entries[k]? = some e) := fun k hk => ⟨m.entries[k], List.getElem?_eq_getElem hk⟩
  go_loopw [77] (fun i wr => ∃ k : Nat, k ≤ m.entries.length ∧ i = .int .i64 k ∧ wr.cell? ⟨w.heap.size, 3, none⟩ = some (.int .i64 m.term) ∧ Hid (Keeps [] w wr ∧ ∀ e ∈ m.entries.take k, inD e.term 1 m.term = true)) (fun i _ => m.entries.length - (intOf i).toNat)
  case atStart => exact ⟨0, Nat.zero_le _, rfl, by go_simp, by (repeat (first | (with_reducible exact Keeps.refl _ _) | (with_reducible assumption) | ((with_reducible refine Keeps.setCell ?_ ?_ _); rotate_left 1; (· first | (refine .inl ?_; simp; done) | (refine .inr ?_; first | exact Nat.le_refl _ | (simp; done) | (simp; omega) | omega))) | (with_reducible refine Keeps.alloc ?_ _) | (with_reducible refine Keeps.drewN ?_ _) | (with_reducible refine Keeps.drew ?_))), by simp⟩
  case round =>
    obtain ⟨k, hk, rfl, hb3, HW⟩ := hrel
    have i0 : (0 : Int) ≤ (k : Int) := Int.natCast_nonneg _
    by_cases hlt' : k < m.entries.length
    · have i1 : (k : Int) < (m.entries.length : Int) := by omega
      obtain ⟨e, he⟩ := HZ.out k hlt'
      obtain ⟨g, off, cg, ha, hcg, hcm, hgl, hgP⟩ := (HLA.out.k HW.out.1).addr (fun hn => by rw [hn] at hlt'; simp at hlt')
      simp at ha
      obtain ⟨ha, hcc⟩ := ha
      subst ha
      subst hcc
      obtain ⟨cs, ⟨v, rfl, hbv⟩, hcs⟩ := (HLA.out.k HW.out.1).get he
      have y0 : wr.cell? ⟨g, off + k * 3, none⟩ = some (.int .i64 e.term) := hcs 0 _ rfl
      have y1 : wr.cell? ⟨g, off + k * 3 + 1, none⟩ = some (.bool e.cmd) := hcs 1 _ rfl
      have y2 : wr.cell? ⟨g, off + k * 3 + 2, none⟩ = some v := hcs 2 _ rfl
      obtain ⟨va, vc, rfl⟩ := hbv.form
      have HE := hid he
      have hbz : w.heap.size < wr.heap.size := World.block_lt_of_cell? _ _ hb3
      clear hcs hbv he hcm hcg
      rcases hq : inD e.term 1 m.term with _ | _
      · have HF : Hid (wrongD c m = true) := by
          show _ = _
          unfold wrongD
          rw [HW0.out]
          simp only [Bool.false_or, List.any_eq_true]
          exact ⟨e, List.mem_of_getElem? HE.out, by simp [hq]⟩
        have HQ := hid hq
        clear hq
        go_wp2_with fail
        refine (cin_is false _ _ _ _ HQ.out).mono ?_
        rintro z w3 ⟨rfl, hw3⟩
        subst hw3
        go_wp2_with fail
        go_ret
        exact ⟨ret_bool HF.out.symm, HW.out.1.alloc _⟩
      · have HQ := hid hq
        clear hq
        have HT : Hid (∀ x ∈ m.entries.take (k + 1), inD x.term 1 m.term = true) := by
          show ∀ _, _
          rw [List.take_add_one, HE.out]
          intro x hx
          rcases List.mem_append.1 hx with hx | hx
          · exact HW.out.2 x hx
          · simp at hx; subst hx; exact HQ.out
        go_wp2_with fail
        refine (cin_is true _ _ _ _ HQ.out).mono ?_
        rintro z w3 ⟨rfl, hw3⟩
        subst hw3
        go_wp2_with fail
        go_roundw
        case rel => exact ⟨k + 1, by omega, by go_num, by go_simp, HW.out.1.alloc _, HT.out⟩
        case measure => simp [intOf]; omega
    · have hkn : k = m.entries.length := by omega
      have HF : Hid (wrongD c m = false) := by
        show _ = _
        have h2 := HW.out.2
        rw [hkn, List.take_of_length_le (Nat.le_refl _)] at h2
        unfold wrongD
        rw [HW0.out]
        simp only [Bool.false_or, List.any_eq_false]
        intro x hx
        simp [h2 x hx]
      have hge : (m.entries.length : Int) ≤ (k : Int) := by omega
      clear hkn
      go_wp2_with fail
      go_ret
      exact ⟨ret_bool HF.out.symm, HW.out.1⟩

theorem wrong_any (w : World) (B n : Nat) (c : CoreD) (lv sv : Value) (m : MsgD) (ea da : Option Addr) (ec dc : Nat) (P : Nat → Prop) (h : CoreAt w B n c lv sv) (hl : ListAt entL w P (.slice ea m.entries.length ec) m.entries) :
    Calls Try.prog 52 #[.pointer (some ⟨n, 0, none⟩), msgV m (.slice ea m.entries.length ec) (.slice da m.data.length dc)] w fun e w' => e = .returned (.bool (wrongD c m)) ∧ Keeps [] w w' := by
  cases hw : wrongHead c m with
  | true =>
    have e : wrongD c m = true := by unfold wrongD; rw [hw]; rfl
    rw [e]
    exact wrong_head w B n c lv sv m ea da ec dc h hw
  | false => exact wrong_body w B n c lv sv m ea da ec dc h P hl hw
theorem wrong_is (r : Bool) (w : World) (B n : Nat) (c : CoreD) (lv sv : Value) (m : MsgD) (ea da : Option Addr) (ec dc : Nat) (P : Nat → Prop) (h : CoreAt w B n c lv sv) (hl : ListAt entL w P (.slice ea m.entries.length ec) m.entries) (hr : wrongD c m = r) :
    Calls Try.prog 52 #[.pointer (some ⟨n, 0, none⟩), msgV m (.slice ea m.entries.length ec) (.slice da m.data.length dc)] w fun e w' => e = .returned (.bool r) ∧ Keeps [] w w' := by
  rw [← hr]
  exact wrong_any w B n c lv sv m ea da ec dc P h hl

end Go.Proofs.Ytpppoajnbhipeaa
