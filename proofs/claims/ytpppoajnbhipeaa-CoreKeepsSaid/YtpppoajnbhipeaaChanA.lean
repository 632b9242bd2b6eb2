/- Changes: what was turned, once. -/
import Derived.Test.YtpppoajnbhipeaaTakesB
namespace Go.Proofs.Ytpppoajnbhipeaa
open Go Go.RowKit

theorem tail_new (c : CoreD) (hv : c.votes.length = 8) (hn : c.next.length = 8) (hm : c.matc.length = 8) : (((tailCells c).set 24 (.bool false)).set 25 (.int .i64 0)).set 26 (.bool false) = tailCells { c with hard := false, frm := 0, tsnap := false } := by
  rw [tail_hard c hv hn hm, tail_frm { c with hard := false } hv hn hm, tail_tsnap { c with hard := false, frm := 0 } hv hn hm]
theorem changesD_ok {c : CoreD} (h : CoreOk c) : CoreOk { c with hard := false, frm := 0, tsnap := false } :=
  { may := h.may, id := h.id, term := h.term, base := h.base, baseTerm := h.baseTerm, len := h.len, last := h.last, commit := h.commit, draw := h.draw, votes := h.votes, next := h.next, matc := h.matc, nexts := h.nexts, matcs := h.matcs, ents := h.ents, frm := by show (0:Int) ≤ 0 ∧ (0:Int) ≤ _; omega, data := h.data, snap := h.snap }
def ChangesPost (B n : Nat) (c : CoreD) (lv sv : Value) (w : World) (e : Ending) (w' : World) : Prop :=
  e = .returned (.agg #[.bool (changesD c).2.1, .int .i64 (changesD c).2.2.1, .bool (changesD c).2.2.2]) ∧ CoreAt w' B n (changesD c).1 lv sv ∧ Keeps [n] w w'

set_option maxRecDepth 100000 in
set_option maxHeartbeats 3200000 in
theorem changes_any (w : World) (B n : Nat) (c : CoreD) (lv sv : Value) (h : CoreAt w B n c lv sv) : Calls Try.prog 37 #[.pointer (some ⟨n, 0, none⟩)] w (ChangesPost B n c lv sv w) := by
  have h15 : w.cell? ⟨n, 15, none⟩ = some (.int .i64 c.base) := h.blk.cell 15
  have tg := tail_get c h.ok.votes h.ok.next h.ok.matc
  have h45 : w.cell? ⟨n, 45, none⟩ = some (.bool c.hard) := (h.blk.cell (21 + 24)).trans ((get21 _ _ _ 24).trans tg.1)
  have h46 : w.cell? ⟨n, 46, none⟩ = some (.int .i64 c.frm) := (h.blk.cell (21 + 25)).trans ((get21 _ _ _ 25).trans tg.2.1)
  have h47 : w.cell? ⟨n, 47, none⟩ = some (.bool c.tsnap) := (h.blk.cell (21 + 26)).trans ((get21 _ _ _ 26).trans tg.2.2)
  have fz : ∀ j, w.frozen? ⟨n, j, none⟩ = false := fun j => h.blk.free j
  have hlt := h.blk.lt
  have hnz : n ≠ w.heap.size := by omega
  have hnz1 : n ≠ w.heap.size + 1 := by omega
  have hbs := h.ok.base
  have hcm := h.ok.commit
  have hls := h.ok.last
  have hfr := h.ok.frm
  have b0 : 0 ≤ c.base := hbs.1
  have b1 : c.base ≤ 2199023255552 := by omega
  have wr1 : IntKind.i64.wrap (c.base + 1) = c.base + 1 := IntWalk.i64_in _ (by omega)
  have H := hid h
  have HF : Hid (∀ wx, Keeps [] w wx → CoreAt (((wx.setCell ⟨n, 45, none⟩ (.bool false)).setCell ⟨n, 46, none⟩ (.int .i64 0)).setCell ⟨n, 47, none⟩ (.bool false)) B n (changesD c).1 lv sv ∧ Keeps [n] w (((wx.setCell ⟨n, 45, none⟩ (.bool false)).setCell ⟨n, 46, none⟩ (.int .i64 0)).setCell ⟨n, 47, none⟩ (.bool false))) := fun wx k0 => by
    have k1 : Keeps [n] wx (((wx.setCell ⟨n, 45, none⟩ (.bool false)).setCell ⟨n, 46, none⟩ (.int .i64 0)).setCell ⟨n, 47, none⟩ (.bool false)) := by (repeat (first | (with_reducible exact Keeps.refl _ _) | (with_reducible assumption) | ((with_reducible refine Keeps.setCell ?_ ?_ _); rotate_left 1; (· first | (refine .inl ?_; simp; done) | (refine .inr ?_; first | exact Nat.le_refl _ | (simp; done) | (simp; omega) | omega))) | (with_reducible refine Keeps.alloc ?_ _) | (with_reducible refine Keeps.drewN ?_ _) | (with_reducible refine Keeps.drew ?_)))
    refine ⟨(h.k k0).wrote k1 ((((h.k k0).blk.set (c' := { c with hard := false }) (lv' := lv) (sv' := sv) (21 + 24) _ ?_).set (c' := { c with hard := false, frm := 0 }) (lv' := lv) (sv' := sv) (21 + 25) _ ?_).set (21 + 26) _ ?_) rfl rfl (changesD_ok h.ok), (k0.mono (G := [n]) (fun _ _ h => by cases h)).trans k1 (fun _ _ h => h)⟩
    · rw [set21, tail_hard c h.ok.votes h.ok.next h.ok.matc]; rfl
    · rw [set21, tail_frm { c with hard := false } h.ok.votes h.ok.next h.ok.matc]; rfl
    · rw [set21, tail_tsnap { c with hard := false, frm := 0 } h.ok.votes h.ok.next h.ok.matc]; rfl
  by_cases hf : 0 < c.frm
  · obtain ⟨F, hF⟩ : ∃ F, max c.frm (c.base + 1) = F := ⟨_, rfl⟩
    have HR : Hid ((changesD c).2.2.1 = F) := by show _ = _; unfold changesD; simp only []; rw [if_pos hf, hF]
    have HFF := hid hF
    clear h tg hbs hcm hls hfr hF
    go_enter Try.func37, Try.ntmps37
    go_wp2_with fail
    refine Plan.wp_region_plan (fun wx => wx.cell? ⟨w.heap.size + 1, 1, none⟩ = some (.int .i64 c.frm) ∧ wx.cell? ⟨n, 15, none⟩ = some (.int .i64 c.base)) 7 [(true, 0), (true, 1), (true, 2), (true, 3), (true, 4), (true, 5), (true, 6)] (by kernel_rfl) (by as_aux_lemma => kernel_rfl) (by kernel_rfl) (fun _ _ _ _ _ h => h) ?_ (fun hS => ?_)
    (· go_simp)
    simp only [Plan.pick, List.append_eq, List.cons_append, List.nil_append, List.getElem?_cons_zero, List.getElem?_cons_succ, Option.getD_some, List.drop_succ_cons, List.drop_zero]
    iterate 7 (first | (refine Plan.take (v := ?_) (a' := ?_) (Plan.want_all (by rfl)) ?_ ?_ ?_; rotate_left 2; (· (intro w' hS'; (try dsimp only at hS'); go_simp; try with_reducible rfl)); (· (simp only [Act.put, List.setIfInBounds_toArray, List.set_cons_zero, List.set_cons_succ]; try with_reducible rfl))) | (refine Plan.take (v := ?_) (a' := ?_) (Plan.want_yes (by rfl) (by rfl) (by rfl) (by rfl)) ?_ ?_ ?_; rotate_left 2; (· (intro w' hS'; (try dsimp only at hS'); go_simp; try with_reducible rfl)); (· (simp only [Act.put, List.setIfInBounds_toArray, List.set_cons_zero, List.set_cons_succ]; try with_reducible rfl))) | (refine Plan.pass (a' := ?_) (Plan.want_no (by rfl) (by rfl) (by rfl) (by rfl)) ?_ ?_; rotate_left 1; (· (simp only [Act.put, List.setIfInBounds_toArray, List.set_cons_zero, List.set_cons_succ]; try with_reducible rfl))) | (refine Plan.pass (a' := ?_) (Plan.want_un (by rfl) (by rfl) (by rfl) (by rfl)) ?_ ?_; rotate_left 1; (· (simp only [Act.put, List.setIfInBounds_toArray, List.set_cons_zero, List.set_cons_succ]; try with_reducible rfl))) | fail)
    refine Plan.fin ?_
    go_wp2_with fail
    all_goals
      refine bodyPost_ret (v := .agg #[.bool c.hard, .int .i64 F, .bool c.tsnap]) ?_ rfl ?_
      (· have := HFF.out
         first
           | (rw [show F = c.base + 1 by omega]; simp [results, Try.results37, go_sem])
           | (rw [show F = c.frm by omega]; simp [results, Try.results37, go_sem]))
      refine ⟨?_, (HF.out w (Keeps.refl [] w)).1.k (by (repeat (first | (with_reducible exact Keeps.refl _ _) | (with_reducible assumption) | ((with_reducible refine Keeps.setCell ?_ ?_ _); rotate_left 1; (· first | (refine .inl ?_; simp; done) | (refine .inr ?_; first | exact Nat.le_refl _ | (simp; done) | (simp; omega) | omega))) | (with_reducible refine Keeps.alloc ?_ _) | (with_reducible refine Keeps.drewN ?_ _) | (with_reducible refine Keeps.drew ?_)))), (HF.out w (Keeps.refl [] w)).2.trans (G := []) (by (repeat (first | (with_reducible exact Keeps.refl _ _) | (with_reducible assumption) | ((with_reducible refine Keeps.setCell ?_ ?_ _); rotate_left 1; (· first | (refine .inl ?_; simp; done) | (refine .inr ?_; first | exact Nat.le_refl _ | (simp; done) | (simp; omega) | omega))) | (with_reducible refine Keeps.alloc ?_ _) | (with_reducible refine Keeps.drewN ?_ _) | (with_reducible refine Keeps.drew ?_)))) (fun _ _ h => by cases h)⟩
      rw [HR.out]
      rfl
  · have hfz : c.frm ≤ 0 := by omega
    have HR : Hid ((changesD c).2.2.1 = c.frm) := by show _ = _; unfold changesD; simp only []; rw [if_neg hf]
    clear h tg hbs hcm hls hfr hf
    go_enter Try.func37, Try.ntmps37
    go_wp2_with fail
    refine bodyPost_ret (v := .agg #[.bool c.hard, .int .i64 c.frm, .bool c.tsnap]) (by simp [results, Try.results37, go_sem]) rfl ?_
    refine ⟨?_, (HF.out w (Keeps.refl [] w)).1.k (by (repeat (first | (with_reducible exact Keeps.refl _ _) | (with_reducible assumption) | ((with_reducible refine Keeps.setCell ?_ ?_ _); rotate_left 1; (· first | (refine .inl ?_; simp; done) | (refine .inr ?_; first | exact Nat.le_refl _ | (simp; done) | (simp; omega) | omega))) | (with_reducible refine Keeps.alloc ?_ _) | (with_reducible refine Keeps.drewN ?_ _) | (with_reducible refine Keeps.drew ?_)))), (HF.out w (Keeps.refl [] w)).2.trans (G := []) (by (repeat (first | (with_reducible exact Keeps.refl _ _) | (with_reducible assumption) | ((with_reducible refine Keeps.setCell ?_ ?_ _); rotate_left 1; (· first | (refine .inl ?_; simp; done) | (refine .inr ?_; first | exact Nat.le_refl _ | (simp; done) | (simp; omega) | omega))) | (with_reducible refine Keeps.alloc ?_ _) | (with_reducible refine Keeps.drewN ?_ _) | (with_reducible refine Keeps.drew ?_)))) (fun _ _ h => by cases h)⟩
    rw [HR.out]
    rfl

end Go.Proofs.Ytpppoajnbhipeaa
