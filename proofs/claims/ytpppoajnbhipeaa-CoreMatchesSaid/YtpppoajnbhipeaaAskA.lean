/- Ask: a command behind its log. -/
import Derived.Test.YtpppoajnbhipeaaSendB
import Derived.Test.YtpppoajnbhipeaaPutA
namespace Go.Proofs.Ytpppoajnbhipeaa
open Go Go.RowKit

/-- How Ask ends. -/
def AskPost (B n : Nat) (lv : Value) (r : CoreD × Int × List MsgD × Int) (w : World) (e : Ending) (w' : World) : Prop :=
  ∃ a q lv' sv', e = .returned (.tuple #[.int .i64 r.2.1, .slice a r.2.2.1.length q, .int .i64 r.2.2.2]) ∧ CoreAt w' B n r.1 lv' sv' ∧ MsgsAt w w' n lv' (.slice a r.2.2.1.length q) r.2.2.1 ∧ Keeps (n :: ownB lv) w w' ∧ ∀ b ∈ ownB lv', b ∈ ownB lv ∨ w.heap.size ≤ b

theorem askD_no {c : CoreD} {d : List UInt8} (h : c.role ≠ 2) : askD c d = (c, 0, [], 24) := by unfold askD; rw [if_pos h]
theorem askD_full {c : CoreD} {d : List UInt8} (h : c.role = 2) (h2 : 4096 ≤ c.l.length) : askD c d = (c, 0, [], 2) := by unfold askD; rw [if_neg (by simpa using h), if_pos h2]
theorem askD_yes {c : CoreD} {d : List UInt8} (h : c.role = 2) (h2 : c.l.length < 4096) : askD c d = (askC c d, lastD (askC c d), othersD (askC c d) (sendD (askC c d)), 0) := by unfold askD; rw [if_neg (by simpa using h), if_neg (by omega)]

set_option maxRecDepth 100000 in
set_option maxHeartbeats 3200000 in
theorem ask_any (w : World) (B n : Nat) (c : CoreD) (lv sv : Value) (data : List UInt8) (da : Option Addr) (dc : Nat) (P : Nat → Prop) (h : CoreAt w B n c lv sv) (hd : BytesAt w P (.slice da data.length dc) data) (hdl : data.length ≤ 1000000) (hll : lastD c + 1 ≤ 2199023255552) :
    Calls Try.prog 39 #[.pointer (some ⟨n, 0, none⟩), .slice da data.length dc] w (AskPost B n lv (askD c data) w) := by
  have h10 : w.cell? ⟨n, 10, none⟩ = some (.int .i64 c.term) := h.blk.cell 10
  have h12 : w.cell? ⟨n, 12, none⟩ = some (.int .i64 c.role) := h.blk.cell 12
  obtain ⟨la, lq, hlv⟩ := h.form
  have h17 : w.cell? ⟨n, 17, none⟩ = some (.slice la c.l.length lq) := (h.blk.cell 17).trans (by rw [hlv]; rfl)
  have hlt := h.blk.lt
  have H := hid h
  have HDD := hid hd
  have HLL := hid hll
  clear hd hll hlv
  by_cases hr : c.role = 2
  · have g1 : (c.role != 2) = false := by simpa using hr
    by_cases hf : 4096 ≤ c.l.length
    · have HR := hid (askD_full (d := data) hr hf)
      have hf2 : (4096 : Int) ≤ (c.l.length : Int) := by omega
      clear h hr hf
      go_enter Try.func39, Try.ntmps39
      go_wp2_with fail
      refine bodyPost_ret (v := .tuple #[.int .i64 0, .slice none 0 0, .int .i64 2]) (by simp [results, Try.results39, go_sem]) rfl ?_
      rw [HR.out]
      exact ⟨none, 0, lv, sv, rfl, H.out, MsgsAt.nil _ _ _ _, Keeps.refl _ _, fun _ h => .inl h⟩
    · have HR := hid (askD_yes (d := data) hr (by omega))
      have hf2 : (c.l.length : Int) < 4096 := by omega
      have HLN : Hid (c.l.length < 5096) := by show _ < _; omega
      clear h hr hf
      go_enter Try.func39, Try.ntmps39
      go_wp2_with fail
      refine Plan.wp_region_plan (fun wx => wx.cell? ⟨n, 10, none⟩ = some (.int .i64 c.term)) 9 [(true, 0), (true, 1), (true, 2), (true, 3), (true, 4), (true, 5), (false, 6), (true, 7), (false, 8)] (by kernel_rfl) (by as_aux_lemma => kernel_rfl) (by kernel_rfl) (fun _ _ _ _ _ h => h) ?_ (fun hS => ?_)
      (· go_simp)
      simp only [Plan.pick, List.append_eq, List.cons_append, List.nil_append, List.getElem?_cons_zero, List.getElem?_cons_succ, Option.getD_some, List.drop_succ_cons, List.drop_zero]
      iterate 6 (first | (refine Plan.take (v := ?_) (a' := ?_) (Plan.want_all (by rfl)) ?_ ?_ ?_; rotate_left 2; (· (intro w' hS'; (try dsimp only at hS'); go_simp; try with_reducible rfl)); (· (simp only [Act.put, List.setIfInBounds_toArray, List.set_cons_zero, List.set_cons_succ]; try with_reducible rfl))) | (refine Plan.take (v := ?_) (a' := ?_) (Plan.want_yes (by rfl) (by rfl) (by rfl) (by rfl)) ?_ ?_ ?_; rotate_left 2; (· (intro w' hS'; (try dsimp only at hS'); go_simp; try with_reducible rfl)); (· (simp only [Act.put, List.setIfInBounds_toArray, List.set_cons_zero, List.set_cons_succ]; try with_reducible rfl))) | (refine Plan.pass (a' := ?_) (Plan.want_no (by rfl) (by rfl) (by rfl) (by rfl)) ?_ ?_; rotate_left 1; (· (simp only [Act.put, List.setIfInBounds_toArray, List.set_cons_zero, List.set_cons_succ]; try with_reducible rfl))) | (refine Plan.pass (a' := ?_) (Plan.want_un (by rfl) (by rfl) (by rfl) (by rfl)) ?_ ?_; rotate_left 1; (· (simp only [Act.put, List.setIfInBounds_toArray, List.set_cons_zero, List.set_cons_succ]; try with_reducible rfl))) | fail)
      refine Plan.step ?_
      go_wp2_with fail
      refine (listB_any (.slice da data.length dc) data _ (HDD.out.k (by (repeat (first | (with_reducible exact Keeps.refl _ _) | (with_reducible assumption) | ((with_reducible refine Keeps.setCell ?_ ?_ _); rotate_left 1; (· first | (refine .inl ?_; simp; done) | (refine .inr ?_; first | exact Nat.le_refl _ | (simp; done) | (simp; omega) | omega))) | (with_reducible refine Keeps.alloc ?_ _) | (with_reducible refine Keeps.drewN ?_ _) | (with_reducible refine Keeps.drew ?_))))).1 (by omega)).mono ?_
      rintro e w2 ⟨a2, q2, rfl, o2, k2⟩
      have K2 : Hid (Keeps [] w w2) := Keeps.trans (by (repeat (first | (with_reducible exact Keeps.refl _ _) | (with_reducible assumption) | ((with_reducible refine Keeps.setCell ?_ ?_ _); rotate_left 1; (· first | (refine .inl ?_; simp; done) | (refine .inr ?_; first | exact Nat.le_refl _ | (simp; done) | (simp; omega) | omega))) | (with_reducible refine Keeps.alloc ?_ _) | (with_reducible refine Keeps.drewN ?_ _) | (with_reducible refine Keeps.drew ?_)))) k2 (fun _ _ h => h)
      have C2 : Hid (CoreAt w2 B n c lv sv) := H.out.k K2.out
      have D2 : Hid (BytesAt w2 (fun b => Off n lv b ∧ ¬ c.ban b) (.slice a2 data.length q2) data) := BytesAt.ofOwn o2 rfl (fun b hb _ => by
        have hb : w.heap.size ≤ b := by simpa using hb
        refine ⟨⟨fun h => by have := (H.out.lt n (by simp)).2; omega, fun h => by have := (H.out.lt b (List.mem_cons_of_mem _ h)).2; omega⟩, fun h => by have := H.out.old b h; omega⟩)
      have x10 := K2.out.cellSome h10 (by simp)
      clear o2 k2 h10 h12 h17
      go_wp2_with fail
      refine ⟨?_, ?_⟩
      (· go_simp)
      iterate 1 (first | (refine Plan.take (v := ?_) (a' := ?_) (Plan.want_all (by rfl)) ?_ ?_ ?_; rotate_left 2; (· (intro w' hS'; (try dsimp only at hS'); go_simp; try with_reducible rfl)); (· (simp only [Act.put, List.setIfInBounds_toArray, List.set_cons_zero, List.set_cons_succ]; try with_reducible rfl))) | (refine Plan.take (v := ?_) (a' := ?_) (Plan.want_yes (by rfl) (by rfl) (by rfl) (by rfl)) ?_ ?_ ?_; rotate_left 2; (· (intro w' hS'; (try dsimp only at hS'); go_simp; try with_reducible rfl)); (· (simp only [Act.put, List.setIfInBounds_toArray, List.set_cons_zero, List.set_cons_succ]; try with_reducible rfl))) | (refine Plan.pass (a' := ?_) (Plan.want_no (by rfl) (by rfl) (by rfl) (by rfl)) ?_ ?_; rotate_left 1; (· (simp only [Act.put, List.setIfInBounds_toArray, List.set_cons_zero, List.set_cons_succ]; try with_reducible rfl))) | (refine Plan.pass (a' := ?_) (Plan.want_un (by rfl) (by rfl) (by rfl) (by rfl)) ?_ ?_; rotate_left 1; (· (simp only [Act.put, List.setIfInBounds_toArray, List.set_cons_zero, List.set_cons_succ]; try with_reducible rfl))) | fail)
      refine Plan.step ?_
      go_wp2_with fail
      refine (put_any _ B n c lv sv { term := c.term, cmd := true, data := data } a2 q2 (C2.out.k (by (repeat (first | (with_reducible exact Keeps.refl _ _) | (with_reducible assumption) | ((with_reducible refine Keeps.setCell ?_ ?_ _); rotate_left 1; (· first | (refine .inl ?_; simp; done) | (refine .inr ?_; first | exact Nat.le_refl _ | (simp; done) | (simp; omega) | omega))) | (with_reducible refine Keeps.alloc ?_ _) | (with_reducible refine Keeps.drewN ?_ _) | (with_reducible refine Keeps.drew ?_))))) (D2.out.k (by (repeat (first | (with_reducible exact Keeps.refl _ _) | (with_reducible assumption) | ((with_reducible refine Keeps.setCell ?_ ?_ _); rotate_left 1; (· first | (refine .inl ?_; simp; done) | (refine .inr ?_; first | exact Nat.le_refl _ | (simp; done) | (simp; omega) | omega))) | (with_reducible refine Keeps.alloc ?_ _) | (with_reducible refine Keeps.drewN ?_ _) | (with_reducible refine Keeps.drew ?_))))) HLN.out HLL.out C2.out.ok.term hdl).mono ?_
      rintro e w3 ⟨lv', rfl, hc3, hk3, hv3⟩
      have C3 : Hid (CoreAt w3 B n (askC c data) lv' sv) := hc3
      have y10 : w3.cell? ⟨n, 10, none⟩ = some (.int .i64 c.term) := hc3.blk.cell 10
      have K3 : Hid (Keeps (n :: ownB lv) w w3) := (Keeps.mono (F := []) (K2.out.trans (by (repeat (first | (with_reducible exact Keeps.refl _ _) | (with_reducible assumption) | ((with_reducible refine Keeps.setCell ?_ ?_ _); rotate_left 1; (· first | (refine .inl ?_; simp; done) | (refine .inr ?_; first | exact Nat.le_refl _ | (simp; done) | (simp; omega) | omega))) | (with_reducible refine Keeps.alloc ?_ _) | (with_reducible refine Keeps.drewN ?_ _) | (with_reducible refine Keeps.drew ?_)))) (fun _ _ h => h)) (fun _ _ h => by cases h)).trans hk3 (fun _ _ h => h)
      have V3 : Hid (∀ b ∈ ownB lv', b ∈ ownB lv ∨ w.heap.size ≤ b) := fun b hb => (hv3 b hb).imp (fun h => h) (fun h => Nat.le_trans K2.out.size (Nat.le_trans (Keeps.size (F := []) (by (repeat (first | (with_reducible exact Keeps.refl _ _) | (with_reducible assumption) | ((with_reducible refine Keeps.setCell ?_ ?_ _); rotate_left 1; (· first | (refine .inl ?_; simp; done) | (refine .inr ?_; first | exact Nat.le_refl _ | (simp; done) | (simp; omega) | omega))) | (with_reducible refine Keeps.alloc ?_ _) | (with_reducible refine Keeps.drewN ?_ _) | (with_reducible refine Keeps.drew ?_))))) h))
      clear hc3 hk3 hv3
      go_wp2_with fail
      refine ⟨?_, ?_⟩
      (· go_simp)
      refine Plan.fin ?_
      go_wp2_with fail
      refine (cLast_any _ B n _ lv' sv C3.out).mono ?_
      rintro e w4 ⟨rfl, k4, rfl⟩
      go_wp2_with fail
      refine (others_send _ B n _ lv' sv (C3.out.k (by (repeat (first | (with_reducible exact Keeps.refl _ _) | (with_reducible assumption) | ((with_reducible refine Keeps.setCell ?_ ?_ _); rotate_left 1; (· first | (refine .inl ?_; simp; done) | (refine .inr ?_; first | exact Nat.le_refl _ | (simp; done) | (simp; omega) | omega))) | (with_reducible refine Keeps.alloc ?_ _) | (with_reducible refine Keeps.drewN ?_ _) | (with_reducible refine Keeps.drew ?_)))))).mono ?_
      rintro e w5 ⟨a5, q5, rfl, f5, k5⟩
      have HP : Hid (AskPost B n lv (askD c data) w (.returned (.tuple #[.int .i64 (lastD (askC c data)), .slice a5 (othersD (askC c data) (sendD (askC c data))).length q5, .int .i64 0])) w5) := by
        rw [HR.out]
        exact ⟨a5, q5, lv', sv, rfl, (C3.out.k (by (repeat (first | (with_reducible exact Keeps.refl _ _) | (with_reducible assumption) | ((with_reducible refine Keeps.setCell ?_ ?_ _); rotate_left 1; (· first | (refine .inl ?_; simp; done) | (refine .inr ?_; first | exact Nat.le_refl _ | (simp; done) | (simp; omega) | omega))) | (with_reducible refine Keeps.alloc ?_ _) | (with_reducible refine Keeps.drewN ?_ _) | (with_reducible refine Keeps.drew ?_))))).k k5, MsgsAt.ofFresh (C3.out.k (by (repeat (first | (with_reducible exact Keeps.refl _ _) | (with_reducible assumption) | ((with_reducible refine Keeps.setCell ?_ ?_ _); rotate_left 1; (· first | (refine .inl ?_; simp; done) | (refine .inr ?_; first | exact Nat.le_refl _ | (simp; done) | (simp; omega) | omega))) | (with_reducible refine Keeps.alloc ?_ _) | (with_reducible refine Keeps.drewN ?_ _) | (with_reducible refine Keeps.drew ?_))))) (Nat.le_trans K3.out.size (Keeps.size (F := []) (by (repeat (first | (with_reducible exact Keeps.refl _ _) | (with_reducible assumption) | ((with_reducible refine Keeps.setCell ?_ ?_ _); rotate_left 1; (· first | (refine .inl ?_; simp; done) | (refine .inr ?_; first | exact Nat.le_refl _ | (simp; done) | (simp; omega) | omega))) | (with_reducible refine Keeps.alloc ?_ _) | (with_reducible refine Keeps.drewN ?_ _) | (with_reducible refine Keeps.drew ?_)))))) f5, (K3.out.drewN _).trans k5 (fun _ _ h => by cases h), V3.out⟩
      clear f5 k5
      go_wp2_with fail
      exact bodyPost_ret (v := .tuple #[.int .i64 (lastD (askC c data)), .slice a5 (othersD (askC c data) (sendD (askC c data))).length q5, .int .i64 0]) (by simp [results, Try.results39, go_sem]) rfl HP.out
  · have g1 : (c.role != 2) = true := by simpa using hr
    have HR := hid (askD_no (d := data) hr)
    clear h hr
    go_enter Try.func39, Try.ntmps39
    go_wp2_with fail
    refine bodyPost_ret (v := .tuple #[.int .i64 0, .slice none 0 0, .int .i64 24]) (by simp [results, Try.results39, go_sem]) rfl ?_
    rw [HR.out]
    exact ⟨none, 0, lv, sv, rfl, H.out, MsgsAt.nil _ _ _ _, Keeps.refl _ _, fun _ h => .inl h⟩

end Go.Proofs.Ytpppoajnbhipeaa
