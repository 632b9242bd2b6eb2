/- asked: a vote is given, or not. -/
import Derived.Test.YtpppoajnbhipeaaQ07
import Derived.Test.YtpppoajnbhipeaaQ11
namespace Go.Proofs.Ytpppoajnbhipeaa
open Go Go.RowKit

theorem asked_cases (f1 f2 f3 f4 f5 f6 f7 : Bool) : ((f1 && (f2 || f3) && f4 && (f5 || f6 && f7)) = false ∧ (f1 = false ∨ (f1 = true ∧ f2 = false ∧ f3 = false) ∨ (f1 = true ∧ f2 = true ∧ f4 = false) ∨ (f1 = true ∧ f2 = false ∧ f3 = true ∧ f4 = false) ∨ (f1 = true ∧ f2 = true ∧ f4 = true ∧ f5 = false ∧ f6 = false) ∨ (f1 = true ∧ f2 = false ∧ f3 = true ∧ f4 = true ∧ f5 = false ∧ f6 = false) ∨ (f1 = true ∧ f2 = true ∧ f4 = true ∧ f5 = false ∧ f6 = true ∧ f7 = false) ∨ (f1 = true ∧ f2 = false ∧ f3 = true ∧ f4 = true ∧ f5 = false ∧ f6 = true ∧ f7 = false))) ∨
    ((f1 && (f2 || f3) && f4 && (f5 || f6 && f7)) = true ∧ f1 = true ∧ f4 = true ∧ ((f2 = true ∧ f5 = true) ∨ (f2 = false ∧ f3 = true ∧ f5 = true) ∨ (f2 = true ∧ f5 = false ∧ f6 = true ∧ f7 = true) ∨ (f2 = false ∧ f3 = true ∧ f5 = false ∧ f6 = true ∧ f7 = true))) := by
  cases f1 <;> cases f2 <;> cases f3 <;> cases f4 <;> cases f5 <;> cases f6 <;> cases f7 <;> simp

theorem askedC_no {c : CoreD} {m : MsgD} (h : askedOk c m = false) : askedD c m = (c, [saysD c { msg0 with kind := 2, ok := false } m.frm]) := by
  unfold askedD askedC
  rw [h]
  rfl
theorem askedC_yes {c : CoreD} {m : MsgD} (h : askedOk c m = true) : askedD c m = ({ risesD c c.term m.frm with patience := 0 }, [saysD { risesD c c.term m.frm with patience := 0 } { msg0 with kind := 2, ok := true } m.frm]) := by
  unfold askedD askedC
  rw [h]
  rfl

set_option maxRecDepth 100000 in
set_option maxHeartbeats 6400000 in
theorem asked_no (w : World) (B n : Nat) (c : CoreD) (lv sv : Value) (m : MsgD) (ea da : Option Addr) (ec dc : Nat) (T L : Int) (okb : Bool) (h : CoreAt w B n c lv sv) (hL : lastD c = L) (hT : atD c L = (T, okb)) (hok : askedOk c m = false)
    (hc : (m.term == c.term) = false ∨ ((m.term == c.term) = true ∧ (c.vote == 0) = false ∧ (c.vote == m.frm) = false) ∨ ((m.term == c.term) = true ∧ (c.vote == 0) = true ∧ (c.role == 0) = false) ∨ ((m.term == c.term) = true ∧ (c.vote == 0) = false ∧ (c.vote == m.frm) = true ∧ (c.role == 0) = false) ∨ ((m.term == c.term) = true ∧ (c.vote == 0) = true ∧ (c.role == 0) = true ∧ decide (T < m.b) = false ∧ (m.b == T) = false) ∨ ((m.term == c.term) = true ∧ (c.vote == 0) = false ∧ (c.vote == m.frm) = true ∧ (c.role == 0) = true ∧ decide (T < m.b) = false ∧ (m.b == T) = false) ∨ ((m.term == c.term) = true ∧ (c.vote == 0) = true ∧ (c.role == 0) = true ∧ decide (T < m.b) = false ∧ (m.b == T) = true ∧ decide (L ≤ m.a) = false) ∨ ((m.term == c.term) = true ∧ (c.vote == 0) = false ∧ (c.vote == m.frm) = true ∧ (c.role == 0) = true ∧ decide (T < m.b) = false ∧ (m.b == T) = true ∧ decide (L ≤ m.a) = false)) :
    Calls Try.prog 54 #[.pointer (some ⟨n, 0, none⟩), msgV m (.slice ea m.entries.length ec) (.slice da m.data.length dc)] w (CallPost B n lv (askedD c m) w) := by
  have h9 : w.cell? ⟨n, 9, none⟩ = some (.int .i64 c.id) := h.blk.cell 9
  have h10 : w.cell? ⟨n, 10, none⟩ = some (.int .i64 c.term) := h.blk.cell 10
  have h11 : w.cell? ⟨n, 11, none⟩ = some (.int .i64 c.vote) := h.blk.cell 11
  have h12 : w.cell? ⟨n, 12, none⟩ = some (.int .i64 c.role) := h.blk.cell 12
  have hlt := h.blk.lt
  have hbd := lastD_bd h
  rw [hL] at hbd
  have H := hid h
  have HL := hid hL
  have HT := hid hT
  have HM : Hid (∀ w1, Keeps [] w w1 → CallPost B n lv (askedD c m) w (.returned (.slice (some ⟨w1.heap.size, 0, none⟩) 1 1)) (w1.alloc (.cells #[.int .i64 2, .int .i64 c.id, .int .i64 m.frm, .int .i64 c.term, .int .i64 0, .int .i64 0, .int .i64 0, .bool false, .slice none 0 0, .slice none 0 0] 40))) := fun w1 k => by
    rw [askedC_no hok]
    exact CallPost.tells h ((Keeps.refl [] w).mono (fun _ _ h => by cases h)) (msgs_one (m := saysD c { msg0 with kind := 2, ok := false } m.frm) k (ListAt.nil _ _ _ _) (BytesAt.nil _ _ _ _))
  unfold msgV
  clear h hok hT hL
  obtain ⟨l0, l1⟩ := hbd
  rcases hc with g1 | ⟨g1, g2, g3⟩ | ⟨g1, g2, g3⟩ | ⟨g1, g2, g3, g4⟩ | ⟨g1, g2, g3, g4, g5⟩ | ⟨g1, g2, g3, g4, g5, g6⟩ | ⟨g1, g2, g3, g4, g5, g6⟩ | ⟨g1, g2, g3, g4, g5, g6, g7⟩
  all_goals
    go_enter Try.func54, Try.ntmps54
    go_wp2_with fail
    refine (cLast_is _ B n c lv sv (H.out.k ((Keeps.refl [] w).alloc _)) L HL.out).mono ?_
    rintro e w' ⟨rfl, k1, rfl⟩
    go_wp2_with fail
    refine (cAt_is _ B n c lv sv (H.out.k (((Keeps.refl [] w).alloc _).drewN _)) L T okb (by omega) (by omega) HT.out).mono ?_
    rintro e w' ⟨rfl, k2, rfl⟩
    go_wp2_with fail
    refine Plan.wp_region_plan (fun wx => wx.cell? ⟨w.heap.size, 1, none⟩ = some (.int .i64 m.frm) ∧ wx.cell? ⟨w.heap.size, 3, none⟩ = some (.int .i64 m.term) ∧ wx.cell? ⟨w.heap.size, 4, none⟩ = some (.int .i64 m.a) ∧ wx.cell? ⟨w.heap.size, 5, none⟩ = some (.int .i64 m.b) ∧ wx.cell? ⟨n, 10, none⟩ = some (.int .i64 c.term) ∧ wx.cell? ⟨n, 11, none⟩ = some (.int .i64 c.vote) ∧ wx.cell? ⟨n, 12, none⟩ = some (.int .i64 c.role)) 45 [(true, 0), (true, 1), (true, 2), (true, 3), (true, 4), (true, 5), (true, 6), (true, 7), (true, 8), (true, 9), (true, 10), (true, 11), (true, 12), (true, 13), (true, 14), (true, 15), (true, 16), (true, 17), (true, 18), (true, 19), (true, 20), (true, 21), (true, 22), (true, 23), (true, 24), (true, 25), (true, 26), (true, 27), (true, 28), (true, 29), (true, 30), (true, 31), (true, 32), (true, 33), (true, 34), (true, 35), (true, 36), (true, 37), (true, 38), (true, 39), (true, 40), (true, 41), (true, 42), (true, 43), (false, 44)] (by kernel_rfl) (by as_aux_lemma => kernel_rfl) (by kernel_rfl) (fun _ _ _ _ _ h => h) ?_ (fun hS => ?_)
    (· go_simp)
    simp only [Plan.pick, List.append_eq, List.cons_append, List.nil_append, Plan.g1, Plan.g2, Option.getD_some, List.drop_succ_cons, List.drop_zero]
    iterate 44 (first | refine Plan.tA ?_ | refine Plan.tY ?_ | refine Plan.pN ?_ | refine Plan.pU ?_ | fail)
    refine Plan.step ?_
    go_wp2_with fail
    first
      | (refine (cLast_is _ B n c lv sv (H.out.k ?_) L HL.out).mono ?_
         (· exact Keeps.K)
         rintro e w' ⟨rfl, k3, rfl⟩
         go_wp2_with fail)
      | skip
    refine ⟨?_, ?_⟩
    (· go_simp)
    refine Plan.fin ?_
    go_wp2_with fail
    refine (says_any _ n c.id c.term _ _ _ _ _ _ _ _ _ _ _ _ _ _ _ ?_ ?_ ?_).mono ?_
    (· go_simp)
    (· go_simp)
    (· simp; omega)
    rintro e w2 ⟨rfl, hk⟩
    have HK : Hid (Keeps [] w w2) := Keeps.trans (by exact Keeps.K) hk (fun _ _ h => h)
    clear hk
    go_wp2_with fail
    go_ret
    exact HM.out _ HK.out

set_option maxRecDepth 100000 in
set_option maxHeartbeats 6400000 in
theorem asked_yes (w : World) (B n : Nat) (c : CoreD) (lv sv : Value) (m : MsgD) (ea da : Option Addr) (ec dc : Nat) (T L : Int) (okb : Bool) (h : CoreAt w B n c lv sv) (hL : lastD c = L) (hT : atD c L = (T, okb)) (hok : askedOk c m = true) (g1 : (m.term == c.term) = true) (g4 : (c.role == 0) = true)
    (hc : ((c.vote == 0) = true ∧ decide (T < m.b) = true) ∨ ((c.vote == 0) = false ∧ (c.vote == m.frm) = true ∧ decide (T < m.b) = true) ∨ ((c.vote == 0) = true ∧ decide (T < m.b) = false ∧ (m.b == T) = true ∧ decide (L ≤ m.a) = true) ∨ ((c.vote == 0) = false ∧ (c.vote == m.frm) = true ∧ decide (T < m.b) = false ∧ (m.b == T) = true ∧ decide (L ≤ m.a) = true)) :
    Calls Try.prog 54 #[.pointer (some ⟨n, 0, none⟩), msgV m (.slice ea m.entries.length ec) (.slice da m.data.length dc)] w (CallPost B n lv (askedD c m) w) := by
  have h9 : w.cell? ⟨n, 9, none⟩ = some (.int .i64 c.id) := h.blk.cell 9
  have h10 : w.cell? ⟨n, 10, none⟩ = some (.int .i64 c.term) := h.blk.cell 10
  have h11 : w.cell? ⟨n, 11, none⟩ = some (.int .i64 c.vote) := h.blk.cell 11
  have h12 : w.cell? ⟨n, 12, none⟩ = some (.int .i64 c.role) := h.blk.cell 12
  have hlt := h.blk.lt
  have hbd := lastD_bd h
  rw [hL] at hbd
  have H := hid h
  have HL := hid hL
  have HT := hid hT
  have HR : Hid (∀ w1 w2, Keeps [] w w1 → CoreAt w2 B n (risesD c c.term m.frm) lv sv → Keeps [n] w1 w2 → ∃ w3, w3 = w2.setCell ⟨n, 20, none⟩ (.int .i64 0) ∧ CoreAt w3 B n { risesD c c.term m.frm with patience := 0 } lv sv ∧ Keeps [n] w w3 ∧ w3.cell? ⟨n, 9, none⟩ = some (.int .i64 c.id) ∧ w3.cell? ⟨n, 10, none⟩ = some (.int .i64 c.term)) := fun w1 w2 k1 h2 k2 => by
    have k3 : Keeps [n] w2 (w2.setCell ⟨n, 20, none⟩ (.int .i64 0)) := (Keeps.refl _ _).setCell (.inl (by simp)) _
    have h3 : CoreAt (w2.setCell ⟨n, 20, none⟩ (.int .i64 0)) B n { risesD c c.term m.frm with patience := 0 } lv sv := h2.wrote k3 (h2.blk.set 20 _ rfl) rfl rfl (patience_ok h2.ok 0)
    exact ⟨_, rfl, h3, (((k1.mono (G := [n]) (fun _ _ h => by cases h)).trans k2 (fun _ _ h => h))).trans k3 (fun _ _ h => h), h3.blk.cell 9, h3.blk.cell 10⟩
  have HM : Hid (∀ wm w1, CoreAt wm B n { risesD c c.term m.frm with patience := 0 } lv sv → Keeps [n] w wm → Keeps [] wm w1 → CallPost B n lv (askedD c m) w (.returned (.slice (some ⟨w1.heap.size, 0, none⟩) 1 1)) (w1.alloc (.cells #[.int .i64 2, .int .i64 c.id, .int .i64 m.frm, .int .i64 c.term, .int .i64 0, .int .i64 0, .int .i64 0, .bool true, .slice none 0 0, .slice none 0 0] 40))) := fun wm w1 hm km k => by
    rw [askedC_yes hok]
    exact CallPost.tells hm (km.mono (fun b _ h => by simp at h; simp [h])) (msgs_one (m := saysD { risesD c c.term m.frm with patience := 0 } { msg0 with kind := 2, ok := true } m.frm) k (ListAt.nil _ _ _ _) (BytesAt.nil _ _ _ _))
  have htb : 0 ≤ c.term ∧ c.term ≤ 1099511627776 := h.ok.term
  have HTB := hid htb
  unfold msgV
  clear h hok hT hL htb
  obtain ⟨l0, l1⟩ := hbd
  rcases hc with ⟨g2, g3⟩ | ⟨g2, g3, g5⟩ | ⟨g2, g3, g5, g6⟩ | ⟨g2, g3, g5, g6, g7⟩
  all_goals
    go_enter Try.func54, Try.ntmps54
    go_wp2_with fail
    refine (cLast_is _ B n c lv sv (H.out.k ((Keeps.refl [] w).alloc _)) L HL.out).mono ?_
    rintro e w' ⟨rfl, k1, rfl⟩
    go_wp2_with fail
    refine (cAt_is _ B n c lv sv (H.out.k (((Keeps.refl [] w).alloc _).drewN _)) L T okb (by omega) (by omega) HT.out).mono ?_
    rintro e w' ⟨rfl, k2, rfl⟩
    go_wp2_with fail
    refine Plan.wp_region_plan (fun wx => wx.cell? ⟨w.heap.size, 1, none⟩ = some (.int .i64 m.frm) ∧ wx.cell? ⟨w.heap.size, 3, none⟩ = some (.int .i64 m.term) ∧ wx.cell? ⟨w.heap.size, 4, none⟩ = some (.int .i64 m.a) ∧ wx.cell? ⟨w.heap.size, 5, none⟩ = some (.int .i64 m.b) ∧ wx.cell? ⟨n, 10, none⟩ = some (.int .i64 c.term) ∧ wx.cell? ⟨n, 11, none⟩ = some (.int .i64 c.vote) ∧ wx.cell? ⟨n, 12, none⟩ = some (.int .i64 c.role)) 45 [(true, 0), (true, 1), (true, 2), (true, 3), (true, 4), (true, 5), (true, 6), (true, 7), (true, 8), (true, 9), (true, 10), (true, 11), (true, 12), (true, 13), (true, 14), (true, 15), (true, 16), (true, 17), (true, 18), (true, 19), (true, 20), (true, 21), (true, 22), (true, 23), (true, 24), (true, 25), (true, 26), (true, 27), (true, 28), (true, 29), (true, 30), (true, 31), (true, 32), (true, 33), (true, 34), (true, 35), (true, 36), (true, 37), (true, 38), (true, 39), (true, 40), (true, 41), (true, 42), (true, 43), (false, 44)] (by kernel_rfl) (by as_aux_lemma => kernel_rfl) (by kernel_rfl) (fun _ _ _ _ _ h => h) ?_ (fun hS => ?_)
    (· go_simp)
    simp only [Plan.pick, List.append_eq, List.cons_append, List.nil_append, Plan.g1, Plan.g2, Option.getD_some, List.drop_succ_cons, List.drop_zero]
    iterate 44 (first | refine Plan.tA ?_ | refine Plan.tY ?_ | refine Plan.pN ?_ | refine Plan.pU ?_ | fail)
    refine Plan.step ?_
    go_wp2_with fail
    first
      | (refine (cLast_is _ B n c lv sv (H.out.k ?_) L HL.out).mono ?_
         (· exact Keeps.K)
         rintro e w' ⟨rfl, k3, rfl⟩
         go_wp2_with fail)
      | skip
    refine ⟨?_, ?_⟩
    (· go_simp)
    refine Plan.fin ?_
    go_wp2_with fail
    refine Plan.wp_region_plan (fun wx => wx.cell? ⟨w.heap.size, 1, none⟩ = some (.int .i64 m.frm) ∧ wx.cell? ⟨n, 10, none⟩ = some (.int .i64 c.term)) 7 [(true, 0), (true, 1), (true, 2), (true, 3), (true, 4), (true, 5), (true, 6)] (by kernel_rfl) (by as_aux_lemma => kernel_rfl) (by kernel_rfl) (fun _ _ _ _ _ h => h) ?_ (fun hS => ?_)
    (· go_simp)
    simp only [Plan.pick, List.append_eq, List.cons_append, List.nil_append, Plan.g1, Plan.g2, Option.getD_some, List.drop_succ_cons, List.drop_zero]
    iterate 7 (first | refine Plan.tA ?_ | refine Plan.tY ?_ | refine Plan.pN ?_ | refine Plan.pU ?_ | fail)
    refine Plan.fin ?_
    go_wp2_with fail
    refine (rises_any _ B n c lv sv c.term m.frm (H.out.k ?_) HTB.out).mono ?_
    (· exact Keeps.K)
    rintro e w2 ⟨rfl, hc2, hk2⟩
    have x1 : w2.cell? ⟨w.heap.size, 1, none⟩ = some (.int .i64 m.frm) := hk2.cellSome (by go_simp) (by simp; omega)
    have x20 : w2.cell? ⟨n, 20, none⟩ = some (.int .i64 c.patience) := hc2.blk.cell 20
    have f20 : w2.frozen? ⟨n, 20, none⟩ = false := hc2.blk.free 20
    have HX : Hid (∃ w3, w3 = w2.setCell ⟨n, 20, none⟩ (.int .i64 0) ∧ CoreAt w3 B n { risesD c c.term m.frm with patience := 0 } lv sv ∧ Keeps [n] w w3 ∧ w3.cell? ⟨n, 9, none⟩ = some (.int .i64 c.id) ∧ w3.cell? ⟨n, 10, none⟩ = some (.int .i64 c.term)) := HR.out _ w2 (by exact Keeps.K) hc2 hk2
    clear hc2 hk2 h9 h10 h11 h12
    go_wp2_with fail
    obtain ⟨w3, hw3, hc3, hk3, z9, z10⟩ := HX.out
    have z1 : w3.cell? ⟨w.heap.size, 1, none⟩ = some (.int .i64 m.frm) := by rw [hw3]; go_simp
    rw [← hw3]
    have z0 := hc3.blk.lt
    have C3 := hid hc3
    have K3 := hid hk3
    clear hw3 hc3 hk3 HX x1 x20 f20
    refine (says_any _ n c.id c.term _ _ _ _ _ _ _ _ _ _ _ _ _ _ _ ?_ ?_ ?_).mono ?_
    (· go_simp)
    (· go_simp)
    (· exact z0)
    rintro e w4 ⟨rfl, hk⟩
    have HK : Hid (Keeps [] w3 w4) := Keeps.trans (by exact Keeps.K) hk (fun _ _ h => h)
    clear hk
    go_wp2_with fail
    go_ret
    exact HM.out _ _ C3.out K3.out HK.out

theorem asked_any (w : World) (B n : Nat) (c : CoreD) (lv sv : Value) (m : MsgD) (ea da : Option Addr) (ec dc : Nat) (h : CoreAt w B n c lv sv) :
    Calls Try.prog 54 #[.pointer (some ⟨n, 0, none⟩), msgV m (.slice ea m.entries.length ec) (.slice da m.data.length dc)] w (CallPost B n lv (askedD c m) w) := by
  obtain ⟨L, hL⟩ : ∃ L, lastD c = L := ⟨_, rfl⟩
  obtain ⟨T, okb, hT⟩ : ∃ T b, atD c L = (T, b) := ⟨_, _, rfl⟩
  have e : askedOk c m = ((m.term == c.term) && ((c.vote == 0) || (c.vote == m.frm)) && (c.role == 0) && (decide (T < m.b) || (m.b == T) && decide (L ≤ m.a))) := by
    unfold askedOk lastTerm
    rw [hL, hT]
  rcases asked_cases (m.term == c.term) (c.vote == 0) (c.vote == m.frm) (c.role == 0) (decide (T < m.b)) (m.b == T) (decide (L ≤ m.a)) with ⟨h1, h2⟩ | ⟨h1, h2, h3, h4⟩
  · exact asked_no w B n c lv sv m ea da ec dc T L okb h hL hT (e.trans h1) h2
  · exact asked_yes w B n c lv sv m ea da ec dc T L okb h hL hT (e.trans h1) h2 h3 h4

end Go.Proofs.Ytpppoajnbhipeaa
