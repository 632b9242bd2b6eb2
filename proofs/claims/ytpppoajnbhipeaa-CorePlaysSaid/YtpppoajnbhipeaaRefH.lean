/- vote: somebody asks for its vote. (Printed by gen_rvote.py.) -/
import Derived.Test.YtpppoajnbhipeaaRefG
import Derived.Test.YtpppoajnbhipeaaCoreM
namespace Go.Proofs.Ytpppoajnbhipeaa
open Go Go.RowKit

theorem askedC_ok {c : CoreD} (h : CoreOk c) (m : MsgD) : CoreOk { risesD c c.term m.frm with patience := 0 } :=
  patience_ok (risesD_ok h h.term) 0
theorem MsgsPost.k {l : List MsgD} {w w' w'' : World} {e : Ending} (h : MsgsPost l w e w') (k : Keeps [] w' w'') : MsgsPost l w e w'' := by
  obtain ⟨a, q, he, hf, hk⟩ := h
  exact ⟨a, q, he, OwnAt.k hf k, hk.trans k (fun _ _ h => h)⟩
theorem asked_hard {c : CoreD} {f : Int} {b : Bool} (h : b = (c.hard || c.vote != f)) : ({ risesD c c.term f with patience := 0 } : CoreD) = { c with hard := b, vote := f, patience := 0 } := by
  subst h
  unfold risesD
  have e1 : (c.term != c.term) = false := by simp
  have e2 : (f != c.vote) = (c.vote != f) := by
    by_cases h : c.vote = f
    · rw [h]
    · have h' : f ≠ c.vote := fun e => h e.symm
      have h1 : (c.vote != f) = true := by simpa using h
      have h2 : (f != c.vote) = true := by simpa using h'
      rw [h1, h2]
  rw [e1, e2, Bool.or_false]

set_option maxRecDepth 100000 in
set_option maxHeartbeats 6400000 in
theorem rvote_no0 (w : World) (B n : Nat) (c : CoreD) (P : Nat → Prop) (lv sv : Value) (m : MsgD) (ea da : Option Addr) (ec dc : Nat) (L T : Int) (okT : Bool) (h : RefAt w B n c P lv sv) (hL : lastD c = L) (hT : atD c L = (T, okT)) (HC : Hid (((m.term == c.term) = false) ∨ (((m.term == c.term) = true) ∧ ((c.vote == 0) = false) ∧ ((c.vote == m.frm) = false)) ∨ (((m.term == c.term) = true) ∧ ((c.vote == 0) = true) ∧ ((c.role == 0) = false)) ∨ (((m.term == c.term) = true) ∧ ((c.vote == 0) = true) ∧ ((c.role == 0) = true) ∧ (decide (T < m.b) = false) ∧ ((m.b == T) = false)) ∨ (((m.term == c.term) = true) ∧ ((c.vote == 0) = false) ∧ ((c.vote == m.frm) = true) ∧ ((c.role == 0) = false)) ∨ (((m.term == c.term) = true) ∧ ((c.vote == 0) = false) ∧ ((c.vote == m.frm) = true) ∧ ((c.role == 0) = true) ∧ (decide (T < m.b) = false) ∧ ((m.b == T) = false)))) :
    Calls Try.prog 83 #[.pointer (some ⟨n, 0, none⟩), msgV m (.slice ea m.entries.length ec) (.slice da m.data.length dc)] w (fun e w' => RefAt w' B n c P lv sv ∧ MsgsPost [saysD c { msg0 with kind := 2, ok := false } m.frm] w e w') := by
  have h9 : w.cell? ⟨n, 9, none⟩ = some (.int .i64 c.id) := h.blk.cell 9
  have h10 : w.cell? ⟨n, 10, none⟩ = some (.int .i64 c.term) := h.blk.cell 10
  have h11 : w.cell? ⟨n, 11, none⟩ = some (.int .i64 c.vote) := h.blk.cell 11
  have h12 : w.cell? ⟨n, 12, none⟩ = some (.int .i64 c.role) := h.blk.cell 12
  have h19 : w.cell? ⟨n, 19, none⟩ = some (.int .i64 c.patience) := h.blk.cell 19
  have h45 : w.cell? ⟨n, 45, none⟩ = some (.bool c.hard) := (h.blk.cell 45).trans ((rget21 c lv sv 24).trans (rtail_get c h.ok.votes h.ok.next h.ok.matc).1)
  have hlt := h.blk.lt
  have H := hid h
  have HL := hid hL
  have HT := hid hT
  have hLb : 0 ≤ L ∧ L ≤ 2199023255552 := by have h1 := h.ok.base; have h2 := h.ok.last; rw [← hL]; unfold lastD; omega
  have HM : Hid (∀ ok : Bool, ∀ w1 : World, Keeps [] w w1 → ∀ b, b = w1.heap.size → MsgsPost [saysD c { msg0 with kind := 2, ok := ok } m.frm] w (.returned (.slice (some ⟨b, 0, none⟩) 1 1)) (w1.alloc (.cells #[.int .i64 2, .int .i64 c.id, .int .i64 m.frm, .int .i64 c.term, .int .i64 0, .int .i64 0, .int .i64 0, .bool ok, .slice none 0 0, .slice none 0 0] 40))) := fun ok w1 k b hb => by
    subst hb
    exact msgs_one (m := saysD c { msg0 with kind := 2, ok := ok } m.frm) k (ListAt.nil _ _ _ _) (BytesAt.nil _ _ _ _)
  have HM2 : Hid (∀ (w1 : World) b, b = w1.heap.size → MsgsPost [saysD c { msg0 with kind := 2, ok := true } m.frm] w1 (.returned (.slice (some ⟨b, 0, none⟩) 1 1)) (w1.alloc (.cells #[.int .i64 2, .int .i64 c.id, .int .i64 m.frm, .int .i64 c.term, .int .i64 0, .int .i64 0, .int .i64 0, .bool true, .slice none 0 0, .slice none 0 0] 40))) := fun w1 b hb => by
    subst hb
    exact msgs_one (m := saysD c { msg0 with kind := 2, ok := true } m.frm) (Keeps.refl [] _) (ListAt.nil _ _ _ _) (BytesAt.nil _ _ _ _)
  clear h hL hT
  unfold msgV
  go_enter Try.func83, Try.ntmps83
  go_wp2_with fail
  refine (rmsg_any _ n c.id c.term _ _ ?_ ?_ ?_).mono ?_
  (· go_simp)
  (· go_simp)
  (· simp; omega)
  rintro e w2 ⟨rfl, hk2⟩
  have K2 : Hid (Keeps [] w w2) := Keeps.trans (by exact Keeps.K) hk2 (fun _ _ h => h)
  have x10 := K2.out.cellSome h10 (by simp)
  have f10 : w2.frozen? ⟨n, 10, none⟩ = false := (K2.out.frozen (a := ⟨n, 10, none⟩) hlt (by simp)).trans (H.out.blk.free 10)
  have x11 := K2.out.cellSome h11 (by simp)
  have f11 : w2.frozen? ⟨n, 11, none⟩ = false := (K2.out.frozen (a := ⟨n, 11, none⟩) hlt (by simp)).trans (H.out.blk.free 11)
  have x12 := K2.out.cellSome h12 (by simp)
  have f12 : w2.frozen? ⟨n, 12, none⟩ = false := (K2.out.frozen (a := ⟨n, 12, none⟩) hlt (by simp)).trans (H.out.blk.free 12)
  have x19 := K2.out.cellSome h19 (by simp)
  have f19 : w2.frozen? ⟨n, 19, none⟩ = false := (K2.out.frozen (a := ⟨n, 19, none⟩) hlt (by simp)).trans (H.out.blk.free 19)
  have x45 := K2.out.cellSome h45 (by simp)
  have f45 : w2.frozen? ⟨n, 45, none⟩ = false := (K2.out.frozen (a := ⟨n, 45, none⟩) hlt (by simp)).trans (H.out.blk.free 45)
  have b1 : w2.cell? ⟨w.heap.size, 1, none⟩ = some (.int .i64 m.frm) := hk2.cellSome (by go_simp) (by simp)
  have b3 : w2.cell? ⟨w.heap.size, 3, none⟩ = some (.int .i64 m.term) := hk2.cellSome (by go_simp) (by simp)
  have b4 : w2.cell? ⟨w.heap.size, 4, none⟩ = some (.int .i64 m.a) := hk2.cellSome (by go_simp) (by simp)
  have b5 : w2.cell? ⟨w.heap.size, 5, none⟩ = some (.int .i64 m.b) := hk2.cellSome (by go_simp) (by simp)
  have hz2 : w.heap.size < w2.heap.size := World.block_lt_of_cell? _ _ b1
  have hn2 : n < w2.heap.size := by omega
  have HR2 : Hid (RefAt w2 B n c P lv sv) := H.out.k K2.out
  clear hk2 h9 h10 h11 h12 h19 h45
  go_wp2_with fail
  refine (rLast_is _ B n c P lv sv (HR2.out.k (by exact Keeps.K)) L HL.out).mono ?_
  rintro e w' ⟨rfl, kk, rfl⟩
  go_wp2_with fail
  refine (rAt_is _ B n c P lv sv (HR2.out.k (by exact Keeps.K)) L T okT (by omega) (by omega) HT.out).mono ?_
  rintro e w' ⟨rfl, kk2, rfl⟩
  go_wp2_with fail
  refine Plan.wp_region_plan (fun wx => wx.cell? ⟨w.heap.size, 1, none⟩ = some (.int .i64 m.frm) ∧ wx.cell? ⟨w.heap.size, 3, none⟩ = some (.int .i64 m.term) ∧ wx.cell? ⟨w.heap.size, 4, none⟩ = some (.int .i64 m.a) ∧ wx.cell? ⟨w.heap.size, 5, none⟩ = some (.int .i64 m.b) ∧ wx.cell? ⟨n, 10, none⟩ = some (.int .i64 c.term) ∧ wx.cell? ⟨n, 11, none⟩ = some (.int .i64 c.vote) ∧ wx.cell? ⟨n, 12, none⟩ = some (.int .i64 c.role)) 45 [(true, 0), (true, 1), (true, 2), (true, 3), (true, 4), (true, 5), (true, 6), (true, 7), (true, 8), (true, 9), (true, 10), (true, 11), (true, 12), (true, 13), (true, 14), (true, 15), (true, 16), (true, 17), (true, 18), (true, 19), (true, 20), (true, 21), (true, 22), (true, 23), (true, 24), (true, 25), (true, 26), (true, 27), (true, 28), (true, 29), (true, 30), (true, 31), (true, 32), (true, 33), (true, 34), (true, 35), (true, 36), (true, 37), (true, 38), (true, 39), (true, 40), (true, 41), (true, 42), (true, 43), (false, 44)] (by kernel_rfl) (by as_aux_lemma => kernel_rfl) (by kernel_rfl) (fun _ _ _ _ _ h => h) ?_ (fun hS => ?_)
  (· go_simp)
  simp only [Plan.pick, List.append_eq, List.cons_append, List.nil_append, Plan.g1, Plan.g2, Option.getD_some, List.drop_succ_cons, List.drop_zero]
  rcases HC.out with t0 | ⟨t0, v0, v1⟩ | ⟨t0, v0, r0⟩ | ⟨t0, v0, r0, d0, d1⟩ | ⟨t0, v0, v1, r0⟩ | ⟨t0, v0, v1, r0, d0, d1⟩
  all_goals
    iterate 44 (first | refine Plan.tA ?_ | refine Plan.tY ?_ | refine Plan.pN ?_ | refine Plan.pU ?_ | fail)
    refine Plan.step ?_
    go_wp2_with fail
    refine ⟨?_, ?_⟩
    (· go_simp)
    refine Plan.fin ?_
    go_wp2_with fail
    go_ret
    refine ⟨?_, HM.out false _ ?_ _ ?_⟩
    · exact HR2.out.k (by exact Keeps.K)
    · exact K2.out.trans (by exact Keeps.K) (fun _ _ h => h)
    · simp

set_option maxRecDepth 100000 in
set_option maxHeartbeats 6400000 in
theorem rvote_no1 (w : World) (B n : Nat) (c : CoreD) (P : Nat → Prop) (lv sv : Value) (m : MsgD) (ea da : Option Addr) (ec dc : Nat) (L T : Int) (okT : Bool) (h : RefAt w B n c P lv sv) (hL : lastD c = L) (hT : atD c L = (T, okT)) (HC : Hid ((((m.term == c.term) = true) ∧ ((c.vote == 0) = true) ∧ ((c.role == 0) = true) ∧ (decide (T < m.b) = false) ∧ ((m.b == T) = true) ∧ (decide (L ≤ m.a) = false)) ∨ (((m.term == c.term) = true) ∧ ((c.vote == 0) = false) ∧ ((c.vote == m.frm) = true) ∧ ((c.role == 0) = true) ∧ (decide (T < m.b) = false) ∧ ((m.b == T) = true) ∧ (decide (L ≤ m.a) = false)))) :
    Calls Try.prog 83 #[.pointer (some ⟨n, 0, none⟩), msgV m (.slice ea m.entries.length ec) (.slice da m.data.length dc)] w (fun e w' => RefAt w' B n c P lv sv ∧ MsgsPost [saysD c { msg0 with kind := 2, ok := false } m.frm] w e w') := by
  have h9 : w.cell? ⟨n, 9, none⟩ = some (.int .i64 c.id) := h.blk.cell 9
  have h10 : w.cell? ⟨n, 10, none⟩ = some (.int .i64 c.term) := h.blk.cell 10
  have h11 : w.cell? ⟨n, 11, none⟩ = some (.int .i64 c.vote) := h.blk.cell 11
  have h12 : w.cell? ⟨n, 12, none⟩ = some (.int .i64 c.role) := h.blk.cell 12
  have h19 : w.cell? ⟨n, 19, none⟩ = some (.int .i64 c.patience) := h.blk.cell 19
  have h45 : w.cell? ⟨n, 45, none⟩ = some (.bool c.hard) := (h.blk.cell 45).trans ((rget21 c lv sv 24).trans (rtail_get c h.ok.votes h.ok.next h.ok.matc).1)
  have hlt := h.blk.lt
  have H := hid h
  have HL := hid hL
  have HT := hid hT
  have hLb : 0 ≤ L ∧ L ≤ 2199023255552 := by have h1 := h.ok.base; have h2 := h.ok.last; rw [← hL]; unfold lastD; omega
  have HM : Hid (∀ ok : Bool, ∀ w1 : World, Keeps [] w w1 → ∀ b, b = w1.heap.size → MsgsPost [saysD c { msg0 with kind := 2, ok := ok } m.frm] w (.returned (.slice (some ⟨b, 0, none⟩) 1 1)) (w1.alloc (.cells #[.int .i64 2, .int .i64 c.id, .int .i64 m.frm, .int .i64 c.term, .int .i64 0, .int .i64 0, .int .i64 0, .bool ok, .slice none 0 0, .slice none 0 0] 40))) := fun ok w1 k b hb => by
    subst hb
    exact msgs_one (m := saysD c { msg0 with kind := 2, ok := ok } m.frm) k (ListAt.nil _ _ _ _) (BytesAt.nil _ _ _ _)
  have HM2 : Hid (∀ (w1 : World) b, b = w1.heap.size → MsgsPost [saysD c { msg0 with kind := 2, ok := true } m.frm] w1 (.returned (.slice (some ⟨b, 0, none⟩) 1 1)) (w1.alloc (.cells #[.int .i64 2, .int .i64 c.id, .int .i64 m.frm, .int .i64 c.term, .int .i64 0, .int .i64 0, .int .i64 0, .bool true, .slice none 0 0, .slice none 0 0] 40))) := fun w1 b hb => by
    subst hb
    exact msgs_one (m := saysD c { msg0 with kind := 2, ok := true } m.frm) (Keeps.refl [] _) (ListAt.nil _ _ _ _) (BytesAt.nil _ _ _ _)
  clear h hL hT
  unfold msgV
  go_enter Try.func83, Try.ntmps83
  go_wp2_with fail
  refine (rmsg_any _ n c.id c.term _ _ ?_ ?_ ?_).mono ?_
  (· go_simp)
  (· go_simp)
  (· simp; omega)
  rintro e w2 ⟨rfl, hk2⟩
  have K2 : Hid (Keeps [] w w2) := Keeps.trans (by exact Keeps.K) hk2 (fun _ _ h => h)
  have x10 := K2.out.cellSome h10 (by simp)
  have f10 : w2.frozen? ⟨n, 10, none⟩ = false := (K2.out.frozen (a := ⟨n, 10, none⟩) hlt (by simp)).trans (H.out.blk.free 10)
  have x11 := K2.out.cellSome h11 (by simp)
  have f11 : w2.frozen? ⟨n, 11, none⟩ = false := (K2.out.frozen (a := ⟨n, 11, none⟩) hlt (by simp)).trans (H.out.blk.free 11)
  have x12 := K2.out.cellSome h12 (by simp)
  have f12 : w2.frozen? ⟨n, 12, none⟩ = false := (K2.out.frozen (a := ⟨n, 12, none⟩) hlt (by simp)).trans (H.out.blk.free 12)
  have x19 := K2.out.cellSome h19 (by simp)
  have f19 : w2.frozen? ⟨n, 19, none⟩ = false := (K2.out.frozen (a := ⟨n, 19, none⟩) hlt (by simp)).trans (H.out.blk.free 19)
  have x45 := K2.out.cellSome h45 (by simp)
  have f45 : w2.frozen? ⟨n, 45, none⟩ = false := (K2.out.frozen (a := ⟨n, 45, none⟩) hlt (by simp)).trans (H.out.blk.free 45)
  have b1 : w2.cell? ⟨w.heap.size, 1, none⟩ = some (.int .i64 m.frm) := hk2.cellSome (by go_simp) (by simp)
  have b3 : w2.cell? ⟨w.heap.size, 3, none⟩ = some (.int .i64 m.term) := hk2.cellSome (by go_simp) (by simp)
  have b4 : w2.cell? ⟨w.heap.size, 4, none⟩ = some (.int .i64 m.a) := hk2.cellSome (by go_simp) (by simp)
  have b5 : w2.cell? ⟨w.heap.size, 5, none⟩ = some (.int .i64 m.b) := hk2.cellSome (by go_simp) (by simp)
  have hz2 : w.heap.size < w2.heap.size := World.block_lt_of_cell? _ _ b1
  have hn2 : n < w2.heap.size := by omega
  have HR2 : Hid (RefAt w2 B n c P lv sv) := H.out.k K2.out
  clear hk2 h9 h10 h11 h12 h19 h45
  go_wp2_with fail
  refine (rLast_is _ B n c P lv sv (HR2.out.k (by exact Keeps.K)) L HL.out).mono ?_
  rintro e w' ⟨rfl, kk, rfl⟩
  go_wp2_with fail
  refine (rAt_is _ B n c P lv sv (HR2.out.k (by exact Keeps.K)) L T okT (by omega) (by omega) HT.out).mono ?_
  rintro e w' ⟨rfl, kk2, rfl⟩
  go_wp2_with fail
  refine Plan.wp_region_plan (fun wx => wx.cell? ⟨w.heap.size, 1, none⟩ = some (.int .i64 m.frm) ∧ wx.cell? ⟨w.heap.size, 3, none⟩ = some (.int .i64 m.term) ∧ wx.cell? ⟨w.heap.size, 4, none⟩ = some (.int .i64 m.a) ∧ wx.cell? ⟨w.heap.size, 5, none⟩ = some (.int .i64 m.b) ∧ wx.cell? ⟨n, 10, none⟩ = some (.int .i64 c.term) ∧ wx.cell? ⟨n, 11, none⟩ = some (.int .i64 c.vote) ∧ wx.cell? ⟨n, 12, none⟩ = some (.int .i64 c.role)) 45 [(true, 0), (true, 1), (true, 2), (true, 3), (true, 4), (true, 5), (true, 6), (true, 7), (true, 8), (true, 9), (true, 10), (true, 11), (true, 12), (true, 13), (true, 14), (true, 15), (true, 16), (true, 17), (true, 18), (true, 19), (true, 20), (true, 21), (true, 22), (true, 23), (true, 24), (true, 25), (true, 26), (true, 27), (true, 28), (true, 29), (true, 30), (true, 31), (true, 32), (true, 33), (true, 34), (true, 35), (true, 36), (true, 37), (true, 38), (true, 39), (true, 40), (true, 41), (true, 42), (true, 43), (false, 44)] (by kernel_rfl) (by as_aux_lemma => kernel_rfl) (by kernel_rfl) (fun _ _ _ _ _ h => h) ?_ (fun hS => ?_)
  (· go_simp)
  simp only [Plan.pick, List.append_eq, List.cons_append, List.nil_append, Plan.g1, Plan.g2, Option.getD_some, List.drop_succ_cons, List.drop_zero]
  rcases HC.out with ⟨t0, v0, r0, d0, d1, d2⟩ | ⟨t0, v0, v1, r0, d0, d1, d2⟩
  all_goals
    iterate 44 (first | refine Plan.tA ?_ | refine Plan.tY ?_ | refine Plan.pN ?_ | refine Plan.pU ?_ | fail)
    refine Plan.step ?_
    go_wp2_with fail
    refine (rLast_is _ B n c P lv sv (HR2.out.k (by exact Keeps.K)) L HL.out).mono ?_
    rintro e w' ⟨rfl, kk3, rfl⟩
    go_wp2_with fail
    refine ⟨?_, ?_⟩
    (· go_simp)
    refine Plan.fin ?_
    go_wp2_with fail
    go_ret
    refine ⟨?_, HM.out false _ ?_ _ ?_⟩
    · exact HR2.out.k (by exact Keeps.K)
    · exact K2.out.trans (by exact Keeps.K) (fun _ _ h => h)
    · simp

set_option maxRecDepth 100000 in
set_option maxHeartbeats 6400000 in
theorem rvote_yes0t (w : World) (B n : Nat) (c : CoreD) (P : Nat → Prop) (lv sv : Value) (m : MsgD) (ea da : Option Addr) (ec dc : Nat) (L T : Int) (okT : Bool) (h : RefAt w B n c P lv sv) (hL : lastD c = L) (hT : atD c L = (T, okT)) (HC : Hid ((((m.term == c.term) = true) ∧ ((c.vote == 0) = true) ∧ ((c.role == 0) = true) ∧ (decide (T < m.b) = true)) ∨ (((m.term == c.term) = true) ∧ ((c.vote == 0) = false) ∧ ((c.vote == m.frm) = true) ∧ ((c.role == 0) = true) ∧ (decide (T < m.b) = true)))) (hh : c.hard = true) :
    Calls Try.prog 83 #[.pointer (some ⟨n, 0, none⟩), msgV m (.slice ea m.entries.length ec) (.slice da m.data.length dc)] w (fun e w' => RefAt w' B n { risesD c c.term m.frm with patience := 0 } P lv sv ∧ ∃ wm, Keeps [n] w wm ∧ MsgsPost [saysD c { msg0 with kind := 2, ok := true } m.frm] wm e w') := by
  have h9 : w.cell? ⟨n, 9, none⟩ = some (.int .i64 c.id) := h.blk.cell 9
  have h10 : w.cell? ⟨n, 10, none⟩ = some (.int .i64 c.term) := h.blk.cell 10
  have h11 : w.cell? ⟨n, 11, none⟩ = some (.int .i64 c.vote) := h.blk.cell 11
  have h12 : w.cell? ⟨n, 12, none⟩ = some (.int .i64 c.role) := h.blk.cell 12
  have h19 : w.cell? ⟨n, 19, none⟩ = some (.int .i64 c.patience) := h.blk.cell 19
  have h45 : w.cell? ⟨n, 45, none⟩ = some (.bool c.hard) := (h.blk.cell 45).trans ((rget21 c lv sv 24).trans (rtail_get c h.ok.votes h.ok.next h.ok.matc).1)
  have hlt := h.blk.lt
  have H := hid h
  have HL := hid hL
  have HT := hid hT
  have hLb : 0 ≤ L ∧ L ≤ 2199023255552 := by have h1 := h.ok.base; have h2 := h.ok.last; rw [← hL]; unfold lastD; omega
  have HM : Hid (∀ ok : Bool, ∀ w1 : World, Keeps [] w w1 → ∀ b, b = w1.heap.size → MsgsPost [saysD c { msg0 with kind := 2, ok := ok } m.frm] w (.returned (.slice (some ⟨b, 0, none⟩) 1 1)) (w1.alloc (.cells #[.int .i64 2, .int .i64 c.id, .int .i64 m.frm, .int .i64 c.term, .int .i64 0, .int .i64 0, .int .i64 0, .bool ok, .slice none 0 0, .slice none 0 0] 40))) := fun ok w1 k b hb => by
    subst hb
    exact msgs_one (m := saysD c { msg0 with kind := 2, ok := ok } m.frm) k (ListAt.nil _ _ _ _) (BytesAt.nil _ _ _ _)
  have HM2 : Hid (∀ (w1 : World) b, b = w1.heap.size → MsgsPost [saysD c { msg0 with kind := 2, ok := true } m.frm] w1 (.returned (.slice (some ⟨b, 0, none⟩) 1 1)) (w1.alloc (.cells #[.int .i64 2, .int .i64 c.id, .int .i64 m.frm, .int .i64 c.term, .int .i64 0, .int .i64 0, .int .i64 0, .bool true, .slice none 0 0, .slice none 0 0] 40))) := fun w1 b hb => by
    subst hb
    exact msgs_one (m := saysD c { msg0 with kind := 2, ok := true } m.frm) (Keeps.refl [] _) (ListAt.nil _ _ _ _) (BytesAt.nil _ _ _ _)
  clear h hL hT
  unfold msgV
  go_enter Try.func83, Try.ntmps83
  go_wp2_with fail
  refine (rmsg_any _ n c.id c.term _ _ ?_ ?_ ?_).mono ?_
  (· go_simp)
  (· go_simp)
  (· simp; omega)
  rintro e w2 ⟨rfl, hk2⟩
  have K2 : Hid (Keeps [] w w2) := Keeps.trans (by exact Keeps.K) hk2 (fun _ _ h => h)
  have x10 := K2.out.cellSome h10 (by simp)
  have f10 : w2.frozen? ⟨n, 10, none⟩ = false := (K2.out.frozen (a := ⟨n, 10, none⟩) hlt (by simp)).trans (H.out.blk.free 10)
  have x11 := K2.out.cellSome h11 (by simp)
  have f11 : w2.frozen? ⟨n, 11, none⟩ = false := (K2.out.frozen (a := ⟨n, 11, none⟩) hlt (by simp)).trans (H.out.blk.free 11)
  have x12 := K2.out.cellSome h12 (by simp)
  have f12 : w2.frozen? ⟨n, 12, none⟩ = false := (K2.out.frozen (a := ⟨n, 12, none⟩) hlt (by simp)).trans (H.out.blk.free 12)
  have x19 := K2.out.cellSome h19 (by simp)
  have f19 : w2.frozen? ⟨n, 19, none⟩ = false := (K2.out.frozen (a := ⟨n, 19, none⟩) hlt (by simp)).trans (H.out.blk.free 19)
  have x45 := K2.out.cellSome h45 (by simp)
  have f45 : w2.frozen? ⟨n, 45, none⟩ = false := (K2.out.frozen (a := ⟨n, 45, none⟩) hlt (by simp)).trans (H.out.blk.free 45)
  have b1 : w2.cell? ⟨w.heap.size, 1, none⟩ = some (.int .i64 m.frm) := hk2.cellSome (by go_simp) (by simp)
  have b3 : w2.cell? ⟨w.heap.size, 3, none⟩ = some (.int .i64 m.term) := hk2.cellSome (by go_simp) (by simp)
  have b4 : w2.cell? ⟨w.heap.size, 4, none⟩ = some (.int .i64 m.a) := hk2.cellSome (by go_simp) (by simp)
  have b5 : w2.cell? ⟨w.heap.size, 5, none⟩ = some (.int .i64 m.b) := hk2.cellSome (by go_simp) (by simp)
  have hz2 : w.heap.size < w2.heap.size := World.block_lt_of_cell? _ _ b1
  have hn2 : n < w2.heap.size := by omega
  have HR2 : Hid (RefAt w2 B n c P lv sv) := H.out.k K2.out
  clear hk2 h9 h10 h11 h12 h19 h45
  rw [hh] at x45
  go_wp2_with fail
  refine (rLast_is _ B n c P lv sv (HR2.out.k (by exact Keeps.K)) L HL.out).mono ?_
  rintro e w' ⟨rfl, kk, rfl⟩
  go_wp2_with fail
  refine (rAt_is _ B n c P lv sv (HR2.out.k (by exact Keeps.K)) L T okT (by omega) (by omega) HT.out).mono ?_
  rintro e w' ⟨rfl, kk2, rfl⟩
  go_wp2_with fail
  refine Plan.wp_region_plan (fun wx => wx.cell? ⟨w.heap.size, 1, none⟩ = some (.int .i64 m.frm) ∧ wx.cell? ⟨w.heap.size, 3, none⟩ = some (.int .i64 m.term) ∧ wx.cell? ⟨w.heap.size, 4, none⟩ = some (.int .i64 m.a) ∧ wx.cell? ⟨w.heap.size, 5, none⟩ = some (.int .i64 m.b) ∧ wx.cell? ⟨n, 10, none⟩ = some (.int .i64 c.term) ∧ wx.cell? ⟨n, 11, none⟩ = some (.int .i64 c.vote) ∧ wx.cell? ⟨n, 12, none⟩ = some (.int .i64 c.role)) 45 [(true, 0), (true, 1), (true, 2), (true, 3), (true, 4), (true, 5), (true, 6), (true, 7), (true, 8), (true, 9), (true, 10), (true, 11), (true, 12), (true, 13), (true, 14), (true, 15), (true, 16), (true, 17), (true, 18), (true, 19), (true, 20), (true, 21), (true, 22), (true, 23), (true, 24), (true, 25), (true, 26), (true, 27), (true, 28), (true, 29), (true, 30), (true, 31), (true, 32), (true, 33), (true, 34), (true, 35), (true, 36), (true, 37), (true, 38), (true, 39), (true, 40), (true, 41), (true, 42), (true, 43), (false, 44)] (by kernel_rfl) (by as_aux_lemma => kernel_rfl) (by kernel_rfl) (fun _ _ _ _ _ h => h) ?_ (fun hS => ?_)
  (· go_simp)
  simp only [Plan.pick, List.append_eq, List.cons_append, List.nil_append, Plan.g1, Plan.g2, Option.getD_some, List.drop_succ_cons, List.drop_zero]
  rcases HC.out with ⟨t0, v0, r0, d0⟩ | ⟨t0, v0, v1, r0, d0⟩
  all_goals
    iterate 44 (first | refine Plan.tA ?_ | refine Plan.tY ?_ | refine Plan.pN ?_ | refine Plan.pU ?_ | fail)
    refine Plan.step ?_
    go_wp2_with fail
    refine ⟨?_, ?_⟩
    (· go_simp)
    refine Plan.fin ?_
    go_wp2_with fail
    refine Plan.wp_region_plan (fun wx => wx.cell? ⟨w.heap.size, 1, none⟩ = some (.int .i64 m.frm) ∧ wx.cell? ⟨n, 11, none⟩ = some (.int .i64 c.vote) ∧ wx.cell? ⟨n, 45, none⟩ = some (.bool true)) 14 [(true, 0), (true, 1), (true, 2), (true, 3), (true, 4), (true, 5), (true, 6), (true, 7), (true, 8), (true, 9), (true, 10), (true, 11), (true, 12), (true, 13)] (by kernel_rfl) (by as_aux_lemma => kernel_rfl) (by kernel_rfl) (fun _ _ _ _ _ h => h) ?_ (fun hS5 => ?_)
    (· go_simp)
    simp only [Plan.pick, List.append_eq, List.cons_append, List.nil_append, Plan.g1, Plan.g2, Option.getD_some, List.drop_succ_cons, List.drop_zero]
    iterate 14 (first | refine Plan.tA ?_ | refine Plan.tY ?_ | refine Plan.pN ?_ | refine Plan.pU ?_ | fail)
    refine Plan.fin ?_
    go_wp2_with fail
    go_ret
    rw [asked_hard (b := true) (by rw [hh]; rfl)]
    have h0 := HR2.out.k (w' := (((w2.alloc (.cells #[.int .i64 2, .int .i64 c.id, .int .i64 m.frm, .int .i64 c.term, .int .i64 0, .int .i64 0, .int .i64 0, .bool false, .slice none 0 0, .slice none 0 0] 40)).drewN (kk + kk2 + 1)).setCell ⟨w2.heap.size, 7, none⟩ (.bool true))) (by exact Keeps.K)
    have b1 := h0.blk.hard h0.ok.votes h0.ok.next h0.ok.matc true
    have b2 := b1.set (c' := { c with hard := true, vote := m.frm }) (lv' := lv) (sv' := sv) 11 (.int .i64 m.frm) rfl
    have b3 := b2.set (c' := { c with hard := true, vote := m.frm, patience := 0 }) (lv' := lv) (sv' := sv) 19 (.int .i64 0) rfl
    have k3 : Keeps [n] (((w2.alloc (.cells #[.int .i64 2, .int .i64 c.id, .int .i64 m.frm, .int .i64 c.term, .int .i64 0, .int .i64 0, .int .i64 0, .bool false, .slice none 0 0, .slice none 0 0] 40)).drewN (kk + kk2 + 1)).setCell ⟨w2.heap.size, 7, none⟩ (.bool true)) ((((((w2.alloc (.cells #[.int .i64 2, .int .i64 c.id, .int .i64 m.frm, .int .i64 c.term, .int .i64 0, .int .i64 0, .int .i64 0, .bool false, .slice none 0 0, .slice none 0 0] 40)).drewN (kk + kk2 + 1)).setCell ⟨w2.heap.size, 7, none⟩ (.bool true)).setCell ⟨n, 45, none⟩ (.bool true)).setCell ⟨n, 11, none⟩ (.int .i64 m.frm)).setCell ⟨n, 19, none⟩ (.int .i64 0)) := (((Keeps.refl _ _).setCell (.inl (by simp)) _).setCell (.inl (by simp)) _).setCell (.inl (by simp)) _
    have hr := h0.wrote k3 b3 rfl rfl (by rw [← asked_hard (b := true) (by rw [hh]; rfl)]; exact askedC_ok H.out.ok m)
    have kx : Keeps [] w (((w2.alloc (.cells #[.int .i64 2, .int .i64 c.id, .int .i64 m.frm, .int .i64 c.term, .int .i64 0, .int .i64 0, .int .i64 0, .bool false, .slice none 0 0, .slice none 0 0] 40)).drewN (kk + kk2 + 1)).setCell ⟨w2.heap.size, 7, none⟩ (.bool true)) := K2.out.trans (by exact Keeps.K) (fun _ _ h => h)
    exact ⟨hr.k (((Keeps.refl [] _).alloc _).drew), ((((((w2.alloc (.cells #[.int .i64 2, .int .i64 c.id, .int .i64 m.frm, .int .i64 c.term, .int .i64 0, .int .i64 0, .int .i64 0, .bool false, .slice none 0 0, .slice none 0 0] 40)).drewN (kk + kk2 + 1)).setCell ⟨w2.heap.size, 7, none⟩ (.bool true)).setCell ⟨n, 45, none⟩ (.bool true)).setCell ⟨n, 11, none⟩ (.int .i64 m.frm)).setCell ⟨n, 19, none⟩ (.int .i64 0)), (kx.mono (G := [n]) (fun _ _ h => by cases h)).trans k3 (fun _ _ h => h), MsgsPost.k (HM2.out ((((((w2.alloc (.cells #[.int .i64 2, .int .i64 c.id, .int .i64 m.frm, .int .i64 c.term, .int .i64 0, .int .i64 0, .int .i64 0, .bool false, .slice none 0 0, .slice none 0 0] 40)).drewN (kk + kk2 + 1)).setCell ⟨w2.heap.size, 7, none⟩ (.bool true)).setCell ⟨n, 45, none⟩ (.bool true)).setCell ⟨n, 11, none⟩ (.int .i64 m.frm)).setCell ⟨n, 19, none⟩ (.int .i64 0)) _ (by simp)) (Keeps.refl [] _).drew⟩

set_option maxRecDepth 100000 in
set_option maxHeartbeats 6400000 in
theorem rvote_yes0f (w : World) (B n : Nat) (c : CoreD) (P : Nat → Prop) (lv sv : Value) (m : MsgD) (ea da : Option Addr) (ec dc : Nat) (L T : Int) (okT : Bool) (h : RefAt w B n c P lv sv) (hL : lastD c = L) (hT : atD c L = (T, okT)) (HC : Hid ((((m.term == c.term) = true) ∧ ((c.vote == 0) = true) ∧ ((c.role == 0) = true) ∧ (decide (T < m.b) = true)) ∨ (((m.term == c.term) = true) ∧ ((c.vote == 0) = false) ∧ ((c.vote == m.frm) = true) ∧ ((c.role == 0) = true) ∧ (decide (T < m.b) = true)))) (hh : c.hard = false) :
    Calls Try.prog 83 #[.pointer (some ⟨n, 0, none⟩), msgV m (.slice ea m.entries.length ec) (.slice da m.data.length dc)] w (fun e w' => RefAt w' B n { risesD c c.term m.frm with patience := 0 } P lv sv ∧ ∃ wm, Keeps [n] w wm ∧ MsgsPost [saysD c { msg0 with kind := 2, ok := true } m.frm] wm e w') := by
  have h9 : w.cell? ⟨n, 9, none⟩ = some (.int .i64 c.id) := h.blk.cell 9
  have h10 : w.cell? ⟨n, 10, none⟩ = some (.int .i64 c.term) := h.blk.cell 10
  have h11 : w.cell? ⟨n, 11, none⟩ = some (.int .i64 c.vote) := h.blk.cell 11
  have h12 : w.cell? ⟨n, 12, none⟩ = some (.int .i64 c.role) := h.blk.cell 12
  have h19 : w.cell? ⟨n, 19, none⟩ = some (.int .i64 c.patience) := h.blk.cell 19
  have h45 : w.cell? ⟨n, 45, none⟩ = some (.bool c.hard) := (h.blk.cell 45).trans ((rget21 c lv sv 24).trans (rtail_get c h.ok.votes h.ok.next h.ok.matc).1)
  have hlt := h.blk.lt
  have H := hid h
  have HL := hid hL
  have HT := hid hT
  have hLb : 0 ≤ L ∧ L ≤ 2199023255552 := by have h1 := h.ok.base; have h2 := h.ok.last; rw [← hL]; unfold lastD; omega
  have HM : Hid (∀ ok : Bool, ∀ w1 : World, Keeps [] w w1 → ∀ b, b = w1.heap.size → MsgsPost [saysD c { msg0 with kind := 2, ok := ok } m.frm] w (.returned (.slice (some ⟨b, 0, none⟩) 1 1)) (w1.alloc (.cells #[.int .i64 2, .int .i64 c.id, .int .i64 m.frm, .int .i64 c.term, .int .i64 0, .int .i64 0, .int .i64 0, .bool ok, .slice none 0 0, .slice none 0 0] 40))) := fun ok w1 k b hb => by
    subst hb
    exact msgs_one (m := saysD c { msg0 with kind := 2, ok := ok } m.frm) k (ListAt.nil _ _ _ _) (BytesAt.nil _ _ _ _)
  have HM2 : Hid (∀ (w1 : World) b, b = w1.heap.size → MsgsPost [saysD c { msg0 with kind := 2, ok := true } m.frm] w1 (.returned (.slice (some ⟨b, 0, none⟩) 1 1)) (w1.alloc (.cells #[.int .i64 2, .int .i64 c.id, .int .i64 m.frm, .int .i64 c.term, .int .i64 0, .int .i64 0, .int .i64 0, .bool true, .slice none 0 0, .slice none 0 0] 40))) := fun w1 b hb => by
    subst hb
    exact msgs_one (m := saysD c { msg0 with kind := 2, ok := true } m.frm) (Keeps.refl [] _) (ListAt.nil _ _ _ _) (BytesAt.nil _ _ _ _)
  clear h hL hT
  unfold msgV
  go_enter Try.func83, Try.ntmps83
  go_wp2_with fail
  refine (rmsg_any _ n c.id c.term _ _ ?_ ?_ ?_).mono ?_
  (· go_simp)
  (· go_simp)
  (· simp; omega)
  rintro e w2 ⟨rfl, hk2⟩
  have K2 : Hid (Keeps [] w w2) := Keeps.trans (by exact Keeps.K) hk2 (fun _ _ h => h)
  have x10 := K2.out.cellSome h10 (by simp)
  have f10 : w2.frozen? ⟨n, 10, none⟩ = false := (K2.out.frozen (a := ⟨n, 10, none⟩) hlt (by simp)).trans (H.out.blk.free 10)
  have x11 := K2.out.cellSome h11 (by simp)
  have f11 : w2.frozen? ⟨n, 11, none⟩ = false := (K2.out.frozen (a := ⟨n, 11, none⟩) hlt (by simp)).trans (H.out.blk.free 11)
  have x12 := K2.out.cellSome h12 (by simp)
  have f12 : w2.frozen? ⟨n, 12, none⟩ = false := (K2.out.frozen (a := ⟨n, 12, none⟩) hlt (by simp)).trans (H.out.blk.free 12)
  have x19 := K2.out.cellSome h19 (by simp)
  have f19 : w2.frozen? ⟨n, 19, none⟩ = false := (K2.out.frozen (a := ⟨n, 19, none⟩) hlt (by simp)).trans (H.out.blk.free 19)
  have x45 := K2.out.cellSome h45 (by simp)
  have f45 : w2.frozen? ⟨n, 45, none⟩ = false := (K2.out.frozen (a := ⟨n, 45, none⟩) hlt (by simp)).trans (H.out.blk.free 45)
  have b1 : w2.cell? ⟨w.heap.size, 1, none⟩ = some (.int .i64 m.frm) := hk2.cellSome (by go_simp) (by simp)
  have b3 : w2.cell? ⟨w.heap.size, 3, none⟩ = some (.int .i64 m.term) := hk2.cellSome (by go_simp) (by simp)
  have b4 : w2.cell? ⟨w.heap.size, 4, none⟩ = some (.int .i64 m.a) := hk2.cellSome (by go_simp) (by simp)
  have b5 : w2.cell? ⟨w.heap.size, 5, none⟩ = some (.int .i64 m.b) := hk2.cellSome (by go_simp) (by simp)
  have hz2 : w.heap.size < w2.heap.size := World.block_lt_of_cell? _ _ b1
  have hn2 : n < w2.heap.size := by omega
  have HR2 : Hid (RefAt w2 B n c P lv sv) := H.out.k K2.out
  clear hk2 h9 h10 h11 h12 h19 h45
  rw [hh] at x45
  go_wp2_with fail
  refine (rLast_is _ B n c P lv sv (HR2.out.k (by exact Keeps.K)) L HL.out).mono ?_
  rintro e w' ⟨rfl, kk, rfl⟩
  go_wp2_with fail
  refine (rAt_is _ B n c P lv sv (HR2.out.k (by exact Keeps.K)) L T okT (by omega) (by omega) HT.out).mono ?_
  rintro e w' ⟨rfl, kk2, rfl⟩
  go_wp2_with fail
  refine Plan.wp_region_plan (fun wx => wx.cell? ⟨w.heap.size, 1, none⟩ = some (.int .i64 m.frm) ∧ wx.cell? ⟨w.heap.size, 3, none⟩ = some (.int .i64 m.term) ∧ wx.cell? ⟨w.heap.size, 4, none⟩ = some (.int .i64 m.a) ∧ wx.cell? ⟨w.heap.size, 5, none⟩ = some (.int .i64 m.b) ∧ wx.cell? ⟨n, 10, none⟩ = some (.int .i64 c.term) ∧ wx.cell? ⟨n, 11, none⟩ = some (.int .i64 c.vote) ∧ wx.cell? ⟨n, 12, none⟩ = some (.int .i64 c.role)) 45 [(true, 0), (true, 1), (true, 2), (true, 3), (true, 4), (true, 5), (true, 6), (true, 7), (true, 8), (true, 9), (true, 10), (true, 11), (true, 12), (true, 13), (true, 14), (true, 15), (true, 16), (true, 17), (true, 18), (true, 19), (true, 20), (true, 21), (true, 22), (true, 23), (true, 24), (true, 25), (true, 26), (true, 27), (true, 28), (true, 29), (true, 30), (true, 31), (true, 32), (true, 33), (true, 34), (true, 35), (true, 36), (true, 37), (true, 38), (true, 39), (true, 40), (true, 41), (true, 42), (true, 43), (false, 44)] (by kernel_rfl) (by as_aux_lemma => kernel_rfl) (by kernel_rfl) (fun _ _ _ _ _ h => h) ?_ (fun hS => ?_)
  (· go_simp)
  simp only [Plan.pick, List.append_eq, List.cons_append, List.nil_append, Plan.g1, Plan.g2, Option.getD_some, List.drop_succ_cons, List.drop_zero]
  rcases HC.out with ⟨t0, v0, r0, d0⟩ | ⟨t0, v0, v1, r0, d0⟩
  all_goals
    iterate 44 (first | refine Plan.tA ?_ | refine Plan.tY ?_ | refine Plan.pN ?_ | refine Plan.pU ?_ | fail)
    refine Plan.step ?_
    go_wp2_with fail
    refine ⟨?_, ?_⟩
    (· go_simp)
    refine Plan.fin ?_
    go_wp2_with fail
    refine Plan.wp_region_plan (fun wx => wx.cell? ⟨w.heap.size, 1, none⟩ = some (.int .i64 m.frm) ∧ wx.cell? ⟨n, 11, none⟩ = some (.int .i64 c.vote) ∧ wx.cell? ⟨n, 45, none⟩ = some (.bool false)) 14 [(true, 0), (true, 1), (true, 2), (true, 3), (true, 4), (true, 5), (true, 6), (true, 7), (true, 8), (true, 9), (true, 10), (true, 11), (true, 12), (true, 13)] (by kernel_rfl) (by as_aux_lemma => kernel_rfl) (by kernel_rfl) (fun _ _ _ _ _ h => h) ?_ (fun hS5 => ?_)
    (· go_simp)
    simp only [Plan.pick, List.append_eq, List.cons_append, List.nil_append, Plan.g1, Plan.g2, Option.getD_some, List.drop_succ_cons, List.drop_zero]
    iterate 14 (first | refine Plan.tA ?_ | refine Plan.tY ?_ | refine Plan.pN ?_ | refine Plan.pU ?_ | fail)
    refine Plan.fin ?_
    go_wp2_with fail
    go_ret
    rw [asked_hard (b := (c.vote != m.frm)) (by rw [hh]; rfl)]
    have h0 := HR2.out.k (w' := (((w2.alloc (.cells #[.int .i64 2, .int .i64 c.id, .int .i64 m.frm, .int .i64 c.term, .int .i64 0, .int .i64 0, .int .i64 0, .bool false, .slice none 0 0, .slice none 0 0] 40)).drewN (kk + kk2 + 1)).setCell ⟨w2.heap.size, 7, none⟩ (.bool true))) (by exact Keeps.K)
    have b1 := h0.blk.hard h0.ok.votes h0.ok.next h0.ok.matc (c.vote != m.frm)
    have b2 := b1.set (c' := { c with hard := (c.vote != m.frm), vote := m.frm }) (lv' := lv) (sv' := sv) 11 (.int .i64 m.frm) rfl
    have b3 := b2.set (c' := { c with hard := (c.vote != m.frm), vote := m.frm, patience := 0 }) (lv' := lv) (sv' := sv) 19 (.int .i64 0) rfl
    have k3 : Keeps [n] (((w2.alloc (.cells #[.int .i64 2, .int .i64 c.id, .int .i64 m.frm, .int .i64 c.term, .int .i64 0, .int .i64 0, .int .i64 0, .bool false, .slice none 0 0, .slice none 0 0] 40)).drewN (kk + kk2 + 1)).setCell ⟨w2.heap.size, 7, none⟩ (.bool true)) ((((((w2.alloc (.cells #[.int .i64 2, .int .i64 c.id, .int .i64 m.frm, .int .i64 c.term, .int .i64 0, .int .i64 0, .int .i64 0, .bool false, .slice none 0 0, .slice none 0 0] 40)).drewN (kk + kk2 + 1)).setCell ⟨w2.heap.size, 7, none⟩ (.bool true)).setCell ⟨n, 45, none⟩ (.bool (c.vote != m.frm))).setCell ⟨n, 11, none⟩ (.int .i64 m.frm)).setCell ⟨n, 19, none⟩ (.int .i64 0)) := (((Keeps.refl _ _).setCell (.inl (by simp)) _).setCell (.inl (by simp)) _).setCell (.inl (by simp)) _
    have hr := h0.wrote k3 b3 rfl rfl (by rw [← asked_hard (b := (c.vote != m.frm)) (by rw [hh]; rfl)]; exact askedC_ok H.out.ok m)
    have kx : Keeps [] w (((w2.alloc (.cells #[.int .i64 2, .int .i64 c.id, .int .i64 m.frm, .int .i64 c.term, .int .i64 0, .int .i64 0, .int .i64 0, .bool false, .slice none 0 0, .slice none 0 0] 40)).drewN (kk + kk2 + 1)).setCell ⟨w2.heap.size, 7, none⟩ (.bool true)) := K2.out.trans (by exact Keeps.K) (fun _ _ h => h)
    exact ⟨hr.k (((Keeps.refl [] _).alloc _).drew), ((((((w2.alloc (.cells #[.int .i64 2, .int .i64 c.id, .int .i64 m.frm, .int .i64 c.term, .int .i64 0, .int .i64 0, .int .i64 0, .bool false, .slice none 0 0, .slice none 0 0] 40)).drewN (kk + kk2 + 1)).setCell ⟨w2.heap.size, 7, none⟩ (.bool true)).setCell ⟨n, 45, none⟩ (.bool (c.vote != m.frm))).setCell ⟨n, 11, none⟩ (.int .i64 m.frm)).setCell ⟨n, 19, none⟩ (.int .i64 0)), (kx.mono (G := [n]) (fun _ _ h => by cases h)).trans k3 (fun _ _ h => h), MsgsPost.k (HM2.out ((((((w2.alloc (.cells #[.int .i64 2, .int .i64 c.id, .int .i64 m.frm, .int .i64 c.term, .int .i64 0, .int .i64 0, .int .i64 0, .bool false, .slice none 0 0, .slice none 0 0] 40)).drewN (kk + kk2 + 1)).setCell ⟨w2.heap.size, 7, none⟩ (.bool true)).setCell ⟨n, 45, none⟩ (.bool (c.vote != m.frm))).setCell ⟨n, 11, none⟩ (.int .i64 m.frm)).setCell ⟨n, 19, none⟩ (.int .i64 0)) _ (by simp)) (Keeps.refl [] _).drew⟩

set_option maxRecDepth 100000 in
set_option maxHeartbeats 6400000 in
theorem rvote_yes1t (w : World) (B n : Nat) (c : CoreD) (P : Nat → Prop) (lv sv : Value) (m : MsgD) (ea da : Option Addr) (ec dc : Nat) (L T : Int) (okT : Bool) (h : RefAt w B n c P lv sv) (hL : lastD c = L) (hT : atD c L = (T, okT)) (HC : Hid ((((m.term == c.term) = true) ∧ ((c.vote == 0) = true) ∧ ((c.role == 0) = true) ∧ (decide (T < m.b) = false) ∧ ((m.b == T) = true) ∧ (decide (L ≤ m.a) = true)) ∨ (((m.term == c.term) = true) ∧ ((c.vote == 0) = false) ∧ ((c.vote == m.frm) = true) ∧ ((c.role == 0) = true) ∧ (decide (T < m.b) = false) ∧ ((m.b == T) = true) ∧ (decide (L ≤ m.a) = true)))) (hh : c.hard = true) :
    Calls Try.prog 83 #[.pointer (some ⟨n, 0, none⟩), msgV m (.slice ea m.entries.length ec) (.slice da m.data.length dc)] w (fun e w' => RefAt w' B n { risesD c c.term m.frm with patience := 0 } P lv sv ∧ ∃ wm, Keeps [n] w wm ∧ MsgsPost [saysD c { msg0 with kind := 2, ok := true } m.frm] wm e w') := by
  have h9 : w.cell? ⟨n, 9, none⟩ = some (.int .i64 c.id) := h.blk.cell 9
  have h10 : w.cell? ⟨n, 10, none⟩ = some (.int .i64 c.term) := h.blk.cell 10
  have h11 : w.cell? ⟨n, 11, none⟩ = some (.int .i64 c.vote) := h.blk.cell 11
  have h12 : w.cell? ⟨n, 12, none⟩ = some (.int .i64 c.role) := h.blk.cell 12
  have h19 : w.cell? ⟨n, 19, none⟩ = some (.int .i64 c.patience) := h.blk.cell 19
  have h45 : w.cell? ⟨n, 45, none⟩ = some (.bool c.hard) := (h.blk.cell 45).trans ((rget21 c lv sv 24).trans (rtail_get c h.ok.votes h.ok.next h.ok.matc).1)
  have hlt := h.blk.lt
  have H := hid h
  have HL := hid hL
  have HT := hid hT
  have hLb : 0 ≤ L ∧ L ≤ 2199023255552 := by have h1 := h.ok.base; have h2 := h.ok.last; rw [← hL]; unfold lastD; omega
  have HM : Hid (∀ ok : Bool, ∀ w1 : World, Keeps [] w w1 → ∀ b, b = w1.heap.size → MsgsPost [saysD c { msg0 with kind := 2, ok := ok } m.frm] w (.returned (.slice (some ⟨b, 0, none⟩) 1 1)) (w1.alloc (.cells #[.int .i64 2, .int .i64 c.id, .int .i64 m.frm, .int .i64 c.term, .int .i64 0, .int .i64 0, .int .i64 0, .bool ok, .slice none 0 0, .slice none 0 0] 40))) := fun ok w1 k b hb => by
    subst hb
    exact msgs_one (m := saysD c { msg0 with kind := 2, ok := ok } m.frm) k (ListAt.nil _ _ _ _) (BytesAt.nil _ _ _ _)
  have HM2 : Hid (∀ (w1 : World) b, b = w1.heap.size → MsgsPost [saysD c { msg0 with kind := 2, ok := true } m.frm] w1 (.returned (.slice (some ⟨b, 0, none⟩) 1 1)) (w1.alloc (.cells #[.int .i64 2, .int .i64 c.id, .int .i64 m.frm, .int .i64 c.term, .int .i64 0, .int .i64 0, .int .i64 0, .bool true, .slice none 0 0, .slice none 0 0] 40))) := fun w1 b hb => by
    subst hb
    exact msgs_one (m := saysD c { msg0 with kind := 2, ok := true } m.frm) (Keeps.refl [] _) (ListAt.nil _ _ _ _) (BytesAt.nil _ _ _ _)
  clear h hL hT
  unfold msgV
  go_enter Try.func83, Try.ntmps83
  go_wp2_with fail
  refine (rmsg_any _ n c.id c.term _ _ ?_ ?_ ?_).mono ?_
  (· go_simp)
  (· go_simp)
  (· simp; omega)
  rintro e w2 ⟨rfl, hk2⟩
  have K2 : Hid (Keeps [] w w2) := Keeps.trans (by exact Keeps.K) hk2 (fun _ _ h => h)
  have x10 := K2.out.cellSome h10 (by simp)
  have f10 : w2.frozen? ⟨n, 10, none⟩ = false := (K2.out.frozen (a := ⟨n, 10, none⟩) hlt (by simp)).trans (H.out.blk.free 10)
  have x11 := K2.out.cellSome h11 (by simp)
  have f11 : w2.frozen? ⟨n, 11, none⟩ = false := (K2.out.frozen (a := ⟨n, 11, none⟩) hlt (by simp)).trans (H.out.blk.free 11)
  have x12 := K2.out.cellSome h12 (by simp)
  have f12 : w2.frozen? ⟨n, 12, none⟩ = false := (K2.out.frozen (a := ⟨n, 12, none⟩) hlt (by simp)).trans (H.out.blk.free 12)
  have x19 := K2.out.cellSome h19 (by simp)
  have f19 : w2.frozen? ⟨n, 19, none⟩ = false := (K2.out.frozen (a := ⟨n, 19, none⟩) hlt (by simp)).trans (H.out.blk.free 19)
  have x45 := K2.out.cellSome h45 (by simp)
  have f45 : w2.frozen? ⟨n, 45, none⟩ = false := (K2.out.frozen (a := ⟨n, 45, none⟩) hlt (by simp)).trans (H.out.blk.free 45)
  have b1 : w2.cell? ⟨w.heap.size, 1, none⟩ = some (.int .i64 m.frm) := hk2.cellSome (by go_simp) (by simp)
  have b3 : w2.cell? ⟨w.heap.size, 3, none⟩ = some (.int .i64 m.term) := hk2.cellSome (by go_simp) (by simp)
  have b4 : w2.cell? ⟨w.heap.size, 4, none⟩ = some (.int .i64 m.a) := hk2.cellSome (by go_simp) (by simp)
  have b5 : w2.cell? ⟨w.heap.size, 5, none⟩ = some (.int .i64 m.b) := hk2.cellSome (by go_simp) (by simp)
  have hz2 : w.heap.size < w2.heap.size := World.block_lt_of_cell? _ _ b1
  have hn2 : n < w2.heap.size := by omega
  have HR2 : Hid (RefAt w2 B n c P lv sv) := H.out.k K2.out
  clear hk2 h9 h10 h11 h12 h19 h45
  rw [hh] at x45
  go_wp2_with fail
  refine (rLast_is _ B n c P lv sv (HR2.out.k (by exact Keeps.K)) L HL.out).mono ?_
  rintro e w' ⟨rfl, kk, rfl⟩
  go_wp2_with fail
  refine (rAt_is _ B n c P lv sv (HR2.out.k (by exact Keeps.K)) L T okT (by omega) (by omega) HT.out).mono ?_
  rintro e w' ⟨rfl, kk2, rfl⟩
  go_wp2_with fail
  refine Plan.wp_region_plan (fun wx => wx.cell? ⟨w.heap.size, 1, none⟩ = some (.int .i64 m.frm) ∧ wx.cell? ⟨w.heap.size, 3, none⟩ = some (.int .i64 m.term) ∧ wx.cell? ⟨w.heap.size, 4, none⟩ = some (.int .i64 m.a) ∧ wx.cell? ⟨w.heap.size, 5, none⟩ = some (.int .i64 m.b) ∧ wx.cell? ⟨n, 10, none⟩ = some (.int .i64 c.term) ∧ wx.cell? ⟨n, 11, none⟩ = some (.int .i64 c.vote) ∧ wx.cell? ⟨n, 12, none⟩ = some (.int .i64 c.role)) 45 [(true, 0), (true, 1), (true, 2), (true, 3), (true, 4), (true, 5), (true, 6), (true, 7), (true, 8), (true, 9), (true, 10), (true, 11), (true, 12), (true, 13), (true, 14), (true, 15), (true, 16), (true, 17), (true, 18), (true, 19), (true, 20), (true, 21), (true, 22), (true, 23), (true, 24), (true, 25), (true, 26), (true, 27), (true, 28), (true, 29), (true, 30), (true, 31), (true, 32), (true, 33), (true, 34), (true, 35), (true, 36), (true, 37), (true, 38), (true, 39), (true, 40), (true, 41), (true, 42), (true, 43), (false, 44)] (by kernel_rfl) (by as_aux_lemma => kernel_rfl) (by kernel_rfl) (fun _ _ _ _ _ h => h) ?_ (fun hS => ?_)
  (· go_simp)
  simp only [Plan.pick, List.append_eq, List.cons_append, List.nil_append, Plan.g1, Plan.g2, Option.getD_some, List.drop_succ_cons, List.drop_zero]
  rcases HC.out with ⟨t0, v0, r0, d0, d1, d2⟩ | ⟨t0, v0, v1, r0, d0, d1, d2⟩
  all_goals
    iterate 44 (first | refine Plan.tA ?_ | refine Plan.tY ?_ | refine Plan.pN ?_ | refine Plan.pU ?_ | fail)
    refine Plan.step ?_
    go_wp2_with fail
    refine (rLast_is _ B n c P lv sv (HR2.out.k (by exact Keeps.K)) L HL.out).mono ?_
    rintro e w' ⟨rfl, kk3, rfl⟩
    go_wp2_with fail
    refine ⟨?_, ?_⟩
    (· go_simp)
    refine Plan.fin ?_
    go_wp2_with fail
    refine Plan.wp_region_plan (fun wx => wx.cell? ⟨w.heap.size, 1, none⟩ = some (.int .i64 m.frm) ∧ wx.cell? ⟨n, 11, none⟩ = some (.int .i64 c.vote) ∧ wx.cell? ⟨n, 45, none⟩ = some (.bool true)) 14 [(true, 0), (true, 1), (true, 2), (true, 3), (true, 4), (true, 5), (true, 6), (true, 7), (true, 8), (true, 9), (true, 10), (true, 11), (true, 12), (true, 13)] (by kernel_rfl) (by as_aux_lemma => kernel_rfl) (by kernel_rfl) (fun _ _ _ _ _ h => h) ?_ (fun hS5 => ?_)
    (· go_simp)
    simp only [Plan.pick, List.append_eq, List.cons_append, List.nil_append, Plan.g1, Plan.g2, Option.getD_some, List.drop_succ_cons, List.drop_zero]
    iterate 14 (first | refine Plan.tA ?_ | refine Plan.tY ?_ | refine Plan.pN ?_ | refine Plan.pU ?_ | fail)
    refine Plan.fin ?_
    go_wp2_with fail
    go_ret
    rw [asked_hard (b := true) (by rw [hh]; rfl)]
    have h0 := HR2.out.k (w' := (((w2.alloc (.cells #[.int .i64 2, .int .i64 c.id, .int .i64 m.frm, .int .i64 c.term, .int .i64 0, .int .i64 0, .int .i64 0, .bool false, .slice none 0 0, .slice none 0 0] 40)).drewN (kk + kk2 + 1 + kk3)).setCell ⟨w2.heap.size, 7, none⟩ (.bool true))) (by exact Keeps.K)
    have b1 := h0.blk.hard h0.ok.votes h0.ok.next h0.ok.matc true
    have b2 := b1.set (c' := { c with hard := true, vote := m.frm }) (lv' := lv) (sv' := sv) 11 (.int .i64 m.frm) rfl
    have b3 := b2.set (c' := { c with hard := true, vote := m.frm, patience := 0 }) (lv' := lv) (sv' := sv) 19 (.int .i64 0) rfl
    have k3 : Keeps [n] (((w2.alloc (.cells #[.int .i64 2, .int .i64 c.id, .int .i64 m.frm, .int .i64 c.term, .int .i64 0, .int .i64 0, .int .i64 0, .bool false, .slice none 0 0, .slice none 0 0] 40)).drewN (kk + kk2 + 1 + kk3)).setCell ⟨w2.heap.size, 7, none⟩ (.bool true)) ((((((w2.alloc (.cells #[.int .i64 2, .int .i64 c.id, .int .i64 m.frm, .int .i64 c.term, .int .i64 0, .int .i64 0, .int .i64 0, .bool false, .slice none 0 0, .slice none 0 0] 40)).drewN (kk + kk2 + 1 + kk3)).setCell ⟨w2.heap.size, 7, none⟩ (.bool true)).setCell ⟨n, 45, none⟩ (.bool true)).setCell ⟨n, 11, none⟩ (.int .i64 m.frm)).setCell ⟨n, 19, none⟩ (.int .i64 0)) := (((Keeps.refl _ _).setCell (.inl (by simp)) _).setCell (.inl (by simp)) _).setCell (.inl (by simp)) _
    have hr := h0.wrote k3 b3 rfl rfl (by rw [← asked_hard (b := true) (by rw [hh]; rfl)]; exact askedC_ok H.out.ok m)
    have kx : Keeps [] w (((w2.alloc (.cells #[.int .i64 2, .int .i64 c.id, .int .i64 m.frm, .int .i64 c.term, .int .i64 0, .int .i64 0, .int .i64 0, .bool false, .slice none 0 0, .slice none 0 0] 40)).drewN (kk + kk2 + 1 + kk3)).setCell ⟨w2.heap.size, 7, none⟩ (.bool true)) := K2.out.trans (by exact Keeps.K) (fun _ _ h => h)
    exact ⟨hr.k (((Keeps.refl [] _).alloc _).drew), ((((((w2.alloc (.cells #[.int .i64 2, .int .i64 c.id, .int .i64 m.frm, .int .i64 c.term, .int .i64 0, .int .i64 0, .int .i64 0, .bool false, .slice none 0 0, .slice none 0 0] 40)).drewN (kk + kk2 + 1 + kk3)).setCell ⟨w2.heap.size, 7, none⟩ (.bool true)).setCell ⟨n, 45, none⟩ (.bool true)).setCell ⟨n, 11, none⟩ (.int .i64 m.frm)).setCell ⟨n, 19, none⟩ (.int .i64 0)), (kx.mono (G := [n]) (fun _ _ h => by cases h)).trans k3 (fun _ _ h => h), MsgsPost.k (HM2.out ((((((w2.alloc (.cells #[.int .i64 2, .int .i64 c.id, .int .i64 m.frm, .int .i64 c.term, .int .i64 0, .int .i64 0, .int .i64 0, .bool false, .slice none 0 0, .slice none 0 0] 40)).drewN (kk + kk2 + 1 + kk3)).setCell ⟨w2.heap.size, 7, none⟩ (.bool true)).setCell ⟨n, 45, none⟩ (.bool true)).setCell ⟨n, 11, none⟩ (.int .i64 m.frm)).setCell ⟨n, 19, none⟩ (.int .i64 0)) _ (by simp)) (Keeps.refl [] _).drew⟩

set_option maxRecDepth 100000 in
set_option maxHeartbeats 6400000 in
theorem rvote_yes1f (w : World) (B n : Nat) (c : CoreD) (P : Nat → Prop) (lv sv : Value) (m : MsgD) (ea da : Option Addr) (ec dc : Nat) (L T : Int) (okT : Bool) (h : RefAt w B n c P lv sv) (hL : lastD c = L) (hT : atD c L = (T, okT)) (HC : Hid ((((m.term == c.term) = true) ∧ ((c.vote == 0) = true) ∧ ((c.role == 0) = true) ∧ (decide (T < m.b) = false) ∧ ((m.b == T) = true) ∧ (decide (L ≤ m.a) = true)) ∨ (((m.term == c.term) = true) ∧ ((c.vote == 0) = false) ∧ ((c.vote == m.frm) = true) ∧ ((c.role == 0) = true) ∧ (decide (T < m.b) = false) ∧ ((m.b == T) = true) ∧ (decide (L ≤ m.a) = true)))) (hh : c.hard = false) :
    Calls Try.prog 83 #[.pointer (some ⟨n, 0, none⟩), msgV m (.slice ea m.entries.length ec) (.slice da m.data.length dc)] w (fun e w' => RefAt w' B n { risesD c c.term m.frm with patience := 0 } P lv sv ∧ ∃ wm, Keeps [n] w wm ∧ MsgsPost [saysD c { msg0 with kind := 2, ok := true } m.frm] wm e w') := by
  have h9 : w.cell? ⟨n, 9, none⟩ = some (.int .i64 c.id) := h.blk.cell 9
  have h10 : w.cell? ⟨n, 10, none⟩ = some (.int .i64 c.term) := h.blk.cell 10
  have h11 : w.cell? ⟨n, 11, none⟩ = some (.int .i64 c.vote) := h.blk.cell 11
  have h12 : w.cell? ⟨n, 12, none⟩ = some (.int .i64 c.role) := h.blk.cell 12
  have h19 : w.cell? ⟨n, 19, none⟩ = some (.int .i64 c.patience) := h.blk.cell 19
  have h45 : w.cell? ⟨n, 45, none⟩ = some (.bool c.hard) := (h.blk.cell 45).trans ((rget21 c lv sv 24).trans (rtail_get c h.ok.votes h.ok.next h.ok.matc).1)
  have hlt := h.blk.lt
  have H := hid h
  have HL := hid hL
  have HT := hid hT
  have hLb : 0 ≤ L ∧ L ≤ 2199023255552 := by have h1 := h.ok.base; have h2 := h.ok.last; rw [← hL]; unfold lastD; omega
  have HM : Hid (∀ ok : Bool, ∀ w1 : World, Keeps [] w w1 → ∀ b, b = w1.heap.size → MsgsPost [saysD c { msg0 with kind := 2, ok := ok } m.frm] w (.returned (.slice (some ⟨b, 0, none⟩) 1 1)) (w1.alloc (.cells #[.int .i64 2, .int .i64 c.id, .int .i64 m.frm, .int .i64 c.term, .int .i64 0, .int .i64 0, .int .i64 0, .bool ok, .slice none 0 0, .slice none 0 0] 40))) := fun ok w1 k b hb => by
    subst hb
    exact msgs_one (m := saysD c { msg0 with kind := 2, ok := ok } m.frm) k (ListAt.nil _ _ _ _) (BytesAt.nil _ _ _ _)
  have HM2 : Hid (∀ (w1 : World) b, b = w1.heap.size → MsgsPost [saysD c { msg0 with kind := 2, ok := true } m.frm] w1 (.returned (.slice (some ⟨b, 0, none⟩) 1 1)) (w1.alloc (.cells #[.int .i64 2, .int .i64 c.id, .int .i64 m.frm, .int .i64 c.term, .int .i64 0, .int .i64 0, .int .i64 0, .bool true, .slice none 0 0, .slice none 0 0] 40))) := fun w1 b hb => by
    subst hb
    exact msgs_one (m := saysD c { msg0 with kind := 2, ok := true } m.frm) (Keeps.refl [] _) (ListAt.nil _ _ _ _) (BytesAt.nil _ _ _ _)
  clear h hL hT
  unfold msgV
  go_enter Try.func83, Try.ntmps83
  go_wp2_with fail
  refine (rmsg_any _ n c.id c.term _ _ ?_ ?_ ?_).mono ?_
  (· go_simp)
  (· go_simp)
  (· simp; omega)
  rintro e w2 ⟨rfl, hk2⟩
  have K2 : Hid (Keeps [] w w2) := Keeps.trans (by exact Keeps.K) hk2 (fun _ _ h => h)
  have x10 := K2.out.cellSome h10 (by simp)
  have f10 : w2.frozen? ⟨n, 10, none⟩ = false := (K2.out.frozen (a := ⟨n, 10, none⟩) hlt (by simp)).trans (H.out.blk.free 10)
  have x11 := K2.out.cellSome h11 (by simp)
  have f11 : w2.frozen? ⟨n, 11, none⟩ = false := (K2.out.frozen (a := ⟨n, 11, none⟩) hlt (by simp)).trans (H.out.blk.free 11)
  have x12 := K2.out.cellSome h12 (by simp)
  have f12 : w2.frozen? ⟨n, 12, none⟩ = false := (K2.out.frozen (a := ⟨n, 12, none⟩) hlt (by simp)).trans (H.out.blk.free 12)
  have x19 := K2.out.cellSome h19 (by simp)
  have f19 : w2.frozen? ⟨n, 19, none⟩ = false := (K2.out.frozen (a := ⟨n, 19, none⟩) hlt (by simp)).trans (H.out.blk.free 19)
  have x45 := K2.out.cellSome h45 (by simp)
  have f45 : w2.frozen? ⟨n, 45, none⟩ = false := (K2.out.frozen (a := ⟨n, 45, none⟩) hlt (by simp)).trans (H.out.blk.free 45)
  have b1 : w2.cell? ⟨w.heap.size, 1, none⟩ = some (.int .i64 m.frm) := hk2.cellSome (by go_simp) (by simp)
  have b3 : w2.cell? ⟨w.heap.size, 3, none⟩ = some (.int .i64 m.term) := hk2.cellSome (by go_simp) (by simp)
  have b4 : w2.cell? ⟨w.heap.size, 4, none⟩ = some (.int .i64 m.a) := hk2.cellSome (by go_simp) (by simp)
  have b5 : w2.cell? ⟨w.heap.size, 5, none⟩ = some (.int .i64 m.b) := hk2.cellSome (by go_simp) (by simp)
  have hz2 : w.heap.size < w2.heap.size := World.block_lt_of_cell? _ _ b1
  have hn2 : n < w2.heap.size := by omega
  have HR2 : Hid (RefAt w2 B n c P lv sv) := H.out.k K2.out
  clear hk2 h9 h10 h11 h12 h19 h45
  rw [hh] at x45
  go_wp2_with fail
  refine (rLast_is _ B n c P lv sv (HR2.out.k (by exact Keeps.K)) L HL.out).mono ?_
  rintro e w' ⟨rfl, kk, rfl⟩
  go_wp2_with fail
  refine (rAt_is _ B n c P lv sv (HR2.out.k (by exact Keeps.K)) L T okT (by omega) (by omega) HT.out).mono ?_
  rintro e w' ⟨rfl, kk2, rfl⟩
  go_wp2_with fail
  refine Plan.wp_region_plan (fun wx => wx.cell? ⟨w.heap.size, 1, none⟩ = some (.int .i64 m.frm) ∧ wx.cell? ⟨w.heap.size, 3, none⟩ = some (.int .i64 m.term) ∧ wx.cell? ⟨w.heap.size, 4, none⟩ = some (.int .i64 m.a) ∧ wx.cell? ⟨w.heap.size, 5, none⟩ = some (.int .i64 m.b) ∧ wx.cell? ⟨n, 10, none⟩ = some (.int .i64 c.term) ∧ wx.cell? ⟨n, 11, none⟩ = some (.int .i64 c.vote) ∧ wx.cell? ⟨n, 12, none⟩ = some (.int .i64 c.role)) 45 [(true, 0), (true, 1), (true, 2), (true, 3), (true, 4), (true, 5), (true, 6), (true, 7), (true, 8), (true, 9), (true, 10), (true, 11), (true, 12), (true, 13), (true, 14), (true, 15), (true, 16), (true, 17), (true, 18), (true, 19), (true, 20), (true, 21), (true, 22), (true, 23), (true, 24), (true, 25), (true, 26), (true, 27), (true, 28), (true, 29), (true, 30), (true, 31), (true, 32), (true, 33), (true, 34), (true, 35), (true, 36), (true, 37), (true, 38), (true, 39), (true, 40), (true, 41), (true, 42), (true, 43), (false, 44)] (by kernel_rfl) (by as_aux_lemma => kernel_rfl) (by kernel_rfl) (fun _ _ _ _ _ h => h) ?_ (fun hS => ?_)
  (· go_simp)
  simp only [Plan.pick, List.append_eq, List.cons_append, List.nil_append, Plan.g1, Plan.g2, Option.getD_some, List.drop_succ_cons, List.drop_zero]
  rcases HC.out with ⟨t0, v0, r0, d0, d1, d2⟩ | ⟨t0, v0, v1, r0, d0, d1, d2⟩
  all_goals
    iterate 44 (first | refine Plan.tA ?_ | refine Plan.tY ?_ | refine Plan.pN ?_ | refine Plan.pU ?_ | fail)
    refine Plan.step ?_
    go_wp2_with fail
    refine (rLast_is _ B n c P lv sv (HR2.out.k (by exact Keeps.K)) L HL.out).mono ?_
    rintro e w' ⟨rfl, kk3, rfl⟩
    go_wp2_with fail
    refine ⟨?_, ?_⟩
    (· go_simp)
    refine Plan.fin ?_
    go_wp2_with fail
    refine Plan.wp_region_plan (fun wx => wx.cell? ⟨w.heap.size, 1, none⟩ = some (.int .i64 m.frm) ∧ wx.cell? ⟨n, 11, none⟩ = some (.int .i64 c.vote) ∧ wx.cell? ⟨n, 45, none⟩ = some (.bool false)) 14 [(true, 0), (true, 1), (true, 2), (true, 3), (true, 4), (true, 5), (true, 6), (true, 7), (true, 8), (true, 9), (true, 10), (true, 11), (true, 12), (true, 13)] (by kernel_rfl) (by as_aux_lemma => kernel_rfl) (by kernel_rfl) (fun _ _ _ _ _ h => h) ?_ (fun hS5 => ?_)
    (· go_simp)
    simp only [Plan.pick, List.append_eq, List.cons_append, List.nil_append, Plan.g1, Plan.g2, Option.getD_some, List.drop_succ_cons, List.drop_zero]
    iterate 14 (first | refine Plan.tA ?_ | refine Plan.tY ?_ | refine Plan.pN ?_ | refine Plan.pU ?_ | fail)
    refine Plan.fin ?_
    go_wp2_with fail
    go_ret
    rw [asked_hard (b := (c.vote != m.frm)) (by rw [hh]; rfl)]
    have h0 := HR2.out.k (w' := (((w2.alloc (.cells #[.int .i64 2, .int .i64 c.id, .int .i64 m.frm, .int .i64 c.term, .int .i64 0, .int .i64 0, .int .i64 0, .bool false, .slice none 0 0, .slice none 0 0] 40)).drewN (kk + kk2 + 1 + kk3)).setCell ⟨w2.heap.size, 7, none⟩ (.bool true))) (by exact Keeps.K)
    have b1 := h0.blk.hard h0.ok.votes h0.ok.next h0.ok.matc (c.vote != m.frm)
    have b2 := b1.set (c' := { c with hard := (c.vote != m.frm), vote := m.frm }) (lv' := lv) (sv' := sv) 11 (.int .i64 m.frm) rfl
    have b3 := b2.set (c' := { c with hard := (c.vote != m.frm), vote := m.frm, patience := 0 }) (lv' := lv) (sv' := sv) 19 (.int .i64 0) rfl
    have k3 : Keeps [n] (((w2.alloc (.cells #[.int .i64 2, .int .i64 c.id, .int .i64 m.frm, .int .i64 c.term, .int .i64 0, .int .i64 0, .int .i64 0, .bool false, .slice none 0 0, .slice none 0 0] 40)).drewN (kk + kk2 + 1 + kk3)).setCell ⟨w2.heap.size, 7, none⟩ (.bool true)) ((((((w2.alloc (.cells #[.int .i64 2, .int .i64 c.id, .int .i64 m.frm, .int .i64 c.term, .int .i64 0, .int .i64 0, .int .i64 0, .bool false, .slice none 0 0, .slice none 0 0] 40)).drewN (kk + kk2 + 1 + kk3)).setCell ⟨w2.heap.size, 7, none⟩ (.bool true)).setCell ⟨n, 45, none⟩ (.bool (c.vote != m.frm))).setCell ⟨n, 11, none⟩ (.int .i64 m.frm)).setCell ⟨n, 19, none⟩ (.int .i64 0)) := (((Keeps.refl _ _).setCell (.inl (by simp)) _).setCell (.inl (by simp)) _).setCell (.inl (by simp)) _
    have hr := h0.wrote k3 b3 rfl rfl (by rw [← asked_hard (b := (c.vote != m.frm)) (by rw [hh]; rfl)]; exact askedC_ok H.out.ok m)
    have kx : Keeps [] w (((w2.alloc (.cells #[.int .i64 2, .int .i64 c.id, .int .i64 m.frm, .int .i64 c.term, .int .i64 0, .int .i64 0, .int .i64 0, .bool false, .slice none 0 0, .slice none 0 0] 40)).drewN (kk + kk2 + 1 + kk3)).setCell ⟨w2.heap.size, 7, none⟩ (.bool true)) := K2.out.trans (by exact Keeps.K) (fun _ _ h => h)
    exact ⟨hr.k (((Keeps.refl [] _).alloc _).drew), ((((((w2.alloc (.cells #[.int .i64 2, .int .i64 c.id, .int .i64 m.frm, .int .i64 c.term, .int .i64 0, .int .i64 0, .int .i64 0, .bool false, .slice none 0 0, .slice none 0 0] 40)).drewN (kk + kk2 + 1 + kk3)).setCell ⟨w2.heap.size, 7, none⟩ (.bool true)).setCell ⟨n, 45, none⟩ (.bool (c.vote != m.frm))).setCell ⟨n, 11, none⟩ (.int .i64 m.frm)).setCell ⟨n, 19, none⟩ (.int .i64 0)), (kx.mono (G := [n]) (fun _ _ h => by cases h)).trans k3 (fun _ _ h => h), MsgsPost.k (HM2.out ((((((w2.alloc (.cells #[.int .i64 2, .int .i64 c.id, .int .i64 m.frm, .int .i64 c.term, .int .i64 0, .int .i64 0, .int .i64 0, .bool false, .slice none 0 0, .slice none 0 0] 40)).drewN (kk + kk2 + 1 + kk3)).setCell ⟨w2.heap.size, 7, none⟩ (.bool true)).setCell ⟨n, 45, none⟩ (.bool (c.vote != m.frm))).setCell ⟨n, 11, none⟩ (.int .i64 m.frm)).setCell ⟨n, 19, none⟩ (.int .i64 0)) _ (by simp)) (Keeps.refl [] _).drew⟩

theorem rvote_any (w : World) (B n : Nat) (c : CoreD) (P : Nat → Prop) (lv sv : Value) (m : MsgD) (ea da : Option Addr) (ec dc : Nat) (h : RefAt w B n c P lv sv) :
    Calls Try.prog 83 #[.pointer (some ⟨n, 0, none⟩), msgV m (.slice ea m.entries.length ec) (.slice da m.data.length dc)] w (RCallPost B n P (askedD c m) w) := by
  obtain ⟨L, hL⟩ : ∃ L, lastD c = L := ⟨_, rfl⟩
  obtain ⟨T, okT, hT⟩ : ∃ t o, atD c L = (t, o) := ⟨_, _, rfl⟩
  have hlt := h.blk.lt
  have hok : askedOk c m = (m.term == c.term && (c.vote == 0 || c.vote == m.frm) && c.role == 0 && (decide (T < m.b) || m.b == T && decide (L ≤ m.a))) := by
    unfold askedOk lastTerm
    rw [hL, hT]
  have no : askedOk c m = false → ∀ {e w'}, (RefAt w' B n c P lv sv ∧ MsgsPost [saysD c { msg0 with kind := 2, ok := false } m.frm] w e w') → RCallPost B n P (askedD c m) w e w' := fun hf {e w'} hp => by
    obtain ⟨hr, a, q, he, hm, hk⟩ := hp
    unfold askedD askedC
    rw [hf]
    exact ⟨a, q, lv, sv, he, hr.toGr hlt, OwnAt.mono hm (fun b _ hb => ⟨.inr hb.1, hb.2⟩), hk.mono (fun _ _ h => by cases h)⟩
  have yes : askedOk c m = true → ∀ {e w'}, (RefAt w' B n { risesD c c.term m.frm with patience := 0 } P lv sv ∧ ∃ wm, Keeps [n] w wm ∧ MsgsPost [saysD c { msg0 with kind := 2, ok := true } m.frm] wm e w') → RCallPost B n P (askedD c m) w e w' := fun hf {e w'} hp => by
    obtain ⟨hr, wm, hkm, a, q, he, hm, hk⟩ := hp
    unfold askedD askedC
    rw [hf]
    exact ⟨a, q, lv, sv, he, hr.toGr hlt, OwnAt.mono (OwnAt.base hm hkm.size) (fun b _ hb => ⟨.inr (Nat.le_trans hkm.size hb.1), hb.2⟩), hkm.trans hk (fun _ _ h => by cases h)⟩
  rcases t0 : (m.term == c.term) with _ | _
  · skip
    exact (rvote_no0 w B n c P lv sv m ea da ec dc L T okT h hL hT (hid (.inl t0))).mono (fun e w' hp => no (by rw [hok, t0]; simp) hp)
  rcases v0 : (c.vote == 0) with _ | _
  · rcases v1 : (c.vote == m.frm) with _ | _
    · skip
      exact (rvote_no0 w B n c P lv sv m ea da ec dc L T okT h hL hT (hid (.inr (.inl ⟨t0, v0, v1⟩)))).mono (fun e w' hp => no (by rw [hok, t0, v0, v1]; simp) hp)
    · skip
      rcases r0 : (c.role == 0) with _ | _
      · skip
        exact (rvote_no0 w B n c P lv sv m ea da ec dc L T okT h hL hT (hid (.inr (.inr (.inr (.inr (.inl ⟨t0, v0, v1, r0⟩))))))).mono (fun e w' hp => no (by rw [hok, t0, v0, v1, r0]; simp) hp)
      rcases d0 : decide (T < m.b) with _ | _
      rotate_left 1
      · skip
        rcases hh : c.hard with _ | _
        · exact (rvote_yes0f w B n c P lv sv m ea da ec dc L T okT h hL hT (hid (.inr ⟨t0, v0, v1, r0, d0⟩)) hh).mono (fun e w' hp => yes (by rw [hok, t0, v0, v1, r0, d0]; simp) hp)
        · exact (rvote_yes0t w B n c P lv sv m ea da ec dc L T okT h hL hT (hid (.inr ⟨t0, v0, v1, r0, d0⟩)) hh).mono (fun e w' hp => yes (by rw [hok, t0, v0, v1, r0, d0]; simp) hp)
      rcases d1 : (m.b == T) with _ | _
      · skip
        exact (rvote_no0 w B n c P lv sv m ea da ec dc L T okT h hL hT (hid (.inr (.inr (.inr (.inr (.inr ⟨t0, v0, v1, r0, d0, d1⟩))))))).mono (fun e w' hp => no (by rw [hok, t0, v0, v1, r0, d0, d1]; simp) hp)
      rcases d2 : decide (L ≤ m.a) with _ | _
      · skip
        exact (rvote_no1 w B n c P lv sv m ea da ec dc L T okT h hL hT (hid (.inr ⟨t0, v0, v1, r0, d0, d1, d2⟩))).mono (fun e w' hp => no (by rw [hok, t0, v0, v1, r0, d0, d1, d2]; simp) hp)
      rcases hh : c.hard with _ | _
      · exact (rvote_yes1f w B n c P lv sv m ea da ec dc L T okT h hL hT (hid (.inr ⟨t0, v0, v1, r0, d0, d1, d2⟩)) hh).mono (fun e w' hp => yes (by rw [hok, t0, v0, v1, r0, d0, d1, d2]; simp) hp)
      · exact (rvote_yes1t w B n c P lv sv m ea da ec dc L T okT h hL hT (hid (.inr ⟨t0, v0, v1, r0, d0, d1, d2⟩)) hh).mono (fun e w' hp => yes (by rw [hok, t0, v0, v1, r0, d0, d1, d2]; simp) hp)
  · skip
    rcases r0 : (c.role == 0) with _ | _
    · skip
      exact (rvote_no0 w B n c P lv sv m ea da ec dc L T okT h hL hT (hid (.inr (.inr (.inl ⟨t0, v0, r0⟩))))).mono (fun e w' hp => no (by rw [hok, t0, v0, r0]; simp) hp)
    rcases d0 : decide (T < m.b) with _ | _
    rotate_left 1
    · skip
      rcases hh : c.hard with _ | _
      · exact (rvote_yes0f w B n c P lv sv m ea da ec dc L T okT h hL hT (hid (.inl ⟨t0, v0, r0, d0⟩)) hh).mono (fun e w' hp => yes (by rw [hok, t0, v0, r0, d0]; simp) hp)
      · exact (rvote_yes0t w B n c P lv sv m ea da ec dc L T okT h hL hT (hid (.inl ⟨t0, v0, r0, d0⟩)) hh).mono (fun e w' hp => yes (by rw [hok, t0, v0, r0, d0]; simp) hp)
    rcases d1 : (m.b == T) with _ | _
    · skip
      exact (rvote_no0 w B n c P lv sv m ea da ec dc L T okT h hL hT (hid (.inr (.inr (.inr (.inl ⟨t0, v0, r0, d0, d1⟩)))))).mono (fun e w' hp => no (by rw [hok, t0, v0, r0, d0, d1]; simp) hp)
    rcases d2 : decide (L ≤ m.a) with _ | _
    · skip
      exact (rvote_no1 w B n c P lv sv m ea da ec dc L T okT h hL hT (hid (.inl ⟨t0, v0, r0, d0, d1, d2⟩))).mono (fun e w' hp => no (by rw [hok, t0, v0, r0, d0, d1, d2]; simp) hp)
    rcases hh : c.hard with _ | _
    · exact (rvote_yes1f w B n c P lv sv m ea da ec dc L T okT h hL hT (hid (.inl ⟨t0, v0, r0, d0, d1, d2⟩)) hh).mono (fun e w' hp => yes (by rw [hok, t0, v0, r0, d0, d1, d2]; simp) hp)
    · exact (rvote_yes1t w B n c P lv sv m ea da ec dc L T okT h hL hT (hid (.inl ⟨t0, v0, r0, d0, d1, d2⟩)) hh).mono (fun e w' hp => yes (by rw [hok, t0, v0, r0, d0, d1, d2]; simp) hp)

end Go.Proofs.Ytpppoajnbhipeaa
