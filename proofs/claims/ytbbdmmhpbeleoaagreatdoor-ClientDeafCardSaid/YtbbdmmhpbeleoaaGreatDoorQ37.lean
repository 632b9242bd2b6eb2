/- Joined of ClH, PutA, CoreP, SendA. -/
import Derived.Test.YtbbdmmhpbeleoaaGreatDoorQ36
import Derived.Test.YtbbdmmhpbeleoaaGreatDoorPlanT
import Derived.Test.YtbbdmmhpbeleoaaGreatDoorQ34
import Derived.Test.YtbbdmmhpbeleoaaGreatDoorQ33

set_option linter.unusedSimpArgs false
set_option linter.unusedVariables false

/- The client hears an answer. (Printed beside ClG.) -/
namespace Go.Proofs.YtbbdmmhpbeleoaaGreatDoor
open Go Go.RowKit

set_option maxRecDepth 100000 in
set_option maxHeartbeats 16000000 in
theorem clHear_ears (w : World) (n : Nat) (Q : Nat → Prop) (c : CliD) (dv fv : Value) (m : MsgD) (ea da : Option Addr) (el ec dc : Nat) (hT : Tabs w) (h : CliAt w n Q c dv fv) (hok : HearOk c) (hr : Reads w 1 (.slice da m.data.length dc) m.data.length (u8s m.data)) (hb : m.data.length ≤ 140737488355328) (hQ : ∀ b, w.heap.size ≤ b → Q b) (hd : deafD c m = false) :
    Calls Tryz.prog 33 #[.pointer (some ⟨n, 0, none⟩), msgV m (.slice ea el ec) (.slice da m.data.length dc)] w (ToldPost n Q (chearD c m) w) := by
  have HT := hid hT
  have H := hid h
  have HR := hid hr
  have HK := hid hok
  have HQ := hid hQ
  have HD := hid hd
  have HB := hid (fun w1 (k : Keeps [] w w1) => clBusy_any (h.k k))
  have HGR := hid (fun w1 h1 h3 => cmGetR_any (.slice da m.data.length dc) m.data w1 h1 h3 hb)
  have x0 : w.cell? ⟨n, 0, none⟩ = some (.int .i64 c.conf.nodes) := h.cell 0
  have x9 : w.cell? ⟨n, 9, none⟩ = some (.int .i64 c.id) := h.cell 9
  have x13 : w.cell? ⟨n, 13, none⟩ = some (.int .i64 c.request) := h.cell 13
  have hlt := h.lt
  unfold msgV
  obtain ⟨h0, h1, h2, h3, h4, h5⟩ := hears_all hd
  rw [h0] at HB
  clear h hok hr hT hQ hd h0
  go_enter Tryz.func33, Tryz.ntmps33
  go_wp2_with fail
  refine Plan.wp_region_plan (fun wx => (wx.cell? ⟨w.heap.size, 0, none⟩ = some (.int .i64 m.kind) ∧ wx.cell? ⟨w.heap.size, 1, none⟩ = some (.int .i64 m.frm) ∧ wx.cell? ⟨w.heap.size, 2, none⟩ = some (.int .i64 m.«to») ∧ wx.cell? ⟨w.heap.size, 6, none⟩ = some (.int .i64 m.c)) ∧ wx.cell? ⟨n, 0, none⟩ = some (.int .i64 c.conf.nodes) ∧ wx.cell? ⟨n, 9, none⟩ = some (.int .i64 c.id) ∧ wx.cell? ⟨n, 13, none⟩ = some (.int .i64 c.request)) 39 [(true, 0), (false, 1), (true, 2), (true, 3), (true, 4), (true, 5), (true, 6), (true, 7), (true, 8), (true, 9), (true, 10), (true, 11), (true, 12), (true, 13), (true, 14), (true, 15), (true, 16), (true, 17), (true, 18), (true, 19), (true, 20), (true, 21), (true, 22), (true, 23), (true, 24), (true, 25), (true, 26), (true, 27), (true, 28), (true, 29), (true, 30), (true, 31), (true, 32), (true, 33), (true, 34), (true, 35), (true, 36), (true, 37), (true, 38)] (by kernel_rfl) (by as_aux_lemma => kernel_rfl) (by kernel_rfl) (fun _ _ _ _ _ h => h) ?_ (fun hS => ?_)
  (· go_simp)
  simp only [Plan.pick, List.append_eq, List.cons_append, List.nil_append, Plan.g1, Plan.g2, Option.getD_some, List.drop_succ_cons, List.drop_zero]
  iterate 1 (first | refine Plan.tA ?_ | refine Plan.tY ?_ | refine Plan.pN ?_ | refine Plan.pU ?_ | fail)
  refine Plan.step ?_
  go_wp2_with fail
  refine (HB.out _ (by exact Keeps.K)).mono ?_
  rintro e w2 ⟨rfl, hk⟩
  have y0 : w2.cell? ⟨w.heap.size, 0, none⟩ = some (.int .i64 m.kind) := hk.cellSome (by go_simp) (by simp)
  have y1 : w2.cell? ⟨w.heap.size, 1, none⟩ = some (.int .i64 m.frm) := hk.cellSome (by go_simp) (by simp)
  have y2 : w2.cell? ⟨w.heap.size, 2, none⟩ = some (.int .i64 m.«to») := hk.cellSome (by go_simp) (by simp)
  have y4 : w2.cell? ⟨w.heap.size, 4, none⟩ = some (.int .i64 m.a) := hk.cellSome (by go_simp) (by simp)
  have y6 : w2.cell? ⟨w.heap.size, 6, none⟩ = some (.int .i64 m.c) := hk.cellSome (by go_simp) (by simp)
  have y7 : w2.cell? ⟨w.heap.size, 7, none⟩ = some (.bool m.ok) := hk.cellSome (by go_simp) (by simp)
  have y9 : w2.cell? ⟨w.heap.size, 9, none⟩ = some (.slice da m.data.length dc) := hk.cellSome (by go_simp) (by simp)
  have z0 : w2.cell? ⟨n, 0, none⟩ = some (.int .i64 c.conf.nodes) := hk.cellSome (by go_simp) (by simp)
  have z9 : w2.cell? ⟨n, 9, none⟩ = some (.int .i64 c.id) := hk.cellSome (by go_simp) (by simp)
  have z13 : w2.cell? ⟨n, 13, none⟩ = some (.int .i64 c.request) := hk.cellSome (by go_simp) (by simp)
  have K2 : Hid (Keeps [] w w2) := Keeps.trans (G := []) (by exact Keeps.K) hk (fun _ _ h => h)
  have z10 : w2.cell? ⟨n, 10, none⟩ = some (.int .i64 c.node) := (H.out.k K2.out).cell 10
  have hlt2 : w.heap.size < w2.heap.size := by have := hk.size; simp at this; omega
  clear hk hS
  go_wp2_with fail
  refine ⟨?_, ?_⟩
  (· go_simp)
  iterate 37 (first | refine Plan.tA ?_ | refine Plan.tY ?_ | refine Plan.pN ?_ | refine Plan.pU ?_ | fail)
  refine Plan.fin ?_
  clear x0 x9 x13
  obtain ⟨ok, hok⟩ : ∃ ok, m.ok = ok := ⟨_, rfl⟩
  rw [hok] at y7 ⊢
  have HOK := hid hok
  clear hok
  rcases ok with _ | _
  · by_cases ha : m.a < 1 ∨ c.conf.nodes < m.a ∨ m.a = c.node
    · have HO : Hid (chearD c m = (c, [], false)) := by
        show _ = _
        unfold chearD
        rw [if_neg (by rw [HD.out]; decide), if_pos HOK.out, if_pos ha]
      have hc : m.a < 1 ∨ (m.a < 1) = False ∧ (c.conf.nodes < m.a ∨ (c.conf.nodes < m.a) = False ∧ (m.a == c.node) = true) := by
        by_cases q1 : m.a < 1
        · exact .inl q1
        · refine .inr ⟨eq_false q1, ?_⟩
          by_cases q2 : c.conf.nodes < m.a
          · exact .inl q2
          · exact .inr ⟨eq_false q2, by simp; omega⟩
      clear ha
      rcases hc with q1 | ⟨q1, q2 | ⟨q2, q3⟩⟩
      all_goals
        go_wp2_with fail
        go_quiet (fail)
        go_wp2_with fail
        refine bodyPost_ret (v := .tuple #[.slice none 0 0, .bool false]) (by simp [results, Tryz.results33, go_sem]) rfl ?_
        rw [HO.out]
        exact ⟨_, rfl, CliPost.silent ((H.out.k K2.out).k (by exact Keeps.K)) ((K2.out.mono (fun _ _ h => by cases h)).trans (G := []) (by exact Keeps.K) (fun _ _ h => by cases h))⟩
    · have HO : Hid (chearD c m = ((againD c m.a).1, (againD c m.a).2, false)) := by
        show _ = _
        unfold chearD
        rw [if_neg (by rw [HD.out]; decide), if_pos HOK.out, if_neg ha]
      have q1 : (m.a < 1) = False := eq_false (fun h => ha (.inl h))
      have q2 : (c.conf.nodes < m.a) = False := eq_false (fun h => ha (.inr (.inl h)))
      have q3 : (m.a == c.node) = false := by rw [beq_eq_false_iff_ne]; exact fun h => ha (.inr (.inr h))
      clear ha
      go_wp2_with fail
      go_quiet (fail)
      go_wp2_with fail
      refine (clAgain_any _ n Q c dv fv _ ((H.out.k K2.out).k (by exact Keeps.K)) HK.out.data).mono ?_
      rintro e w6 ⟨v, rfl, a6, q6, dv6, fv6, rfl, g6, g7, g8⟩
      have HP : Hid (CliPost n Q (againD c m.a).1 (againD c m.a).2 w (.slice a6 (againD c m.a).2.length q6) w6) := CliPost.from ⟨a6, q6, dv6, fv6, rfl, g6, g7, g8⟩ ((K2.out.mono (fun _ _ h => by cases h)).trans (G := []) (by exact Keeps.K) (fun _ _ h => by cases h))
      clear g6 g7 g8
      go_wp2_with fail
      refine bodyPost_ret (v := .tuple #[.slice a6 (againD c m.a).2.length q6, .bool false]) (by simp [results, Tryz.results33, go_sem]) rfl ?_
      rw [HO.out]
      exact ⟨_, rfl, HP.out⟩
  · obtain ⟨⟨⟨er, nn, ⟨rk, rn, rs⟩⟩, good⟩, hgr⟩ : ∃ r, getR m.data = r := ⟨_, rfl⟩
    have HNN : Hid (good = true → nn ≤ 1099511627776) := fun hg => by
      have := getR_n (bs := m.data) (by rw [hgr]; exact hg)
      rw [hgr] at this
      exact this
    rw [hgr] at HGR
    have HG0 : Hid (good = false → chearD c m = (c, [], false)) := fun hg => by
      unfold chearD
      rw [if_neg (by rw [HD.out]; decide), if_neg (by rw [HOK.out]; decide), hgr, if_pos hg]
    have HG1 : Hid (good = true → c.does = 1 → chearD c m = openedD c ⟨er, nn, ⟨rk, rn, rs⟩⟩) := fun hg h1 => by
      unfold chearD
      rw [if_neg (by rw [HD.out]; decide), if_neg (by rw [HOK.out]; decide), hgr, if_neg (by simp [hg]), if_pos h1]
    have HG2 : Hid (good = true → c.does = 2 → chearD c m = overD c ⟨er, nn, ⟨rk, rn, rs⟩⟩) := fun hg h1 => by
      unfold chearD
      rw [if_neg (by rw [HD.out]; decide), if_neg (by rw [HOK.out]; decide), hgr, if_neg (by simp [hg]), if_neg (by rw [h1]; decide)]
    clear hgr
    go_wp2_with fail
    refine (HGR.out _ (HT.out.k (by have kk := K2.out; exact Keeps.K)) (HR.out.k0 (by have kk := K2.out; exact Keeps.K))).mono ?_
    rintro e w3 ⟨rfl, hk⟩
    have K3 : Hid (Keeps [] w w3) := Keeps.trans (by have kk := K2.out; exact Keeps.K) hk (fun _ _ h => h)
    clear hk y0 y1 y2 y4 y6 y7 y9 z0 z9 z10 z13
    unfold replyV
    dsimp only
    rcases good with _ | _
    · have HO := hid (HG0.out rfl)
      clear HG0 HG1 HG2
      go_wp2_with fail
      refine bodyPost_ret (v := .tuple #[.slice none 0 0, .bool false]) (by simp [results, Tryz.results33, go_sem]) rfl ?_
      rw [HO.out]
      exact ⟨_, rfl, CliPost.silent ((H.out.k K3.out).k (by exact Keeps.K)) ((K3.out.mono (fun _ _ h => by cases h)).trans (G := []) (by exact Keeps.K) (fun _ _ h => by cases h))⟩
    · have HN := hid (HNN.out rfl)
      have HD1 := hid (HG1.out rfl)
      have HD2 := hid (HG2.out rfl)
      clear HG0 HG1 HG2 HNN
      have H3 := hid (H.out.k K3.out)
      have x33 : w3.cell? ⟨n, 33, none⟩ = some fv := H3.out.cell 33
      have hlt3 := H3.out.lt
      rcases H3.out.next with ⟨g0, -⟩ | ⟨f, g, gd, rfl, gb, -⟩
      · have := HD.out
        simp [deafD, g0] at this
      · have HGB := hid gb
        have hgl : g < w3.heap.size := (Array.getElem?_eq_some_iff.1 gb).1
        have hv1 : (Value.func (.func f) #[] #[.pointer (some ⟨g, 0, none⟩)]).oneCell' = true := rfl
        clear gb
        rcases gd with ⟨g1, rfl⟩ | ⟨g1, rfl⟩
        · have HO := hid (HD1.out g1)
          have HG1' := hid g1
          clear HD1 HD2 g1
          go_wp2_with fail
          refine Plan.wp_region_tree (fun _ => True) 8 (.take 0 (.take 1 (.take 2 (.fork 3 4 (.step 4 (.step 5 (.take 6 (.take 7 .fin)))) (.step 3 (.step 5 (.take 6 (.take 7 .fin)))))))) (by kernel_rfl) (by as_aux_lemma => kernel_rfl) (by kernel_rfl) (fun _ _ _ _ _ h => h) trivial (fun hS => ?_)
          simp only [Plan.pickT, List.append_eq, List.cons_append, List.nil_append, Plan.g1, Plan.g2, Option.getD_some, List.drop_succ_cons, List.drop_zero]
          iterate 3 (refine Plan.takeT (v := ?_) (a' := ?_) (Plan.want_all (by rfl)) ?_ ?_ ?_; rotate_left 2; (· (intro w' hS'; (try dsimp only at hS'); go_simp; try with_reducible rfl)); (· (simp only [Act.put, Plan.l1, Plan.l2, Plan.l3]; try with_reducible rfl)))
          refine Plan.forkT ?_ ?_
          · go_wp2_with fail
            refine ⟨trivial, ?_⟩
            refine Plan.stepT ?_
            go_wp2_with fail
            refine ⟨trivial, ?_⟩
            refine Plan.stepT ?_
            go_wp2_with fail
            refine (clAsk1_any _ n g Q c dv _ ⟨er, nn, ⟨rk, rn, rs⟩⟩ ?_ (H3.out.k (by exact Keeps.K)) ⟨HK.out.request.1, HK.out.request.2 HG1'.out⟩ HK.out.call HN.out (fun b hb => HQ.out b (by have := K3.out.size; simp at hb; omega))).mono ?_
            · exact (Keeps.block (F := []) (w := w3) (by exact Keeps.K) g hgl (by simp)).trans HGB.out
            rw [← HO.out]
            rintro e w6 ⟨v, rfl, a6, q6, dv6, fv6, rfl, g6, g7, g8⟩
            have HP : Hid (CliPost n Q (chearD c m).1 (chearD c m).2.1 w (.slice a6 (chearD c m).2.1.length q6) w6) := CliPost.from ⟨a6, q6, dv6, fv6, rfl, g6, g7, g8⟩ ((K3.out.mono (fun _ _ h => by cases h)).trans (G := []) (by exact Keeps.K) (fun _ _ h => by cases h))
            clear g6 g7 g8
            go_wp2_with fail
            refine ⟨trivial, ?_⟩
            iterate 2 (refine Plan.takeT (v := ?_) (a' := ?_) (Plan.want_all (by rfl)) ?_ ?_ ?_; rotate_left 2; (· (intro w' hS'; (try dsimp only at hS'); go_simp; try with_reducible rfl)); (· (simp only [Act.put, Plan.l1, Plan.l2, Plan.l3]; try with_reducible rfl)))
            refine Plan.finT ?_
            go_wp2_with fail
            refine bodyPost_ret (v := .tuple #[.slice a6 (chearD c m).2.1.length q6, .bool (chearD c m).2.2]) (by simp [results, Tryz.results33, go_sem]) rfl ?_
            exact ⟨_, rfl, HP.out⟩
          · go_wp2_with fail
            refine ⟨trivial, ?_⟩
            refine Plan.stepT ?_
            go_wp2_with fail
            refine ⟨trivial, ?_⟩
            refine Plan.stepT ?_
            go_wp2_with fail
            refine (clAsk1_any _ n g Q c dv _ ⟨er, nn, ⟨rk, rn, rs⟩⟩ ?_ (H3.out.k (by exact Keeps.K)) ⟨HK.out.request.1, HK.out.request.2 HG1'.out⟩ HK.out.call HN.out (fun b hb => HQ.out b (by have := K3.out.size; simp at hb; omega))).mono ?_
            · exact (Keeps.block (F := []) (w := w3) (by exact Keeps.K) g hgl (by simp)).trans HGB.out
            rw [← HO.out]
            rintro e w6 ⟨v, rfl, a6, q6, dv6, fv6, rfl, g6, g7, g8⟩
            have HP : Hid (CliPost n Q (chearD c m).1 (chearD c m).2.1 w (.slice a6 (chearD c m).2.1.length q6) w6) := CliPost.from ⟨a6, q6, dv6, fv6, rfl, g6, g7, g8⟩ ((K3.out.mono (fun _ _ h => by cases h)).trans (G := []) (by exact Keeps.K) (fun _ _ h => by cases h))
            clear g6 g7 g8
            go_wp2_with fail
            refine ⟨trivial, ?_⟩
            iterate 2 (refine Plan.takeT (v := ?_) (a' := ?_) (Plan.want_all (by rfl)) ?_ ?_ ?_; rotate_left 2; (· (intro w' hS'; (try dsimp only at hS'); go_simp; try with_reducible rfl)); (· (simp only [Act.put, Plan.l1, Plan.l2, Plan.l3]; try with_reducible rfl)))
            refine Plan.finT ?_
            go_wp2_with fail
            refine bodyPost_ret (v := .tuple #[.slice a6 (chearD c m).2.1.length q6, .bool (chearD c m).2.2]) (by simp [results, Tryz.results33, go_sem]) rfl ?_
            exact ⟨_, rfl, HP.out⟩
        · have HO := hid (HD2.out g1)
          clear HD1 HD2 g1
          go_wp2_with fail
          refine Plan.wp_region_tree (fun _ => True) 8 (.take 0 (.take 1 (.take 2 (.fork 3 4 (.step 4 (.step 5 (.take 6 (.take 7 .fin)))) (.step 3 (.step 5 (.take 6 (.take 7 .fin)))))))) (by kernel_rfl) (by as_aux_lemma => kernel_rfl) (by kernel_rfl) (fun _ _ _ _ _ h => h) trivial (fun hS => ?_)
          simp only [Plan.pickT, List.append_eq, List.cons_append, List.nil_append, Plan.g1, Plan.g2, Option.getD_some, List.drop_succ_cons, List.drop_zero]
          iterate 3 (refine Plan.takeT (v := ?_) (a' := ?_) (Plan.want_all (by rfl)) ?_ ?_ ?_; rotate_left 2; (· (intro w' hS'; (try dsimp only at hS'); go_simp; try with_reducible rfl)); (· (simp only [Act.put, Plan.l1, Plan.l2, Plan.l3]; try with_reducible rfl)))
          refine Plan.forkT ?_ ?_
          · go_wp2_with fail
            refine ⟨trivial, ?_⟩
            refine Plan.stepT ?_
            go_wp2_with fail
            refine ⟨trivial, ?_⟩
            refine Plan.stepT ?_
            go_wp2_with fail
            refine (clAsk2_any _ n g Q c dv _ ⟨er, nn, ⟨rk, rn, rs⟩⟩ ?_ (H3.out.k (by exact Keeps.K))).mono ?_
            · exact (Keeps.block (F := []) (w := w3) (by exact Keeps.K) g hgl (by simp)).trans HGB.out
            rw [← HO.out]
            rintro e w6 ⟨v, rfl, a6, q6, dv6, fv6, rfl, g6, g7, g8⟩
            have HP : Hid (CliPost n Q (chearD c m).1 (chearD c m).2.1 w (.slice a6 (chearD c m).2.1.length q6) w6) := CliPost.from ⟨a6, q6, dv6, fv6, rfl, g6, g7, g8⟩ ((K3.out.mono (fun _ _ h => by cases h)).trans (G := []) (by exact Keeps.K) (fun _ _ h => by cases h))
            clear g6 g7 g8
            go_wp2_with fail
            refine ⟨trivial, ?_⟩
            iterate 2 (refine Plan.takeT (v := ?_) (a' := ?_) (Plan.want_all (by rfl)) ?_ ?_ ?_; rotate_left 2; (· (intro w' hS'; (try dsimp only at hS'); go_simp; try with_reducible rfl)); (· (simp only [Act.put, Plan.l1, Plan.l2, Plan.l3]; try with_reducible rfl)))
            refine Plan.finT ?_
            go_wp2_with fail
            refine bodyPost_ret (v := .tuple #[.slice a6 (chearD c m).2.1.length q6, .bool (chearD c m).2.2]) (by simp [results, Tryz.results33, go_sem]) rfl ?_
            exact ⟨_, rfl, HP.out⟩
          · go_wp2_with fail
            refine ⟨trivial, ?_⟩
            refine Plan.stepT ?_
            go_wp2_with fail
            refine ⟨trivial, ?_⟩
            refine Plan.stepT ?_
            go_wp2_with fail
            refine (clAsk2_any _ n g Q c dv _ ⟨er, nn, ⟨rk, rn, rs⟩⟩ ?_ (H3.out.k (by exact Keeps.K))).mono ?_
            · exact (Keeps.block (F := []) (w := w3) (by exact Keeps.K) g hgl (by simp)).trans HGB.out
            rw [← HO.out]
            rintro e w6 ⟨v, rfl, a6, q6, dv6, fv6, rfl, g6, g7, g8⟩
            have HP : Hid (CliPost n Q (chearD c m).1 (chearD c m).2.1 w (.slice a6 (chearD c m).2.1.length q6) w6) := CliPost.from ⟨a6, q6, dv6, fv6, rfl, g6, g7, g8⟩ ((K3.out.mono (fun _ _ h => by cases h)).trans (G := []) (by exact Keeps.K) (fun _ _ h => by cases h))
            clear g6 g7 g8
            go_wp2_with fail
            refine ⟨trivial, ?_⟩
            iterate 2 (refine Plan.takeT (v := ?_) (a' := ?_) (Plan.want_all (by rfl)) ?_ ?_ ?_; rotate_left 2; (· (intro w' hS'; (try dsimp only at hS'); go_simp; try with_reducible rfl)); (· (simp only [Act.put, Plan.l1, Plan.l2, Plan.l3]; try with_reducible rfl)))
            refine Plan.finT ?_
            go_wp2_with fail
            refine bodyPost_ret (v := .tuple #[.slice a6 (chearD c m).2.1.length q6, .bool (chearD c m).2.2]) (by simp [results, Tryz.results33, go_sem]) rfl ?_
            exact ⟨_, rfl, HP.out⟩

end Go.Proofs.YtbbdmmhpbeleoaaGreatDoor

/- from, put: an entry behind the log. -/
namespace Go.Proofs.YtbbdmmhpbeleoaaGreatDoor
open Go Go.RowKit

theorem turnD_ok {c : CoreD} (h : CoreOk c) {i : Int} (hi : 0 ≤ i ∧ i ≤ 2199023255553) : CoreOk (turnD c i) :=
  { may := h.may, id := h.id, term := h.term, base := h.base, baseTerm := h.baseTerm, len := h.len, last := h.last, commit := h.commit, draw := h.draw, votes := h.votes, next := h.next, matc := h.matc, nexts := h.nexts, matcs := h.matcs, ents := h.ents, frm := by
      unfold turnD
      show 0 ≤ (if c.frm = 0 ∨ i < c.frm then i else c.frm) ∧ _ ≤ _
      split
      · exact hi
      · exact h.frm
    data := h.data, snap := h.snap }

theorem putL_ok {c : CoreD} {e : Ent} (h : CoreOk c) (hlen : c.l.length < 5096) (hlast : lastD c + 1 ≤ 2199023255552) (ht : 0 ≤ e.term ∧ e.term ≤ 1099511627776) (hd : e.data.length ≤ 1000000) : CoreOk { c with l := c.l ++ [e] } := by
  unfold lastD at hlast
  exact { may := h.may, id := h.id, term := h.term, base := h.base, baseTerm := h.baseTerm, len := by simp; omega, last := by simp; omega, commit := by have := h.commit; simp; omega, draw := h.draw, votes := h.votes, next := h.next, matc := h.matc, nexts := h.nexts, matcs := h.matcs, ents := fun x hx => by
            rcases List.mem_append.1 hx with hx | hx
            · exact h.ents x hx
            · simp at hx; rw [hx]; exact ht
          frm := h.frm, data := fun x hx => by
            rcases List.mem_append.1 hx with hx | hx
            · exact h.data x hx
            · simp at hx; rw [hx]; exact hd
          snap := h.snap }

end Go.Proofs.YtbbdmmhpbeleoaaGreatDoor

/- The laws' own helpers: small, copies of entries. -/
namespace Go.Proofs.YtbbdmmhpbeleoaaGreatDoor
open Go Go.RowKit

def smallEnts (l : List Ent) : Bool := l.all fun e => decide (e.data.length ≤ 300)
def smallD (m : MsgD) : Bool := decide (m.data.length ≤ 300) && decide (m.entries.length ≤ 12) && smallEnts m.entries
theorem smallD_yes {m : MsgD} (h : smallD m = true) : m.data.length ≤ 300 ∧ m.entries.length ≤ 12 ∧ ∀ e ∈ m.entries, e.data.length ≤ 300 := by
  simp only [smallD, smallEnts, Bool.and_eq_true, decide_eq_true_eq, List.all_eq_true] at h
  exact ⟨h.1.1, h.1.2, h.2⟩

set_option maxRecDepth 100000 in
set_option maxHeartbeats 1600000 in
theorem lEntries_any (w : World) (l : List Ent) (a0 : Option Addr) (c0 : Nat) (P : Nat → Prop) (hl : ListAt entL w P (.slice a0 l.length c0) l) (hd : ∀ e ∈ l, e.data.length ≤ 1000000) (hn : l.length ≤ 100000) :
    Calls Tryz.prog 67 #[.slice a0 l.length c0] w (FromPost l w) := by
  obtain ⟨it, hi0, hz0, hz1, hz2⟩ := info_parts Tryz.infoEnt
  have HLA := hid hl
  have HD := hid hd
  have HZ : Hid (∀ k, k < l.length → ∃ e, l[k]? = some e) := fun k hk => ⟨l[k], List.getElem?_eq_getElem hk⟩
  clear hl hd
  go_enter Tryz.func67, Tryz.ntmps67
  go_wp2_with fail
  go_loopw [3, 4] (fun v i wr => ∃ (k : Nat) (a : Option Addr) (q : Nat), k ≤ l.length ∧ v = .slice a k q ∧ i = .int .i64 k ∧ Hid (FreshEnts w wr (.slice a k q) (l.take k) ∧ Keeps [] w wr)) (fun _ i _ => l.length - (intOf i).toNat)
  case atStart => exact ⟨0, none, 0, Nat.zero_le _, rfl, rfl, OwnAt.nil _ _ _ _, Keeps.refl [] w⟩
  case round =>
    obtain ⟨k, a, q, hk, rfl, rfl, HW⟩ := hrel
    have i0 : (0 : Int) ≤ (k : Int) := Int.natCast_nonneg _
    by_cases hlt : k < l.length
    · have i1 : (k : Int) < (l.length : Int) := by omega
      obtain ⟨e, he⟩ := HZ.out k hlt
      obtain ⟨g, off, cg, ha, hcg, hcm, hgl, hgP⟩ := (HLA.out.k HW.out.2).addr (fun hn => by rw [hn] at hlt; simp at hlt)
      simp at ha
      obtain ⟨ha, hcc⟩ := ha
      subst ha
      subst hcc
      obtain ⟨cs, ⟨v, rfl, hbv⟩, hcs⟩ := (HLA.out.k HW.out.2).get he
      have y0 : wr.cell? ⟨g, off + k * 3, none⟩ = some (.int .i64 e.term) := hcs 0 _ rfl
      have y1 : wr.cell? ⟨g, off + k * 3 + 1, none⟩ = some (.bool e.cmd) := hcs 1 _ rfl
      have y2 : wr.cell? ⟨g, off + k * 3 + 2, none⟩ = some v := hcs 2 _ rfl
      obtain ⟨va, vc, rfl⟩ := hbv.form
      have XR := hid hbv.1
      have HDL : e.data.length ≤ 1000000 := HD.out e (List.mem_of_getElem? he)
      have HT : Hid (l.take (k + 1) = l.take k ++ [e]) := by show _ = _; rw [List.take_add_one, he]; rfl
      have HTL : Hid ((l.take k).length = k) := by show _ = _; simp; omega
      clear hcs hbv he hcm hcg
      go_wp2_with fail
      refine (lawBytes_any _ e.data _ (XR.out.keeps ((Keeps.refl [] wr).alloc _) (fun _ _ h => by cases h)) (by omega)).mono ?_
      rintro z w3 ⟨a3, q3, rfl, ho, hk3⟩
      obtain ⟨⟨b0, b1, b2⟩, f3⟩ := blk3 ((hk3.block wr.heap.size (by simp) (by simp)).trans (heap_alloc_new wr _))
      have K3 : Hid (Keeps [] wr w3) := ((Keeps.refl [] wr).alloc _).trans hk3 (fun _ _ h => h)
      have hz : wr.heap.size < w3.heap.size := World.block_lt_of_cell? _ _ b0
      have HOW : Hid (OwnAt entL 118 w3 w.heap.size (fun b => w.heap.size ≤ b ∧ b ∉ ownB (.slice a k q)) (.slice a k q) (l.take k)) := OwnAt.k HW.out.1 K3.out
      have HBB : Hid (∀ b, wr.heap.size ≤ b → w.heap.size ≤ b ∧ b ∉ ownB (.slice a k q)) := fun b hb => ⟨Nat.le_trans HW.out.2.size hb, fun hb' => by have := (OwnAt.ge HW.out.1 b hb').2; omega⟩
      have HEL : Hid (∀ wx, Keeps [wr.heap.size] w3 wx → entL.at_ wx (fun b => wr.heap.size < b) [.int .i64 e.term, .bool e.cmd, .slice a3 e.data.length q3] e) := fun wx kx => ⟨_, rfl, BytesAt.keep (P := fun b => wr.heap.size < b) (BytesAt.ofOwn ho rfl (fun b hb _ => by simp at hb; omega)) kx (fun b hb hb' => by simp at hb'; omega)⟩
      have HZ3 : Hid (w.heap.size ≤ w3.heap.size) := Nat.le_trans HW.out.2.size K3.out.size
      have HO4 : Hid (∀ wx, Keeps [wr.heap.size] w3 wx → OwnAt entL 118 wx w.heap.size (fun b => w.heap.size ≤ b ∧ b ∉ ownB (.slice a k q)) (.slice a k q) (l.take k)) := fun wx kx =>
        (((OwnAt.mono (P' := fun b => (w.heap.size ≤ b ∧ b ∉ ownB (.slice a k q)) ∧ b < wr.heap.size) HW.out.1 (fun b h1 h2 => ⟨h2, h1⟩)).k K3.out).keep kx (fun b hb hb' => by have := (OwnAt.ge HW.out.1 b hb).2; simp at hb'; omega) (fun b hb hb' => by simp at hb'; omega)).mono (fun b _ h => h.1)
      have HK4 : Hid (∀ wx, Keeps [wr.heap.size] w3 wx → Keeps [] w wx) := fun wx kx => (HW.out.2.trans K3.out (fun _ _ h => h)).trans kx (fun b hb hb' => by simp at hb'; have := HW.out.2.size; omega)
      have HOWB : Hid (∀ b, b ∈ ownB (.slice a k q) → w.heap.size ≤ b) := fun b hb => (OwnAt.ge HW.out.1 b hb).1
      have HRW : Hid (((w3.setCell ⟨wr.heap.size, 2, none⟩ (.slice a3 e.data.length q3)).alloc (.cells #[.int .i64 e.term, .bool e.cmd, .slice a3 e.data.length q3] 118)).heap[w3.heap.size]? = some (.cells #[.int .i64 e.term, .bool e.cmd, .slice a3 e.data.length q3] 118 (0, 0))) := by
        have := heap_alloc_new (w3.setCell ⟨wr.heap.size, 2, none⟩ (.slice a3 e.data.length q3)) (.cells #[.int .i64 e.term, .bool e.cmd, .slice a3 e.data.length q3] 118)
        rw [show (w3.setCell ⟨wr.heap.size, 2, none⟩ (.slice a3 e.data.length q3)).heap.size = w3.heap.size by simp] at this
        exact this
      clear ho hk3
      go_wp2_with (at_builtin; go_must (refine wpList_append_off (L := entL) (PB := fun b => wr.heap.size < b) _ (by rfl) _ _ _ (by rfl) w.heap.size 118 it _ 40 Tryz.underlying55 hi0 hz0 hz1 hz2 rfl (R := fun b => w.heap.size ≤ b) (.slice a k q) (by rfl) (l.take k) [e] k HTL.out [[.int .i64 e.term, .bool e.cmd, .slice a3 e.data.length q3]] (HO4.out _ (((Keeps.refl _ _).setCell (.inl (by simp)) _).alloc _)) (.slice (some ⟨w3.heap.size, 0, none⟩) 1 1) (by rfl) 1 rfl (ElemsAt.one1 (HEL.out _ (((Keeps.refl _ _).setCell (.inl (by simp)) _).alloc _))) (Reads.one1 HRW.out rfl) (by omega) (le_maxLen (by omega)) (by exact Nat.le_trans HZ3.out (Keeps.size (F := [wr.heap.size]) (((Keeps.refl _ _).setCell (.inl (by simp)) _).alloc _))) (fun b _ hb => HBB.out b (Nat.le_of_lt hb)) ?_; intro a4 q4 w4 ho4 hk4 hv4))
      go_roundw
      case rel =>
        refine ⟨k + 1, a4, q4, by omega, rfl, by go_num, ?_, ?_⟩
        · rw [HT.out]
          exact ho4.out
        · exact (HK4.out _ (((Keeps.refl _ _).setCell (.inl (by simp)) _).alloc _)).trans hk4.out (fun b hb hb' => by have := HOWB.out b hb'; omega)
      case measure => simp [intOf]; omega
    · have hkn : k = l.length := by omega
      have hge : (l.length : Int) ≤ (k : Int) := by omega
      have HKN := hid hkn
      clear hkn
      go_wp2_with fail
      go_ret
      have h1 := HW.out
      rw [HKN.out, List.take_of_length_le (Nat.le_refl _)] at h1
      exact ⟨a, q, by rw [HKN.out]; rfl, h1⟩

/-- One way on for all orders. -/
theorem once {A G : Prop} (h1 : Hid G → A) (h2 : G) : A := h1 h2
theorem calls_fold {P : Program} {f : Nat} {args : Array Value} {w : World} {Q : Ending → World → Prop} (F : World → Prop) (hF : F w) (h : ∀ wx, F wx → Calls P f args wx Q) : Calls P f args w Q := h w hF
theorem wpl_fold {P : Program} {ops : Array Oper} {Q : Exit → Act → World → Prop} {l : List Oper} {a : Act} {w : World} (F : World → Prop) (hF : F w) (h : ∀ wx, F wx → wpList P ops Q l a wx) : wpList P ops Q l a w := h w hF
theorem getD_rep (n t : Nat) : (List.replicate n (0 : Int)).getD t 0 = 0 := by
  simp only [List.getD, List.getElem?_replicate]
  split <;> rfl

end Go.Proofs.YtbbdmmhpbeleoaaGreatDoor

/- List of entries; send: what a node is «to» have next. -/
namespace Go.Proofs.YtbbdmmhpbeleoaaGreatDoor
open Go Go.RowKit

/-- One message, as a call returns it, in new memory. -/
def SendPost (m : MsgD) (w : World) (e : Ending) (w' : World) : Prop :=
  ∃ ea ec da dc, e = .returned (msgV m (.slice ea m.entries.length ec) (.slice da m.data.length dc)) ∧ ListAt entL w' (fun b => w.heap.size ≤ b) (.slice ea m.entries.length ec) m.entries ∧ BytesAt w' (fun b => w.heap.size ≤ b) (.slice da m.data.length dc) m.data ∧ Keeps [] w w'

theorem heap10 {w : World} {b : Nat} {x0 x1 x2 x3 x4 x5 x6 x7 x8 x9 y0 y1 y2 y3 y4 y5 y6 y7 y8 y9 : Value} {t : TypeId} (h : w.heap[b]? = some (.cells #[x0, x1, x2, x3, x4, x5, x6, x7, x8, x9] t (0, 0))) :
    ((((((((((w.setCell ⟨b, 0, none⟩ y0).setCell ⟨b, 1, none⟩ y1).setCell ⟨b, 2, none⟩ y2).setCell ⟨b, 3, none⟩ y3).setCell ⟨b, 4, none⟩ y4).setCell ⟨b, 5, none⟩ y5).setCell ⟨b, 6, none⟩ y6).setCell ⟨b, 7, none⟩ y7).setCell ⟨b, 8, none⟩ y8).setCell ⟨b, 9, none⟩ y9).heap[b]? = some (.cells #[y0, y1, y2, y3, y4, y5, y6, y7, y8, y9] t (0, 0)) := by
  have h9 := heap_setCell_same _ _ 9 _ _ y9 (heap_setCell_same _ _ 8 _ _ y8 (heap_setCell_same _ _ 7 _ _ y7 (heap_setCell_same _ _ 6 _ _ y6 (heap_setCell_same _ _ 5 _ _ y5 (heap_setCell_same _ _ 4 _ _ y4 (heap_setCell_same _ _ 3 _ _ y3 (heap_setCell_same _ _ 2 _ _ y2 (heap_setCell_same _ _ 1 _ _ y1 (heap_setCell_same _ _ 0 _ _ y0 h)))))))))
  simp only [List.setIfInBounds_toArray, List.set_cons_zero, List.set_cons_succ] at h9
  exact h9

/-- It stands on a base that the other one has not: the snapshot is sent. -/
theorem sendD_snap {c : CoreD} {«to» : Int} (h : c.next.getD «to».toNat 0 ≤ c.base) : sendD c «to» = { kind := 5, frm := c.id, «to» := «to», term := c.term, a := c.base, b := c.baseTerm, c := 0, ok := false, entries := [], data := c.snap } := by
  unfold sendD
  rw [if_pos h]
  rfl
theorem sendD_ents {c : CoreD} {«to» : Int} (h : ¬ c.next.getD «to».toNat 0 ≤ c.base) : sendD c «to» = { kind := 3, frm := c.id, «to» := «to», term := c.term, a := c.next.getD «to».toNat 0 - 1, b := (atD c (c.next.getD «to».toNat 0 - 1)).1, c := c.commit, ok := false, entries := (fromD c (c.next.getD «to».toNat 0)).take 8, data := [] } := by
  unfold sendD
  rw [if_neg h]
  rfl

end Go.Proofs.YtbbdmmhpbeleoaaGreatDoor
