/- Joined of ClR, ClS. -/
import Derived.Test.YtnjdepojmnniaaaGreatDoorClQ
import Derived.Test.YtnjdepojmnniaaaGreatDoorQ36

set_option linter.unusedSimpArgs false
set_option linter.unusedVariables false

/- The document's client: Call, Tick, Hear, New. -/
namespace Go.Proofs.YtnjdepojmnniaaaGreatDoor
open Go Go.RowKit

theorem again_last {c : CliD} (hl : LastOk c) (hd : c.does ≠ 0) (node : Int) : againD c node = ({ c with node := node, waited := 0 }, [⟨6, c.id, node, 0, 0, 0, c.request, false, [], c.last.data⟩]) := by
  unfold againD
  rw [(hl hd).2.1]
theorem does_cast {d : Nat} {b : Bool} (h : (d != 0) = b) : ((d : Int) == 0) = !b := by
  subst h
  cases d with
  | zero => rfl
  | succ k =>
    have h1 : ((k + 1 : Nat) : Int) ≠ 0 := by omega
    rw [beq_eq_false_iff_ne.2 h1]
    simp

set_option maxRecDepth 100000 in
set_option maxHeartbeats 8000000 in
theorem r24Tick_any (w : World) (n : Nat) (Q : Nat → Prop) (c : CliD) (X : CmdD) (dv : Value) (h : RefCAt w n Q c X dv) (hl : LastOk c) (hn : 3 ≤ c.conf.nodes ∧ c.conf.nodes ≤ 7) (hno : 1 ≤ c.node ∧ c.node ≤ 7) (hwt : 0 ≤ c.waited ∧ c.waited ≤ 1000000) (hz : c.last.data.length ≤ 3000000) :
    Calls Tryz.prog 31 #[.pointer (some ⟨n, 0, none⟩)] w fun e w' => ∃ v, e = .returned v ∧ RefPost n Q (ctickD c).1 X (ctickD c).2 w v w' := by
  have H := hid h
  have x14 : w.cell? ⟨n, 14, none⟩ = some (.int .i64 (c.does : Int)) := h.cell 14
  have x15 : w.cell? ⟨n, 15, none⟩ = some (.int .i64 c.waited) := h.cell 15
  have f0 : ∀ i, w.frozen? ⟨n, i, none⟩ = false := h.free
  have hlt := h.lt
  by_cases hd : c.does = 0
  · have HO : Hid (ctickD c = (c, [])) := if_pos hd
    have hd1 : ((c.does : Int) == 0) = true := by rw [hd]; rfl
    clear h hd
    go_enter Tryz.func31, Tryz.ntmps31
    go_wp2_with fail
    go_ret
    rw [HO.out]
    exact ⟨_, rfl, RefPost.silent (H.out.k (by exact Keeps.K)) (by exact Keeps.K)⟩
  · have hd1 : ((c.does : Int) == 0) = false := by rw [beq_eq_false_iff_ne]; omega
    obtain ⟨hn0, hn1⟩ := hn
    obtain ⟨ho0, ho1⟩ := hno
    obtain ⟨ht0, ht1⟩ := hwt
    have ha1 : c.node.tmod c.conf.nodes < c.conf.nodes := Int.tmod_lt_of_pos _ (by omega)
    have ha2 : 0 ≤ c.node.tmod c.conf.nodes := Int.tmod_nonneg _ (by omega)
    have hnz : c.conf.nodes ≠ 0 := by omega
    have hw1 : IntKind.i64.wrap (c.waited + 1) = c.waited + 1 := by rw [IntKind.wrap_i64]; omega
    have hw2 : IntKind.i64.wrap (c.node.tmod c.conf.nodes + 1) = c.node.tmod c.conf.nodes + 1 := by rw [IntKind.wrap_i64]; omega
    have HO1 : Hid (c.waited + 1 < c.conf.retry → ctickD c = ({ c with waited := c.waited + 1 }, [])) := fun hb => by unfold ctickD; rw [if_neg hd, if_pos hb]
    have HO2 : Hid (¬ c.waited + 1 < c.conf.retry → ctickD c = ({ c with node := c.node % c.conf.nodes + 1, waited := 0 }, [⟨6, c.id, c.node % c.conf.nodes + 1, 0, 0, 0, c.request, false, [], c.last.data⟩])) := fun hb => by
      unfold ctickD
      rw [if_neg hd, if_neg hb, Int.tmod_eq_emod_of_nonneg (by omega), again_last (c := { c with waited := c.waited + 1 }) hl hd]
    have h1 : RefCAt (w.setCell ⟨n, 15, none⟩ (.int .i64 (c.waited + 1))) n Q { c with waited := c.waited + 1 } X dv := h.set1 15 _ (by simp [refC]) rfl
    have k1 : Keeps [n] w (w.setCell ⟨n, 15, none⟩ (.int .i64 (c.waited + 1))) := by exact Keeps.K
    clear h hd
    go_enter Tryz.func31, Tryz.ntmps31
    go_wp2_with fail
    obtain ⟨w1, hw⟩ : ∃ w1, w.setCell ⟨n, 15, none⟩ (.int .i64 (c.waited + 1)) = w1 := ⟨_, rfl⟩
    rw [hw] at h1 k1 ⊢
    have H1 := hid h1
    have K1 := hid k1
    have y0 : w1.cell? ⟨n, 0, none⟩ = some (.int .i64 c.conf.nodes) := h1.cell 0
    have y8 : w1.cell? ⟨n, 8, none⟩ = some (.int .i64 c.conf.retry) := h1.cell 8
    have y10 : w1.cell? ⟨n, 10, none⟩ = some (.int .i64 c.node) := h1.cell 10
    have y15 : w1.cell? ⟨n, 15, none⟩ = some (.int .i64 (c.waited + 1)) := h1.cell 15
    have f1 : ∀ i, w1.frozen? ⟨n, i, none⟩ = false := h1.free
    have hlt1 := h1.lt
    clear h1 k1 hw x14 x15 f0 hlt
    by_cases hb : c.waited + 1 < c.conf.retry
    · have HO := hid (HO1.out hb)
      clear HO1 HO2
      go_quiet (fail)
      go_wp2_with fail
      go_ret
      rw [HO.out]
      exact ⟨_, rfl, RefPost.silent (H1.out.k (by exact Keeps.K)) (K1.out.trans (G := []) (by exact Keeps.K) (fun _ _ h => by cases h))⟩
    · have HO := hid (HO2.out (by omega))
      have hb' : c.conf.retry ≤ c.waited + 1 := by omega
      clear HO1 HO2
      go_quiet (fail)
      go_wp2_with fail
      refine Plan.wp_region_plan (fun wx => wx.cell? ⟨n, 10, none⟩ = some (.int .i64 c.node) ∧ wx.cell? ⟨n, 0, none⟩ = some (.int .i64 c.conf.nodes)) 12 [(true, 0), (true, 1), (true, 2), (true, 3), (true, 4), (true, 5), (true, 6), (true, 7), (true, 8), (true, 9), (true, 10), (true, 11)] (by kernel_rfl) (by as_aux_lemma => kernel_rfl) (by kernel_rfl) (fun _ _ _ _ _ h => h) ?_ (fun hS => ?_)
      (· go_simp)
      simp only [Plan.pick, List.append_eq, List.cons_append, List.nil_append, Plan.g1, Plan.g2, Option.getD_some, List.drop_succ_cons, List.drop_zero]
      iterate 12 (first | refine Plan.tA ?_ | refine Plan.tY ?_ | refine Plan.pN ?_ | refine Plan.pU ?_ | fail)
      refine Plan.fin ?_
      go_wp2_with fail
      have hc : ∀ wx, Keeps [] w1 wx → RefCAt (wx.setCell ⟨n, 10, none⟩ (.int .i64 (c.node % c.conf.nodes + 1))) n Q { c with waited := c.waited + 1, node := c.node % c.conf.nodes + 1 } X dv := fun wx k => (H1.out.k k).set1 10 _ (by simp [refC]) rfl
      refine (r24msg_any _ n Q _ X dv (hc _ (by exact Keeps.K)) hz).mono ?_
      rintro e w6 ⟨v, rfl, h6⟩
      have H6 := hid (h6.from (K1.out.trans (G := [n]) (by exact Keeps.K) (fun _ _ h => h)))
      clear h6 hc
      go_wp2_with fail
      go_ret
      rw [HO.out]
      exact ⟨_, rfl, H6.out⟩

/-- What a hearing tells. -/
def RefTold (n : Nat) (Q : Nat → Prop) (X : CmdD) (r : CliD × List MsgD × Bool) (w : World) (e : Ending) (w' : World) : Prop :=
  ∃ v, e = .returned (.tuple #[v, .bool r.2.2]) ∧ RefPost n Q r.1 X r.2.1 w v w'

set_option maxRecDepth 100000 in
set_option maxHeartbeats 16000000 in
theorem r24Hear_deaf (w : World) (n : Nat) (Q : Nat → Prop) (c : CliD) (X : CmdD) (dv : Value) (m : MsgD) (ea da : Option Addr) (el ec dc : Nat) (h : RefCAt w n Q c X dv) (hd : deafD c m = true) :
    Calls Tryz.prog 33 #[.pointer (some ⟨n, 0, none⟩), msgV m (.slice ea el ec) (.slice da m.data.length dc)] w (RefTold n Q X (chearD c m) w) := by
  have H := hid h
  have HO : Hid (chearD c m = (c, [], false)) := if_pos hd
  have x0 : w.cell? ⟨n, 0, none⟩ = some (.int .i64 c.conf.nodes) := h.cell 0
  have x9 : w.cell? ⟨n, 9, none⟩ = some (.int .i64 c.id) := h.cell 9
  have x13 : w.cell? ⟨n, 13, none⟩ = some (.int .i64 c.request) := h.cell 13
  have x14 : w.cell? ⟨n, 14, none⟩ = some (.int .i64 (c.does : Int)) := h.cell 14
  have hlt := h.lt
  unfold msgV
  clear h
  have hc := deaf_cases hd
  clear hd
  obtain ⟨bz, hbz⟩ : ∃ b, (c.does != 0) = b := ⟨_, rfl⟩
  have hdz := does_cast hbz
  rw [hbz] at hc
  obtain ⟨dz, hz⟩ : ∃ d : Int, (c.does : Int) = d := ⟨_, rfl⟩
  rw [hz] at hdz x14
  clear hbz hz
  rcases hc with rfl | ⟨rfl, h1 | ⟨h1, h2 | ⟨h2, h3 | ⟨h3, h4 | ⟨h4, h5⟩⟩⟩⟩⟩
  all_goals
    simp only [Bool.not_true, Bool.not_false] at hdz
    go_enter Tryz.func33, Tryz.ntmps33
    go_wp2_with fail
    go_quiet (fail)
    go_wp2_with fail
    refine bodyPost_ret (v := .tuple #[.slice none 0 0, .bool false]) (by simp [results, Tryz.results33, go_sem]) rfl ?_
    rw [HO.out]
    exact ⟨_, rfl, RefPost.silent (H.out.k (by exact Keeps.K)) (by exact Keeps.K)⟩

set_option maxRecDepth 100000 in
set_option maxHeartbeats 16000000 in
theorem r24Hear_ears (w : World) (n : Nat) (Q : Nat → Prop) (c : CliD) (X : CmdD) (dv : Value) (m : MsgD) (ea da : Option Addr) (el ec dc : Nat) (hT : Tabs w) (h : RefCAt w n Q c X dv) (hX : XOk c X) (hl : LastOk c) (hok : HearOk c) (hr : Reads w 1 (.slice da m.data.length dc) m.data.length (u8s m.data)) (hb : m.data.length ≤ 140737488355328) (hQ : ∀ b, w.heap.size ≤ b → Q b) (hd : deafD c m = false) :
    Calls Tryz.prog 33 #[.pointer (some ⟨n, 0, none⟩), msgV m (.slice ea el ec) (.slice da m.data.length dc)] w (RefTold n Q X (chearD c m) w) := by
  have HT := hid hT
  have H := hid h
  have HR := hid hr
  have HK := hid hok
  have HQ := hid hQ
  have HX := hid hX
  have HD := hid hd
  have HGR := hid (fun w1 h1 h3 => r14GetR_any da dc m.data w1 h1 h3 hb)
  have x0 : w.cell? ⟨n, 0, none⟩ = some (.int .i64 c.conf.nodes) := h.cell 0
  have x9 : w.cell? ⟨n, 9, none⟩ = some (.int .i64 c.id) := h.cell 9
  have x10 : w.cell? ⟨n, 10, none⟩ = some (.int .i64 c.node) := h.cell 10
  have x13 : w.cell? ⟨n, 13, none⟩ = some (.int .i64 c.request) := h.cell 13
  have x14 : w.cell? ⟨n, 14, none⟩ = some (.int .i64 (c.does : Int)) := h.cell 14
  have f0 : ∀ i, w.frozen? ⟨n, i, none⟩ = false := h.free
  have hlt := h.lt
  unfold msgV
  obtain ⟨h0, h1, h2, h3, h4, h5⟩ := hears_all hd
  have hdz := does_cast h0
  have hdn : c.does ≠ 0 := by simpa using h0
  have HL : Hid (∀ node, againD c node = ({ c with node := node, waited := 0 }, [⟨6, c.id, node, 0, 0, 0, c.request, false, [], c.last.data⟩])) := fun node => again_last hl hdn node
  simp only [Bool.not_true, Bool.not_false] at hdz
  obtain ⟨ok, hok'⟩ : ∃ ok, m.ok = ok := ⟨_, rfl⟩
  rw [hok']
  have HOK := hid hok'
  clear h hok hr hT hQ hd h0 hX hl hdn hok'
  rcases ok with _ | _
  · by_cases ha : m.a < 1 ∨ c.conf.nodes < m.a ∨ m.a = c.node
    · have HO : Hid (chearD c m = (c, [], false)) := by
        show _ = _
        unfold chearD
        rw [if_neg (by rw [HD.out]; decide), if_pos HOK.out, if_pos ha]
      have hc : m.a < 1 ∨ (m.a < 1) = False ∧ (c.conf.nodes < m.a ∨ (c.conf.nodes < m.a) = False ∧ (m.a == c.node) = true) := by
        by_cases q1 : m.a < 1
        · exact .inl q1
        · refine .inr ⟨eq_false q1, ?_⟩
          by_cases q2 : c.conf.nodes < m.a
          · exact .inl q2
          · exact .inr ⟨eq_false q2, by simp; omega⟩
      clear ha
      rcases hc with q1 | ⟨q1, q2 | ⟨q2, q3⟩⟩
      all_goals
        go_enter Tryz.func33, Tryz.ntmps33
        go_wp2_with fail
        go_quiet (fail)
        go_wp2_with fail
        go_quiet (fail)
        go_wp2_with fail
        refine bodyPost_ret (v := .tuple #[.slice none 0 0, .bool false]) (by simp [results, Tryz.results33, go_sem]) rfl ?_
        rw [HO.out]
        exact ⟨_, rfl, RefPost.silent (H.out.k (by exact Keeps.K)) (by exact Keeps.K)⟩
    · have HO : Hid (chearD c m = ((againD c m.a).1, (againD c m.a).2, false)) := by
        show _ = _
        unfold chearD
        rw [if_neg (by rw [HD.out]; decide), if_pos HOK.out, if_neg ha]
      have q1 : (m.a < 1) = False := eq_false (fun h => ha (.inl h))
      have q2 : (c.conf.nodes < m.a) = False := eq_false (fun h => ha (.inr (.inl h)))
      have q3 : (m.a == c.node) = false := by rw [beq_eq_false_iff_ne]; exact fun h => ha (.inr (.inr h))
      clear ha
      rw [HO.out, HL.out]
      clear HO
      go_enter Tryz.func33, Tryz.ntmps33
      go_wp2_with fail
      go_quiet (fail)
      go_wp2_with fail
      go_quiet (fail)
      go_wp2_with fail
      have hc : ∀ wx, Keeps [] w wx → RefCAt (wx.setCell ⟨n, 10, none⟩ (.int .i64 m.a)) n Q { c with node := m.a } X dv := fun wx k => (H.out.k k).set1 10 _ (by simp [refC]) rfl
      refine (r24msg_any _ n Q _ X dv (hc _ (by exact Keeps.K)) HK.out.data).mono ?_
      rintro e w6 ⟨v, rfl, h6⟩
      have H6 := hid (h6.from (w := w) (by exact Keeps.K))
      clear h6 hc
      go_wp2_with fail
      refine bodyPost_ret (v := .tuple #[v, .bool false]) (by simp [results, Tryz.results33, go_sem]) rfl ?_
      exact ⟨_, rfl, H6.out⟩
  · obtain ⟨⟨⟨er, nn, ⟨rk, rn, rs⟩⟩, good⟩, hgr⟩ : ∃ r, getR m.data = r := ⟨_, rfl⟩
    have HNN : Hid (good = true → nn ≤ 1099511627776) := fun hg => by
      have := getR_n (bs := m.data) (by rw [hgr]; exact hg)
      rw [hgr] at this
      exact this
    rw [hgr] at HGR
    have HG0 : Hid (good = false → chearD c m = (c, [], false)) := fun hg => by
      unfold chearD
      rw [if_neg (by rw [HD.out]; decide), if_neg (by rw [HOK.out]; decide), hgr, if_pos hg]
    have HG1 : Hid (good = true → c.does = 1 → chearD c m = openedD c ⟨er, nn, ⟨rk, rn, rs⟩⟩) := fun hg h1 => by
      unfold chearD
      rw [if_neg (by rw [HD.out]; decide), if_neg (by rw [HOK.out]; decide), hgr, if_neg (by simp [hg]), if_pos h1]
    have HG2 : Hid (good = true → ¬ c.does = 1 → chearD c m = overD c ⟨er, nn, ⟨rk, rn, rs⟩⟩) := fun hg h1 => by
      unfold chearD
      rw [if_neg (by rw [HD.out]; decide), if_neg (by rw [HOK.out]; decide), hgr, if_neg (by simp [hg]), if_neg h1]
    clear hgr
    go_enter Tryz.func33, Tryz.ntmps33
    go_wp2_with fail
    go_quiet (fail)
    go_wp2_with fail
    refine (HGR.out _ (HT.out.k (by exact Keeps.K)) (HR.out.k0 (by exact Keeps.K))).mono ?_
    rintro e w3 ⟨rfl, hk⟩
    have K3 : Hid (Keeps [] w w3) := Keeps.trans (by exact Keeps.K) hk (fun _ _ h => h)
    clear hk x0 x9 x10 x13 x14 f0
    unfold replyV
    dsimp only
    rcases good with _ | _
    · have HO := hid (HG0.out rfl)
      clear HG0 HG1 HG2
      go_wp2_with fail
      refine bodyPost_ret (v := .tuple #[.slice none 0 0, .bool false]) (by simp [results, Tryz.results33, go_sem]) rfl ?_
      rw [HO.out]
      exact ⟨_, rfl, RefPost.silent ((H.out.k K3.out).k (by exact Keeps.K)) ((K3.out.mono (fun _ _ h => by cases h)).trans (G := []) (by exact Keeps.K) (fun _ _ h => by cases h))⟩
    · have HN := hid (HNN.out rfl)
      have HD1 := hid (HG1.out rfl)
      have HD2 := hid (HG2.out rfl)
      clear HG0 HG1 HG2 HNN
      have H3 := hid (H.out.k K3.out)
      have x11 : w3.cell? ⟨n, 11, none⟩ = some (.int .i64 c.session) := H3.out.cell 11
      have x12 : w3.cell? ⟨n, 12, none⟩ = some (.int .i64 c.seq) := H3.out.cell 12
      have x14 : w3.cell? ⟨n, 14, none⟩ = some (.int .i64 (c.does : Int)) := H3.out.cell 14
      have x25 : w3.cell? ⟨n, 25, none⟩ = some (.int .i64 c.reply.err) := H3.out.cell 25
      have x26 : w3.cell? ⟨n, 26, none⟩ = some (.int .i64 c.reply.n) := H3.out.cell 26
      have x27 : w3.cell? ⟨n, 27, none⟩ = some (.int .i64 c.reply.value.kind) := H3.out.cell 27
      have x28 : w3.cell? ⟨n, 28, none⟩ = some (.int .i64 c.reply.value.n) := H3.out.cell 28
      have x29 : w3.cell? ⟨n, 29, none⟩ = some (.string c.reply.value.s) := H3.out.cell 29
      have f3 : ∀ i, w3.frozen? ⟨n, i, none⟩ = false := H3.out.free
      have hlt3 := H3.out.lt
      by_cases hd1 : c.does = 1
      · have hz : ((c.does : Int) == 1) = true := by rw [hd1]; rfl
        have HO := hid (HD1.out hd1)
        have HD1' := hid hd1
        clear HD1 HD2 hd1
        by_cases ho : er ≠ 0 ∨ nn < 1
        · have HO2 : Hid (chearD c m = (c, [], false)) := by rw [HO.out]; unfold openedD; exact if_pos ho
          have hc : (er != 0) = true ∨ (er != 0) = false ∧ nn < 1 := by
            by_cases q1 : er = 0
            · exact .inr ⟨by simp [q1], by omega⟩
            · exact .inl (by simpa using q1)
          clear ho
          rcases hc with q1 | ⟨q1, q2⟩
          all_goals
            go_wp2_with fail
            refine bodyPost_ret (v := .tuple #[.slice none 0 0, .bool false]) (by simp [results, Tryz.results33, go_sem]) rfl ?_
            rw [HO2.out]
            exact ⟨_, rfl, RefPost.silent ((H.out.k K3.out).k (by exact Keeps.K)) ((K3.out.mono (fun _ _ h => by cases h)).trans (G := []) (by exact Keeps.K) (fun _ _ h => by cases h))⟩
        · have HO2 : Hid (chearD c m = ((cAskD { c with session := nn, seq := 0 }).1, (cAskD { c with session := nn, seq := 0 }).2, false)) := by rw [HO.out]; unfold openedD; exact if_neg ho
          have q1 : (er != 0) = false := by
            by_cases q : er = 0
            · simp [q]
            · exact absurd (.inl q) ho
          have q2 : (nn < 1) = False := eq_false (fun h => ho (.inr h))
          clear ho
          go_wp2_with fail
          have hc : ∀ wx, Keeps [] w3 wx → RefCAt ((wx.setCell ⟨n, 11, none⟩ (.int .i64 nn)).setCell ⟨n, 12, none⟩ (.int .i64 0)) n Q { c with session := nn, seq := 0 } X dv := fun wx k => ((H3.out.k k).set1 (c' := { c with session := nn }) (X' := X) 11 _ (by simp [refC]) rfl).set1 12 _ (by simp [refC]) rfl
          have hc2 := hc w3 (Keeps.refl _ _)
          have hrq := HK.out.request
          refine (r24ask_any _ n Q { c with session := nn, seq := 0 } X dv (hc2.k (by exact Keeps.K)) HX.out ⟨hrq.1, hrq.2 HD1'.out⟩ HN.out ⟨by show (0 : Int) ≤ 0; decide, by show (0 : Int) ≤ _; decide⟩ HK.out.call (fun b hb => HQ.out b (by have := K3.out.size; simp at hb; omega))).mono ?_
          rintro e w6 ⟨v, rfl, h6⟩
          have H6 := hid (h6.from (w := w) ((K3.out.mono (fun _ _ h => by cases h)).trans (G := [n]) (by exact Keeps.K) (fun _ _ h => h)))
          clear h6 hc hc2
          go_wp2_with fail
          refine bodyPost_ret (v := .tuple #[v, .bool false]) (by simp [results, Tryz.results33, go_sem]) rfl ?_
          rw [HO2.out]
          exact ⟨_, rfl, H6.out⟩
      · have hz : ((c.does : Int) == 1) = false := by rw [beq_eq_false_iff_ne]; omega
        have HO := hid (HD2.out hd1)
        clear HD1 HD2 hd1
        have hc : RefCAt ((((((w3.setCell ⟨n, 14, none⟩ (.int .i64 0)).setCell ⟨n, 25, none⟩ (.int .i64 er)).setCell ⟨n, 26, none⟩ (.int .i64 nn)).setCell ⟨n, 27, none⟩ (.int .i64 rk)).setCell ⟨n, 28, none⟩ (.int .i64 rn)).setCell ⟨n, 29, none⟩ (.string rs)) n Q { c with does := 0, reply := ⟨er, nn, ⟨rk, rn, rs⟩⟩ } X dv :=
          (((((H3.out.set1 (c' := { c with does := 0 }) (X' := X) 14 _ (by simp [refC]) rfl).set1 (c' := { c with does := 0, reply := { c.reply with err := er } }) (X' := X) 25 _ (by simp [refC]) rfl).set1 (c' := { c with does := 0, reply := ⟨er, nn, c.reply.value⟩ }) (X' := X) 26 _ (by simp [refC]) rfl).set1 (c' := { c with does := 0, reply := ⟨er, nn, ⟨rk, c.reply.value.n, c.reply.value.s⟩⟩ }) (X' := X) 27 _ (by simp [refC]) rfl).set1 (c' := { c with does := 0, reply := ⟨er, nn, ⟨rk, rn, c.reply.value.s⟩⟩ }) (X' := X) 28 _ (by simp [refC]) rfl).set1 29 _ (by simp [refC]) rfl
        have HC := hid hc
        clear hc
        rcases he : (er == 16) with _ | _
        · have HO2 : Hid (chearD c m = ({ c with does := 0, reply := ⟨er, nn, ⟨rk, rn, rs⟩⟩ }, [], true)) := by
            show _ = _
            rw [HO.out]
            unfold overD
            rw [if_neg (by simpa using he)]
          go_wp2_with fail
          refine bodyPost_ret (v := .tuple #[.slice none 0 0, .bool true]) (by simp [results, Tryz.results33, go_sem]) rfl ?_
          rw [HO2.out]
          exact ⟨_, rfl, RefPost.silent (HC.out.k (by exact Keeps.K)) ((K3.out.mono (fun _ _ h => by cases h)).trans (G := [n]) (by exact Keeps.K) (fun _ _ h => h))⟩
        · have HO2 : Hid (chearD c m = ({ c with does := 0, session := 0, reply := ⟨er, nn, ⟨rk, rn, rs⟩⟩ }, [], true)) := by
            show _ = _
            rw [HO.out]
            unfold overD
            rw [if_pos (by simpa using he)]
          go_wp2_with fail
          refine bodyPost_ret (v := .tuple #[.slice none 0 0, .bool true]) (by simp [results, Tryz.results33, go_sem]) rfl ?_
          rw [HO2.out]
          exact ⟨_, rfl, RefPost.silent ((HC.out.set1 (c' := { c with does := 0, session := 0, reply := ⟨er, nn, ⟨rk, rn, rs⟩⟩ }) (X' := X) 11 (.int .i64 0) (by simp [refC]) rfl).k (by exact Keeps.K)) ((K3.out.mono (fun _ _ h => by cases h)).trans (G := [n]) (by exact Keeps.K) (fun _ _ h => h))⟩

theorem r24Hear_any (w : World) (n : Nat) (Q : Nat → Prop) (c : CliD) (X : CmdD) (dv : Value) (m : MsgD) (ea da : Option Addr) (el ec dc : Nat) (hT : Tabs w) (h : RefCAt w n Q c X dv) (hX : XOk c X) (hl : LastOk c) (hok : HearOk c) (hr : Reads w 1 (.slice da m.data.length dc) m.data.length (u8s m.data)) (hb : m.data.length ≤ 140737488355328) (hQ : ∀ b, w.heap.size ≤ b → Q b) :
    Calls Tryz.prog 33 #[.pointer (some ⟨n, 0, none⟩), msgV m (.slice ea el ec) (.slice da m.data.length dc)] w (RefTold n Q X (chearD c m) w) := by
  rcases hd : deafD c m with _ | _
  · exact r24Hear_ears w n Q c X dv m ea da el ec dc hT h hX hl hok hr hb hQ hd
  · exact r24Hear_deaf w n Q c X dv m ea da el ec dc h hd

end Go.Proofs.YtnjdepojmnniaaaGreatDoor

/- The document's client: Call; New of both. -/
namespace Go.Proofs.YtnjdepojmnniaaaGreatDoor
open Go Go.RowKit

def RefCalled (n : Nat) (Q : Nat → Prop) (r : CliD × List MsgD × Int) (w : World) (e : Ending) (w' : World) : Prop :=
  ∃ v X', e = .returned (.tuple #[v, .int .i64 r.2.2]) ∧ XOk r.1 X' ∧ RefPost n Q r.1 X' r.2.1 w v w'

set_option maxRecDepth 100000 in
set_option maxHeartbeats 16000000 in
theorem r24Call_any (w : World) (n : Nat) (Q : Nat → Prop) (c : CliD) (X : CmdD) (dv : Value) (x : CmdD) (hT : Tabs w) (h : RefCAt w n Q c X dv) (hX : XOk c X) (hr : 0 ≤ c.request) (hs : c.session ≤ 1099511627776) (hq : 0 ≤ c.seq) (hx : CmdI x) (hQ : ∀ b, w.heap.size ≤ b → Q b) :
    Calls Tryz.prog 29 #[.pointer (some ⟨n, 0, none⟩), cmdV x] w (RefCalled n Q (callD c x) w) := by
  have HT := hid hT
  have H := hid h
  have HX := hid hX
  have HQ := hid hQ
  obtain ⟨kd, se, sq, fd, vr, vk, vn, vs⟩ := x
  have HXI : Hid (CmdI ⟨kd, 1, 1, fd, vr, vk, vn, vs⟩) := ⟨hx.kind, I64_1, I64_1, hx.version, hx.vkind, hx.vn⟩
  have HCK := hid (fun w1 h1 => r14Check_any ⟨kd, 1, 1, fd, vr, vk, vn, vs⟩ w1 h1)
  have x12 : w.cell? ⟨n, 12, none⟩ = some (.int .i64 c.seq) := h.cell 12
  have x13 : w.cell? ⟨n, 13, none⟩ = some (.int .i64 c.request) := h.cell 13
  have x14 : w.cell? ⟨n, 14, none⟩ = some (.int .i64 (c.does : Int)) := h.cell 14
  have hlt := h.lt
  obtain ⟨dz, hdz'⟩ : ∃ d : Int, (c.does : Int) = d := ⟨_, rfl⟩
  rw [hdz'] at x14
  unfold cmdV at HCK ⊢
  dsimp only at HCK ⊢
  by_cases hd : c.does = 0
  · have hdz : (0 < dz) = False := eq_false (by omega)
    clear h hT hX hQ hdz'
    by_cases k1 : kd = 1
    · have k1' : (kd == 1) = true := by simp [k1]
      have HO : Hid (callD c ⟨kd, se, sq, fd, vr, ⟨vk, vn, vs⟩⟩ = (c, [], 1)) := by
        show _ = _
        unfold callD
        rw [if_neg (by simp [hd]), if_pos (.inl k1)]
      clear hd k1
      go_enter Tryz.func29, Tryz.ntmps29
      go_wp2_with fail
      refine bodyPost_ret (v := .tuple #[.slice none 0 0, .int .i64 1]) (by simp [results, Tryz.results29, go_sem]) rfl ?_
      rw [HO.out]
      exact ⟨_, X, rfl, HX.out, RefPost.silent (H.out.k (by exact Keeps.K)) (by exact Keeps.K)⟩
    · have k1' : (kd == 1) = false := by simpa using k1
      obtain ⟨ck, hck⟩ : ∃ b, checkC ⟨kd, 1, 1, fd, vr, vk, vn, vs⟩ = b := ⟨_, rfl⟩
      rw [hck] at HCK
      have HCK' := hid hck
      clear hck
      rcases ck with _ | _
      · have HO : Hid (callD c ⟨kd, se, sq, fd, vr, ⟨vk, vn, vs⟩⟩ = (c, [], 1)) := by
          show _ = _
          unfold callD
          rw [if_neg (by simp [hd]), if_pos (.inr HCK'.out)]
        clear hd k1
        go_enter Tryz.func29, Tryz.ntmps29
        go_wp2_with fail
        refine (HCK.out _ ?_).mono ?_
        · exact HT.out.k (by exact Keeps.K)
        rintro e w3 ⟨rfl, hk⟩
        have K3 : Hid (Keeps [] w w3) := Keeps.trans (G := []) (by exact Keeps.K) hk (fun _ _ h => h)
        clear hk
        go_wp2_with fail
        refine bodyPost_ret (v := .tuple #[.slice none 0 0, .int .i64 1]) (by simp [results, Tryz.results29, go_sem]) rfl ?_
        rw [HO.out]
        exact ⟨_, X, rfl, HX.out, RefPost.silent (H.out.k K3.out) (K3.out.mono (fun _ _ h => by cases h))⟩
      · by_cases hf : 1099511627775 ≤ c.seq ∨ 1099511627775 ≤ c.request
        · have HO : Hid (callD c ⟨kd, se, sq, fd, vr, ⟨vk, vn, vs⟩⟩ = (c, [], 2)) := by
            show _ = _
            unfold callD
            rw [if_neg (by simp [hd]), if_neg (by rintro (h | h); exact k1 h; rw [HCK'.out] at h; cases h), if_pos hf]
          have hc : 1099511627775 ≤ c.seq ∨ (1099511627775 ≤ c.seq) = False ∧ 1099511627775 ≤ c.request := by
            by_cases q1 : 1099511627775 ≤ c.seq
            · exact .inl q1
            · exact .inr ⟨eq_false q1, by omega⟩
          clear hd k1 hf
          rcases hc with q1 | ⟨q1, q2⟩
          all_goals
            go_enter Tryz.func29, Tryz.ntmps29
            go_wp2_with fail
            refine (HCK.out _ ?_).mono ?_
            · exact HT.out.k (by exact Keeps.K)
            rintro e w3 ⟨rfl, hk⟩
            have K3 : Hid (Keeps [] w w3) := Keeps.trans (G := []) (by exact Keeps.K) hk (fun _ _ h => h)
            have y12 := K3.out.cellSome x12 (by simp)
            have y13 := K3.out.cellSome x13 (by simp)
            clear hk x12 x13 x14
            go_wp2_with fail
            refine bodyPost_ret (v := .tuple #[.slice none 0 0, .int .i64 2]) (by simp [results, Tryz.results29, go_sem]) rfl ?_
            rw [HO.out]
            exact ⟨_, X, rfl, HX.out, RefPost.silent (H.out.k K3.out) (K3.out.mono (fun _ _ h => by cases h))⟩
        · have HO : Hid (callD c ⟨kd, se, sq, fd, vr, ⟨vk, vn, vs⟩⟩ = ((cAskD { c with call := ⟨kd, 1, 1, fd, vr, ⟨vk, vn, vs⟩⟩ }).1, (cAskD { c with call := ⟨kd, 1, 1, fd, vr, ⟨vk, vn, vs⟩⟩ }).2, 0)) := by
            show _ = _
            unfold callD
            rw [if_neg (by simp [hd]), if_neg (by rintro (h | h); exact k1 h; rw [HCK'.out] at h; cases h), if_neg hf]
          have q1 : (1099511627775 ≤ c.seq) = False := eq_false (fun h => hf (.inl h))
          have q2 : (1099511627775 ≤ c.request) = False := eq_false (fun h => hf (.inr h))
          have HB : Hid ((0 ≤ c.request ∧ c.request ≤ 1099511627776) ∧ c.session ≤ 1099511627776 ∧ (0 ≤ c.seq ∧ c.seq ≤ 1099511627776)) := ⟨⟨hr, by omega⟩, hs, hq, by omega⟩
          clear hd k1 hf
          go_enter Tryz.func29, Tryz.ntmps29
          go_wp2_with fail
          refine (HCK.out _ ?_).mono ?_
          · exact HT.out.k (by exact Keeps.K)
          rintro e w3 ⟨rfl, hk⟩
          have K3 : Hid (Keeps [] w w3) := Keeps.trans (G := []) (by exact Keeps.K) hk (fun _ _ h => h)
          have y12 := K3.out.cellSome x12 (by simp)
          have y13 := K3.out.cellSome x13 (by simp)
          have hb3 : w3.heap[w.heap.size]? = some (.cells #[.int .i64 kd, .int .i64 se, .int .i64 sq, .string fd, .int .i64 vr, .int .i64 vk, .int .i64 vn, .string vs] 34 (0, 0)) := (hk.block _ (by simp; try omega) (by simp)).trans (by
            have e1 := heap_alloc_new w (.cells #[.int .i64 kd, .int .i64 se, .int .i64 sq, .string fd, .int .i64 vr, .int .i64 vk, .int .i64 vn, .string vs] 34)
            exact (Keeps.block (F := []) (w := w.alloc (.cells #[.int .i64 kd, .int .i64 se, .int .i64 sq, .string fd, .int .i64 vr, .int .i64 vk, .int .i64 vn, .string vs] 34)) (by exact Keeps.K) w.heap.size (by simp; try omega) (by simp)).trans e1)
          obtain ⟨⟨u0, u1, u2, u3, u4, u5, u6, u7⟩, -⟩ := blk8 hb3
          have H3 := hid (H.out.k K3.out)
          have y16 : w3.cell? ⟨n, 16, none⟩ = some (.int .i64 X.kind) := H3.out.cell 16
          have y17 : w3.cell? ⟨n, 17, none⟩ = some (.int .i64 X.session) := H3.out.cell 17
          have y18 : w3.cell? ⟨n, 18, none⟩ = some (.int .i64 X.seq) := H3.out.cell 18
          have y19 : w3.cell? ⟨n, 19, none⟩ = some (.string X.field) := H3.out.cell 19
          have y20 : w3.cell? ⟨n, 20, none⟩ = some (.int .i64 X.version) := H3.out.cell 20
          have y21 : w3.cell? ⟨n, 21, none⟩ = some (.int .i64 X.value.kind) := H3.out.cell 21
          have y22 : w3.cell? ⟨n, 22, none⟩ = some (.int .i64 X.value.n) := H3.out.cell 22
          have y23 : w3.cell? ⟨n, 23, none⟩ = some (.string X.value.s) := H3.out.cell 23
          have f3 : ∀ i, w3.frozen? ⟨n, i, none⟩ = false := H3.out.free
          have hlt3 := H3.out.lt
          have hw3 : w.heap.size < w3.heap.size := (Array.getElem?_eq_some_iff.1 hb3).1
          clear hk hb3 x12 x13 x14
          go_wp2_with fail
          have h4 := ((((((((H3.out.set1 (c' := { c with call := ⟨kd, 1, 1, fd, vr, ⟨vk, vn, vs⟩⟩ }) (X' := ⟨kd, X.session, X.seq, X.field, X.version, X.value⟩) 16 (.int .i64 kd) (by simp [refC]) rfl).set1 (c' := { c with call := ⟨kd, 1, 1, fd, vr, ⟨vk, vn, vs⟩⟩ }) (X' := ⟨kd, se, X.seq, X.field, X.version, X.value⟩) 17 (.int .i64 se) (by simp [refC]) rfl).set1 (c' := { c with call := ⟨kd, 1, 1, fd, vr, ⟨vk, vn, vs⟩⟩ }) (X' := ⟨kd, se, sq, X.field, X.version, X.value⟩) 18 (.int .i64 sq) (by simp [refC]) rfl).set1 (c' := { c with call := ⟨kd, 1, 1, fd, vr, ⟨vk, vn, vs⟩⟩ }) (X' := ⟨kd, se, sq, fd, X.version, X.value⟩) 19 (.string fd) (by simp [refC]) rfl).set1 (c' := { c with call := ⟨kd, 1, 1, fd, vr, ⟨vk, vn, vs⟩⟩ }) (X' := ⟨kd, se, sq, fd, vr, X.value⟩) 20 (.int .i64 vr) (by simp [refC]) rfl).set1 (c' := { c with call := ⟨kd, 1, 1, fd, vr, ⟨vk, vn, vs⟩⟩ }) (X' := ⟨kd, se, sq, fd, vr, ⟨vk, X.value.n, X.value.s⟩⟩) 21 (.int .i64 vk) (by simp [refC]) rfl).set1 (c' := { c with call := ⟨kd, 1, 1, fd, vr, ⟨vk, vn, vs⟩⟩ }) (X' := ⟨kd, se, sq, fd, vr, ⟨vk, vn, X.value.s⟩⟩) 22 (.int .i64 vn) (by simp [refC]) rfl).set1 (c' := { c with call := ⟨kd, 1, 1, fd, vr, ⟨vk, vn, vs⟩⟩ }) (X' := ⟨kd, se, sq, fd, vr, ⟨vk, vn, vs⟩⟩) 23 (.string vs) (by simp [refC]) rfl)
          have HA := hid (r24ask_any _ n Q _ _ dv h4 rfl HB.out.1 HB.out.2.1 HB.out.2.2 (checkC_w HCK'.out HXI.out) (fun b hb => HQ.out b (by have := K3.out.size; simp at hb; omega)))
          clear h4
          refine HA.out.mono ?_
          rintro e w6 ⟨v, rfl, h6⟩
          have H6 := hid (h6.from (w := w) ((K3.out.mono (fun _ _ h => by cases h)).trans (G := [n]) (by exact Keeps.K) (fun _ _ h => h)))
          clear h6
          go_wp2_with fail
          refine bodyPost_ret (v := .tuple #[v, .int .i64 0]) (by simp [results, Tryz.results29, go_sem]) rfl ?_
          rw [HO.out]
          exact ⟨_, ⟨kd, se, sq, fd, vr, ⟨vk, vn, vs⟩⟩, rfl, rfl, H6.out⟩
  · have hdz : (0 < dz) = True := eq_true (by omega)
    have HO : Hid (callD c ⟨kd, se, sq, fd, vr, ⟨vk, vn, vs⟩⟩ = (c, [], 20)) := if_pos hd
    clear h hT hX hQ hd hdz'
    go_enter Tryz.func29, Tryz.ntmps29
    go_wp2_with fail
    refine bodyPost_ret (v := .tuple #[.slice none 0 0, .int .i64 20]) (by simp [results, Tryz.results29, go_sem]) rfl ?_
    rw [HO.out]
    exact ⟨_, X, rfl, HX.out, RefPost.silent (H.out.k (by exact Keeps.K)) (by exact Keeps.K)⟩

set_option maxRecDepth 100000 in
set_option maxHeartbeats 4000000 in
theorem r24New_yes (c : ConfD) (id : Int) (Q : Nat → Prop) (w : World) (h : newOk c id) (hi : id ≤ 1000000) (hQ : ¬ Q (w.heap.size + 1)) :
    Calls Tryz.prog 14 #[confVal c, .int .i64 id] w fun e w' => e = .returned (.tuple #[.pointer (some ⟨w.heap.size + 1, 0, none⟩), .int .i64 0]) ∧ RefCAt w' (w.heap.size + 1) Q (cliNew c id) zeroC (.slice none 0 0) ∧ Keeps [] w w' := by
  obtain ⟨cn, cc, ch, cl, cr, cs, cp, co, ct⟩ := c
  obtain ⟨h1, h2, h3, h4, h5⟩ := h
  dsimp only at h2 h3 h4 h5
  have q1 : (id < 101) = False := eq_false (by omega)
  have q2 : (cc < id - 100) = False := eq_false (by omega)
  have q3 : (cn < 3) = False := eq_false (by omega)
  have q4 : (7 < cn) = False := eq_false (by omega)
  have q5 : (ct < 1) = False := eq_false (by omega)
  have hw : IntKind.i64.wrap (id - 100) = id - 100 := by rw [IntKind.wrap_i64]; omega
  have HQ := hid hQ
  unfold confVal
  dsimp only
  clear hQ h1 h2 h3 h4 h5
  go_enter Tryz.func14, Tryz.ntmps14
  go_wp2_with fail
  refine bodyPost_ret (v := .tuple #[.pointer (some ⟨w.heap.size + 1, 0, none⟩), .int .i64 0]) (by simp [results, Tryz.results14, go_sem]) rfl ?_
  refine ⟨rfl, ⟨?_, BytesAt.nil _ _ _ _, HQ.out⟩, by exact Keeps.K⟩
  have e := new2nd w (.cells #[.int .i64 cn, .int .i64 cc, .int .i64 ch, .int .i64 cl, .int .i64 cr, .int .i64 cs, .int .i64 cp, .int .i64 co, .int .i64 ct] 24) (.cells (refC (cliNew ⟨cn, cc, ch, cl, cr, cs, cp, co, ct⟩ id) zeroC (.slice none 0 0)) 74)
  exact e

set_option maxRecDepth 100000 in
set_option maxHeartbeats 4000000 in
theorem news24_no (c : ConfD) (id : Int) (w : World) (hi : (Lit.int .i64 id).wf = true) (h1 : 3 ≤ c.nodes ∧ c.nodes ≤ 7) (h2 : 1 ≤ c.retry) (h3 : c.clients = 3) (h : id < 101 ∨ 103 < id) :
    Calls Tryz.prog 6 #[confVal c, .int .i64 id] w (fun e w' => e = .returned (.tuple #[.pointer none, .int .i64 1]) ∧ Keeps [] w w') ∧
    Calls Tryz.prog 14 #[confVal c, .int .i64 id] w (fun e w' => e = .returned (.tuple #[.pointer none, .int .i64 1]) ∧ Keeps [] w w') := by
  obtain ⟨cn, cc, ch, cl, cr, cs, cp, co, ct⟩ := c
  dsimp only at h1 h2 h3
  subst h3
  have q3 : (cn < 3) = False := eq_false (by omega)
  have q4 : (7 < cn) = False := eq_false (by omega)
  have q5 : (ct < 1) = False := eq_false (by omega)
  have hb : I64 id := by
    have e1 : IntKind.i64.min = -9223372036854775808 := by rfl
    have e2 : IntKind.i64.max = 9223372036854775807 := by rfl
    simp [Lit.wf, e1, e2] at hi
    exact ⟨by omega, by omega⟩
  unfold confVal
  dsimp only
  have hc : id < 101 ∨ (id < 101) = False ∧ (3 < id - 100) ∧ IntKind.i64.wrap (id - 100) = id - 100 := by
    rcases h with h | h
    · exact .inl h
    · exact .inr ⟨eq_false (by omega), by omega, by rw [IntKind.wrap_i64]; unfold I64 at hb; omega⟩
  clear h h1 h2 hi hb
  rcases hc with q1 | ⟨q1, q2, q6⟩
  all_goals
    constructor
    · go_enter Tryz.func6, Tryz.ntmps6
      go_wp2_with fail
      refine bodyPost_ret (v := .tuple #[.pointer none, .int .i64 1]) (by simp [results, Tryz.results6, go_sem]) rfl ?_
      exact ⟨rfl, by exact Keeps.K⟩
    · go_enter Tryz.func14, Tryz.ntmps14
      go_wp2_with fail
      refine bodyPost_ret (v := .tuple #[.pointer none, .int .i64 1]) (by simp [results, Tryz.results14, go_sem]) rfl ?_
      exact ⟨rfl, by exact Keeps.K⟩

end Go.Proofs.YtnjdepojmnniaaaGreatDoor
