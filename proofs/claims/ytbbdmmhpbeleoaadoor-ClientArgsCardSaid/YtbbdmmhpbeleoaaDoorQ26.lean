/- Joined of ClF, ClG, PlanT. -/
import Derived.Test.YtbbdmmhpbeleoaaDoorQ25
import Derived.Test.YtbbdmmhpbeleoaaDoorQ02

set_option linter.unusedSimpArgs false
set_option linter.unusedVariables false

/- The closures; Call, Tick of the client. -/
namespace Go.Proofs.YtbbdmmhpbeleoaaDoor
open Go Go.RowKit

set_option maxRecDepth 100000 in
set_option maxHeartbeats 4000000 in
theorem clAsk1_any (w : World) (n g : Nat) (Q : Nat → Prop) (c : CliD) (dv fv : Value) (r : ReplyD) (hg : w.heap[g]? = some (.cells #[.pointer (some ⟨n, 0, none⟩)] 35 (0, 0))) (h : CliAt w n Q c dv fv) (ha : 0 ≤ c.request ∧ c.request ≤ 1099511627776) (hc : CmdW c.call) (hn : r.n ≤ 1099511627776) (hQ : ∀ b, w.heap.size ≤ b → Q b) :
    Calls Tryd.prog 47 #[replyV r, .pointer (some ⟨g, 0, none⟩)] w (ToldPost n Q (openedD c r) w) := by
  obtain ⟨er, nn, rk, rn, rs⟩ := r
  have HC := hid (fun w1 (k : Keeps [] w w1) => clOpened_any w1 n Q c dv fv ⟨er, nn, rk, rn, rs⟩ (h.k k) ha hc hn (fun b hb => hQ b (Nat.le_trans k.size hb)))
  have g0 : w.cell? ⟨g, 0, none⟩ = some (.pointer (some ⟨n, 0, none⟩)) := cell_of_block hg 0
  have hgl : g < w.heap.size := (Array.getElem?_eq_some_iff.1 hg).1
  unfold replyV at HC ⊢
  dsimp only at HC ⊢
  clear h ha hc hn hQ hg
  go_enter Tryd.func47, Tryd.ntmps47
  go_wp2_with fail
  refine (HC.out _ (by exact Keeps.K)).mono ?_
  obtain ⟨⟨c', l', b'⟩, hr⟩ : ∃ x, openedD c ⟨er, nn, rk, rn, rs⟩ = x := ⟨_, rfl⟩
  rw [hr]
  have HR := hid hr
  clear hr HC
  rintro e w6 ⟨v, rfl, a6, q6, dv6, fv6, rfl, h6, h7, h8⟩
  dsimp only at h6 h7 h8 ⊢
  have HP : Hid (CliPost n Q c' l' w (.slice a6 l'.length q6) w6) := CliPost.from ⟨a6, q6, dv6, fv6, rfl, h6, h7, h8⟩ ((Keeps.refl _ _).trans (G := []) (by exact Keeps.K) (fun _ _ h => by cases h))
  clear h6 h7 h8
  go_wp2_with fail
  refine bodyPost_ret (v := .tuple #[.slice a6 l'.length q6, .bool b']) (by simp [results, Tryd.results47, go_sem]) rfl ?_
  rw [HR.out]
  exact ⟨_, rfl, HP.out⟩

set_option maxRecDepth 100000 in
set_option maxHeartbeats 4000000 in
theorem clAsk2_any (w : World) (n g : Nat) (Q : Nat → Prop) (c : CliD) (dv fv : Value) (r : ReplyD) (hg : w.heap[g]? = some (.cells #[.pointer (some ⟨n, 0, none⟩)] 35 (0, 0))) (h : CliAt w n Q c dv fv) :
    Calls Tryd.prog 49 #[replyV r, .pointer (some ⟨g, 0, none⟩)] w (ToldPost n Q (overD c r) w) := by
  obtain ⟨er, nn, rk, rn, rs⟩ := r
  have HC := hid (fun w1 (k : Keeps [] w w1) => clOver_any w1 n Q c dv fv ⟨er, nn, rk, rn, rs⟩ (h.k k))
  have g0 : w.cell? ⟨g, 0, none⟩ = some (.pointer (some ⟨n, 0, none⟩)) := cell_of_block hg 0
  have hgl : g < w.heap.size := (Array.getElem?_eq_some_iff.1 hg).1
  unfold replyV at HC ⊢
  dsimp only at HC ⊢
  clear h hg
  go_enter Tryd.func49, Tryd.ntmps49
  go_wp2_with fail
  refine (HC.out _ (by exact Keeps.K)).mono ?_
  obtain ⟨⟨c', l', b'⟩, hr⟩ : ∃ x, overD c ⟨er, nn, rk, rn, rs⟩ = x := ⟨_, rfl⟩
  rw [hr]
  have HR := hid hr
  clear hr HC
  rintro e w6 ⟨v, rfl, a6, q6, dv6, fv6, rfl, h6, h7, h8⟩
  dsimp only at h6 h7 h8 ⊢
  have HP : Hid (CliPost n Q c' l' w (.slice a6 l'.length q6) w6) := CliPost.from ⟨a6, q6, dv6, fv6, rfl, h6, h7, h8⟩ ((Keeps.refl _ _).trans (G := []) (by exact Keeps.K) (fun _ _ h => by cases h))
  clear h6 h7 h8
  go_wp2_with fail
  refine bodyPost_ret (v := .tuple #[.slice a6 l'.length q6, .bool b']) (by simp [results, Tryd.results49, go_sem]) rfl ?_
  rw [HR.out]
  exact ⟨_, rfl, HP.out⟩

theorem checkC_w {c : CmdD} (h : checkC c = true) (hi : CmdI c) : CmdW c := by
  have hz : (⟨#[]⟩ : ByteArray).size ≤ 1000000 := by show (0 : Nat) ≤ _; decide
  rcases checkC_kinds h with ⟨-, e⟩ | ⟨h1, h2, h3, h4, h5, h6⟩ | ⟨h1, h2, h3, e⟩ | ⟨h1, h2, h3, h4, e⟩
  · exact ⟨hi.kind, hi.session, hi.seq, hi.version, hi.vkind, hi.vn, by rw [e]; exact hz, by rw [e]; exact hz⟩
  · have := nameD_small h4
    have := checkD_small h6
    exact ⟨hi.kind, hi.session, hi.seq, hi.version, hi.vkind, hi.vn, by omega, by omega⟩
  · exact ⟨hi.kind, hi.session, hi.seq, hi.version, hi.vkind, hi.vn, by rw [e]; exact hz, by rw [e]; exact hz⟩
  · have := nameD_small h4
    exact ⟨hi.kind, hi.session, hi.seq, hi.version, hi.vkind, hi.vn, by omega, by rw [e]; exact hz⟩

def CalledPost (n : Nat) (Q : Nat → Prop) (r : CliD × List MsgD × Int) (w : World) (e : Ending) (w' : World) : Prop :=
  ∃ v, e = .returned (.tuple #[v, .int .i64 r.2.2]) ∧ CliPost n Q r.1 r.2.1 w v w'

set_option maxRecDepth 100000 in
set_option maxHeartbeats 8000000 in
theorem clCall_any (w : World) (n : Nat) (Q : Nat → Prop) (c : CliD) (dv fv : Value) (x : CmdD) (hT : Tabs w) (hE : Errs w) (h : CliAt w n Q c dv fv) (hr : 0 ≤ c.request) (hs : c.session ≤ 1099511627776) (hq : 0 ≤ c.seq) (hx : CmdI x) (hz : x.value.s.size ≤ 1000000) (hQ : ∀ b, w.heap.size ≤ b → Q b) :
    Calls Tryd.prog 13 #[.pointer (some ⟨n, 0, none⟩), cmdV x] w (CalledPost n Q (callD c x) w) := by
  obtain ⟨kd, se, sq, fd, vr, vk, vn, vs⟩ := x
  have HX : Hid (CmdI ⟨kd, 1, 1, fd, vr, vk, vn, vs⟩) := ⟨hx.kind, (show I64 1 by constructor <;> decide), (show I64 1 by constructor <;> decide), hx.version, hx.vkind, hx.vn⟩
  have HT := hid hT
  have HE := hid hE
  have H := hid h
  have HQ := hid hQ
  have HB := hid (fun w1 (k : Keeps [] w w1) => clBusy_any (h.k k))
  have HCK := hid (fun w1 h1 h2 => cmCheck_any ⟨kd, 1, 1, fd, vr, vk, vn, vs⟩ w1 h1 h2 (Nat.le_trans hz (by decide)))
  unfold cmdV at HCK ⊢
  dsimp only at HCK ⊢
  clear hT hE hx hz hQ
  by_cases hd : c.does = 0
  · have HB0 := hid (fun w1 (k : Keeps [] w w1) => by have := HB.out w1 k; rw [hd] at this; exact this)
    clear HB
    by_cases k1 : kd = 1
    · subst k1
      have HO : Hid (callD c ⟨1, se, sq, fd, vr, vk, vn, vs⟩ = (c, [], 1)) := by
        show _ = _
        unfold callD
        rw [if_neg (by simp [hd]), if_pos (.inl rfl)]
      clear h hd
      go_enter Tryd.func13, Tryd.ntmps13
      go_wp2_with fail
      refine (HB0.out _ (by exact Keeps.K)).mono ?_
      rintro e w2 ⟨rfl, hk⟩
      have y0 : w2.cell? ⟨w.heap.size, 0, none⟩ = some (.int .i64 1) := hk.cellSome (by go_simp) (by simp)
      have K2 : Hid (Keeps [] w w2) := Keeps.trans (G := []) (by exact Keeps.K) hk (fun _ _ h => h)
      clear hk
      go_wp2_with fail
      refine bodyPost_ret (v := .tuple #[.slice none 0 0, .int .i64 1]) (by simp [results, Tryd.results13, go_sem]) rfl ?_
      rw [HO.out]
      exact ⟨_, rfl, CliPost.silent (H.out.k K2.out) (K2.out.mono (fun _ _ h => by cases h))⟩
    · have n1 : (kd == 1) = false := by simpa using k1
      obtain ⟨cc, hcc⟩ : ∃ cc, checkC ⟨kd, 1, 1, fd, vr, vk, vn, vs⟩ = cc := ⟨_, rfl⟩
      rw [hcc] at HCK
      rcases cc with _ | _
      · have HO : Hid (callD c ⟨kd, se, sq, fd, vr, vk, vn, vs⟩ = (c, [], 1)) := by
          show _ = _
          unfold callD
          rw [if_neg (by simp [hd]), if_pos (.inr hcc)]
        clear h hd k1 hcc
        go_enter Tryd.func13, Tryd.ntmps13
        go_wp2_with fail
        refine (HB0.out _ (by exact Keeps.K)).mono ?_
        rintro e w2 ⟨rfl, hk⟩
        have y0 : w2.cell? ⟨w.heap.size, 0, none⟩ = some (.int .i64 kd) := hk.cellSome (by go_simp) (by simp)
        have y1 : w2.cell? ⟨w.heap.size, 1, none⟩ = some (.int .i64 1) := hk.cellSome (by go_simp) (by simp)
        have y2 : w2.cell? ⟨w.heap.size, 2, none⟩ = some (.int .i64 1) := hk.cellSome (by go_simp) (by simp)
        have y3 : w2.cell? ⟨w.heap.size, 3, none⟩ = some (.string fd) := hk.cellSome (by go_simp) (by simp)
        have y4 : w2.cell? ⟨w.heap.size, 4, none⟩ = some (.int .i64 vr) := hk.cellSome (by go_simp) (by simp)
        have y5 : w2.cell? ⟨w.heap.size, 5, none⟩ = some (.int .i64 vk) := hk.cellSome (by go_simp) (by simp)
        have y6 : w2.cell? ⟨w.heap.size, 6, none⟩ = some (.int .i64 vn) := hk.cellSome (by go_simp) (by simp)
        have y7 : w2.cell? ⟨w.heap.size, 7, none⟩ = some (.string vs) := hk.cellSome (by go_simp) (by simp)
        have K2 : Hid (Keeps [] w w2) := Keeps.trans (G := []) (by exact Keeps.K) hk (fun _ _ h => h)
        clear hk
        go_wp2_with fail
        refine (HCK.out _ (HT.out.k K2.out) (HE.out.k K2.out)).mono ?_
        rintro e w3 ⟨rfl, hk⟩
        have K3 : Hid (Keeps [] w w3) := K2.out.trans hk (fun _ _ h => h)
        clear hk
        go_wp2_with fail
        refine bodyPost_ret (v := .tuple #[.slice none 0 0, .int .i64 1]) (by simp [results, Tryd.results13, go_sem]) rfl ?_
        rw [HO.out]
        exact ⟨_, rfl, CliPost.silent (H.out.k K3.out) (K3.out.mono (fun _ _ h => by cases h))⟩
      · have HW : Hid (CmdW ⟨kd, 1, 1, fd, vr, vk, vn, vs⟩) := checkC_w hcc HX.out
        have HO2 : Hid (1099511627775 ≤ c.seq ∨ 1099511627775 ≤ c.request → callD c ⟨kd, se, sq, fd, vr, vk, vn, vs⟩ = (c, [], 2)) := fun hb => by
          unfold callD
          rw [if_neg (by simp [hd]), if_neg (by intro h; rcases h with h | h; exact k1 h; rw [hcc] at h; cases h), if_pos hb]
        have HO3 : Hid (¬ (1099511627775 ≤ c.seq ∨ 1099511627775 ≤ c.request) → callD c ⟨kd, se, sq, fd, vr, vk, vn, vs⟩ = ((cAskD { c with call := ⟨kd, 1, 1, fd, vr, vk, vn, vs⟩ }).1, (cAskD { c with call := ⟨kd, 1, 1, fd, vr, vk, vn, vs⟩ }).2, 0)) := fun hb => by
          unfold callD
          rw [if_neg (by simp [hd]), if_neg (by intro h; rcases h with h | h; exact k1 h; rw [hcc] at h; cases h), if_neg hb]
        clear h hd k1 hcc
        go_enter Tryd.func13, Tryd.ntmps13
        go_wp2_with fail
        refine (HB0.out _ (by exact Keeps.K)).mono ?_
        rintro e w2 ⟨rfl, hk⟩
        have y0 : w2.cell? ⟨w.heap.size, 0, none⟩ = some (.int .i64 kd) := hk.cellSome (by go_simp) (by simp)
        have y1 : w2.cell? ⟨w.heap.size, 1, none⟩ = some (.int .i64 1) := hk.cellSome (by go_simp) (by simp)
        have y2 : w2.cell? ⟨w.heap.size, 2, none⟩ = some (.int .i64 1) := hk.cellSome (by go_simp) (by simp)
        have y3 : w2.cell? ⟨w.heap.size, 3, none⟩ = some (.string fd) := hk.cellSome (by go_simp) (by simp)
        have y4 : w2.cell? ⟨w.heap.size, 4, none⟩ = some (.int .i64 vr) := hk.cellSome (by go_simp) (by simp)
        have y5 : w2.cell? ⟨w.heap.size, 5, none⟩ = some (.int .i64 vk) := hk.cellSome (by go_simp) (by simp)
        have y6 : w2.cell? ⟨w.heap.size, 6, none⟩ = some (.int .i64 vn) := hk.cellSome (by go_simp) (by simp)
        have y7 : w2.cell? ⟨w.heap.size, 7, none⟩ = some (.string vs) := hk.cellSome (by go_simp) (by simp)
        have K2 : Hid (Keeps [] w w2) := Keeps.trans (G := []) (by exact Keeps.K) hk (fun _ _ h => h)
        have hz2 : w.heap.size < w2.heap.size := by have := hk.size; simp at this; omega
        clear hk
        go_wp2_with fail
        refine (HCK.out _ (HT.out.k K2.out) (HE.out.k K2.out)).mono ?_
        rintro e w3 ⟨rfl, hk⟩
        have z0 : w3.cell? ⟨w.heap.size, 0, none⟩ = some (.int .i64 kd) := hk.cellSome y0 (by simp)
        have z1 : w3.cell? ⟨w.heap.size, 1, none⟩ = some (.int .i64 1) := hk.cellSome y1 (by simp)
        have z2 : w3.cell? ⟨w.heap.size, 2, none⟩ = some (.int .i64 1) := hk.cellSome y2 (by simp)
        have z3 : w3.cell? ⟨w.heap.size, 3, none⟩ = some (.string fd) := hk.cellSome y3 (by simp)
        have z4 : w3.cell? ⟨w.heap.size, 4, none⟩ = some (.int .i64 vr) := hk.cellSome y4 (by simp)
        have z5 : w3.cell? ⟨w.heap.size, 5, none⟩ = some (.int .i64 vk) := hk.cellSome y5 (by simp)
        have z6 : w3.cell? ⟨w.heap.size, 6, none⟩ = some (.int .i64 vn) := hk.cellSome y6 (by simp)
        have z7 : w3.cell? ⟨w.heap.size, 7, none⟩ = some (.string vs) := hk.cellSome y7 (by simp)
        have K3 : Hid (Keeps [] w w3) := K2.out.trans hk (fun _ _ h => h)
        clear hk y0 y1 y2 y3 y4 y5 y6 y7
        have H3 := hid (H.out.k K3.out)
        have x12 : w3.cell? ⟨n, 12, none⟩ = some (.int .i64 c.seq) := H3.out.cell 12
        have x13 : w3.cell? ⟨n, 13, none⟩ = some (.int .i64 c.request) := H3.out.cell 13
        by_cases hb : 1099511627775 ≤ c.seq ∨ 1099511627775 ≤ c.request
        · have HO := hid (HO2.out hb)
          have hb' : 1099511627775 ≤ c.seq ∨ (¬ 1099511627775 ≤ c.seq ∧ 1099511627775 ≤ c.request) := by omega
          clear hb HO2 HO3
          rcases hb' with h1 | ⟨h1, h2⟩
          all_goals
            go_wp2_with fail
            refine bodyPost_ret (v := .tuple #[.slice none 0 0, .int .i64 2]) (by simp [results, Tryd.results13, go_sem]) rfl ?_
            rw [HO.out]
            exact ⟨_, rfl, CliPost.silent H3.out (K3.out.mono (fun _ _ h => by cases h))⟩
        · have HO := hid (HO3.out hb)
          have h1 : ¬ 1099511627775 ≤ c.seq := by omega
          have h2 : ¬ 1099511627775 ≤ c.request := by omega
          have hA : AskOk { c with call := ⟨kd, 1, 1, fd, vr, vk, vn, vs⟩ } := ⟨⟨hr, (show c.request ≤ _ by omega)⟩, hs, ⟨hq, (show c.seq ≤ _ by omega)⟩, HW.out⟩
          have HA := hid hA
          clear hb HO2 HO3 hA
          have f0 : ∀ i, w3.frozen? ⟨n, i, none⟩ = false := H3.out.free
          have x15 : w3.cell? ⟨n, 15, none⟩ = some (.int .i64 c.call.kind) := H3.out.cell 15
          have x16 : w3.cell? ⟨n, 16, none⟩ = some (.int .i64 c.call.session) := H3.out.cell 16
          have x17 : w3.cell? ⟨n, 17, none⟩ = some (.int .i64 c.call.seq) := H3.out.cell 17
          have x18 : w3.cell? ⟨n, 18, none⟩ = some (.string c.call.field) := H3.out.cell 18
          have x19 : w3.cell? ⟨n, 19, none⟩ = some (.int .i64 c.call.version) := H3.out.cell 19
          have x20 : w3.cell? ⟨n, 20, none⟩ = some (.int .i64 c.call.value.kind) := H3.out.cell 20
          have x21 : w3.cell? ⟨n, 21, none⟩ = some (.int .i64 c.call.value.n) := H3.out.cell 21
          have x22 : w3.cell? ⟨n, 22, none⟩ = some (.string c.call.value.s) := H3.out.cell 22
          go_wp2_with fail
          have k1 : Keeps [n] w3 ((((((((w3.setCell ⟨n, 15, none⟩ (.int .i64 kd)).setCell ⟨n, 16, none⟩ (.int .i64 1)).setCell ⟨n, 17, none⟩ (.int .i64 1)).setCell ⟨n, 18, none⟩ (.string fd)).setCell ⟨n, 19, none⟩ (.int .i64 vr)).setCell ⟨n, 20, none⟩ (.int .i64 vk)).setCell ⟨n, 21, none⟩ (.int .i64 vn)).setCell ⟨n, 22, none⟩ (.string vs)) := by exact Keeps.K
          have h1 : CliAt ((((((((w3.setCell ⟨n, 15, none⟩ (.int .i64 kd)).setCell ⟨n, 16, none⟩ (.int .i64 1)).setCell ⟨n, 17, none⟩ (.int .i64 1)).setCell ⟨n, 18, none⟩ (.string fd)).setCell ⟨n, 19, none⟩ (.int .i64 vr)).setCell ⟨n, 20, none⟩ (.int .i64 vk)).setCell ⟨n, 21, none⟩ (.int .i64 vn)).setCell ⟨n, 22, none⟩ (.string vs)) n Q { c with call := ⟨kd, 1, 1, fd, vr, vk, vn, vs⟩ } dv fv := by
            refine H3.out.set k1 ?_ rfl H3.out.ents rfl
            have e := (heap_setCell_same _ _ 22 _ _ (.string vs) (heap_setCell_same _ _ 21 _ _ (.int .i64 vn) (heap_setCell_same _ _ 20 _ _ (.int .i64 vk) (heap_setCell_same _ _ 19 _ _ (.int .i64 vr) (heap_setCell_same _ _ 18 _ _ (.string fd) (heap_setCell_same _ _ 17 _ _ (.int .i64 1) (heap_setCell_same _ _ 16 _ _ (.int .i64 1) (heap_setCell_same _ _ 15 _ _ (.int .i64 kd) H3.out.row))))))))
            unfold cliCells at e ⊢
            simp only [List.setIfInBounds_toArray, List.set_cons_zero, List.set_cons_succ] at e
            exact e
          refine (clAsk_any _ n Q _ dv fv (h1.k (by exact Keeps.K)) HA.out (fun b hb => HQ.out b (by have := K3.out.size; simp at hb; omega))).mono ?_
          rintro e w6 ⟨v, rfl, a6, q6, dv6, fv6, rfl, h6, h7, h8⟩
          have HP : Hid (CliPost n Q (cAskD { c with call := ⟨kd, 1, 1, fd, vr, vk, vn, vs⟩ }).1 (cAskD { c with call := ⟨kd, 1, 1, fd, vr, vk, vn, vs⟩ }).2 w (.slice a6 (cAskD { c with call := ⟨kd, 1, 1, fd, vr, vk, vn, vs⟩ }).2.length q6) w6) := CliPost.from ⟨a6, q6, dv6, fv6, rfl, h6, h7, h8⟩ ((K3.out.mono (fun _ _ h => by cases h)).trans k1 (fun _ _ h => h))
          clear h6 h7 h8 k1 h1
          go_wp2_with fail
          refine bodyPost_ret (v := .tuple #[.slice a6 (cAskD { c with call := ⟨kd, 1, 1, fd, vr, vk, vn, vs⟩ }).2.length q6, .int .i64 0]) (by simp [results, Tryd.results13, go_sem]) rfl ?_
          rw [HO.out]
          exact ⟨_, rfl, HP.out⟩
  · have HO : Hid (callD c ⟨kd, se, sq, fd, vr, vk, vn, vs⟩ = (c, [], 20)) := if_pos hd
    have HB1 : Hid (∀ w1, Keeps [] w w1 → Calls Tryd.prog 14 #[.pointer (some ⟨n, 0, none⟩)] w1 fun e w' => e = .returned (.bool true) ∧ Keeps [] w1 w') := fun w1 k => by
      have := HB.out w1 k
      rw [show (c.does != 0) = true by simpa using hd] at this
      exact this
    clear h hd HB
    go_enter Tryd.func13, Tryd.ntmps13
    go_wp2_with fail
    refine (HB1.out _ (by exact Keeps.K)).mono ?_
    rintro e w2 ⟨rfl, hk⟩
    have K2 : Hid (Keeps [] w w2) := Keeps.trans (G := []) (by exact Keeps.K) hk (fun _ _ h => h)
    clear hk
    go_wp2_with fail
    refine bodyPost_ret (v := .tuple #[.slice none 0 0, .int .i64 20]) (by simp [results, Tryd.results13, go_sem]) rfl ?_
    rw [HO.out]
    exact ⟨_, rfl, CliPost.silent (H.out.k K2.out) (K2.out.mono (fun _ _ h => by cases h))⟩

end Go.Proofs.YtbbdmmhpbeleoaaDoor

/- The client hears. -/
namespace Go.Proofs.YtbbdmmhpbeleoaaDoor
open Go Go.RowKit

structure HearOk (c : CliD) : Prop where
  request : 0 ≤ c.request ∧ (c.does = 1 → c.request ≤ 1099511627776)
  call : CmdW c.call
  data : c.last.data.length ≤ 3000000
theorem getR_n {bs : List UInt8} (h : (getR bs).2 = true) : (getR bs).1.n ≤ 1099511627776 := by
  obtain ⟨r, hr⟩ : ∃ r, getR bs = (r, true) := ⟨(getR bs).1, by rw [← h]⟩
  rw [hr]
  exact (countsD_i64 (checkR_parts (getR_is hr).2.1).2.1 (by decide)).2.1
theorem deaf_cases {c : CliD} {m : MsgD} (h : deafD c m = true) :
    (c.does != 0) = false ∨ (c.does != 0) = true ∧ ((m.kind != 7) = true ∨ (m.kind != 7) = false ∧ ((m.«to» != c.id) = true ∨ (m.«to» != c.id) = false ∧
      (m.frm < 1 ∨ (m.frm < 1) = False ∧ (c.conf.nodes < m.frm ∨ (c.conf.nodes < m.frm) = False ∧ (m.c != c.request) = true)))) := by
  unfold deafD at h
  by_cases h0 : c.does = 0
  · exact .inl (by simp [h0])
  refine .inr ⟨by simpa using h0, ?_⟩
  by_cases h1 : m.kind = 7
  · refine .inr ⟨by simp [h1], ?_⟩
    by_cases h2 : m.«to» = c.id
    · refine .inr ⟨by simp [h2], ?_⟩
      by_cases h3 : m.frm < 1
      · exact .inl h3
      · refine .inr ⟨eq_false h3, ?_⟩
        by_cases h4 : c.conf.nodes < m.frm
        · exact .inl h4
        · refine .inr ⟨eq_false h4, ?_⟩
          simpa [h0, h1, h2, h3, h4] using h
    · exact .inl (by simpa using h2)
  · exact .inl (by simpa using h1)
theorem hears_all {c : CliD} {m : MsgD} (h : deafD c m = false) : (c.does != 0) = true ∧ (m.kind != 7) = false ∧ (m.«to» != c.id) = false ∧ (m.frm < 1) = False ∧ (c.conf.nodes < m.frm) = False ∧ (m.c != c.request) = false := by
  unfold deafD at h
  simp only [Bool.or_eq_false_iff, decide_eq_false_iff_not] at h
  obtain ⟨⟨⟨⟨⟨h0, h1⟩, h2⟩, h3⟩, h4⟩, h5⟩ := h
  exact ⟨by simpa using h0, h1, h2, eq_false h3, eq_false h4, h5⟩

set_option maxRecDepth 100000 in
set_option maxHeartbeats 16000000 in
theorem clHear_deaf (w : World) (n : Nat) (Q : Nat → Prop) (c : CliD) (dv fv : Value) (m : MsgD) (ea da : Option Addr) (el ec dc : Nat) (h : CliAt w n Q c dv fv) (hd : deafD c m = true) :
    Calls Tryd.prog 32 #[.pointer (some ⟨n, 0, none⟩), msgV m (.slice ea el ec) (.slice da m.data.length dc)] w (ToldPost n Q (chearD c m) w) := by
  have H := hid h
  have HO : Hid (chearD c m = (c, [], false)) := if_pos hd
  have HB := hid (fun w1 (k : Keeps [] w w1) => clBusy_any (h.k k))
  have x0 : w.cell? ⟨n, 0, none⟩ = some (.int .i64 c.conf.nodes) := h.cell 0
  have x9 : w.cell? ⟨n, 9, none⟩ = some (.int .i64 c.id) := h.cell 9
  have x13 : w.cell? ⟨n, 13, none⟩ = some (.int .i64 c.request) := h.cell 13
  have hlt := h.lt
  unfold msgV
  clear h
  have hc := deaf_cases hd
  clear hd
  obtain ⟨bz, hbz⟩ : ∃ b, (c.does != 0) = b := ⟨_, rfl⟩
  rw [hbz] at HB hc
  clear hbz
  rcases hc with rfl | ⟨rfl, h1 | ⟨h1, h2 | ⟨h2, h3 | ⟨h3, h4 | ⟨h4, h5⟩⟩⟩⟩⟩
  all_goals
    go_enter Tryd.func32, Tryd.ntmps32
    go_wp2_with fail
    refine Plan.wp_region_plan (fun wx => (wx.cell? ⟨w.heap.size, 0, none⟩ = some (.int .i64 m.kind) ∧ wx.cell? ⟨w.heap.size, 1, none⟩ = some (.int .i64 m.frm) ∧ wx.cell? ⟨w.heap.size, 2, none⟩ = some (.int .i64 m.«to») ∧ wx.cell? ⟨w.heap.size, 6, none⟩ = some (.int .i64 m.c)) ∧ wx.cell? ⟨n, 0, none⟩ = some (.int .i64 c.conf.nodes) ∧ wx.cell? ⟨n, 9, none⟩ = some (.int .i64 c.id) ∧ wx.cell? ⟨n, 13, none⟩ = some (.int .i64 c.request)) 39 [(true, 0), (false, 1), (true, 2), (true, 3), (true, 4), (true, 5), (true, 6), (true, 7), (true, 8), (true, 9), (true, 10), (true, 11), (true, 12), (true, 13), (true, 14), (true, 15), (true, 16), (true, 17), (true, 18), (true, 19), (true, 20), (true, 21), (true, 22), (true, 23), (true, 24), (true, 25), (true, 26), (true, 27), (true, 28), (true, 29), (true, 30), (true, 31), (true, 32), (true, 33), (true, 34), (true, 35), (true, 36), (true, 37), (true, 38)] (by kernel_rfl) (by as_aux_lemma => kernel_rfl) (by kernel_rfl) (fun _ _ _ _ _ h => h) ?_ (fun hS => ?_)
    (· go_simp)
    simp only [Plan.pick, List.append_eq, List.cons_append, List.nil_append, Plan.g1, Plan.g2, Option.getD_some, List.drop_succ_cons, List.drop_zero]
    iterate 1 (first | refine Plan.tA ?_ | refine Plan.tY ?_ | refine Plan.pN ?_ | refine Plan.pU ?_ | fail)
    refine Plan.step ?_
    go_wp2_with fail
    refine (HB.out _ (by exact Keeps.K)).mono ?_
    rintro e w2 ⟨rfl, hk⟩
    have y0 : w2.cell? ⟨w.heap.size, 0, none⟩ = some (.int .i64 m.kind) := hk.cellSome (by go_simp) (by simp)
    have y1 : w2.cell? ⟨w.heap.size, 1, none⟩ = some (.int .i64 m.frm) := hk.cellSome (by go_simp) (by simp)
    have y2 : w2.cell? ⟨w.heap.size, 2, none⟩ = some (.int .i64 m.«to») := hk.cellSome (by go_simp) (by simp)
    have y6 : w2.cell? ⟨w.heap.size, 6, none⟩ = some (.int .i64 m.c) := hk.cellSome (by go_simp) (by simp)
    have z0 : w2.cell? ⟨n, 0, none⟩ = some (.int .i64 c.conf.nodes) := hk.cellSome (by go_simp) (by simp)
    have z9 : w2.cell? ⟨n, 9, none⟩ = some (.int .i64 c.id) := hk.cellSome (by go_simp) (by simp)
    have z13 : w2.cell? ⟨n, 13, none⟩ = some (.int .i64 c.request) := hk.cellSome (by go_simp) (by simp)
    have K2 : Hid (Keeps [] w w2) := Keeps.trans (G := []) (by exact Keeps.K) hk (fun _ _ h => h)
    clear hk hS
    go_wp2_with fail
    refine ⟨?_, ?_⟩
    (· go_simp)
    iterate 37 (first | refine Plan.tA ?_ | refine Plan.tY ?_ | refine Plan.pN ?_ | refine Plan.pU ?_ | fail)
    refine Plan.fin ?_
    go_wp2_with fail
    refine bodyPost_ret (v := .tuple #[.slice none 0 0, .bool false]) (by simp [results, Tryd.results32, go_sem]) rfl ?_
    rw [HO.out]
    exact ⟨_, rfl, CliPost.silent (H.out.k K2.out) (K2.out.mono (fun _ _ h => by cases h))⟩

end Go.Proofs.YtbbdmmhpbeleoaaDoor

/- The plan as a tree: where two operations may come up, both ways are walked. No program is named here. -/
namespace Go.Proofs.YtbbdmmhpbeleoaaDoor.Plan
open Go

inductive PT where
  | fin
  | take (i : Nat) (t : PT)
  | step (i : Nat) (t : PT)
  | fork (i j : Nat) (t u : PT)
def PT.len : PT → Nat
  | .fin => 0
  | .take _ t => t.len + 1
  | .step _ t => t.len + 1
  | .fork _ _ t _ => t.len + 1

section
variable {P : Program} {ops : Array Oper} {Q : Exit → Act → World → Prop} {md : Region.Mode} {S : World → Prop}

def treeB (md : Region.Mode) (ops : Array Oper) (n g : Nat) : PT → Array Bool → Bool
  | .fin, listed => Region.seqB md ops g n listed
  | .take i t, listed => decide (i < n) && (Region.ready md ops listed).contains i && Region.free md ops listed i && treeB md ops n g t (listed.setIfInBounds i true)
  | .step i t, listed => decide (i < n) && decide (Region.ready md ops listed = [i]) && treeB md ops n g t (listed.setIfInBounds i true)
  | .fork i j t u, listed => decide (i < n) && decide (j < n) && decide (Region.ready md ops listed = [i, j]) && decide (t.len = u.len) && treeB md ops n g t (listed.setIfInBounds i true) && treeB md ops n g u (listed.setIfInBounds j true)

def wpTree (P : Program) (ops : Array Oper) (Q : Exit → Act → World → Prop) (S : World → Prop) (L : Act → World → Prop) : PT → Act → World → Prop
  | .fin, a, w => L a w
  | .take i t, a, w => ∃ oi v, ops[i]? = some oi ∧ YieldsIf P ops S oi v a ∧ wpTree P ops Q S L t (a.put oi.dst v) w
  | .step i t, a, w => wpOp P ops Q i (fun a' w' => S w' ∧ wpTree P ops Q S L t a' w') a w
  | .fork i j t u, a, w => wpOp P ops Q i (fun a' w' => S w' ∧ wpTree P ops Q S L t a' w') a w ∧ wpOp P ops Q j (fun a' w' => S w' ∧ wpTree P ops Q S L u a' w') a w

theorem wpAnyT_of_tree {n g : Nat} {Lq : Act → World → Prop} (hsel : Region.noSelect ops = true) (hb : n = ops.size ∨ (Region.sinkB md ops n = true ∧ Region.chainB md ops n = true ∧ n < ops.size))
    (hQ : ∀ c a d v w, Q (.panic c) (Act.put a (some d) v) w → Q (.panic c) a w) :
    ∀ (t : PT) (listed : Array Bool) (a : Act) (w : World), HeadInv md ops n listed → treeB md ops n g t listed = true → S w → wpTree P ops Q S Lq t a w →
      wpAnyT P md ops Q S n (fun listed' a' w' => Region.seqB md ops g n listed' = true ∧ Lq a' w') t.len listed a w
  | .fin, listed, a, w, inv, hB, hS, h => ⟨by simpa [treeB] using hB, h⟩
  | .take i t, listed, a, w, inv, hB, hS, h => by
    simp only [treeB, Bool.and_eq_true, decide_eq_true_eq] at hB
    obtain ⟨⟨⟨hin, hr⟩, hf⟩, hB'⟩ := hB
    obtain ⟨oi, v, hoi, hy, hK⟩ := h
    have hr' : i ∈ Region.ready md ops listed := by simpa using hr
    exact wpAnyT_first hoi (Region.noSelect_spec hsel) hb hin (fun listed' a' w' hL => seqB_ready hL.1) (fun c a w h => by cases hd : oi.dst with | none => rw [hd] at h; exact h | some d => rw [hd] at h; exact hQ c a d _ w h) t.len listed a w inv (Region.free_spec hoi hf) hr' hy hS
      (wpAnyT_of_tree hsel hb hQ t _ _ w (inv.set hr' hin) hB' hS hK)
  | .step i t, listed, a, w, inv, hB, hS, h => by
    simp only [treeB, Bool.and_eq_true, decide_eq_true_eq] at hB
    obtain ⟨⟨hin, hr⟩, hB'⟩ := hB
    have hr' : i ∈ Region.ready md ops listed := by rw [hr]; simp
    refine ⟨fun h0 => (by rw [h0] at hr'; cases hr'), fun j hj => ?_⟩
    rw [hr] at hj
    have hji : j = i := by simpa using hj
    subst hji
    exact ⟨hin, wpOp_mono (fun a' w' h3 => ⟨h3.1, wpAnyT_of_tree hsel hb hQ t _ a' w' (inv.set hr' hin) hB' h3.1 h3.2⟩) h⟩
  | .fork i j t u, listed, a, w, inv, hB, hS, h => by
    simp only [treeB, Bool.and_eq_true, decide_eq_true_eq] at hB
    obtain ⟨⟨⟨⟨⟨hin, hjn⟩, hr⟩, hlen⟩, hB1⟩, hB2⟩ := hB
    have hri : i ∈ Region.ready md ops listed := by rw [hr]; simp
    have hrj : j ∈ Region.ready md ops listed := by rw [hr]; simp
    refine ⟨fun h0 => (by rw [h0] at hri; cases hri), fun k hk => ?_⟩
    rw [hr] at hk
    simp only [List.mem_cons, List.not_mem_nil, or_false] at hk
    rcases hk with rfl | rfl
    · exact ⟨hin, wpOp_mono (fun a' w' h3 => ⟨h3.1, wpAnyT_of_tree hsel hb hQ t _ a' w' (inv.set hri hin) hB1 h3.1 h3.2⟩) h.1⟩
    · refine ⟨hjn, wpOp_mono (fun a' w' h3 => ⟨h3.1, ?_⟩) h.2⟩
      have := wpAnyT_of_tree hsel hb hQ u _ a' w' (inv.set hrj hjn) hB2 h3.1 h3.2
      rw [← hlen] at this
      exact this

def goodT (md : Region.Mode) (ops : Array Oper) (n : Nat) (t : PT) : Bool :=
  Region.noSelect ops && (decide (n = ops.size) || (decide (n < ops.size) && Region.sinkB md ops n && Region.chainB md ops n)) && decide (t.len = n) && treeB md ops n (ops.size - n) t (Array.replicate ops.size false)

/-- The tree with its operations written out. -/
inductive OT where
  | fin
  | take (o : Oper) (t : OT)
  | step (o : Oper) (t : OT)
  | fork (o o' : Oper) (t u : OT)
def pickT (l : List Oper) : PT → OT
  | .fin => .fin
  | .take i t => .take ((l[i]?).getD ⟨none, .ready 0, 0, "", #[], none⟩) (pickT l t)
  | .step i t => .step ((l[i]?).getD ⟨none, .ready 0, 0, "", #[], none⟩) (pickT l t)
  | .fork i j t u => .fork ((l[i]?).getD ⟨none, .ready 0, 0, "", #[], none⟩) ((l[j]?).getD ⟨none, .ready 0, 0, "", #[], none⟩) (pickT l t) (pickT l u)
def inT (n : Nat) : PT → Bool
  | .fin => true
  | .take i t => decide (i < n) && inT n t
  | .step i t => decide (i < n) && inT n t
  | .fork i j t u => decide (i < n) && decide (j < n) && inT n t && inT n u
def wpOT (P : Program) (ops : Array Oper) (Q : Exit → Act → World → Prop) (S : World → Prop) (L : Act → World → Prop) : OT → Act → World → Prop
  | .fin, a, w => L a w
  | .take o t, a, w => ∃ v, YieldsIf P ops S o v a ∧ wpOT P ops Q S L t (a.put o.dst v) w
  | .step o t, a, w => wpList P ops (PlanPost Q (fun a w => S w ∧ wpOT P ops Q S L t a w)) [o] a w
  | .fork o o' t u, a, w => wpList P ops (PlanPost Q (fun a w => S w ∧ wpOT P ops Q S L t a w)) [o] a w ∧ wpList P ops (PlanPost Q (fun a w => S w ∧ wpOT P ops Q S L u a w)) [o'] a w

theorem wpOp_of_list {l : List Oper} {i : Nat} {K C : Act → World → Prop} (hi : i < l.length) (hK : ∀ a w, C a w → K a w) {a : Act} {w : World} (h : wpList P l.toArray (PlanPost Q C) [(l[i]?).getD ⟨none, .ready 0, 0, "", #[], none⟩] a w) : wpOp P l.toArray Q i K a w := by
  have ho : l[i]? = some l[i] := List.getElem?_eq_getElem hi
  have ho' : l.toArray[i]? = some l[i] := by simp
  simp only [ho, Option.getD_some, wpList] at h
  unfold wpOp
  simp only [ho']
  split
  · rename_i hw
    rw [if_pos hw] at h
    exact h.imp (fun h => Oper.wp_mono (fun a' w' h' => hK a' w' h') (Oper.wp_planPost h)) (fun h => h)
  · rename_i hw
    rw [if_neg hw] at h
    exact hK _ _ h

theorem wpTree_of_OT {l : List Oper} {L : Act → World → Prop} : ∀ (t : PT) (a : Act) (w : World), inT l.length t = true → wpOT P l.toArray Q S L (pickT l t) a w → wpTree P l.toArray Q S L t a w
  | .fin, _, _, _, h => h
  | .take i t, a, w, hB, h => by
    simp only [inT, Bool.and_eq_true, decide_eq_true_eq] at hB
    have ho : l[i]? = some l[i] := List.getElem?_eq_getElem hB.1
    simp only [pickT, ho, Option.getD_some, wpOT] at h
    obtain ⟨v, hy, hK⟩ := h
    exact ⟨l[i], v, by simp, hy, wpTree_of_OT t _ w hB.2 hK⟩
  | .step i t, a, w, hB, h => by
    simp only [inT, Bool.and_eq_true, decide_eq_true_eq] at hB
    exact wpOp_of_list hB.1 (fun a' w' h' => ⟨h'.1, wpTree_of_OT t a' w' hB.2 h'.2⟩) h
  | .fork i j t u, a, w, hB, h => by
    simp only [inT, Bool.and_eq_true, decide_eq_true_eq] at hB
    exact ⟨wpOp_of_list hB.1.1.1 (fun a' w' h' => ⟨h'.1, wpTree_of_OT t a' w' hB.1.2 h'.2⟩) h.1, wpOp_of_list hB.1.1.2 (fun a' w' h' => ⟨h'.1, wpTree_of_OT u a' w' hB.2 h'.2⟩) h.2⟩

/-- THE LAW. -/
theorem wp_region_tree {id : Nat} {a : Act} {w : World} {l : List Oper} (S : World → Prop) (n : Nat) (t : PT) (hm : P.follows .mixedOrders = true) (hB : goodT .any l.toArray n t = true) (hI : inT l.length t = true)
    (hQ : ∀ c a d v w, Q (.panic c) (Act.put a (some d) v) w → Q (.panic c) a w) (hS : S w.drew)
    (h : S w.drew → wpOT P l.toArray Q S (wpList P l.toArray Q (l.drop n)) (pickT l t) a w.drew) : (Code.region id l.toArray true).wp P Q a w := by
  simp only [goodT, Bool.and_eq_true, Bool.or_eq_true, decide_eq_true_eq] at hB
  obtain ⟨⟨⟨hsel, hb⟩, hlen⟩, hpl⟩ := hB
  have hb' : n = l.toArray.size ∨ (Region.sinkB .any l.toArray n = true ∧ Region.chainB .any l.toArray n = true ∧ n < l.toArray.size) := hb.imp (fun h => h) fun h => ⟨h.1.2, h.2, h.1.1⟩
  have hn : n ≤ l.toArray.size := by rcases hb' with h | h <;> omega
  have hn' : n ≤ l.length := by simpa using hn
  have hdl : (l.drop n).length = l.toArray.size - n := by simp
  have inv0 : HeadInv .any l.toArray n (Array.replicate l.toArray.size false) :=
    ⟨by simp, fun j oj _ hl => (by rw [getD_replicate_false] at hl; cases hl), fun t _ ht => getD_in (by simpa using ht) (getD_replicate_false _ _)⟩
  have H := wpAnyT_of_tree (md := .any) (g := l.toArray.size - n) hsel hb' hQ t _ a w.drew inv0 hpl hS (wpTree_of_OT t a w.drew hI (h hS))
  refine wp_region_any hm ?_
  have := wpAny_of_T (Q := Q) (g := l.toArray.size - n) (fun listed a' w' hL => by
    have := wpAny_of_seq (md := .any) (Q' := Q) (l.drop n) n listed a' w' (fun j => by simp [List.getElem?_drop]) (by rw [hdl]; exact hL.1) hL.2
    rwa [hdl] at this) _ _ _ _ H
  rw [hlen, show n + (l.toArray.size - n) = l.toArray.size by omega] at this
  exact this

theorem takeT {L : Act → World → Prop} {o : Oper} {v : Value} {r : OT} {a a' : Act} {w : World} (hw : Region.wanted o (yielded ops a.tmps) = true)
    (hy : ∀ w, S w → (execOp a.eval o).run P w = .ok (.value v) w) (hput : a.put o.dst v = a') (h : wpOT P ops Q S L r a' w) : wpOT P ops Q S L (.take o r) a w := ⟨v, .inl ⟨hw, hy⟩, hput ▸ h⟩
theorem stepT {L : Act → World → Prop} {o : Oper} {r : OT} {a : Act} {w : World}
    (h : wpList P ops (PlanPost Q (fun a w => S w ∧ wpOT P ops Q S L r a w)) [o] a w) : wpOT P ops Q S L (.step o r) a w := h
theorem forkT {L : Act → World → Prop} {o o' : Oper} {r s : OT} {a : Act} {w : World}
    (h : wpList P ops (PlanPost Q (fun a w => S w ∧ wpOT P ops Q S L r a w)) [o] a w) (g : wpList P ops (PlanPost Q (fun a w => S w ∧ wpOT P ops Q S L s a w)) [o'] a w) : wpOT P ops Q S L (.fork o o' r s) a w := ⟨h, g⟩
theorem finT {L : Act → World → Prop} {a : Act} {w : World} (h : L a w) : wpOT P ops Q S L .fin a w := h
end
end Go.Proofs.YtbbdmmhpbeleoaaDoor.Plan
