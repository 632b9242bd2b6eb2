/- Joined of ClF, ClG. -/
import Derived.Test.YtnjdepojmnniaaaGreatDoorQ32

set_option linter.unusedSimpArgs false
set_option linter.unusedVariables false

/- The closures; Call, Tick of the client. -/
namespace Go.Proofs.YtnjdepojmnniaaaGreatDoor
open Go Go.RowKit

set_option maxRecDepth 100000 in
set_option maxHeartbeats 4000000 in
theorem clAsk1_any (w : World) (n g : Nat) (Q : Nat → Prop) (c : CliD) (dv fv : Value) (r : ReplyD) (hg : w.heap[g]? = some (.cells #[.pointer (some ⟨n, 0, none⟩)] 26 (0, 0))) (h : CliAt w n Q c dv fv) (ha : 0 ≤ c.request ∧ c.request ≤ 1099511627776) (hc : CmdW c.call) (hn : r.n ≤ 1099511627776) (hQ : ∀ b, w.heap.size ≤ b → Q b) :
    Calls Tryz.prog 37 #[replyV r, .pointer (some ⟨g, 0, none⟩)] w (ToldPost n Q (openedD c r) w) := by
  obtain ⟨er, nn, rk, rn, rs⟩ := r
  have HC := hid (fun w1 (k : Keeps [] w w1) => clOpened_any w1 n Q c dv fv ⟨er, nn, rk, rn, rs⟩ (h.k k) ha hc hn (fun b hb => hQ b (Nat.le_trans k.size hb)))
  have g0 : w.cell? ⟨g, 0, none⟩ = some (.pointer (some ⟨n, 0, none⟩)) := cell_of_block hg 0
  have hgl : g < w.heap.size := (Array.getElem?_eq_some_iff.1 hg).1
  unfold replyV at HC ⊢
  dsimp only at HC ⊢
  clear h ha hc hn hQ hg
  go_enter Tryz.func37, Tryz.ntmps37
  go_wp2_with fail
  refine (HC.out _ (by exact Keeps.K)).mono ?_
  obtain ⟨⟨c', l', b'⟩, hr⟩ : ∃ x, openedD c ⟨er, nn, rk, rn, rs⟩ = x := ⟨_, rfl⟩
  rw [hr]
  have HR := hid hr
  clear hr HC
  rintro e w6 ⟨v, rfl, a6, q6, dv6, fv6, rfl, h6, h7, h8⟩
  dsimp only at h6 h7 h8 ⊢
  have HP : Hid (CliPost n Q c' l' w (.slice a6 l'.length q6) w6) := CliPost.from ⟨a6, q6, dv6, fv6, rfl, h6, h7, h8⟩ ((Keeps.refl _ _).trans (G := []) (by exact Keeps.K) (fun _ _ h => by cases h))
  clear h6 h7 h8
  go_wp2_with fail
  refine bodyPost_ret (v := .tuple #[.slice a6 l'.length q6, .bool b']) (by simp [results, Tryz.results37, go_sem]) rfl ?_
  rw [HR.out]
  exact ⟨_, rfl, HP.out⟩

set_option maxRecDepth 100000 in
set_option maxHeartbeats 4000000 in
theorem clAsk2_any (w : World) (n g : Nat) (Q : Nat → Prop) (c : CliD) (dv fv : Value) (r : ReplyD) (hg : w.heap[g]? = some (.cells #[.pointer (some ⟨n, 0, none⟩)] 26 (0, 0))) (h : CliAt w n Q c dv fv) :
    Calls Tryz.prog 39 #[replyV r, .pointer (some ⟨g, 0, none⟩)] w (ToldPost n Q (overD c r) w) := by
  obtain ⟨er, nn, rk, rn, rs⟩ := r
  have HC := hid (fun w1 (k : Keeps [] w w1) => clOver_any w1 n Q c dv fv ⟨er, nn, rk, rn, rs⟩ (h.k k))
  have g0 : w.cell? ⟨g, 0, none⟩ = some (.pointer (some ⟨n, 0, none⟩)) := cell_of_block hg 0
  have hgl : g < w.heap.size := (Array.getElem?_eq_some_iff.1 hg).1
  unfold replyV at HC ⊢
  dsimp only at HC ⊢
  clear h hg
  go_enter Tryz.func39, Tryz.ntmps39
  go_wp2_with fail
  refine (HC.out _ (by exact Keeps.K)).mono ?_
  obtain ⟨⟨c', l', b'⟩, hr⟩ : ∃ x, overD c ⟨er, nn, rk, rn, rs⟩ = x := ⟨_, rfl⟩
  rw [hr]
  have HR := hid hr
  clear hr HC
  rintro e w6 ⟨v, rfl, a6, q6, dv6, fv6, rfl, h6, h7, h8⟩
  dsimp only at h6 h7 h8 ⊢
  have HP : Hid (CliPost n Q c' l' w (.slice a6 l'.length q6) w6) := CliPost.from ⟨a6, q6, dv6, fv6, rfl, h6, h7, h8⟩ ((Keeps.refl _ _).trans (G := []) (by exact Keeps.K) (fun _ _ h => by cases h))
  clear h6 h7 h8
  go_wp2_with fail
  refine bodyPost_ret (v := .tuple #[.slice a6 l'.length q6, .bool b']) (by simp [results, Tryz.results39, go_sem]) rfl ?_
  rw [HR.out]
  exact ⟨_, rfl, HP.out⟩

theorem checkC_w {c : CmdD} (h : checkC c = true) (hi : CmdI c) : CmdW c := by
  have hz : (⟨#[]⟩ : ByteArray).size ≤ 1000000 := by show (0 : Nat) ≤ _; decide
  rcases checkC_kinds h with ⟨-, e⟩ | ⟨h1, h2, h3, h4, h5, h6⟩ | ⟨h1, h2, h3, e⟩ | ⟨h1, h2, h3, h4, e⟩
  · exact ⟨hi.kind, hi.session, hi.seq, hi.version, hi.vkind, hi.vn, by rw [e]; exact hz, by rw [e]; exact hz⟩
  · have := nameD_small h4
    have := checkD_small h6
    exact ⟨hi.kind, hi.session, hi.seq, hi.version, hi.vkind, hi.vn, by omega, by omega⟩
  · exact ⟨hi.kind, hi.session, hi.seq, hi.version, hi.vkind, hi.vn, by rw [e]; exact hz, by rw [e]; exact hz⟩
  · have := nameD_small h4
    exact ⟨hi.kind, hi.session, hi.seq, hi.version, hi.vkind, hi.vn, by omega, by rw [e]; exact hz⟩

def CalledPost (n : Nat) (Q : Nat → Prop) (r : CliD × List MsgD × Int) (w : World) (e : Ending) (w' : World) : Prop :=
  ∃ v, e = .returned (.tuple #[v, .int .i64 r.2.2]) ∧ CliPost n Q r.1 r.2.1 w v w'

set_option maxRecDepth 100000 in
set_option maxHeartbeats 8000000 in
theorem clCall_any (w : World) (n : Nat) (Q : Nat → Prop) (c : CliD) (dv fv : Value) (x : CmdD) (hT : Tabs w) (hE : Errs w) (h : CliAt w n Q c dv fv) (hr : 0 ≤ c.request) (hs : c.session ≤ 1099511627776) (hq : 0 ≤ c.seq) (hx : CmdI x) (hz : x.value.s.size ≤ 1000000) (hQ : ∀ b, w.heap.size ≤ b → Q b) :
    Calls Tryz.prog 9 #[.pointer (some ⟨n, 0, none⟩), cmdV x] w (CalledPost n Q (callD c x) w) := by
  obtain ⟨kd, se, sq, fd, vr, vk, vn, vs⟩ := x
  have HX : Hid (CmdI ⟨kd, 1, 1, fd, vr, vk, vn, vs⟩) := ⟨hx.kind, (show I64 1 by constructor <;> decide), (show I64 1 by constructor <;> decide), hx.version, hx.vkind, hx.vn⟩
  have HT := hid hT
  have HE := hid hE
  have H := hid h
  have HQ := hid hQ
  have HB := hid (fun w1 (k : Keeps [] w w1) => clBusy_any (h.k k))
  have HCK := hid (fun w1 h1 h2 => cmCheck_any ⟨kd, 1, 1, fd, vr, vk, vn, vs⟩ w1 h1 h2 (Nat.le_trans hz (by decide)))
  unfold cmdV at HCK ⊢
  dsimp only at HCK ⊢
  clear hT hE hx hz hQ
  by_cases hd : c.does = 0
  · have HB0 := hid (fun w1 (k : Keeps [] w w1) => by have := HB.out w1 k; rw [hd] at this; exact this)
    clear HB
    by_cases k1 : kd = 1
    · subst k1
      have HO : Hid (callD c ⟨1, se, sq, fd, vr, vk, vn, vs⟩ = (c, [], 1)) := by
        show _ = _
        unfold callD
        rw [if_neg (by simp [hd]), if_pos (.inl rfl)]
      clear h hd
      go_enter Tryz.func9, Tryz.ntmps9
      go_wp2_with fail
      refine (HB0.out _ (by exact Keeps.K)).mono ?_
      rintro e w2 ⟨rfl, hk⟩
      have y0 : w2.cell? ⟨w.heap.size, 0, none⟩ = some (.int .i64 1) := hk.cellSome (by go_simp) (by simp)
      have K2 : Hid (Keeps [] w w2) := Keeps.trans (G := []) (by exact Keeps.K) hk (fun _ _ h => h)
      clear hk
      go_wp2_with fail
      refine bodyPost_ret (v := .tuple #[.slice none 0 0, .int .i64 1]) (by simp [results, Tryz.results9, go_sem]) rfl ?_
      rw [HO.out]
      exact ⟨_, rfl, CliPost.silent (H.out.k K2.out) (K2.out.mono (fun _ _ h => by cases h))⟩
    · have n1 : (kd == 1) = false := by simpa using k1
      obtain ⟨cc, hcc⟩ : ∃ cc, checkC ⟨kd, 1, 1, fd, vr, vk, vn, vs⟩ = cc := ⟨_, rfl⟩
      rw [hcc] at HCK
      rcases cc with _ | _
      · have HO : Hid (callD c ⟨kd, se, sq, fd, vr, vk, vn, vs⟩ = (c, [], 1)) := by
          show _ = _
          unfold callD
          rw [if_neg (by simp [hd]), if_pos (.inr hcc)]
        clear h hd k1 hcc
        go_enter Tryz.func9, Tryz.ntmps9
        go_wp2_with fail
        refine (HB0.out _ (by exact Keeps.K)).mono ?_
        rintro e w2 ⟨rfl, hk⟩
        have y0 : w2.cell? ⟨w.heap.size, 0, none⟩ = some (.int .i64 kd) := hk.cellSome (by go_simp) (by simp)
        have y1 : w2.cell? ⟨w.heap.size, 1, none⟩ = some (.int .i64 1) := hk.cellSome (by go_simp) (by simp)
        have y2 : w2.cell? ⟨w.heap.size, 2, none⟩ = some (.int .i64 1) := hk.cellSome (by go_simp) (by simp)
        have y3 : w2.cell? ⟨w.heap.size, 3, none⟩ = some (.string fd) := hk.cellSome (by go_simp) (by simp)
        have y4 : w2.cell? ⟨w.heap.size, 4, none⟩ = some (.int .i64 vr) := hk.cellSome (by go_simp) (by simp)
        have y5 : w2.cell? ⟨w.heap.size, 5, none⟩ = some (.int .i64 vk) := hk.cellSome (by go_simp) (by simp)
        have y6 : w2.cell? ⟨w.heap.size, 6, none⟩ = some (.int .i64 vn) := hk.cellSome (by go_simp) (by simp)
        have y7 : w2.cell? ⟨w.heap.size, 7, none⟩ = some (.string vs) := hk.cellSome (by go_simp) (by simp)
        have K2 : Hid (Keeps [] w w2) := Keeps.trans (G := []) (by exact Keeps.K) hk (fun _ _ h => h)
        clear hk
        go_wp2_with fail
        refine (HCK.out _ (HT.out.k K2.out) (HE.out.k K2.out)).mono ?_
        rintro e w3 ⟨rfl, hk⟩
        have K3 : Hid (Keeps [] w w3) := K2.out.trans hk (fun _ _ h => h)
        clear hk
        go_wp2_with fail
        refine bodyPost_ret (v := .tuple #[.slice none 0 0, .int .i64 1]) (by simp [results, Tryz.results9, go_sem]) rfl ?_
        rw [HO.out]
        exact ⟨_, rfl, CliPost.silent (H.out.k K3.out) (K3.out.mono (fun _ _ h => by cases h))⟩
      · have HW : Hid (CmdW ⟨kd, 1, 1, fd, vr, vk, vn, vs⟩) := checkC_w hcc HX.out
        have HO2 : Hid (1099511627775 ≤ c.seq ∨ 1099511627775 ≤ c.request → callD c ⟨kd, se, sq, fd, vr, vk, vn, vs⟩ = (c, [], 2)) := fun hb => by
          unfold callD
          rw [if_neg (by simp [hd]), if_neg (by intro h; rcases h with h | h; exact k1 h; rw [hcc] at h; cases h), if_pos hb]
        have HO3 : Hid (¬ (1099511627775 ≤ c.seq ∨ 1099511627775 ≤ c.request) → callD c ⟨kd, se, sq, fd, vr, vk, vn, vs⟩ = ((cAskD { c with call := ⟨kd, 1, 1, fd, vr, vk, vn, vs⟩ }).1, (cAskD { c with call := ⟨kd, 1, 1, fd, vr, vk, vn, vs⟩ }).2, 0)) := fun hb => by
          unfold callD
          rw [if_neg (by simp [hd]), if_neg (by intro h; rcases h with h | h; exact k1 h; rw [hcc] at h; cases h), if_neg hb]
        clear h hd k1 hcc
        go_enter Tryz.func9, Tryz.ntmps9
        go_wp2_with fail
        refine (HB0.out _ (by exact Keeps.K)).mono ?_
        rintro e w2 ⟨rfl, hk⟩
        have y0 : w2.cell? ⟨w.heap.size, 0, none⟩ = some (.int .i64 kd) := hk.cellSome (by go_simp) (by simp)
        have y1 : w2.cell? ⟨w.heap.size, 1, none⟩ = some (.int .i64 1) := hk.cellSome (by go_simp) (by simp)
        have y2 : w2.cell? ⟨w.heap.size, 2, none⟩ = some (.int .i64 1) := hk.cellSome (by go_simp) (by simp)
        have y3 : w2.cell? ⟨w.heap.size, 3, none⟩ = some (.string fd) := hk.cellSome (by go_simp) (by simp)
        have y4 : w2.cell? ⟨w.heap.size, 4, none⟩ = some (.int .i64 vr) := hk.cellSome (by go_simp) (by simp)
        have y5 : w2.cell? ⟨w.heap.size, 5, none⟩ = some (.int .i64 vk) := hk.cellSome (by go_simp) (by simp)
        have y6 : w2.cell? ⟨w.heap.size, 6, none⟩ = some (.int .i64 vn) := hk.cellSome (by go_simp) (by simp)
        have y7 : w2.cell? ⟨w.heap.size, 7, none⟩ = some (.string vs) := hk.cellSome (by go_simp) (by simp)
        have K2 : Hid (Keeps [] w w2) := Keeps.trans (G := []) (by exact Keeps.K) hk (fun _ _ h => h)
        have hz2 : w.heap.size < w2.heap.size := by have := hk.size; simp at this; omega
        clear hk
        go_wp2_with fail
        refine (HCK.out _ (HT.out.k K2.out) (HE.out.k K2.out)).mono ?_
        rintro e w3 ⟨rfl, hk⟩
        have z0 : w3.cell? ⟨w.heap.size, 0, none⟩ = some (.int .i64 kd) := hk.cellSome y0 (by simp)
        have z1 : w3.cell? ⟨w.heap.size, 1, none⟩ = some (.int .i64 1) := hk.cellSome y1 (by simp)
        have z2 : w3.cell? ⟨w.heap.size, 2, none⟩ = some (.int .i64 1) := hk.cellSome y2 (by simp)
        have z3 : w3.cell? ⟨w.heap.size, 3, none⟩ = some (.string fd) := hk.cellSome y3 (by simp)
        have z4 : w3.cell? ⟨w.heap.size, 4, none⟩ = some (.int .i64 vr) := hk.cellSome y4 (by simp)
        have z5 : w3.cell? ⟨w.heap.size, 5, none⟩ = some (.int .i64 vk) := hk.cellSome y5 (by simp)
        have z6 : w3.cell? ⟨w.heap.size, 6, none⟩ = some (.int .i64 vn) := hk.cellSome y6 (by simp)
        have z7 : w3.cell? ⟨w.heap.size, 7, none⟩ = some (.string vs) := hk.cellSome y7 (by simp)
        have K3 : Hid (Keeps [] w w3) := K2.out.trans hk (fun _ _ h => h)
        clear hk y0 y1 y2 y3 y4 y5 y6 y7
        have H3 := hid (H.out.k K3.out)
        have x12 : w3.cell? ⟨n, 12, none⟩ = some (.int .i64 c.seq) := H3.out.cell 12
        have x13 : w3.cell? ⟨n, 13, none⟩ = some (.int .i64 c.request) := H3.out.cell 13
        by_cases hb : 1099511627775 ≤ c.seq ∨ 1099511627775 ≤ c.request
        · have HO := hid (HO2.out hb)
          have hb' : 1099511627775 ≤ c.seq ∨ (¬ 1099511627775 ≤ c.seq ∧ 1099511627775 ≤ c.request) := by omega
          clear hb HO2 HO3
          rcases hb' with h1 | ⟨h1, h2⟩
          all_goals
            go_wp2_with fail
            refine bodyPost_ret (v := .tuple #[.slice none 0 0, .int .i64 2]) (by simp [results, Tryz.results9, go_sem]) rfl ?_
            rw [HO.out]
            exact ⟨_, rfl, CliPost.silent H3.out (K3.out.mono (fun _ _ h => by cases h))⟩
        · have HO := hid (HO3.out hb)
          have h1 : ¬ 1099511627775 ≤ c.seq := by omega
          have h2 : ¬ 1099511627775 ≤ c.request := by omega
          have hA : AskOk { c with call := ⟨kd, 1, 1, fd, vr, vk, vn, vs⟩ } := ⟨⟨hr, (show c.request ≤ _ by omega)⟩, hs, ⟨hq, (show c.seq ≤ _ by omega)⟩, HW.out⟩
          have HA := hid hA
          clear hb HO2 HO3 hA
          have f0 : ∀ i, w3.frozen? ⟨n, i, none⟩ = false := H3.out.free
          have x15 : w3.cell? ⟨n, 15, none⟩ = some (.int .i64 c.call.kind) := H3.out.cell 15
          have x16 : w3.cell? ⟨n, 16, none⟩ = some (.int .i64 c.call.session) := H3.out.cell 16
          have x17 : w3.cell? ⟨n, 17, none⟩ = some (.int .i64 c.call.seq) := H3.out.cell 17
          have x18 : w3.cell? ⟨n, 18, none⟩ = some (.string c.call.field) := H3.out.cell 18
          have x19 : w3.cell? ⟨n, 19, none⟩ = some (.int .i64 c.call.version) := H3.out.cell 19
          have x20 : w3.cell? ⟨n, 20, none⟩ = some (.int .i64 c.call.value.kind) := H3.out.cell 20
          have x21 : w3.cell? ⟨n, 21, none⟩ = some (.int .i64 c.call.value.n) := H3.out.cell 21
          have x22 : w3.cell? ⟨n, 22, none⟩ = some (.string c.call.value.s) := H3.out.cell 22
          go_wp2_with fail
          have k1 : Keeps [n] w3 ((((((((w3.setCell ⟨n, 15, none⟩ (.int .i64 kd)).setCell ⟨n, 16, none⟩ (.int .i64 1)).setCell ⟨n, 17, none⟩ (.int .i64 1)).setCell ⟨n, 18, none⟩ (.string fd)).setCell ⟨n, 19, none⟩ (.int .i64 vr)).setCell ⟨n, 20, none⟩ (.int .i64 vk)).setCell ⟨n, 21, none⟩ (.int .i64 vn)).setCell ⟨n, 22, none⟩ (.string vs)) := by exact Keeps.K
          have h1 : CliAt ((((((((w3.setCell ⟨n, 15, none⟩ (.int .i64 kd)).setCell ⟨n, 16, none⟩ (.int .i64 1)).setCell ⟨n, 17, none⟩ (.int .i64 1)).setCell ⟨n, 18, none⟩ (.string fd)).setCell ⟨n, 19, none⟩ (.int .i64 vr)).setCell ⟨n, 20, none⟩ (.int .i64 vk)).setCell ⟨n, 21, none⟩ (.int .i64 vn)).setCell ⟨n, 22, none⟩ (.string vs)) n Q { c with call := ⟨kd, 1, 1, fd, vr, vk, vn, vs⟩ } dv fv := by
            refine H3.out.set k1 ?_ rfl H3.out.ents rfl
            have e := (heap_setCell_same _ _ 22 _ _ (.string vs) (heap_setCell_same _ _ 21 _ _ (.int .i64 vn) (heap_setCell_same _ _ 20 _ _ (.int .i64 vk) (heap_setCell_same _ _ 19 _ _ (.int .i64 vr) (heap_setCell_same _ _ 18 _ _ (.string fd) (heap_setCell_same _ _ 17 _ _ (.int .i64 1) (heap_setCell_same _ _ 16 _ _ (.int .i64 1) (heap_setCell_same _ _ 15 _ _ (.int .i64 kd) H3.out.row))))))))
            unfold cliCells at e ⊢
            simp only [List.setIfInBounds_toArray, List.set_cons_zero, List.set_cons_succ] at e
            exact e
          refine (clAsk_any _ n Q _ dv fv (h1.k (by exact Keeps.K)) HA.out (fun b hb => HQ.out b (by have := K3.out.size; simp at hb; omega))).mono ?_
          rintro e w6 ⟨v, rfl, a6, q6, dv6, fv6, rfl, h6, h7, h8⟩
          have HP : Hid (CliPost n Q (cAskD { c with call := ⟨kd, 1, 1, fd, vr, vk, vn, vs⟩ }).1 (cAskD { c with call := ⟨kd, 1, 1, fd, vr, vk, vn, vs⟩ }).2 w (.slice a6 (cAskD { c with call := ⟨kd, 1, 1, fd, vr, vk, vn, vs⟩ }).2.length q6) w6) := CliPost.from ⟨a6, q6, dv6, fv6, rfl, h6, h7, h8⟩ ((K3.out.mono (fun _ _ h => by cases h)).trans k1 (fun _ _ h => h))
          clear h6 h7 h8 k1 h1
          go_wp2_with fail
          refine bodyPost_ret (v := .tuple #[.slice a6 (cAskD { c with call := ⟨kd, 1, 1, fd, vr, vk, vn, vs⟩ }).2.length q6, .int .i64 0]) (by simp [results, Tryz.results9, go_sem]) rfl ?_
          rw [HO.out]
          exact ⟨_, rfl, HP.out⟩
  · have HO : Hid (callD c ⟨kd, se, sq, fd, vr, vk, vn, vs⟩ = (c, [], 20)) := if_pos hd
    have HB1 : Hid (∀ w1, Keeps [] w w1 → Calls Tryz.prog 21 #[.pointer (some ⟨n, 0, none⟩)] w1 fun e w' => e = .returned (.bool true) ∧ Keeps [] w1 w') := fun w1 k => by
      have := HB.out w1 k
      rw [show (c.does != 0) = true by simpa using hd] at this
      exact this
    clear h hd HB
    go_enter Tryz.func9, Tryz.ntmps9
    go_wp2_with fail
    refine (HB1.out _ (by exact Keeps.K)).mono ?_
    rintro e w2 ⟨rfl, hk⟩
    have K2 : Hid (Keeps [] w w2) := Keeps.trans (G := []) (by exact Keeps.K) hk (fun _ _ h => h)
    clear hk
    go_wp2_with fail
    refine bodyPost_ret (v := .tuple #[.slice none 0 0, .int .i64 20]) (by simp [results, Tryz.results9, go_sem]) rfl ?_
    rw [HO.out]
    exact ⟨_, rfl, CliPost.silent (H.out.k K2.out) (K2.out.mono (fun _ _ h => by cases h))⟩

set_option maxRecDepth 100000 in
set_option maxHeartbeats 8000000 in
theorem clTick_any (w : World) (n : Nat) (Q : Nat → Prop) (c : CliD) (dv fv : Value) (h : CliAt w n Q c dv fv) (hn : 3 ≤ c.conf.nodes ∧ c.conf.nodes ≤ 7) (hno : 1 ≤ c.node ∧ c.node ≤ 7) (hwt : 0 ≤ c.waited ∧ c.waited ≤ 1000000) (hl : c.last.data.length ≤ 3000000) :
    Calls Tryz.prog 10 #[.pointer (some ⟨n, 0, none⟩)] w fun e w' => ∃ v, e = .returned v ∧ CliPost n Q (ctickD c).1 (ctickD c).2 w v w' := by
  have H := hid h
  have HB := hid (clBusy_any h)
  by_cases hd : c.does = 0
  · have HO : Hid (ctickD c = (c, [])) := if_pos hd
    rw [hd] at HB
    clear h hd
    go_enter Tryz.func10, Tryz.ntmps10
    go_wp2_with fail
    refine HB.out.mono ?_
    rintro e w2 ⟨rfl, hk⟩
    have K2 := hid hk
    clear hk
    go_wp2_with fail
    go_ret
    rw [HO.out]
    exact ⟨_, rfl, CliPost.silent (H.out.k K2.out) (K2.out.mono (fun _ _ h => by cases h))⟩
  · have hd' : (c.does != 0) = true := by simpa using hd
    rw [hd'] at HB
    obtain ⟨hn0, hn1⟩ := hn
    obtain ⟨ho0, ho1⟩ := hno
    obtain ⟨ht0, ht1⟩ := hwt
    have ha1 : c.node.tmod c.conf.nodes < c.conf.nodes := Int.tmod_lt_of_pos _ (by omega)
    have ha2 : 0 ≤ c.node.tmod c.conf.nodes := Int.tmod_nonneg _ (by omega)
    have hnz : c.conf.nodes ≠ 0 := by omega
    have hw1 : IntKind.i64.wrap (c.waited + 1) = c.waited + 1 := by rw [IntKind.wrap_i64]; omega
    have hw2 : IntKind.i64.wrap (c.node.tmod c.conf.nodes + 1) = c.node.tmod c.conf.nodes + 1 := by rw [IntKind.wrap_i64]; omega
    have HO1 : Hid (c.waited + 1 < c.conf.retry → ctickD c = ({ c with waited := c.waited + 1 }, [])) := fun hb => by unfold ctickD; rw [if_neg hd, if_pos hb]
    have HO2 : Hid (¬ c.waited + 1 < c.conf.retry → ctickD c = againD { c with waited := c.waited + 1 } (c.node % c.conf.nodes + 1)) := fun hb => by unfold ctickD; rw [if_neg hd, if_neg hb, Int.tmod_eq_emod_of_nonneg (by omega)]
    clear h hd hd'
    go_enter Tryz.func10, Tryz.ntmps10
    go_wp2_with fail
    refine HB.out.mono ?_
    rintro e w2 ⟨rfl, hk⟩
    have K2 := hid hk
    have H2 := hid (H.out.k hk)
    clear hk
    have x0 : w2.cell? ⟨n, 0, none⟩ = some (.int .i64 c.conf.nodes) := H2.out.cell 0
    have x8 : w2.cell? ⟨n, 8, none⟩ = some (.int .i64 c.conf.retry) := H2.out.cell 8
    have x10 : w2.cell? ⟨n, 10, none⟩ = some (.int .i64 c.node) := H2.out.cell 10
    have x14 : w2.cell? ⟨n, 14, none⟩ = some (.int .i64 c.waited) := H2.out.cell 14
    have f0 : ∀ i, w2.frozen? ⟨n, i, none⟩ = false := H2.out.free
    have k1 : Keeps [n] w2 (w2.setCell ⟨n, 14, none⟩ (.int .i64 (c.waited + 1))) := by exact Keeps.K
    have h1 : CliAt (w2.setCell ⟨n, 14, none⟩ (.int .i64 (c.waited + 1))) n Q { c with waited := c.waited + 1 } dv fv := by
      refine H2.out.set k1 ?_ rfl H2.out.ents rfl
      have e := heap_setCell_same _ _ 14 _ _ (.int .i64 (c.waited + 1)) H2.out.row
      unfold cliCells at e ⊢
      simp only [List.setIfInBounds_toArray, List.set_cons_zero, List.set_cons_succ] at e
      exact e
    have H3 := hid h1
    have K3 : Hid (Keeps [n] w _) := (K2.out.mono (fun _ _ h => by cases h)).trans k1 (fun _ _ h => h)
    clear h1 k1
    by_cases hb : c.waited + 1 < c.conf.retry
    · have HO := hid (HO1.out (by omega))
      clear HO1 HO2
      go_wp2_with fail
      go_quiet (fail)
      go_wp2_with fail
      go_ret
      rw [HO.out]
      exact ⟨_, rfl, CliPost.silent (H3.out.k (by exact Keeps.K)) (K3.out.trans (G := []) (by exact Keeps.K) (fun _ _ h => by cases h))⟩
    · have HO := hid (HO2.out (by omega))
      clear HO1 HO2
      go_wp2_with fail
      go_quiet (fail)
      go_wp2_with fail
      refine Plan.wp_region_plan (fun wx => wx.cell? ⟨n, 10, none⟩ = some (.int .i64 c.node) ∧ wx.cell? ⟨n, 0, none⟩ = some (.int .i64 c.conf.nodes)) 12 [(true, 0), (true, 1), (true, 2), (true, 3), (true, 4), (true, 5), (true, 6), (true, 7), (true, 8), (true, 9), (true, 10), (true, 11)] (by kernel_rfl) (by as_aux_lemma => kernel_rfl) (by kernel_rfl) (fun _ _ _ _ _ h => h) ?_ (fun hS => ?_)
      (· go_simp)
      simp only [Plan.pick, List.append_eq, List.cons_append, List.nil_append, Plan.g1, Plan.g2, Option.getD_some, List.drop_succ_cons, List.drop_zero]
      iterate 12 (first | refine Plan.tA ?_ | refine Plan.tY ?_ | refine Plan.pN ?_ | refine Plan.pU ?_ | fail)
      refine Plan.fin ?_
      go_wp2_with fail
      refine (clAgain_any _ n Q _ dv fv _ (H3.out.k (by exact Keeps.K)) hl).mono ?_
      rw [← HO.out]
      rintro e w6 ⟨v, rfl, a6, q6, dv6, fv6, rfl, h6, h7, h8⟩
      have HP : Hid (CliPost n Q (ctickD c).1 (ctickD c).2 w (.slice a6 (ctickD c).2.length q6) w6) := CliPost.from ⟨a6, q6, dv6, fv6, rfl, h6, h7, h8⟩ (K3.out.trans (G := []) (by exact Keeps.K) (fun _ _ h => by cases h))
      clear h6 h7 h8
      go_wp2_with fail
      go_ret
      exact ⟨_, rfl, HP.out⟩

end Go.Proofs.YtnjdepojmnniaaaGreatDoor

/- The client hears. -/
namespace Go.Proofs.YtnjdepojmnniaaaGreatDoor
open Go Go.RowKit

structure HearOk (c : CliD) : Prop where
  request : 0 ≤ c.request ∧ (c.does = 1 → c.request ≤ 1099511627776)
  call : CmdW c.call
  data : c.last.data.length ≤ 3000000
theorem getR_n {bs : List UInt8} (h : (getR bs).2 = true) : (getR bs).1.n ≤ 1099511627776 := by
  obtain ⟨r, hr⟩ : ∃ r, getR bs = (r, true) := ⟨(getR bs).1, by rw [← h]⟩
  rw [hr]
  exact (countsD_i64 (checkR_parts (getR_is hr).2.1).2.1 (by decide)).2.1
theorem deaf_cases {c : CliD} {m : MsgD} (h : deafD c m = true) :
    (c.does != 0) = false ∨ (c.does != 0) = true ∧ ((m.kind != 7) = true ∨ (m.kind != 7) = false ∧ ((m.«to» != c.id) = true ∨ (m.«to» != c.id) = false ∧
      (m.frm < 1 ∨ (m.frm < 1) = False ∧ (c.conf.nodes < m.frm ∨ (c.conf.nodes < m.frm) = False ∧ (m.c != c.request) = true)))) := by
  unfold deafD at h
  by_cases h0 : c.does = 0
  · exact .inl (by simp [h0])
  refine .inr ⟨by simpa using h0, ?_⟩
  by_cases h1 : m.kind = 7
  · refine .inr ⟨by simp [h1], ?_⟩
    by_cases h2 : m.«to» = c.id
    · refine .inr ⟨by simp [h2], ?_⟩
      by_cases h3 : m.frm < 1
      · exact .inl h3
      · refine .inr ⟨eq_false h3, ?_⟩
        by_cases h4 : c.conf.nodes < m.frm
        · exact .inl h4
        · refine .inr ⟨eq_false h4, ?_⟩
          simpa [h0, h1, h2, h3, h4] using h
    · exact .inl (by simpa using h2)
  · exact .inl (by simpa using h1)
theorem hears_all {c : CliD} {m : MsgD} (h : deafD c m = false) : (c.does != 0) = true ∧ (m.kind != 7) = false ∧ (m.«to» != c.id) = false ∧ (m.frm < 1) = False ∧ (c.conf.nodes < m.frm) = False ∧ (m.c != c.request) = false := by
  unfold deafD at h
  simp only [Bool.or_eq_false_iff, decide_eq_false_iff_not] at h
  obtain ⟨⟨⟨⟨⟨h0, h1⟩, h2⟩, h3⟩, h4⟩, h5⟩ := h
  exact ⟨by simpa using h0, h1, h2, eq_false h3, eq_false h4, h5⟩

set_option maxRecDepth 100000 in
set_option maxHeartbeats 16000000 in
theorem clHear_deaf (w : World) (n : Nat) (Q : Nat → Prop) (c : CliD) (dv fv : Value) (m : MsgD) (ea da : Option Addr) (el ec dc : Nat) (h : CliAt w n Q c dv fv) (hd : deafD c m = true) :
    Calls Tryz.prog 11 #[.pointer (some ⟨n, 0, none⟩), msgV m (.slice ea el ec) (.slice da m.data.length dc)] w (ToldPost n Q (chearD c m) w) := by
  have H := hid h
  have HO : Hid (chearD c m = (c, [], false)) := if_pos hd
  have HB := hid (fun w1 (k : Keeps [] w w1) => clBusy_any (h.k k))
  have x0 : w.cell? ⟨n, 0, none⟩ = some (.int .i64 c.conf.nodes) := h.cell 0
  have x9 : w.cell? ⟨n, 9, none⟩ = some (.int .i64 c.id) := h.cell 9
  have x13 : w.cell? ⟨n, 13, none⟩ = some (.int .i64 c.request) := h.cell 13
  have hlt := h.lt
  unfold msgV
  clear h
  have hc := deaf_cases hd
  clear hd
  obtain ⟨bz, hbz⟩ : ∃ b, (c.does != 0) = b := ⟨_, rfl⟩
  rw [hbz] at HB hc
  clear hbz
  rcases hc with rfl | ⟨rfl, h1 | ⟨h1, h2 | ⟨h2, h3 | ⟨h3, h4 | ⟨h4, h5⟩⟩⟩⟩⟩
  all_goals
    go_enter Tryz.func11, Tryz.ntmps11
    go_wp2_with fail
    refine Plan.wp_region_plan (fun wx => (wx.cell? ⟨w.heap.size, 0, none⟩ = some (.int .i64 m.kind) ∧ wx.cell? ⟨w.heap.size, 1, none⟩ = some (.int .i64 m.frm) ∧ wx.cell? ⟨w.heap.size, 2, none⟩ = some (.int .i64 m.«to») ∧ wx.cell? ⟨w.heap.size, 6, none⟩ = some (.int .i64 m.c)) ∧ wx.cell? ⟨n, 0, none⟩ = some (.int .i64 c.conf.nodes) ∧ wx.cell? ⟨n, 9, none⟩ = some (.int .i64 c.id) ∧ wx.cell? ⟨n, 13, none⟩ = some (.int .i64 c.request)) 39 [(true, 0), (false, 1), (true, 2), (true, 3), (true, 4), (true, 5), (true, 6), (true, 7), (true, 8), (true, 9), (true, 10), (true, 11), (true, 12), (true, 13), (true, 14), (true, 15), (true, 16), (true, 17), (true, 18), (true, 19), (true, 20), (true, 21), (true, 22), (true, 23), (true, 24), (true, 25), (true, 26), (true, 27), (true, 28), (true, 29), (true, 30), (true, 31), (true, 32), (true, 33), (true, 34), (true, 35), (true, 36), (true, 37), (true, 38)] (by kernel_rfl) (by as_aux_lemma => kernel_rfl) (by kernel_rfl) (fun _ _ _ _ _ h => h) ?_ (fun hS => ?_)
    (· go_simp)
    simp only [Plan.pick, List.append_eq, List.cons_append, List.nil_append, Plan.g1, Plan.g2, Option.getD_some, List.drop_succ_cons, List.drop_zero]
    iterate 1 (first | refine Plan.tA ?_ | refine Plan.tY ?_ | refine Plan.pN ?_ | refine Plan.pU ?_ | fail)
    refine Plan.step ?_
    go_wp2_with fail
    refine (HB.out _ (by exact Keeps.K)).mono ?_
    rintro e w2 ⟨rfl, hk⟩
    have y0 : w2.cell? ⟨w.heap.size, 0, none⟩ = some (.int .i64 m.kind) := hk.cellSome (by go_simp) (by simp)
    have y1 : w2.cell? ⟨w.heap.size, 1, none⟩ = some (.int .i64 m.frm) := hk.cellSome (by go_simp) (by simp)
    have y2 : w2.cell? ⟨w.heap.size, 2, none⟩ = some (.int .i64 m.«to») := hk.cellSome (by go_simp) (by simp)
    have y6 : w2.cell? ⟨w.heap.size, 6, none⟩ = some (.int .i64 m.c) := hk.cellSome (by go_simp) (by simp)
    have z0 : w2.cell? ⟨n, 0, none⟩ = some (.int .i64 c.conf.nodes) := hk.cellSome (by go_simp) (by simp)
    have z9 : w2.cell? ⟨n, 9, none⟩ = some (.int .i64 c.id) := hk.cellSome (by go_simp) (by simp)
    have z13 : w2.cell? ⟨n, 13, none⟩ = some (.int .i64 c.request) := hk.cellSome (by go_simp) (by simp)
    have K2 : Hid (Keeps [] w w2) := Keeps.trans (G := []) (by exact Keeps.K) hk (fun _ _ h => h)
    clear hk hS
    go_wp2_with fail
    refine ⟨?_, ?_⟩
    (· go_simp)
    iterate 37 (first | refine Plan.tA ?_ | refine Plan.tY ?_ | refine Plan.pN ?_ | refine Plan.pU ?_ | fail)
    refine Plan.fin ?_
    go_wp2_with fail
    refine bodyPost_ret (v := .tuple #[.slice none 0 0, .bool false]) (by simp [results, Tryz.results11, go_sem]) rfl ?_
    rw [HO.out]
    exact ⟨_, rfl, CliPost.silent (H.out.k K2.out) (K2.out.mono (fun _ _ h => by cases h))⟩

end Go.Proofs.YtnjdepojmnniaaaGreatDoor
