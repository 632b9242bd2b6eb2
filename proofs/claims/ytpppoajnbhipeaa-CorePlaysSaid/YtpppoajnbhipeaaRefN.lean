/- The document's core: taken, whole. -/
import Derived.Test.YtpppoajnbhipeaaQ20
namespace Go.Proofs.Ytpppoajnbhipeaa
open Go Go.RowKit

set_option maxRecDepth 100000 in
set_option maxHeartbeats 6400000 in
theorem rtaken_counts (w : World) (B n : Nat) (c : CoreD) (P : Nat → Prop) (lv sv : Value) (m : MsgD) (ea da : Option Addr) (ec dc : Nat) (h : RefAt w B n c P lv sv) (g1 : m.term = c.term) (g2 : c.role = 2) (g3 : m.ok = true) (g4 : m.a ≤ lastD c) (hf : 1 ≤ m.frm ∧ m.frm ≤ 7) (ha : 0 ≤ m.a ∧ m.a ≤ 1099511627776) :
    Calls Try.prog 86 #[.pointer (some ⟨n, 0, none⟩), msgV m (.slice ea m.entries.length ec) (.slice da m.data.length dc)] w (RCallPost B n P (appendedD c m) w) := by
  have h10 : w.cell? ⟨n, 10, none⟩ = some (.int .i64 c.term) := h.blk.cell 10
  have h12 : w.cell? ⟨n, 12, none⟩ = some (.int .i64 c.role) := h.blk.cell 12
  have f8n : m.frm.toNat < 8 := by omega
  have h29 := rnext_cell h.blk h.ok.votes h.ok.next m.frm.toNat f8n
  have h37 := rmatc_cell h.blk h.ok.votes h.ok.next h.ok.matc m.frm.toNat f8n
  have hfz : ∀ i, w.frozen? ⟨n, i, none⟩ = false := fun i => h.blk.free i
  have hnx : 0 ≤ c.next.getD m.frm.toNat 0 ∧ c.next.getD m.frm.toNat 0 ≤ 2199023255553 := getD_bd (p := fun x => 0 ≤ x ∧ x ≤ 2199023255553) h.ok.nexts (by omega)
  have hmt : 0 ≤ c.matc.getD m.frm.toNat 0 ∧ c.matc.getD m.frm.toNat 0 ≤ 2199023255552 := getD_bd (p := fun x => 0 ≤ x ∧ x ≤ 2199023255552) h.ok.matcs (by omega)
  have hlt := h.blk.lt
  have HR : Hid (appendedD c m = (agreesD (appYes c m), [])) := by
    show _ = _
    unfold appendedD
    rw [if_neg (by rw [g1, g2, g3]; simp; omega), if_neg (by rw [g3]; simp)]
  obtain ⟨nx, hnxe⟩ : ∃ x, c.next.getD m.frm.toNat 0 = x := ⟨_, rfl⟩
  obtain ⟨mt, hmte⟩ : ∃ x, c.matc.getD m.frm.toNat 0 = x := ⟨_, rfl⟩
  obtain ⟨V1, hV1⟩ : ∃ V, max mt m.a = V := ⟨_, rfl⟩
  obtain ⟨V2, hV2⟩ : ∃ V, max nx (V1 + 1) = V := ⟨_, rfl⟩
  have hgs : (appYes0 c m).matc.getD m.frm.toNat 0 = V1 := by
    show (c.matc.set m.frm.toNat (max (c.matc.getD m.frm.toNat 0) m.a)).getD m.frm.toNat 0 = V1
    rw [hmte, hV1]
    simp [List.getD_eq_getElem?_getD, List.getElem?_set_self (show m.frm.toNat < c.matc.length by rw [h.ok.matc]; omega)]
  have HA : Hid (appYes c m = { c with matc := c.matc.set m.frm.toNat V1, next := c.next.set m.frm.toNat V2 }) := by
    show _ = _
    unfold appYes
    rw [hgs, hnxe, hV2]
    unfold appYes0
    rw [hmte, hV1]
  rw [hnxe] at h29 hnx
  rw [hmte] at h37 hmt
  have HOK : Hid (CoreOk { c with matc := c.matc.set m.frm.toNat V1, next := c.next.set m.frm.toNat V2 }) :=
    nextT_ok (matcT_ok h.ok (by simp [h.ok.matc]) (mem_set_bd (p := fun x => 0 ≤ x ∧ x ≤ 2199023255552) h.ok.matcs (by omega))) (by simp [h.ok.next]) (mem_set_bd (p := fun x => 0 ≤ x ∧ x ≤ 2199023255553) h.ok.nexts (by omega))
  obtain ⟨L, hL⟩ : ∃ L, lastD c = L := ⟨_, rfl⟩
  have HL := hid hL
  rw [hL] at g4
  have H := hid h
  have hb1 : (m.term != c.term) = false := by simpa using g1
  have hb2 : (c.role != 2) = false := by simpa using g2
  obtain ⟨f1, f7⟩ := hf
  have f0 : 0 ≤ m.frm := by omega
  have f8 : m.frm < 8 := by omega
  obtain ⟨a0, a1⟩ := ha
  obtain ⟨x0, x1⟩ := hnx
  obtain ⟨z0, z1⟩ := hmt
  have v0 : 0 ≤ V1 ∧ V1 ≤ 2199023255552 := by omega
  have wr1 : IntKind.i64.wrap (V1 + 1) = V1 + 1 := IntWalk.i64_in _ (by omega)
  have hd4 : decide (L < m.a) = false := by simp; omega
  have hnm : ¬ (29 + m.frm.toNat = 37 + m.frm.toNat) := by omega
  have HV1 := hid hV1
  have HV2 := hid hV2
  unfold msgV
  rw [g3]
  clear h g1 g2 g3 hnxe hmte hL hgs hV1 hV2 g4
  go_enter Try.func86, Try.ntmps86
  go_wp2_with fail
  go_quiet (fail)
  go_wp2_with fail
  refine Plan.wp_region_plan (fun wx => wx.cell? ⟨w.heap.size, 4, none⟩ = some (.int .i64 m.a)) 4 [(true, 0), (true, 1), (true, 2), (false, 3)] (by kernel_rfl) (by as_aux_lemma => kernel_rfl) (by kernel_rfl) (fun _ _ _ _ _ h => h) ?_ (fun hS => ?_)
  (· go_simp)
  simp only [Plan.pick, List.append_eq, List.cons_append, List.nil_append, Plan.g1, Plan.g2, Option.getD_some, List.drop_succ_cons, List.drop_zero]
  iterate 3 (first | refine Plan.tA ?_ | refine Plan.tY ?_ | refine Plan.pN ?_ | refine Plan.pU ?_ | fail)
  refine Plan.step ?_
  go_wp2_with fail
  refine (rLast_is _ B n c P lv sv (H.out.k (by exact Keeps.K)) L HL.out).mono ?_
  rintro e w' ⟨rfl, k3, rfl⟩
  go_wp2_with fail
  refine ⟨?_, ?_⟩
  (· go_simp)
  refine Plan.fin ?_
  go_wp2_with fail
  refine Plan.wp_region_plan (fun wx => wx.cell? ⟨w.heap.size, 4, none⟩ = some (.int .i64 m.a) ∧ wx.cell? ⟨n, 37 + m.frm.toNat, none⟩ = some (.int .i64 mt)) 13 [(true, 0), (true, 1), (true, 2), (true, 3), (true, 4), (true, 5), (true, 6), (true, 7), (true, 8), (true, 9), (true, 10), (true, 11), (true, 12)] (by kernel_rfl) (by as_aux_lemma => kernel_rfl) (by kernel_rfl) (fun _ _ _ _ _ h => h) ?_ (fun hS2 => ?_)
  (· go_simp)
  simp only [Plan.pick, List.append_eq, List.cons_append, List.nil_append, Plan.g1, Plan.g2, Option.getD_some, List.drop_succ_cons, List.drop_zero]
  iterate 10 (first | refine Plan.tA ?_ | refine Plan.tY ?_ | refine Plan.pN ?_ | refine Plan.pU ?_ | fail)
  refine Plan.take (v := .int .i64 V1) (a' := ?_) (Plan.want_all (by rfl)) ?_ ?_ ?_
  rotate_left 1
  (· intro w' hS'
     (try dsimp only at hS')
     have := HV1.out
     by_cases hq : m.a ≤ mt
     · have e : V1 = mt := by omega
       go_simp
       try (intros; omega)
     · have e : V1 = m.a := by omega
       go_simp
       try (intros; omega))
  (· simp only [Act.put, List.setIfInBounds_toArray, List.set_cons_zero, List.set_cons_succ]
     try with_reducible rfl)
  iterate 2 (first | refine Plan.tA ?_ | refine Plan.tY ?_ | refine Plan.pN ?_ | refine Plan.pU ?_ | fail)
  refine Plan.fin ?_
  go_wp2_with fail
  refine Plan.wp_region_plan (fun wx => wx.cell? ⟨n, 29 + m.frm.toNat, none⟩ = some (.int .i64 nx) ∧ wx.cell? ⟨n, 37 + m.frm.toNat, none⟩ = some (.int .i64 V1)) 18 [(true, 0), (true, 1), (true, 2), (true, 3), (true, 4), (true, 5), (true, 6), (true, 7), (true, 8), (true, 9), (true, 10), (true, 11), (true, 12), (true, 13), (true, 14), (true, 15), (true, 16), (true, 17)] (by kernel_rfl) (by as_aux_lemma => kernel_rfl) (by kernel_rfl) (fun _ _ _ _ _ h => h) ?_ (fun hS3 => ?_)
  (· go_simp)
  simp only [Plan.pick, List.append_eq, List.cons_append, List.nil_append, Plan.g1, Plan.g2, Option.getD_some, List.drop_succ_cons, List.drop_zero]
  iterate 15 (first | refine Plan.tA ?_ | refine Plan.tY ?_ | refine Plan.pN ?_ | refine Plan.pU ?_ | fail)
  refine Plan.take (v := .int .i64 V2) (a' := ?_) (Plan.want_all (by rfl)) ?_ ?_ ?_
  rotate_left 1
  (· intro w' hS'
     (try dsimp only at hS')
     have := HV2.out
     by_cases hq : V1 + 1 ≤ nx
     · have e : V2 = nx := by omega
       go_simp
       try (intros; omega)
     · have e : V2 = V1 + 1 := by omega
       go_simp
       try (intros; omega))
  (· simp only [Act.put, List.setIfInBounds_toArray, List.set_cons_zero, List.set_cons_succ]
     try with_reducible rfl)
  iterate 2 (first | refine Plan.tA ?_ | refine Plan.tY ?_ | refine Plan.pN ?_ | refine Plan.pU ?_ | fail)
  refine Plan.fin ?_
  go_wp2_with fail
  refine calls_fold (fun wx => RefAt wx B n (appYes c m) P lv sv ∧ Keeps [n] w wx) ?_ ?_
  · have r0 := H.out.k (w' := (w.alloc (.cells #[.int .i64 m.kind, .int .i64 m.frm, .int .i64 m.to, .int .i64 m.term, .int .i64 m.a, .int .i64 m.b, .int .i64 m.c, .bool true, .slice ea m.entries.length ec, .slice da m.data.length dc] 40)).drewN (nq + 1 + k3 + 1)) (by exact Keeps.K)
    have b1 := r0.blk.matc r0.ok.votes r0.ok.next r0.ok.matc m.frm.toNat f8n V1
    have b2 := b1.next r0.ok.votes r0.ok.next m.frm.toNat f8n V2
    rw [HA.out]
    have kx : Keeps [n] ((w.alloc (.cells #[.int .i64 m.kind, .int .i64 m.frm, .int .i64 m.to, .int .i64 m.term, .int .i64 m.a, .int .i64 m.b, .int .i64 m.c, .bool true, .slice ea m.entries.length ec, .slice da m.data.length dc] 40)).drewN (nq + 1 + k3 + 1)) ((((w.alloc (.cells #[.int .i64 m.kind, .int .i64 m.frm, .int .i64 m.to, .int .i64 m.term, .int .i64 m.a, .int .i64 m.b, .int .i64 m.c, .bool true, .slice ea m.entries.length ec, .slice da m.data.length dc] 40)).drewN (nq + 1 + k3 + 1)).setCell ⟨n, 37 + m.frm.toNat, none⟩ (.int .i64 V1)).setCell ⟨n, 29 + m.frm.toNat, none⟩ (.int .i64 V2)) := ((Keeps.refl _ _).setCell (.inl (by simp)) _).setCell (.inl (by simp)) _
    exact ⟨(r0.wrote kx b2 rfl rfl HOK.out).k ((Keeps.refl [] _).drew), (Keeps.trans (F := [n]) (G := [n]) (Keeps.mono (F := []) (by exact Keeps.K) (fun _ _ h => by cases h)) kx (fun _ _ h => h)).drew⟩
  intro w2 hw2
  obtain ⟨hc2, hk2⟩ := hw2
  obtain ⟨D, hD⟩ : ∃ D, appYes c m = D := ⟨_, rfl⟩
  have HR2 : Hid (appendedD c m = (agreesD D, [])) := by show _ = _; rw [HR.out, hD]
  have hDL : lastD D = L := by rw [← hD, ← HL.out, HA.out]; rfl
  rw [hD] at hc2
  have hbd : 0 ≤ L ∧ L ≤ 2199023255552 := by have h1 := hc2.ok.base; have h2 := hc2.ok.last; rw [← hDL]; unfold lastD; omega
  have hcm : D.commit ≤ L := by have := hc2.ok.commit; rw [← hDL]; exact this
  have hbs := hc2.ok.base
  have hmn := ((ConfD.may_iff D.conf).1 hc2.ok.may).1
  have C2 := hid hc2
  have K2 := hid hk2
  obtain ⟨K, hK⟩ : ∃ K : Nat, L = D.commit + K := ⟨(L - D.commit).toNat, by omega⟩
  have hK2 : (lastD D - D.commit).toNat = K := by rw [hDL]; omega
  have HKK := hid hK2
  have HKL : Hid (lastD D = D.commit + K) := by show _ = _; rw [hDL]; exact hK
  have b1 : D.commit + K ≤ 2199023255552 := by omega
  have b0 : 0 ≤ D.commit := by omega
  obtain ⟨n1, n2⟩ := hmn
  have HNN : Hid ((D.conf.nodes.toNat : Int) = D.conf.nodes) := by show _ = _; omega
  have HFIN : Hid (∀ wr, Keeps [] w2 wr → ∀ x : Int, agreesTo D K = x → RCallPost B n P (appendedD c m) w (.returned (.slice none 0 0)) (wr.setCell ⟨n, 14, none⟩ (.int .i64 x))) := fun wr k x hx => by
    have k1 : Keeps [n] wr (wr.setCell ⟨n, 14, none⟩ (.int .i64 x)) := (Keeps.refl _ _).setCell (.inl (by simp)) _
    have e : agreesD D = { D with commit := x } := by unfold agreesD; rw [HKK.out, hx]
    rw [HR2.out]
    have ho := agreesD_ok C2.out.ok
    refine RCallPost.silent (lv := lv) (sv := sv) rfl ?_ ((K2.out.trans k (fun _ _ h => by cases h)).trans k1 (fun _ _ h => h))
    show RefAt _ _ _ (agreesD D) _ _ _
    rw [e] at ho ⊢
    exact ((C2.out.k k).wrote k1 ((C2.out.k k).blk.set (c' := { D with commit := x }) (lv' := lv) (sv' := sv) 14 (.int .i64 x) rfl) rfl rfl ho).toGr hlt
  have HEND : Hid (∀ wr, Keeps [] w2 wr → agreesTo D K = D.commit → RCallPost B n P (appendedD c m) w (.returned (.slice none 0 0)) wr) := fun wr k hx => by
    have e : agreesD D = D := by unfold agreesD; rw [HKK.out, hx]
    rw [HR2.out, e]
    exact RCallPost.silent rfl ((C2.out.k k).toGr hlt) (K2.out.trans k (fun _ _ h => by cases h))
  clear hc2 hk2 hD hDL hbd hcm hbs hK hK2 h10 h12 h29 h37 hfz hS hS2 hS3
  refine (rLast_is _ B n D P lv sv C2.out (D.commit + K) HKL.out).mono ?_
  rintro e w' ⟨rfl, k0, rfl⟩
  go_wp2_with fail
  go_loopw [6] (fun i wr => ∃ (I : Int) (k : Nat), i = .int .i64 I ∧ k ≤ K ∧ Hid (I = D.commit + k ∧ agreesTo D K = agreesTo D k ∧ Keeps [] w2 wr)) (fun i _ => (intOf i - D.commit).toNat)
  case atStart => exact ⟨_, K, rfl, Nat.le_refl _, rfl, rfl, by exact Keeps.K⟩
  case round =>
    obtain ⟨I, k, rfl, hk, HW⟩ := hrel
    have x14 : wr.cell? ⟨n, 14, none⟩ = some (.int .i64 D.commit) := (C2.out.k HW.out.2.2).blk.cell 14
    have x10 : wr.cell? ⟨n, 10, none⟩ = some (.int .i64 D.term) := (C2.out.k HW.out.2.2).blk.cell 10
    have ib1 : -4611686018427387904 ≤ I := by have := HW.out.1; omega
    have ib2 : I ≤ 4611686018427387904 := by have := HW.out.1; omega
    rcases k with _ | j
    · have d0 : decide (D.commit < I) = false := by have := HW.out.1; simp; omega
      go_wp2_with fail
      go_ret
      exact HEND.out _ HW.out.2.2 HW.out.2.1
    · have d0 : decide (D.commit < I) = true := by have := HW.out.1; simp; omega
      have hI : D.commit < I := by have := HW.out.1; omega
      obtain ⟨T, okT, hT⟩ : ∃ t o, atD D I = (t, o) := ⟨_, _, rfl⟩
      have HT := hid hT
      have wr3 : IntKind.i64.wrap (I - 1) = I - 1 := IntWalk.i64_in _ (by omega)
      have HST : Hid (agreesTo D (j + 1) = if T = D.term ∧ D.conf.nodes / 2 < haveD D I D.conf.nodes.toNat then I else agreesTo D j) := by
        show _ = _
        conv => lhs; unfold agreesTo
        have e : D.commit + ((j + 1 : Nat) : Int) = I := by have := HW.out.1; omega
        rw [e, HT.out]
      clear hT
      go_wp2_with fail
      refine (rAt_is _ B n D P lv sv (C2.out.k HW.out.2.2) I T okT ib1 ib2 HT.out).mono ?_
      rintro e w' ⟨rfl, k2, rfl⟩
      go_wp2_with fail
      obtain ⟨w4, hw4, hk4⟩ : ∃ w4, w4 = wr.drewN k2 ∧ Keeps [] w2 w4 := ⟨_, rfl, HW.out.2.2.drewN _⟩
      rw [← hw4]
      have HK4 := hid hk4
      have y0 : w4.cell? ⟨n, 0, none⟩ = some (.int .i64 D.conf.nodes) := (C2.out.k hk4).blk.cell 0
      have y9 : w4.cell? ⟨n, 9, none⟩ = some (.int .i64 D.id) := (C2.out.k hk4).blk.cell 9
      have y10 : w4.cell? ⟨n, 10, none⟩ = some (.int .i64 D.term) := (C2.out.k hk4).blk.cell 10
      have y14 : w4.cell? ⟨n, 14, none⟩ = some (.int .i64 D.commit) := (C2.out.k hk4).blk.cell 14
      have yf : w4.frozen? ⟨n, 14, none⟩ = false := (C2.out.k hk4).blk.free 14
      clear hw4 hk4 x14 x10
      go_loopw [9, 10] (fun cnt to wi => ∃ (q : Int) (t s : Nat), cnt = .int .i64 q ∧ to = .int .i64 (t : Int) ∧ w4 = wi ∧ s ≤ D.conf.nodes.toNat ∧ Hid (t = s + 1 ∧ q = haveD D I s)) (fun _ to _ => (D.conf.nodes.toNat + 1) - (intOf to).toNat)
      case atStart => exact ⟨1, 1, 0, rfl, rfl, rfl, Nat.zero_le _, rfl, rfl⟩
      case round =>
        obtain ⟨q, t, s, rfl, rfl, hw, hs, HQ⟩ := hrel
        subst hw
        have t1 := HQ.out.1
        have q1 := haveD_bd D I s
        rw [← HQ.out.2] at q1
        obtain ⟨q1, q2⟩ := q1
        have hn7 := HNN.out
        have tt : (t : Int).toNat = t := by omega
        have t0 : (0 : Int) ≤ (t : Int) := Int.natCast_nonneg _
        have q9 : q ≤ 9 := by omega
        by_cases hlt' : t ≤ D.conf.nodes.toNat
        · have i1 : (t : Int) ≤ D.conf.nodes := by omega
          have i8 : (t : Int) < 8 := by omega
          have i8n : t < 8 := by omega
          have y37 := rmatc_cell (C2.out.k HK4.out).blk (C2.out.k HK4.out).ok.votes (C2.out.k HK4.out).ok.next (C2.out.k HK4.out).ok.matc t i8n
          have HN : Hid (haveD D I (s + 1) = q + (if (t : Int) ≠ D.id ∧ I ≤ D.matc.getD t 0 then 1 else 0)) := by
            show _ = _
            conv => lhs; unfold haveD
            rw [← HQ.out.2, ← t1]
          obtain ⟨mt, hmt⟩ : ∃ x, D.matc.getD t 0 = x := ⟨_, rfl⟩
          rw [hmt] at y37 HN
          clear t1 hn7 hmt
          have wr4 : IntKind.i64.wrap (q + 1) = q + 1 := IntWalk.i64_in _ (by omega)
          by_cases hid1 : (t : Int) = D.id
          · have g2 : ((t : Int) != D.id) = false := by simpa using hid1
            have HN2 : Hid (haveD D I (s + 1) = q) := by show _ = _; rw [HN.out, if_neg (by intro h; exact h.1 hid1)]; omega
            clear hid1
            go_wp2_with fail
            go_roundw
            case rel => exact ⟨q, t + 1, s + 1, rfl, by go_num, by first | exact True.intro | rfl, by have := HQ.out.1; omega, by have := HQ.out.1; omega, HN2.out.symm⟩
            case measure => have := HQ.out.1; simp [intOf]; omega
          · have g2 : ((t : Int) != D.id) = true := by simpa using hid1
            by_cases hge : I ≤ mt
            · have g3 : decide (I ≤ mt) = true := by simpa using hge
              have HN2 : Hid (haveD D I (s + 1) = q + 1) := by show _ = _; rw [HN.out, if_pos ⟨hid1, hge⟩]
              clear hid1 hge
              go_wp2_with fail
              go_roundw
              case rel => exact ⟨q + 1, t + 1, s + 1, by go_num, by go_num, by first | exact True.intro | rfl, by have := HQ.out.1; omega, by have := HQ.out.1; omega, HN2.out.symm⟩
              case measure => have := HQ.out.1; simp [intOf]; omega
            · have g3 : decide (I ≤ mt) = false := by simpa using hge
              have HN2 : Hid (haveD D I (s + 1) = q) := by show _ = _; rw [HN.out, if_neg (by intro h; exact hge h.2)]; omega
              clear hid1 hge
              go_wp2_with fail
              go_roundw
              case rel => exact ⟨q, t + 1, s + 1, rfl, by go_num, by first | exact True.intro | rfl, by have := HQ.out.1; omega, by have := HQ.out.1; omega, HN2.out.symm⟩
              case measure => have := HQ.out.1; simp [intOf]; omega
        · have hsn : s = D.conf.nodes.toNat := by omega
          have i1 : D.conf.nodes < (t : Int) := by omega
          have HQE : Hid (haveD D I D.conf.nodes.toNat = q) := by show _ = _; rw [← hsn]; exact HQ.out.2.symm
          have HKC : Hid (Keeps [] w2 w4) := HK4.out
          have wr4 : IntKind.i64.wrap (2 * q) = 2 * q := IntWalk.i64_in _ (by omega)
          clear hsn t1 hn7
          by_cases ht : T = D.term
          · have g1 : (T == D.term) = true := by simpa using ht
            by_cases hh : D.conf.nodes < 2 * q
            · have g2 : decide (D.conf.nodes < 2 * q) = true := by simpa using hh
              have HE : Hid (agreesTo D K = I) := by
                show _ = _
                rw [HW.out.2.1, HST.out, if_pos ⟨ht, by rw [HQE.out]; omega⟩]
              clear ht hh
              go_wp2_with fail
              go_ret
              exact HFIN.out _ HKC.out I HE.out
            · have g2 : decide (D.conf.nodes < 2 * q) = false := by simpa using hh
              have HE : Hid (agreesTo D K = agreesTo D j) := by
                show _ = _
                rw [HW.out.2.1, HST.out, if_neg (by rw [HQE.out]; omega)]
              clear ht hh
              go_wp2_with fail
              go_roundw
              case rel => exact ⟨I - 1, j, rfl, by omega, by have := HW.out.1; omega, HE.out, HKC.out⟩
              case measure => have := HW.out.1; simp [intOf]; omega
          · have g1 : (T == D.term) = false := by simpa using ht
            have HE : Hid (agreesTo D K = agreesTo D j) := by
              show _ = _
              rw [HW.out.2.1, HST.out, if_neg (fun h => ht h.1)]
            clear ht
            go_wp2_with fail
            go_roundw
            case rel => exact ⟨I - 1, j, rfl, by omega, by have := HW.out.1; omega, HE.out, HKC.out⟩
            case measure => have := HW.out.1; simp [intOf]; omega

theorem rtaken_any (w : World) (B n : Nat) (c : CoreD) (P : Nat → Prop) (lv sv : Value) (m : MsgD) (ea da : Option Addr) (ec dc : Nat) (h : RefAt w B n c P lv sv) (hP : ∀ b, P b → b < w.heap.size) (hf : 1 ≤ m.frm ∧ m.frm ≤ 7) (ha : 0 ≤ m.a ∧ m.a ≤ 1099511627776) :
    Calls Try.prog 86 #[.pointer (some ⟨n, 0, none⟩), msgV m (.slice ea m.entries.length ec) (.slice da m.data.length dc)] w (RCallPost B n P (appendedD c m) w) := by
  by_cases hn : m.term ≠ c.term ∨ c.role ≠ 2 ∨ (m.ok = true ∧ lastD c < m.a)
  · exact rtaken_no w B n c P lv sv m ea da ec dc h hn
  · have g1 : m.term = c.term := Classical.byContradiction fun h => hn (.inl h)
    have g2 : c.role = 2 := Classical.byContradiction fun h => hn (.inr (.inl h))
    rcases g3 : m.ok with _ | _
    · exact rtaken_send w B n c P lv sv m ea da ec dc h hP g1 g2 g3 hf ha
    · exact rtaken_counts w B n c P lv sv m ea da ec dc h g1 g2 g3 (by
        by_cases h1 : lastD c < m.a
        · exact absurd (Or.inr (Or.inr ⟨g3, h1⟩)) hn
        · omega) hf ha

end Go.Proofs.Ytpppoajnbhipeaa
