/- agrees: the greatest index of its term that more than half have. -/
import Derived.Test.YtpppoajnbhipeaaAppA
namespace Go.Proofs.Ytpppoajnbhipeaa
open Go Go.RowKit

theorem haveD_bd (c : CoreD) (i : Int) : ∀ t : Nat, 1 ≤ haveD c i t ∧ haveD c i t ≤ t + 1
  | 0 => by simp [haveD]
  | t + 1 => by
    have := haveD_bd c i t
    unfold haveD
    split <;> omega
theorem agreesTo_bd (c : CoreD) : ∀ k : Nat, c.commit ≤ agreesTo c k ∧ agreesTo c k ≤ c.commit + k
  | 0 => by simp [agreesTo]
  | k + 1 => by
    have := agreesTo_bd c k
    unfold agreesTo
    split <;> omega
theorem agreesD_ok {c : CoreD} (h : CoreOk c) : CoreOk (agreesD c) := by
  have h1 := agreesTo_bd c (lastD c - c.commit).toNat
  have h2 := h.commit
  have h3 := h.base
  have h4 : ((lastD c - c.commit).toNat : Int) = lastD c - c.commit := by unfold lastD; omega
  unfold lastD at h1 h4
  exact { may := h.may, id := h.id, term := h.term, base := ⟨h.base.1, by show c.base ≤ agreesTo c (lastD c - c.commit).toNat; unfold lastD; omega⟩, baseTerm := h.baseTerm, len := h.len, last := h.last, commit := by show agreesTo c (lastD c - c.commit).toNat ≤ c.base + c.l.length; unfold lastD; omega, draw := h.draw, votes := h.votes, next := h.next, matc := h.matc, nexts := h.nexts, matcs := h.matcs, ents := h.ents, frm := h.frm, data := h.data, snap := h.snap }

def AgreesPost (B n : Nat) (c : CoreD) (lv sv : Value) (w : World) (e : Ending) (w' : World) : Prop := e = .returned (.tuple #[]) ∧ CoreAt w' B n (agreesD c) lv sv ∧ Keeps [n] w w'

set_option maxRecDepth 100000 in
set_option maxHeartbeats 3200000 in
theorem agrees_any (w : World) (B n : Nat) (c : CoreD) (lv sv : Value) (h : CoreAt w B n c lv sv) : Calls Try.prog 74 #[.pointer (some ⟨n, 0, none⟩)] w (AgreesPost B n c lv sv w) := by
  have hbd := lastD_bd h
  have hcm := h.ok.commit
  have hbs := h.ok.base
  have hm := ((ConfD.may_iff c.conf).1 h.ok.may).1
  have H := hid h
  have HL : Hid (∃ K : Nat, lastD c = c.commit + K ∧ (lastD c - c.commit).toNat = K) := ⟨(lastD c - c.commit).toNat, by unfold lastD; omega, rfl⟩
  obtain ⟨K, hK, hK2⟩ := HL.out
  have HKK := hid hK2
  have b1 : c.commit + K ≤ 2199023255552 := by omega
  have b0 : 0 ≤ c.commit := by omega
  have HKL := hid hK
  obtain ⟨n1, n2⟩ := hm
  have HNN : Hid ((c.conf.nodes.toNat : Int) = c.conf.nodes) := by show _ = _; omega
  have HFIN : Hid (∀ wr, Keeps [] w wr → ∀ x : Int, agreesTo c K = x → CoreAt (wr.setCell ⟨n, 14, none⟩ (.int .i64 x)) B n (agreesD c) lv sv ∧ Keeps [n] w (wr.setCell ⟨n, 14, none⟩ (.int .i64 x))) := fun wr k x hx => by
    have k1 : Keeps [n] wr (wr.setCell ⟨n, 14, none⟩ (.int .i64 x)) := (Keeps.refl _ _).setCell (.inl (by simp)) _
    have e : agreesD c = { c with commit := x } := by unfold agreesD; rw [HKK.out, hx]
    rw [e]
    have ho := agreesD_ok H.out.ok
    rw [e] at ho
    exact ⟨(H.out.k k).wrote k1 ((H.out.k k).blk.set 14 _ rfl) rfl rfl ho, (k.mono (G := [n]) (fun _ _ h => by cases h)).trans k1 (fun _ _ h => h)⟩
  have HEND : Hid (∀ wr, Keeps [] w wr → agreesTo c K = c.commit → AgreesPost B n c lv sv w (.returned (.tuple #[])) wr) := fun wr k hx => by
    have e : agreesD c = c := by unfold agreesD; rw [HKK.out, hx]
    exact ⟨rfl, by rw [e]; exact H.out.k k, k.mono (fun _ _ h => by cases h)⟩
  clear h HL hK2 hcm hbs hbd hK
  go_enter Try.func74, Try.ntmps74
  go_wp2_with fail
  refine (cLast_is _ B n c lv sv H.out (c.commit + K) HKL.out).mono ?_
  rintro e w' ⟨rfl, k0, rfl⟩
  go_wp2_with fail
  go_loopw [2] (fun i wr => ∃ (I : Int) (k : Nat), i = .int .i64 I ∧ k ≤ K ∧ Hid (I = c.commit + k ∧ agreesTo c K = agreesTo c k ∧ Keeps [] w wr)) (fun i _ => (intOf i - c.commit).toNat)
  case atStart => exact ⟨_, K, rfl, Nat.le_refl _, rfl, rfl, by (repeat (first | (with_reducible exact Keeps.refl _ _) | (with_reducible assumption) | ((with_reducible refine Keeps.setCell ?_ ?_ _); rotate_left 1; (· first | (refine .inl ?_; simp; done) | (refine .inr ?_; first | exact Nat.le_refl _ | (simp; done) | (simp; omega) | omega))) | (with_reducible refine Keeps.alloc ?_ _) | (with_reducible refine Keeps.drewN ?_ _) | (with_reducible refine Keeps.drew ?_)))⟩
  case round =>
    obtain ⟨I, k, rfl, hk, HW⟩ := hrel
    have x14 : wr.cell? ⟨n, 14, none⟩ = some (.int .i64 c.commit) := (H.out.k HW.out.2.2).blk.cell 14
    have x10 : wr.cell? ⟨n, 10, none⟩ = some (.int .i64 c.term) := (H.out.k HW.out.2.2).blk.cell 10
    have ib1 : -4611686018427387904 ≤ I := by have := HW.out.1; omega
    have ib2 : I ≤ 4611686018427387904 := by have := HW.out.1; omega
    rcases k with _ | j
    · have d0 : decide (c.commit < I) = false := by have := HW.out.1; simp; omega
      go_wp2_with fail
      exact bodyPost_end (by simp [results, Try.results74, go_sem]) rfl (HEND.out _ HW.out.2.2 HW.out.2.1)
    · have d0 : decide (c.commit < I) = true := by have := HW.out.1; simp; omega
      have hI : c.commit < I := by have := HW.out.1; omega
      obtain ⟨T, okT, hT⟩ : ∃ t o, atD c I = (t, o) := ⟨_, _, rfl⟩
      have HT := hid hT
      have wr3 : IntKind.i64.wrap (I - 1) = I - 1 := IntWalk.i64_in _ (by omega)
      clear hT
      by_cases ht : T = c.term
      · have g1 : (T != c.term) = false := by simpa using ht
        have HST : Hid (agreesTo c (j + 1) = if c.conf.nodes / 2 < haveD c I c.conf.nodes.toNat then I else agreesTo c j) := by
          show _ = _
          conv => lhs; unfold agreesTo
          have e : c.commit + ((j + 1 : Nat) : Int) = I := by have := HW.out.1; omega
          rw [e, HT.out]
          simp [ht]
        clear ht
        go_wp2_with fail
        refine (cAt_is _ B n c lv sv (H.out.k HW.out.2.2) I T okT ib1 ib2 HT.out).mono ?_
        rintro e w' ⟨rfl, k2, rfl⟩
        go_wp2_with fail
        obtain ⟨w2, hw2, hk2⟩ : ∃ w2, w2 = wr.drewN k2 ∧ Keeps [] w w2 := ⟨_, rfl, HW.out.2.2.drewN _⟩
        rw [← hw2]
        have HK2 := hid hk2
        have y0 : w2.cell? ⟨n, 0, none⟩ = some (.int .i64 c.conf.nodes) := (H.out.k hk2).blk.cell 0
        have y9 : w2.cell? ⟨n, 9, none⟩ = some (.int .i64 c.id) := (H.out.k hk2).blk.cell 9
        have y14 : w2.cell? ⟨n, 14, none⟩ = some (.int .i64 c.commit) := (H.out.k hk2).blk.cell 14
        have yf : w2.frozen? ⟨n, 14, none⟩ = false := (H.out.k hk2).blk.free 14
        clear hw2 hk2
        go_loopw [5, 6] (fun cnt to wi => ∃ (q : Int) (t s : Nat), cnt = .int .i64 q ∧ to = .int .i64 (t : Int) ∧ w2 = wi ∧ s ≤ c.conf.nodes.toNat ∧ Hid (t = s + 1 ∧ q = haveD c I s)) (fun _ to _ => (c.conf.nodes.toNat + 1) - (intOf to).toNat)
        case atStart => exact ⟨1, 1, 0, rfl, rfl, rfl, Nat.zero_le _, rfl, rfl⟩
        case round =>
          obtain ⟨q, t, s, rfl, rfl, hw, hs, HQ⟩ := hrel
          subst hw
          have t1 := HQ.out.1
          have q1 := haveD_bd c I s
          rw [← HQ.out.2] at q1
          obtain ⟨q1, q2⟩ := q1
          have hn7 := HNN.out
          have tt : (t : Int).toNat = t := by omega
          have t0 : (0 : Int) ≤ (t : Int) := Int.natCast_nonneg _
          have q9 : q ≤ 9 := by omega
          by_cases hlt' : t ≤ c.conf.nodes.toNat
          · have i1 : (t : Int) ≤ c.conf.nodes := by omega
            have i8 : (t : Int) < 8 := by omega
            have i8n : t < 8 := by omega
            have y37 := matc_cell (H.out.k HK2.out).blk (H.out.k HK2.out).ok.votes (H.out.k HK2.out).ok.next (H.out.k HK2.out).ok.matc t i8n
            have HN : Hid (haveD c I (s + 1) = q + (if (t : Int) ≠ c.id ∧ I ≤ c.matc.getD t 0 then 1 else 0)) := by
              show _ = _
              conv => lhs; unfold haveD
              rw [← HQ.out.2, ← t1]
            obtain ⟨mt, hmt⟩ : ∃ x, c.matc.getD t 0 = x := ⟨_, rfl⟩
            rw [hmt] at y37 HN
            clear t1 hn7 hmt
            have wr4 : IntKind.i64.wrap (q + 1) = q + 1 := IntWalk.i64_in _ (by omega)
            by_cases hid1 : (t : Int) = c.id
            · have g2 : ((t : Int) != c.id) = false := by simpa using hid1
              have HN2 : Hid (haveD c I (s + 1) = q) := by show _ = _; rw [HN.out, if_neg (by intro h; exact h.1 hid1)]; omega
              clear hid1
              go_wp2_with fail
              go_roundw
              case rel => exact ⟨q, t + 1, s + 1, rfl, by go_num, by first | exact True.intro | rfl, by have := HQ.out.1; omega, by have := HQ.out.1; omega, HN2.out.symm⟩
              case measure => have := HQ.out.1; simp [intOf]; omega
            · have g2 : ((t : Int) != c.id) = true := by simpa using hid1
              by_cases hge : I ≤ mt
              · have g3 : decide (I ≤ mt) = true := by simpa using hge
                have HN2 : Hid (haveD c I (s + 1) = q + 1) := by show _ = _; rw [HN.out, if_pos ⟨hid1, hge⟩]
                clear hid1 hge
                go_wp2_with fail
                go_roundw
                case rel => exact ⟨q + 1, t + 1, s + 1, by go_num, by go_num, by first | exact True.intro | rfl, by have := HQ.out.1; omega, by have := HQ.out.1; omega, HN2.out.symm⟩
                case measure => have := HQ.out.1; simp [intOf]; omega
              · have g3 : decide (I ≤ mt) = false := by simpa using hge
                have HN2 : Hid (haveD c I (s + 1) = q) := by show _ = _; rw [HN.out, if_neg (by intro h; exact hge h.2)]; omega
                clear hid1 hge
                go_wp2_with fail
                go_roundw
                case rel => exact ⟨q, t + 1, s + 1, rfl, by go_num, by first | exact True.intro | rfl, by have := HQ.out.1; omega, by have := HQ.out.1; omega, HN2.out.symm⟩
                case measure => have := HQ.out.1; simp [intOf]; omega
          · have hsn : s = c.conf.nodes.toNat := by omega
            have i1 : c.conf.nodes < (t : Int) := by omega
            have HQN : Hid (q = haveD c I c.conf.nodes.toNat) := by show _ = _; rw [HQ.out.2, hsn]
            clear t1 hn7 hsn
            by_cases hmj : c.conf.nodes / 2 < q
            · have HA : Hid (agreesTo c K = I) := by show _ = _; rw [HW.out.2.1, HST.out, if_pos (by rw [← HQN.out]; exact hmj)]
              go_wp2_with fail
              exact bodyPost_end (by simp [results, Try.results74, go_sem]) rfl ⟨rfl, HFIN.out _ HK2.out I HA.out⟩
            · have HA : Hid (agreesTo c K = agreesTo c j) := by show _ = _; rw [HW.out.2.1, HST.out, if_neg (by rw [← HQN.out]; exact hmj)]
              have hmj2 : q ≤ c.conf.nodes / 2 := by omega
              clear hmj
              go_wp2_with fail
              go_roundw
              case rel => exact ⟨I - 1, j, by go_num, by omega, by have := HW.out.1; omega, HA.out, HK2.out⟩
              case measure => have := HW.out.1; simp [intOf]; omega
      · have g1 : (T != c.term) = true := by simpa using ht
        have HST : Hid (agreesTo c (j + 1) = agreesTo c j) := by
          show _ = _
          conv => lhs; unfold agreesTo
          have e : c.commit + ((j + 1 : Nat) : Int) = I := by have := HW.out.1; omega
          rw [e, HT.out]
          simp [ht]
        clear ht
        go_wp2_with fail
        refine (cAt_is _ B n c lv sv (H.out.k HW.out.2.2) I T okT ib1 ib2 HT.out).mono ?_
        rintro e w' ⟨rfl, k2, rfl⟩
        go_wp2_with fail
        go_roundw
        case rel => exact ⟨I - 1, j, by go_num, by omega, by have := HW.out.1; omega, HW.out.2.1.trans HST.out, HW.out.2.2.drewN _⟩
        case measure => have := HW.out.1; simp [intOf]; omega

end Go.Proofs.Ytpppoajnbhipeaa
