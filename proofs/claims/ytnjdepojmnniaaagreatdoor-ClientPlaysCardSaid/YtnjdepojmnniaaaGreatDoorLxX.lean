/- The document's lexer: an escape. -/
import Derived.Test.YtnjdepojmnniaaaGreatDoorLxV

set_option linter.unusedSimpArgs false
set_option linter.unusedVariables false
namespace Go.Proofs.YtnjdepojmnniaaaGreatDoor
open Go Go.RowKit

theorem hx_lt' : ∀ (l : List UInt8) (u v : Nat), hx l u = some v → v < (u + 1) * 16 ^ l.length
  | [], u, v, h => by
    injection h with h
    subst h
    simp
  | x :: r, u, v, h => by
    unfold hx at h
    rcases hd : hexV x with _ | d
    · rw [hd] at h; cases h
    · rw [hd] at h
      have h16 := hexV_lt hd
      have := hx_lt' r (u * 16 + d) v h
      rw [List.length_cons, Nat.pow_succ, Nat.mul_comm (16 ^ r.length), ← Nat.mul_assoc]
      exact Nat.lt_of_lt_of_le this (Nat.mul_le_mul_right _ (by omega))
def EscPost (s : ByteArray) (n : Nat) (pa : Option Addr) (pq p : Nat) (w : World) (e : Ending) (w' : World) : Prop :=
  ((escL (92 :: s.data.toList.drop p)).2 = 0 ∧ ∃ x, e = .returned (.tuple #[.int .i32 x, .bool false]) ∧ Keeps [n] w w') ∨
  ((escL (92 :: s.data.toList.drop p)).2 ≠ 0 ∧ e = .returned (.tuple #[.int .i32 (escL (92 :: s.data.toList.drop p)).1, .bool true]) ∧ (∃ k', PAt s.data.toList k' (p + ((escL (92 :: s.data.toList.drop p)).2 - 1)) ∧ LAt w' n s pa pq k') ∧ Keeps [n] w w')
theorem EscPost.no {s : ByteArray} {n : Nat} {pa : Option Addr} {pq p : Nat} {w w' : World} (x : Int) (h : (escL (92 :: s.data.toList.drop p)).2 = 0) (k : Keeps [n] w w') : EscPost s n pa pq p w (.returned (.tuple #[.int .i32 x, .bool false])) w' := .inl ⟨h, x, rfl, k⟩
theorem EscPost.yes {s : ByteArray} {n : Nat} {pa : Option Addr} {pq p k' : Nat} {w w' : World} {v d : Nat} (h : escL (92 :: s.data.toList.drop p) = (v, d + 1)) (hp : PAt s.data.toList k' (p + d)) (hl : LAt w' n s pa pq k') (k : Keeps [n] w w') : EscPost s n pa pq p w (.returned (.tuple #[.int .i32 v, .bool true])) w' := by
  refine .inr ?_
  rw [h]
  exact ⟨by simp, rfl, ⟨k', hp, hl⟩, k⟩

set_option maxRecDepth 100000 in
set_option maxHeartbeats 8000000 in
theorem r6escape_any (s : ByteArray) (n : Nat) (pa : Option Addr) (pq k p : Nat) (w : World) (H : LAt w n s pa pq k) (hp : PAt s.data.toList k p) (hs : s.size ≤ 400) :
    Calls Tryz.prog 111 #[.pointer (some ⟨n, 0, none⟩)] w (EscPost s n pa pq p w) := by
  have HH := hid H
  have HP := hid hp
  have HL : Hid (s.data.toList.length = s.size) := Array.length_toList
  have hk2 := hp.le
  have hL := HL.out
  have k0 : (0 : Int) ≤ (k : Int) := Int.natCast_nonneg _
  have k1 : (k : Int) ≤ 400 := by omega
  obtain ⟨⟨c0, c1, c2⟩, f2⟩ := H.cells
  obtain ⟨m, hm⟩ : ∃ m, (pieces s.data.toList).length = m := ⟨_, rfl⟩
  have HM := hid hm
  by_cases hk : k < m
  · have hkI : (k : Int) < (m : Int) := by omega
    have hkF : ((m : Int) ≤ (k : Int)) = False := eq_false (by omega)
    have hlt := hp.lt (by omega)
    have hne := drop_ne hlt
    obtain ⟨hx, hpn⟩ := hp.next (by omega)
    obtain ⟨b, off, rfl, hbn, _, hq⟩ := H.addr (by omega)
    rw [hm] at hq c1
    obtain ⟨_, _, y2, _⟩ := pc_get H.list hx
    dsimp only at y2
    obtain ⟨bt, tl, hbt, hru⟩ := head_rune hne
    obtain ⟨r, hr⟩ : ∃ r, (Lib.decodeL (s.data.toList.drop p)).1 = r := ⟨_, rfl⟩
    rw [hr] at y2 hru
    have HPN := hid hpn
    have HR := hid hr
    have HNE := hid hne
    have HBT := hid hbt
    have HRU := hid hru
    have HTL : Hid (tl = s.data.toList.drop (p + 1)) := by
      show _ = _
      rw [← List.drop_drop, hbt]
      rfl
    clear hpn hr hne hbt hru hx hlt hp hL hk H
    by_cases h34 : r = 34 ∨ r = 92
    · have HE : Hid (escL (92 :: s.data.toList.drop p) = (r, 1 + 1)) := by
        show _ = _
        rw [HBT.out]
        rcases h34 with h | h
        · have := (HRU.out 34 (by decide)).2 h
          rw [escL_sign (.inl this), this, h]
        · have := (HRU.out 92 (by decide)).2 h
          rw [escL_sign (.inr this), this, h]
      have HW1 : Hid (wid (s.data.toList.drop p) = 1) := (dec34 (c := r) HNE.out (by omega) HR.out).1
      rcases h34 with rfl | rfl
      · go_enter Tryz.func111, Tryz.ntmps111
        (go_wp2_with fail; repeat (go_quiet (fail); go_wp2_with fail))
        refine bodyPost_ret (v := .tuple #[.int .i32 34, .bool true]) (by simp [results, Tryz.results111, go_sem]) rfl ?_
        exact EscPost.yes (k' := k + 1) HE.out (by have := HPN.out; rw [HW1.out] at this; exact this) (((HH.out.k (by exact Keeps.K)).go (by push_cast; rfl))) (by exact Keeps.K)
      · go_enter Tryz.func111, Tryz.ntmps111
        (go_wp2_with fail; repeat (go_quiet (fail); go_wp2_with fail))
        refine bodyPost_ret (v := .tuple #[.int .i32 92, .bool true]) (by simp [results, Tryz.results111, go_sem]) rfl ?_
        exact EscPost.yes (k' := k + 1) HE.out (by have := HPN.out; rw [HW1.out] at this; exact this) (((HH.out.k (by exact Keeps.K)).go (by push_cast; rfl))) (by exact Keeps.K)
    · have n34 : ((r : Int) == 34) = false := by simp; omega
      have n92 : ((r : Int) == 92) = false := by simp; omega
      have HB1 : Hid (¬ (bt.toNat = 34 ∨ bt.toNat = 92)) := fun h => h34 (h.imp (HRU.out 34 (by decide)).1 (HRU.out 92 (by decide)).1)
      by_cases h117 : r = 117
      · have HB2 : Hid (bt.toNat = 117) := (HRU.out 117 (by decide)).2 h117
        have HW1 : Hid (wid (s.data.toList.drop p) = 1) := (dec34 (c := r) HNE.out (by omega) HR.out).1
        subst h117
        have HPN1 : Hid (PAt s.data.toList (k + 1) (p + 1)) := by have := HPN.out; rw [HW1.out] at this; exact this
        have HTL2 : Hid (s.data.toList.drop p = bt :: s.data.toList.drop (p + 1)) := by show _ = _; rw [HBT.out, HTL.out]
        clear h34 n34 n92
        go_enter Tryz.func111, Tryz.ntmps111
        (go_wp2_with fail; repeat (go_quiet (fail); go_wp2_with fail))
        go_loopw [5, 6] (fun vv jv wr => ∃ (v j : Nat), vv = .int .i32 v ∧ jv = .int .i64 j ∧ j ≤ 4 ∧ Hid (PAt s.data.toList (k + 1 + j) (p + 1 + j) ∧ hx ((s.data.toList.drop (p + 1)).take j) 0 = some v ∧ j ≤ (s.data.toList.drop (p + 1)).length ∧ LAt wr n s (some ⟨b, off, none⟩) pq (k + 1 + j) ∧ Keeps [n] w wr)) (fun _ jv _ => 4 - (intOf jv).toNat)
        case atStart => exact ⟨0, 0, rfl, rfl, by omega, HPN1.out, rfl, Nat.zero_le _, (HH.out.k (by exact Keeps.K)).go (by push_cast; rfl), by exact Keeps.K⟩
        case round =>
          obtain ⟨v, j, rfl, rfl, hj, HW⟩ := hrel
          clear c0 c1 c2 f2 y2
          obtain ⟨a1, a2, a3, a4, a5⟩ := HW.out
          have HPJ := hid a1
          have HHX := hid a2
          have HJL := hid a3
          have HLJ := hid a4
          have HKJ := hid a5
          obtain ⟨⟨c0, c1, c2⟩, f2⟩ := a4.cells
          rw [HM.out] at c1
          have hv := hx_lt' _ _ _ a2
          rw [List.length_take, Nat.min_eq_left a3] at hv
          have hkp := a1.le
          have hL := HL.out
          clear a1 a2 a3 a4 a5 HW
          have j0 : (0 : Int) ≤ (j : Int) := Int.natCast_nonneg _
          have v0 : (0 : Int) ≤ (v : Int) := Int.natCast_nonneg _
          by_cases hj4 : j < 4
          · have hj4' : (j : Int) < 4 := by omega
            have hv3 : v ≤ 4095 := by
              have h : 16 ^ j ≤ 16 ^ 3 := Nat.pow_le_pow_right (by decide) (by omega)
              have e : (16 : Nat) ^ 3 = 4096 := by decide
              omega
            have hvI : (v : Int) ≤ 4095 := by omega
            obtain ⟨kj, hkj⟩ : ∃ kj, k + 1 + j = kj := ⟨_, rfl⟩
            rw [hkj] at HPJ HLJ c2 hkp
            have kj0 : (0 : Int) ≤ (kj : Int) := Int.natCast_nonneg _
            have kj1 : (kj : Int) ≤ 400 := by omega
            by_cases hkm : kj < m
            · have hkmI : (kj : Int) < (m : Int) := by omega
              have hkmF : ((m : Int) ≤ (kj : Int)) = False := eq_false (by omega)
              have hM := HM.out
              have hltj := HPJ.out.lt (by omega)
              have hnej := drop_ne hltj
              obtain ⟨hxj, hpj⟩ := HPJ.out.next (by omega)
              obtain ⟨_, _, y2, _⟩ := pc_get HLJ.out.list hxj
              dsimp only at y2
              obtain ⟨ch, t2, hch, hd1, hd2, hd3⟩ := hexV_rune hnej
              have hjc : (s.data.toList.drop (p + 1))[j]? = some ch := by
                rw [List.getElem?_drop]
                have := congrArg List.head? hch
                rw [List.head?_drop] at this
                exact this
              have hjl : j + 1 ≤ (s.data.toList.drop (p + 1)).length := (List.getElem?_eq_some_iff.1 hjc).1
              have hnx := hx_next HHX.out hjc
              obtain ⟨c, hc⟩ : ∃ c, (Lib.decodeL (s.data.toList.drop (p + 1 + j))).1 = c := ⟨_, rfl⟩
              rw [hc] at y2 hd1 hd2 hd3
              have HJL2 := hid hjl
              have HPJ2 := hid hpj
              have HNX := hid hnx
              have HD1 := hid hd1
              have HD2 := hid hd2
              have HD3 := hid hd3
              clear hM hxj hpj hch hd1 hd2 hd3 hjc hnx hltj hnej hc hjl hL hv
              by_cases hA : 48 ≤ c ∧ c ≤ 57
              · have q1 : (48 : Int) ≤ (c : Int) := by omega
                have q2 : (c : Int) ≤ 57 := by omega
                obtain ⟨e1, e2⟩ := HD1.out hA
                have HN2 := HNX.out
                rw [e1] at HN2
                have HN2 : Hid (hx ((s.data.toList.drop (p + 1)).take (j + 1)) 0 = some (v * 16 + (c - 48))) := HN2
                have HP3 := HPJ2.out
                rw [e2] at HP3
                have HP3 := hid HP3
                clear hA e1 e2
                (go_wp2_with fail; repeat (go_quiet (fail); go_wp2_with fail))
                refine ⟨⟨v * 16 + (c - 48), j + 1, congrArg (Value.int .i32) (by omega), rfl, by omega, ?_, HN2.out, HJL2.out, ?_, HKJ.out.trans (G := [n]) (by exact Keeps.K) (fun _ _ h => h)⟩, by simp [intOf]; omega⟩
                · rw [show k + 1 + (j + 1) = kj + 1 by omega]
                  exact HP3.out
                · rw [show k + 1 + (j + 1) = kj + 1 by omega]
                  exact (HLJ.out.k (by exact Keeps.K)).go (by push_cast; rfl)
              · by_cases hB : 97 ≤ c ∧ c ≤ 102
                · have q1 : (48 : Int) ≤ (c : Int) := by omega
                  have q2 : (57 : Int) < (c : Int) := by omega
                  have q3 : (97 : Int) ≤ (c : Int) := by omega
                  have q4 : (c : Int) ≤ 102 := by omega
                  obtain ⟨e1, e2⟩ := HD2.out hB
                  have HN2 := HNX.out
                  rw [e1] at HN2
                  have HN2 : Hid (hx ((s.data.toList.drop (p + 1)).take (j + 1)) 0 = some (v * 16 + (c - 87))) := HN2
                  have HP3 := HPJ2.out
                  rw [e2] at HP3
                  have HP3 := hid HP3
                  clear hA hB e1 e2
                  (go_wp2_with fail; repeat (go_quiet (fail); go_wp2_with fail))
                  refine ⟨⟨v * 16 + (c - 87), j + 1, congrArg (Value.int .i32) (by omega), rfl, by omega, ?_, HN2.out, HJL2.out, ?_, HKJ.out.trans (G := [n]) (by exact Keeps.K) (fun _ _ h => h)⟩, by simp [intOf]; omega⟩
                  · rw [show k + 1 + (j + 1) = kj + 1 by omega]
                    exact HP3.out
                  · rw [show k + 1 + (j + 1) = kj + 1 by omega]
                    exact (HLJ.out.k (by exact Keeps.K)).go (by push_cast; rfl)
                · have HN2 := HNX.out
                  rw [HD3.out hA hB] at HN2
                  have HE : Hid ((escL (92 :: s.data.toList.drop p)).2 = 0) := by
                    show _ = _
                    rw [HTL2.out]
                    exact esc_fail HB1.out HB2.out (.inr (hx_stop HN2 4 (by omega))) 92
                  have hcs : (c : Int) < 48 ∨ (48 ≤ (c : Int) ∧ 57 < (c : Int) ∧ (c : Int) < 97) ∨ (48 ≤ (c : Int) ∧ 57 < (c : Int) ∧ 97 ≤ (c : Int) ∧ 102 < (c : Int)) := by omega
                  clear hA hB HN2
                  rcases hcs with q1 | ⟨q1, q2, q3⟩ | ⟨q1, q2, q3, q4⟩
                  all_goals
                    (go_wp2_with fail; repeat (go_quiet (fail); go_wp2_with fail))
                    refine bodyPost_ret (v := .tuple #[.int .i32 0, .bool false]) (by simp [results, Tryz.results111, go_sem]) rfl ?_
                    exact EscPost.no 0 HE.out (HKJ.out.trans (G := [n]) (by exact Keeps.K) (fun _ _ h => h))
            · have hkmF : (m : Int) ≤ (kj : Int) := by omega
              have hend := HPJ.out.end_ (by rw [HM.out]; exact hkm)
              have HE : Hid ((escL (92 :: s.data.toList.drop p)).2 = 0) := by
                show _ = _
                rw [HTL2.out]
                refine esc_fail HB1.out HB2.out (.inl ?_) 92
                rw [List.length_drop]
                omega
              clear hend hL hkm
              (go_wp2_with fail; repeat (go_quiet (fail); go_wp2_with fail))
              refine bodyPost_ret (v := .tuple #[.int .i32 0, .bool false]) (by simp [results, Tryz.results111, go_sem]) rfl ?_
              exact EscPost.no 0 HE.out (HKJ.out.trans (G := []) (by exact Keeps.K) (fun _ _ h => by cases h))
          · obtain rfl : j = 4 := by omega
            have hv5 : v ≤ 65535 := by
              have e : (16 : Nat) ^ 4 = 65536 := by decide
              omega
            have HD : Hid (escL (92 :: s.data.toList.drop p) = if 55296 ≤ v ∧ v ≤ 57343 then (0, 0) else (v, 6)) := by
              show _ = _
              rw [HTL2.out]
              exact esc_done HB1.out HB2.out HJL.out HHX.out 92
            have hcs : (v : Int) < 55296 ∨ (55296 ≤ (v : Int) ∧ 57343 < (v : Int)) ∨ (55296 ≤ (v : Int) ∧ (v : Int) ≤ 57343) := by omega
            clear hv hj4
            rcases hcs with q1 | ⟨q1, q2⟩ | ⟨q1, q2⟩
            · have HE := HD.out
              rw [if_neg (by omega)] at HE
              have HE := hid HE
              (go_wp2_with fail; repeat (go_quiet (fail); go_wp2_with fail))
              refine bodyPost_ret (v := .tuple #[.int .i32 v, .bool true]) (by simp [results, Tryz.results111, go_sem]) rfl ?_
              exact EscPost.yes (d := 5) HE.out HPJ.out (HLJ.out.k (by exact Keeps.K)) (HKJ.out.trans (G := []) (by exact Keeps.K) (fun _ _ h => by cases h))
            · have HE := HD.out
              rw [if_neg (by omega)] at HE
              have HE := hid HE
              (go_wp2_with fail; repeat (go_quiet (fail); go_wp2_with fail))
              refine bodyPost_ret (v := .tuple #[.int .i32 v, .bool true]) (by simp [results, Tryz.results111, go_sem]) rfl ?_
              exact EscPost.yes (d := 5) HE.out HPJ.out (HLJ.out.k (by exact Keeps.K)) (HKJ.out.trans (G := []) (by exact Keeps.K) (fun _ _ h => by cases h))
            · have HE := HD.out
              rw [if_pos (by omega)] at HE
              have HE : Hid ((escL (92 :: s.data.toList.drop p)).2 = 0) := congrArg Prod.snd HE
              (go_wp2_with fail; repeat (go_quiet (fail); go_wp2_with fail))
              refine bodyPost_ret (v := .tuple #[.int .i32 v, .bool false]) (by simp [results, Tryz.results111, go_sem]; exact ⟨q1, q2⟩) rfl ?_
              exact EscPost.no v HE.out (HKJ.out.trans (G := []) (by exact Keeps.K) (fun _ _ h => by cases h))
      · have n117 : ((r : Int) != 117) = true := by simp; omega
        have HE : Hid ((escL (92 :: s.data.toList.drop p)).2 = 0) := by
          show _ = _
          rw [HBT.out, escL_no HB1.out (fun h => h117 ((HRU.out 117 (by decide)).1 h))]
        clear h34 h117
        go_enter Tryz.func111, Tryz.ntmps111
        (go_wp2_with fail; repeat (go_quiet (fail); go_wp2_with fail))
        refine bodyPost_ret (v := .tuple #[.int .i32 0, .bool false]) (by simp [results, Tryz.results111, go_sem]) rfl ?_
        exact EscPost.no 0 HE.out (by exact Keeps.K)
  · have hkF : (m : Int) ≤ (k : Int) := by omega
    have hend := hp.end_ (by omega)
    have HE : Hid ((escL (92 :: s.data.toList.drop p)).2 = 0) := by
      show _ = _
      rw [hend, List.drop_of_length_le (Nat.le_refl _)]
      rfl
    rw [hm] at c1
    clear hp hend hL hk H
    go_enter Tryz.func111, Tryz.ntmps111
    (go_wp2_with fail; repeat (go_quiet (fail); go_wp2_with fail))
    refine bodyPost_ret (v := .tuple #[.int .i32 0, .bool false]) (by simp [results, Tryz.results111, go_sem]) rfl ?_
    exact EscPost.no 0 HE.out (by exact Keeps.K)

end Go.Proofs.YtnjdepojmnniaaaGreatDoor
