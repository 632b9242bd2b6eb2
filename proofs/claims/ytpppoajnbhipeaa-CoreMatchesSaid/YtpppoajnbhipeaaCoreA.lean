/- Package core's, its reference's smallest functions; which configs may be. -/
import Derived.Test.YtpppoajnbhipeaaPlace
import Derived.Test.YtpppoajnbhipeaaCoreD
import Derived.Test.YtpppoajnbhipeaaPlan
import Derived.Outline
namespace Go.Proofs.Ytpppoajnbhipeaa
open Go Go.RowKit

set_option maxHeartbeats 400000 in
theorem cin_any (v a b : Int) (w : World) : Calls Try.prog 46 #[.int .i64 v, .int .i64 a, .int .i64 b] w fun e w' => e = .returned (.bool (inD v a b)) ∧ w' = w := by
  by_cases h1 : a ≤ v
  · by_cases h2 : v ≤ b
    · go_enter Try.func46, Try.ntmps46
      go_wp2
      go_ret
      exact ⟨by simp [inD, h1, h2], rfl⟩
    · go_enter Try.func46, Try.ntmps46
      go_wp2
      go_ret
      exact ⟨by simp [inD, h2], rfl⟩
  · go_enter Try.func46, Try.ntmps46
    go_wp2
    go_ret
    exact ⟨by simp [inD]; omega, rfl⟩

set_option maxHeartbeats 400000 in
theorem rin_any (v a b : Int) (w : World) : Calls Try.prog 45 #[.int .i64 v, .int .i64 a, .int .i64 b] w fun e w' => e = .returned (.bool (inD v a b)) ∧ w' = w := by
  by_cases h1 : a ≤ v
  · by_cases h2 : v ≤ b
    · go_enter Try.func45, Try.ntmps45
      go_wp2
      go_ret
      exact ⟨by simp [inD, h1, h2], rfl⟩
    · go_enter Try.func45, Try.ntmps45
      go_wp2
      go_ret
      exact ⟨by simp [inD, h2], rfl⟩
  · go_enter Try.func45, Try.ntmps45
    go_wp2
    go_ret
    exact ⟨by simp [inD]; omega, rfl⟩

/-- The cells of a config. -/
def confV (c : ConfD) : Value := .agg #[.int .i64 c.nodes, .int .i64 c.clients, .int .i64 c.heart, .int .i64 c.lo, .int .i64 c.range, .int .i64 c.sessions, .int .i64 c.snap, .int .i64 c.room, .int .i64 c.retry]

theorem ret_bool {a b : Bool} (h : a = b) : Ending.returned (.bool a) = .returned (.bool b) := by rw [h]
theorem ret_int {k : IntKind} {a b : Int} (h : a = b) : Ending.returned (.int k a) = .returned (.int k b) := by rw [h]

theorem ret_ib {k : IntKind} {a a' : Int} {b b' : Bool} (h : a = a') (g : b = b') : Ending.returned (.tuple #[.int k a, .bool b]) = .returned (.tuple #[.int k a', .bool b']) := by rw [h, g]

/-- An index that a fact tells. -/
theorem wpList_index {P : Program} {ops : Array Oper} {rest : List Oper} {o : Oper} {a : Act} {w : World} {Q : Exit → Act → World → Prop} (hgd : o.guard = none) (t : TypeId) (x i : Operand) (ho : o.op = .index t x i) (vx vi v : Value) (hx : a.eval x = vx) (hi : a.eval i = vi)
    (hrun : (Instr.index t vx vi).run P w = .ok v w) (h : wpList P ops Q rest (a.put o.dst v) w) : wpList P ops Q (o :: rest) a w := by
  refine wpList_plain hgd fun K hK => ?_
  unfold Oper.wp execOp
  simp only [ho, Sem.run_bind, Sem.run_pure, Result.andThen_ok, hx, hi, hrun]
  exact hK _ _ h

/-- The table's rows as the code makes them. -/
def ConfD.rowW (c : ConfD) : Nat → Int × Int × Int
  | 3 => (c.lo, wrap64 (c.heart + 1), 1000)
  | k => c.row k
theorem ConfD.rowW_eq (c : ConfD) (k : Nat) (h : c.mayTo k = true) : c.rowW k = c.row k := by
  unfold ConfD.rowW
  split
  · simp [ConfD.mayTo, ConfD.ok, ConfD.row, inD] at h
    rw [IntWalk.wrap64_in _ ⟨by omega, by omega⟩]
    rfl
  · rfl

theorem may_row (c : ConfD) (w : World) : ∀ k, k < 9 → ∃ x a b, c.rowW k = (x, a, b) ∧ (Instr.index 85 (.agg #[.int .i64 c.nodes, .int .i64 3, .int .i64 7, .int .i64 c.clients, .int .i64 0, .int .i64 8, .int .i64 c.heart, .int .i64 1, .int .i64 100, .int .i64 c.lo, .int .i64 (wrap64 (c.heart + 1)), .int .i64 1000, .int .i64 c.range, .int .i64 0, .int .i64 1000,
    .int .i64 c.sessions, .int .i64 1, .int .i64 16, .int .i64 c.snap, .int .i64 1, .int .i64 1000, .int .i64 c.room, .int .i64 0, .int .i64 512, .int .i64 c.retry, .int .i64 1, .int .i64 1000]) (.int .i64 k)).run Try.prog w = .ok (.agg #[.int .i64 x, .int .i64 a, .int .i64 b]) w
  | 0, _ => ⟨_, _, _, rfl, by kernel_rfl⟩
  | 1, _ => ⟨_, _, _, rfl, by kernel_rfl⟩
  | 2, _ => ⟨_, _, _, rfl, by kernel_rfl⟩
  | 3, _ => ⟨_, _, _, rfl, by kernel_rfl⟩
  | 4, _ => ⟨_, _, _, rfl, by kernel_rfl⟩
  | 5, _ => ⟨_, _, _, rfl, by kernel_rfl⟩
  | 6, _ => ⟨_, _, _, rfl, by kernel_rfl⟩
  | 7, _ => ⟨_, _, _, rfl, by kernel_rfl⟩
  | 8, _ => ⟨_, _, _, rfl, by kernel_rfl⟩
  | n + 9, h => by omega

set_option maxRecDepth 100000 in
set_option maxHeartbeats 1600000 in
theorem cMay_any (c : ConfD) (w : World) : Calls Try.prog 12 #[confV c] w fun e w' => e = .returned (.bool c.may) ∧ Keeps [] w w' := by
  unfold confV
  go_enter Try.func12, Try.ntmps12
  go_wp2_with fail
  go_loopw [36] (fun i wr => ∃ k : Nat, k ≤ 9 ∧ i = .int .i64 k ∧ Hid (c.mayTo k = true ∧ Keeps [] w wr)) (fun i _ => 9 - (intOf i).toNat)
  case atStart => exact ⟨0, Nat.zero_le _, rfl, rfl, (Keeps.refl [] w).alloc _⟩
  case round =>
    obtain ⟨k, hk, rfl, HW⟩ := hrel
    by_cases hlt : k < 9
    · have i1 : (k : Int) < 9 := by omega
      obtain ⟨x, a, b, hr, hi⟩ := may_row c wr k hlt
      have HI := hid hi
      clear hi
      have HR : Hid (c.row k = (x, a, b)) := by show _ = _; rw [← hr, c.rowW_eq k HW.out.1]
      clear hr
      by_cases h1 : x < a
      · have HF : Hid (c.may = false) := ConfD.not_may hlt (by unfold ConfD.ok; rw [HR.out]; simp [inD]; omega)
        go_wp2_with (show wpList _ _ _ (⟨some 38, _, _, _, _, _⟩ :: _) _ _; go_must (refine wpList_index rfl _ _ _ rfl _ _ _ rfl rfl HI.out ?_))
        go_ret
        exact ⟨ret_bool HF.out.symm, HW.out.2.alloc _⟩
      · by_cases h2 : b < x
        · have HF : Hid (c.may = false) := ConfD.not_may hlt (by unfold ConfD.ok; rw [HR.out]; simp [inD]; omega)
          go_wp2_with (show wpList _ _ _ (⟨some 38, _, _, _, _, _⟩ :: _) _ _; go_must (refine wpList_index rfl _ _ _ rfl _ _ _ rfl rfl HI.out ?_))
          go_ret
          exact ⟨ret_bool HF.out.symm, HW.out.2.alloc _⟩
        · have HT : Hid (c.mayTo (k + 1) = true) := by
            show _ = _
            simp only [ConfD.mayTo, ConfD.ok, HW.out.1, HR.out]
            simp [inD]
            omega
          go_wp2_with (show wpList _ _ _ (⟨some 38, _, _, _, _, _⟩ :: _) _ _; go_must (refine wpList_index rfl _ _ _ rfl _ _ _ rfl rfl HI.out ?_))
          go_roundw
          case rel => exact ⟨k + 1, by omega, by go_num, HT.out, HW.out.2.alloc _⟩
          case measure => simp [intOf]; omega
    · have hk9 : k = 9 := by omega
      subst hk9
      go_wp2_with fail
      go_ret
      exact ⟨ret_bool HW.out.1.symm, HW.out.2⟩

theorem rin_is (r : Bool) (v a b : Int) (w : World) (h : inD v a b = r) : Calls Try.prog 45 #[.int .i64 v, .int .i64 a, .int .i64 b] w fun e w' => e = .returned (.bool r) ∧ w' = w := by rw [← h]; exact rin_any v a b w
theorem cin_is (r : Bool) (v a b : Int) (w : World) (h : inD v a b = r) : Calls Try.prog 46 #[.int .i64 v, .int .i64 a, .int .i64 b] w fun e w' => e = .returned (.bool r) ∧ w' = w := by rw [← h]; exact cin_any v a b w

set_option maxRecDepth 100000 in
set_option maxHeartbeats 3200000 in
theorem rMay_any (c : ConfD) (w : World) : Calls Try.prog 13 #[confV c] w fun e w' => e = .returned (.bool c.may) ∧ Keeps [] w w' := by
  unfold confV
  rcases hb0 : inD c.nodes 3 7 with _ | _
  · have F0 := hid hb0
    clear hb0
    go_enter Try.func13, Try.ntmps13
    go_wp2_with fail
    refine (rin_is false _ _ _ _ F0.out).mono ?_
    rintro e w' ⟨rfl, hw'⟩
    subst hw'
    go_wp2_with fail
    go_ret
    exact ⟨ret_bool (ConfD.not_may (k := 0) (by omega) F0.out).symm, (Keeps.refl [] _).alloc _⟩
  have F0 := hid hb0
  clear hb0
  rcases hb1 : inD c.clients 0 8 with _ | _
  · have F1 := hid hb1
    clear hb1
    go_enter Try.func13, Try.ntmps13
    go_wp2_with fail
    refine (rin_is true _ _ _ _ F0.out).mono ?_
    rintro e w' ⟨rfl, hw'⟩
    subst hw'
    go_wp2_with fail
    refine (rin_is false _ _ _ _ F1.out).mono ?_
    rintro e w' ⟨rfl, hw'⟩
    subst hw'
    go_wp2_with fail
    go_ret
    exact ⟨ret_bool (ConfD.not_may (k := 1) (by omega) F1.out).symm, (Keeps.refl [] _).alloc _⟩
  have F1 := hid hb1
  clear hb1
  rcases hb2 : inD c.heart 1 100 with _ | _
  · have F2 := hid hb2
    clear hb2
    go_enter Try.func13, Try.ntmps13
    go_wp2_with fail
    refine (rin_is true _ _ _ _ F0.out).mono ?_
    rintro e w' ⟨rfl, hw'⟩
    subst hw'
    go_wp2_with fail
    refine (rin_is true _ _ _ _ F1.out).mono ?_
    rintro e w' ⟨rfl, hw'⟩
    subst hw'
    go_wp2_with fail
    refine (rin_is false _ _ _ _ F2.out).mono ?_
    rintro e w' ⟨rfl, hw'⟩
    subst hw'
    go_wp2_with fail
    go_ret
    exact ⟨ret_bool (ConfD.not_may (k := 2) (by omega) F2.out).symm, (Keeps.refl [] _).alloc _⟩
  have F2 := hid hb2
  have HG : Hid (1 ≤ c.heart ∧ c.heart ≤ 100) := by show _ ∧ _; simpa [inD] using hb2
  clear hb2
  rcases hb3 : inD c.lo (c.heart + 1) 1000 with _ | _
  · have F3 := hid hb3
    clear hb3
    have g2 := HG.out
    go_enter Try.func13, Try.ntmps13
    go_wp2_with fail
    refine (rin_is true _ _ _ _ F0.out).mono ?_
    rintro e w' ⟨rfl, hw'⟩
    subst hw'
    go_wp2_with fail
    refine (rin_is true _ _ _ _ F1.out).mono ?_
    rintro e w' ⟨rfl, hw'⟩
    subst hw'
    go_wp2_with fail
    refine (rin_is true _ _ _ _ F2.out).mono ?_
    rintro e w' ⟨rfl, hw'⟩
    subst hw'
    go_wp2_with fail
    refine (rin_is false _ _ _ _ F3.out).mono ?_
    rintro e w' ⟨rfl, hw'⟩
    subst hw'
    go_wp2_with fail
    go_ret
    exact ⟨ret_bool (ConfD.not_may (k := 3) (by omega) F3.out).symm, (Keeps.refl [] _).alloc _⟩
  have F3 := hid hb3
  clear hb3
  rcases hb4 : inD c.range 0 1000 with _ | _
  · have F4 := hid hb4
    clear hb4
    have g2 := HG.out
    go_enter Try.func13, Try.ntmps13
    go_wp2_with fail
    refine (rin_is true _ _ _ _ F0.out).mono ?_
    rintro e w' ⟨rfl, hw'⟩
    subst hw'
    go_wp2_with fail
    refine (rin_is true _ _ _ _ F1.out).mono ?_
    rintro e w' ⟨rfl, hw'⟩
    subst hw'
    go_wp2_with fail
    refine (rin_is true _ _ _ _ F2.out).mono ?_
    rintro e w' ⟨rfl, hw'⟩
    subst hw'
    go_wp2_with fail
    refine (rin_is true _ _ _ _ F3.out).mono ?_
    rintro e w' ⟨rfl, hw'⟩
    subst hw'
    go_wp2_with fail
    refine (rin_is false _ _ _ _ F4.out).mono ?_
    rintro e w' ⟨rfl, hw'⟩
    subst hw'
    go_wp2_with fail
    go_ret
    exact ⟨ret_bool (ConfD.not_may (k := 4) (by omega) F4.out).symm, (Keeps.refl [] _).alloc _⟩
  have F4 := hid hb4
  clear hb4
  rcases hb5 : inD c.sessions 1 16 with _ | _
  · have F5 := hid hb5
    clear hb5
    have g2 := HG.out
    go_enter Try.func13, Try.ntmps13
    go_wp2_with fail
    refine (rin_is true _ _ _ _ F0.out).mono ?_
    rintro e w' ⟨rfl, hw'⟩
    subst hw'
    go_wp2_with fail
    refine (rin_is true _ _ _ _ F1.out).mono ?_
    rintro e w' ⟨rfl, hw'⟩
    subst hw'
    go_wp2_with fail
    refine (rin_is true _ _ _ _ F2.out).mono ?_
    rintro e w' ⟨rfl, hw'⟩
    subst hw'
    go_wp2_with fail
    refine (rin_is true _ _ _ _ F3.out).mono ?_
    rintro e w' ⟨rfl, hw'⟩
    subst hw'
    go_wp2_with fail
    refine (rin_is true _ _ _ _ F4.out).mono ?_
    rintro e w' ⟨rfl, hw'⟩
    subst hw'
    go_wp2_with fail
    refine (rin_is false _ _ _ _ F5.out).mono ?_
    rintro e w' ⟨rfl, hw'⟩
    subst hw'
    go_wp2_with fail
    go_ret
    exact ⟨ret_bool (ConfD.not_may (k := 5) (by omega) F5.out).symm, (Keeps.refl [] _).alloc _⟩
  have F5 := hid hb5
  clear hb5
  rcases hb6 : inD c.snap 1 1000 with _ | _
  · have F6 := hid hb6
    clear hb6
    have g2 := HG.out
    go_enter Try.func13, Try.ntmps13
    go_wp2_with fail
    refine (rin_is true _ _ _ _ F0.out).mono ?_
    rintro e w' ⟨rfl, hw'⟩
    subst hw'
    go_wp2_with fail
    refine (rin_is true _ _ _ _ F1.out).mono ?_
    rintro e w' ⟨rfl, hw'⟩
    subst hw'
    go_wp2_with fail
    refine (rin_is true _ _ _ _ F2.out).mono ?_
    rintro e w' ⟨rfl, hw'⟩
    subst hw'
    go_wp2_with fail
    refine (rin_is true _ _ _ _ F3.out).mono ?_
    rintro e w' ⟨rfl, hw'⟩
    subst hw'
    go_wp2_with fail
    refine (rin_is true _ _ _ _ F4.out).mono ?_
    rintro e w' ⟨rfl, hw'⟩
    subst hw'
    go_wp2_with fail
    refine (rin_is true _ _ _ _ F5.out).mono ?_
    rintro e w' ⟨rfl, hw'⟩
    subst hw'
    go_wp2_with fail
    refine (rin_is false _ _ _ _ F6.out).mono ?_
    rintro e w' ⟨rfl, hw'⟩
    subst hw'
    go_wp2_with fail
    go_ret
    exact ⟨ret_bool (ConfD.not_may (k := 6) (by omega) F6.out).symm, (Keeps.refl [] _).alloc _⟩
  have F6 := hid hb6
  clear hb6
  rcases hb7 : inD c.room 0 512 with _ | _
  · have F7 := hid hb7
    clear hb7
    have g2 := HG.out
    go_enter Try.func13, Try.ntmps13
    go_wp2_with fail
    refine (rin_is true _ _ _ _ F0.out).mono ?_
    rintro e w' ⟨rfl, hw'⟩
    subst hw'
    go_wp2_with fail
    refine (rin_is true _ _ _ _ F1.out).mono ?_
    rintro e w' ⟨rfl, hw'⟩
    subst hw'
    go_wp2_with fail
    refine (rin_is true _ _ _ _ F2.out).mono ?_
    rintro e w' ⟨rfl, hw'⟩
    subst hw'
    go_wp2_with fail
    refine (rin_is true _ _ _ _ F3.out).mono ?_
    rintro e w' ⟨rfl, hw'⟩
    subst hw'
    go_wp2_with fail
    refine (rin_is true _ _ _ _ F4.out).mono ?_
    rintro e w' ⟨rfl, hw'⟩
    subst hw'
    go_wp2_with fail
    refine (rin_is true _ _ _ _ F5.out).mono ?_
    rintro e w' ⟨rfl, hw'⟩
    subst hw'
    go_wp2_with fail
    refine (rin_is true _ _ _ _ F6.out).mono ?_
    rintro e w' ⟨rfl, hw'⟩
    subst hw'
    go_wp2_with fail
    refine (rin_is false _ _ _ _ F7.out).mono ?_
    rintro e w' ⟨rfl, hw'⟩
    subst hw'
    go_wp2_with fail
    go_ret
    exact ⟨ret_bool (ConfD.not_may (k := 7) (by omega) F7.out).symm, (Keeps.refl [] _).alloc _⟩
  have F7 := hid hb7
  clear hb7
  rcases hb8 : inD c.retry 1 1000 with _ | _
  · have F8 := hid hb8
    clear hb8
    have g2 := HG.out
    go_enter Try.func13, Try.ntmps13
    go_wp2_with fail
    refine (rin_is true _ _ _ _ F0.out).mono ?_
    rintro e w' ⟨rfl, hw'⟩
    subst hw'
    go_wp2_with fail
    refine (rin_is true _ _ _ _ F1.out).mono ?_
    rintro e w' ⟨rfl, hw'⟩
    subst hw'
    go_wp2_with fail
    refine (rin_is true _ _ _ _ F2.out).mono ?_
    rintro e w' ⟨rfl, hw'⟩
    subst hw'
    go_wp2_with fail
    refine (rin_is true _ _ _ _ F3.out).mono ?_
    rintro e w' ⟨rfl, hw'⟩
    subst hw'
    go_wp2_with fail
    refine (rin_is true _ _ _ _ F4.out).mono ?_
    rintro e w' ⟨rfl, hw'⟩
    subst hw'
    go_wp2_with fail
    refine (rin_is true _ _ _ _ F5.out).mono ?_
    rintro e w' ⟨rfl, hw'⟩
    subst hw'
    go_wp2_with fail
    refine (rin_is true _ _ _ _ F6.out).mono ?_
    rintro e w' ⟨rfl, hw'⟩
    subst hw'
    go_wp2_with fail
    refine (rin_is true _ _ _ _ F7.out).mono ?_
    rintro e w' ⟨rfl, hw'⟩
    subst hw'
    go_wp2_with fail
    refine (rin_is false _ _ _ _ F8.out).mono ?_
    rintro e w' ⟨rfl, hw'⟩
    subst hw'
    go_wp2_with fail
    go_ret
    exact ⟨ret_bool (ConfD.not_may (k := 8) (by omega) F8.out).symm, (Keeps.refl [] _).alloc _⟩
  have F8 := hid hb8
  clear hb8
  have g2 := HG.out
  go_enter Try.func13, Try.ntmps13
  go_wp2_with fail
  refine (rin_is true _ _ _ _ F0.out).mono ?_
  rintro e w' ⟨rfl, hw'⟩
  subst hw'
  go_wp2_with fail
  refine (rin_is true _ _ _ _ F1.out).mono ?_
  rintro e w' ⟨rfl, hw'⟩
  subst hw'
  go_wp2_with fail
  refine (rin_is true _ _ _ _ F2.out).mono ?_
  rintro e w' ⟨rfl, hw'⟩
  subst hw'
  go_wp2_with fail
  refine (rin_is true _ _ _ _ F3.out).mono ?_
  rintro e w' ⟨rfl, hw'⟩
  subst hw'
  go_wp2_with fail
  refine (rin_is true _ _ _ _ F4.out).mono ?_
  rintro e w' ⟨rfl, hw'⟩
  subst hw'
  go_wp2_with fail
  refine (rin_is true _ _ _ _ F5.out).mono ?_
  rintro e w' ⟨rfl, hw'⟩
  subst hw'
  go_wp2_with fail
  refine (rin_is true _ _ _ _ F6.out).mono ?_
  rintro e w' ⟨rfl, hw'⟩
  subst hw'
  go_wp2_with fail
  refine (rin_is true _ _ _ _ F7.out).mono ?_
  rintro e w' ⟨rfl, hw'⟩
  subst hw'
  go_wp2_with fail
  refine (rin_is true _ _ _ _ F8.out).mono ?_
  rintro e w' ⟨rfl, hw'⟩
  subst hw'
  go_wp2_with fail
  go_ret
  exact ⟨ret_bool (by simp only [ConfD.may, ConfD.mayTo, show c.ok 0 = true from F0.out, show c.ok 1 = true from F1.out, show c.ok 2 = true from F2.out, show c.ok 3 = true from F3.out, show c.ok 4 = true from F4.out, show c.ok 5 = true from F5.out, show c.ok 6 = true from F6.out, show c.ok 7 = true from F7.out, show c.ok 8 = true from F8.out, Bool.and_true]), (Keeps.refl [] _).alloc _⟩

end Go.Proofs.Ytpppoajnbhipeaa
