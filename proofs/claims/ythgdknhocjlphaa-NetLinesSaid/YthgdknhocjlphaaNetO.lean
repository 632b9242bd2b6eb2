/- do: one call at both nets. -/
import Derived.Test.YthgdknhocjlphaaNetN
namespace Go.Proofs.Ythgdknhocjlphaa
open Go Go.RowKit

def Good (room : Nat) (ms : Mail) : Prop := ms.length ≤ room ∧ room ≤ 512 ∧ ∀ m ∈ ms, m.1 ≠ [] ∧ m.1.length ≤ 500
theorem Good.small {room : Nat} {ms : Mail} (h : Good room ms) : Small ms := ⟨by have := h.1; have := h.2.1; omega, fun m hm => by have := (h.2.2 m hm).2; omega⟩

/-- The two nets, both above B, apart from each other, with the same messages. -/
def Duo (B : Nat) (w : World) (n rn room : Nat) (ms : Mail) : Prop :=
  ∃ F F2, NetRep w n room ms F ∧ RefRep w rn room ms F2 ∧ (∀ b ∈ F, b ∉ F2) ∧ (∀ b ∈ F, B ≤ b) ∧ (∀ b ∈ F2, B ≤ b) ∧ B ≤ w.heap.size ∧ Good room ms

/-- A step at the one, then a step at the other. -/
theorem Duo.turn {B n rn room : Nat} {ms' : Mail} {w w1 w2 : World} {F F' F2 F2' : List Nat} (hd : ∀ b ∈ F, b ∉ F2) (hB : ∀ b ∈ F, B ≤ b) (hB2 : ∀ b ∈ F2, B ≤ b) (hsz : B ≤ w.heap.size) (hl2 : ∀ b ∈ F2, b < w.heap.size) (_hl : ∀ b ∈ F, b < w.heap.size)
    (h1 : NetRep w1 n room ms' F') (t1 : Turned F F' w w1) (h2 : RefRep w2 rn room ms' F2') (t2 : Turned F2 F2' w1 w2) (hg : Good room ms') : Duo B w2 n rn room ms' ∧ Below B w w2 := by
  have s1 := t1.1.size
  have s2 := t2.1.size
  have l1 := h1.lt
  refine ⟨⟨F', F2', h1.keeps t2.1 (fun b hb hb' => ?_), h2, fun b hb hb' => ?_, fun b hb => ?_, fun b hb => ?_, by omega, hg⟩, (t1.1.below hsz hB).trans ((t2.1.below (by omega) hB2))⟩
  · rcases t1.2 b hb with h | h
    · exact hd b h hb'
    · have := hl2 b hb'; omega
  · rcases t2.2 b hb' with h | h
    · rcases t1.2 b hb with h' | h'
      · exact hd b h' h
      · have := hl2 b h; omega
    · have := l1 b hb; omega
  · rcases t1.2 b hb with h | h
    · exact hB b h
    · omega
  · rcases t2.2 b hb with h | h
    · exact hB2 b h
    · omega

theorem place_is (p v n : Int) (w : World) (h0 : 0 < n) (h1 : n ≤ 1000000000) (wv : (Lit.int .i64 v).wf = true) (hp : placeOf v n = p) :
    Calls Try.prog 7 #[.int .i64 v, .int .i64 n] w fun e w' => e = .returned (.int .i64 p) ∧ w' = w := by rw [← hp]; exact place_any v n w h0 h1 wv

theorem Good.send {room : Nat} {ms : Mail} {m : List UInt8 × Bool} (h : Good room ms) (h1 : m.1 ≠ []) (h2 : m.1.length ≤ 500) : Good room (sendS room ms m).2 := by
  unfold sendS
  split
  · exact h
  · refine ⟨by simp; omega, h.2.1, fun x hx => ?_⟩
    rcases List.mem_append.1 hx with hx | hx
    · exact h.2.2 x hx
    · simp at hx; subst hx; exact ⟨h1, h2⟩
theorem Good.erase {room : Nat} {ms : Mail} (h : Good room ms) (j : Nat) : Good room (ms.eraseIdx j) :=
  ⟨Nat.le_trans (List.length_eraseIdx_le ..) h.1, h.2.1, fun m hm => h.2.2 m (List.mem_of_mem_eraseIdx hm)⟩
theorem Good.twice {room : Nat} {ms : Mail} (h : Good room ms) (i : Int) : Good room (TwiceS room ms i).2 := by
  unfold TwiceS
  split
  · exact h
  · split
    · rename_i m hm
      have := h.2.2 m (List.mem_of_getElem? hm)
      exact h.send this.1 this.2
    · exact h
theorem Good.spoil {room : Nat} {ms : Mail} (h : Good room ms) (i at_ by_ : Int) : Good room (SpoilS ms i at_ by_).2 := by
  unfold SpoilS
  split
  · exact h
  · split
    · rename_i m hm
      split
      · exact h
      · have hh := h.2.2 m (List.mem_of_getElem? hm)
        refine ⟨by simpa using h.1, h.2.1, fun x hx => ?_⟩
        rcases List.mem_or_eq_of_mem_set hx with hx | hx
        · exact h.2.2 x hx
        · subst hx
          refine ⟨fun e => hh.1 (List.eq_nil_of_length_eq_zero ?_), by simpa using hh.2⟩
          have := congrArg List.length e
          simpa using this
    · exact h

theorem spoil_turned {F : List Nat} {w w' : World} (k : Keeps F w w') : Turned F F w w' := ⟨k, fun _ h => .inl h⟩

set_option maxRecDepth 100000 in
set_option maxHeartbeats 1600000 in
theorem do_twice (B n rn room : Nat) (ms : Mail) (kind i at_ by_ : Int) (bv : Value) (w : World) (h : Duo B w n rn room ms) (wk : (Lit.int .i64 kind).wf = true) (hp : placeOf kind 6 = 3) :
    Calls Try.prog 17 #[.pointer (some ⟨n, 0, none⟩), .pointer (some ⟨rn, 0, none⟩), .agg #[.int .i64 kind, .int .i64 i, .int .i64 at_, .int .i64 by_, bv]] w fun e w' => e = .returned (.bool true) ∧ ∃ ms', Duo B w' n rn room ms' ∧ Below B w w' := by
  obtain ⟨F, F2, h1, h2, hd, hB, hB2, hsz, hg⟩ := h
  have HP := hid hp
  have L1 := hid h1.lt
  have L2 := hid h2.lt
  have H1 := hid h1
  have H2 := hid h2
  clear hp h1 h2
  have KA : Hid (∀ o, Keeps [] w (w.alloc o)) := fun o => (Keeps.refl [] w).alloc o
  go_enter Try.func17, Try.ntmps17
  go_wp2_with (go_at_call 7; go_must (refine (place_is 3 kind 6 _ (by omega) (by omega) wk HP.out).mono ?_; rintro e w' ⟨rfl, hw'⟩; subst hw'))
  refine Plan.wp_region_plan (fun w' => w'.cell? ⟨w.heap.size, 1, none⟩ = some (.int .i64 i)) 10 [(true, 0), (true, 1), (true, 2), (true, 4), (true, 5), (true, 6), (false, 3), (false, 7), (true, 8), (true, 9)] (by kernel_rfl) (by kernel_rfl) (by kernel_rfl) (fun _ _ _ _ _ h => h) ?hS (fun hS => ?_)
  case hS => simp
  simp only [Plan.pick, List.getElem?_cons_zero, List.getElem?_cons_succ, Option.getD_some, List.drop_succ_cons, List.drop_zero]
  repeat (first | (refine Plan.take (v := ?_) (a' := ?_) (by rfl) ?_ ?_ ?_; rotate_left 2; (· (intro w' hS'; (try dsimp only at hS'); go_simp; try with_reducible rfl)); (· (simp only [Act.put, List.setIfInBounds_toArray, List.set_cons_zero, List.set_cons_succ]; try with_reducible rfl))) | (refine Plan.pass (a' := ?_) (by rfl) ?_ ?_; rotate_left 1; (· (simp only [Act.put, List.setIfInBounds_toArray, List.set_cons_zero, List.set_cons_succ]; try with_reducible rfl))))
  refine Plan.step ?_
  go_wp2_with fail
  refine (Twice_any n room ms F i _ (H1.out.k (KA.out _).drew) hg.small).mono ?_
  rintro e w1 ⟨rfl, F', h1', t1⟩
  have hbx : w.heap.size ∉ F := fun hb => by have := L1.out _ hb; omega
  have hbx2 : w.heap.size ∉ F2 := fun hb => by have := L2.out _ hb; omega
  have H1' := hid h1'
  have T1 := hid t1
  clear h1' t1
  go_wp2_with fail
  have W0 : Hid (Keeps [] w ((w.alloc (.cells #[.int .i64 kind, .int .i64 i, .int .i64 at_, .int .i64 by_, bv] 41)).drew)) := (KA.out _).drew
  refine ⟨T1.out.1.cellSome (by simp) hbx, ?_⟩
  repeat (first | (refine Plan.take (v := ?_) (a' := ?_) (by rfl) ?_ ?_ ?_; rotate_left 2; (· (intro w' hS'; (try dsimp only at hS'); go_simp; try with_reducible rfl)); (· (simp only [Act.put, List.setIfInBounds_toArray, List.set_cons_zero, List.set_cons_succ]; try with_reducible rfl))) | (refine Plan.pass (a' := ?_) (by rfl) ?_ ?_; rotate_left 1; (· (simp only [Act.put, List.setIfInBounds_toArray, List.set_cons_zero, List.set_cons_succ]; try with_reducible rfl))))
  refine Plan.step ?_
  go_wp2_with fail
  refine (rTwice_any rn room ms F2 i _ ((H2.out.k W0.out).keeps T1.out.1 (fun b hb hb' => hd b hb' hb)) hg.small).mono ?_
  rintro e w2 ⟨rfl, F2', h2', t2⟩
  have H2' := hid h2'
  have T2 := hid t2
  clear h2' t2
  go_wp2_with fail
  refine ⟨T2.out.1.cellSome (T1.out.1.cellSome (by simp) hbx) hbx2, ?_⟩
  repeat (first | (refine Plan.take (v := ?_) (a' := ?_) (by rfl) ?_ ?_ ?_; rotate_left 2; (· (intro w' hS'; (try dsimp only at hS'); go_simp; try with_reducible rfl)); (· (simp only [Act.put, List.setIfInBounds_toArray, List.set_cons_zero, List.set_cons_succ]; try with_reducible rfl))) | (refine Plan.pass (a' := ?_) (by rfl) ?_ ?_; rotate_left 1; (· (simp only [Act.put, List.setIfInBounds_toArray, List.set_cons_zero, List.set_cons_succ]; try with_reducible rfl))))
  refine Plan.fin ?_
  go_wp2
  go_ret
  obtain ⟨d1, d2⟩ := Duo.turn (B := B) hd hB hB2 (Nat.le_trans hsz W0.out.size) (fun b hb => Nat.lt_of_lt_of_le (L2.out b hb) W0.out.size) (fun b hb => Nat.lt_of_lt_of_le (L1.out b hb) W0.out.size) H1'.out T1.out H2'.out T2.out (hg.twice i)
  exact ⟨by simp, _, d1, (W0.out.below hsz (fun _ h => by cases h)).trans d2⟩

set_option maxRecDepth 100000 in
set_option maxHeartbeats 1600000 in
theorem do_spoil (B n rn room : Nat) (ms : Mail) (kind i at_ by_ : Int) (bv : Value) (w : World) (h : Duo B w n rn room ms) (wk : (Lit.int .i64 kind).wf = true) (hp : placeOf kind 6 = 4) :
    Calls Try.prog 17 #[.pointer (some ⟨n, 0, none⟩), .pointer (some ⟨rn, 0, none⟩), .agg #[.int .i64 kind, .int .i64 i, .int .i64 at_, .int .i64 by_, bv]] w fun e w' => e = .returned (.bool true) ∧ ∃ ms', Duo B w' n rn room ms' ∧ Below B w w' := by
  obtain ⟨F, F2, h1, h2, hd, hB, hB2, hsz, hg⟩ := h
  have HP := hid hp
  have L1 := hid h1.lt
  have L2 := hid h2.lt
  have H1 := hid h1
  have H2 := hid h2
  clear hp h1 h2
  have KA : Hid (∀ o, Keeps [] w (w.alloc o)) := fun o => (Keeps.refl [] w).alloc o
  go_enter Try.func17, Try.ntmps17
  go_wp2_with (go_at_call 7; go_must (refine (place_is 4 kind 6 _ (by omega) (by omega) wk HP.out).mono ?_; rintro e w' ⟨rfl, hw'⟩; subst hw'))
  refine Plan.wp_region_plan (fun w' => w'.cell? ⟨w.heap.size, 1, none⟩ = some (.int .i64 i) ∧ w'.cell? ⟨w.heap.size, 2, none⟩ = some (.int .i64 at_) ∧ w'.cell? ⟨w.heap.size, 3, none⟩ = some (.int .i64 by_)) 18 [(true, 0), (true, 1), (true, 2), (true, 3), (true, 4), (true, 5), (true, 6), (true, 8), (true, 9), (true, 10), (true, 11), (true, 12), (true, 13), (true, 14), (false, 7), (false, 15), (true, 16), (true, 17)] (by kernel_rfl) (by kernel_rfl) (by kernel_rfl) (fun _ _ _ _ _ h => h) ?hS (fun hS => ?_)
  case hS => simp
  simp only [Plan.pick, List.getElem?_cons_zero, List.getElem?_cons_succ, Option.getD_some, List.drop_succ_cons, List.drop_zero]
  repeat (first | (refine Plan.take (v := ?_) (a' := ?_) (by rfl) ?_ ?_ ?_; rotate_left 2; (· (intro w' hS'; (try dsimp only at hS'); go_simp; try with_reducible rfl)); (· (simp only [Act.put, List.setIfInBounds_toArray, List.set_cons_zero, List.set_cons_succ]; try with_reducible rfl))) | (refine Plan.pass (a' := ?_) (by rfl) ?_ ?_; rotate_left 1; (· (simp only [Act.put, List.setIfInBounds_toArray, List.set_cons_zero, List.set_cons_succ]; try with_reducible rfl))))
  refine Plan.step ?_
  go_wp2_with fail
  refine (Spoil_any n room ms F i at_ by_ _ (H1.out.k (KA.out _).drew) hg.small (fun m hm => (hg.2.2 m hm).1)).mono ?_
  rintro e w1 ⟨rfl, h1', k1⟩
  have t1 := spoil_turned k1
  have hbx : w.heap.size ∉ F := fun hb => by have := L1.out _ hb; omega
  have hbx2 : w.heap.size ∉ F2 := fun hb => by have := L2.out _ hb; omega
  have H1' := hid h1'
  have T1 := hid t1
  clear h1' t1
  go_wp2_with fail
  have W0 : Hid (Keeps [] w ((w.alloc (.cells #[.int .i64 kind, .int .i64 i, .int .i64 at_, .int .i64 by_, bv] 41)).drew)) := (KA.out _).drew
  refine ⟨⟨T1.out.1.cellSome (by simp) hbx, T1.out.1.cellSome (by simp) hbx, T1.out.1.cellSome (by simp) hbx⟩, ?_⟩
  repeat (first | (refine Plan.take (v := ?_) (a' := ?_) (by rfl) ?_ ?_ ?_; rotate_left 2; (· (intro w' hS'; (try dsimp only at hS'); go_simp; try with_reducible rfl)); (· (simp only [Act.put, List.setIfInBounds_toArray, List.set_cons_zero, List.set_cons_succ]; try with_reducible rfl))) | (refine Plan.pass (a' := ?_) (by rfl) ?_ ?_; rotate_left 1; (· (simp only [Act.put, List.setIfInBounds_toArray, List.set_cons_zero, List.set_cons_succ]; try with_reducible rfl))))
  refine Plan.step ?_
  go_wp2_with fail
  refine (rSpoil_any rn room ms F2 i at_ by_ _ ((H2.out.k W0.out).keeps T1.out.1 (fun b hb hb' => hd b hb' hb)) hg.small (fun m hm => (hg.2.2 m hm).1)).mono ?_
  rintro e w2 ⟨rfl, F2', h2', t2⟩
  have H2' := hid h2'
  have T2 := hid t2
  clear h2' t2
  go_wp2_with fail
  refine ⟨⟨T2.out.1.cellSome (T1.out.1.cellSome (by simp) hbx) hbx2, T2.out.1.cellSome (T1.out.1.cellSome (by simp) hbx) hbx2, T2.out.1.cellSome (T1.out.1.cellSome (by simp) hbx) hbx2⟩, ?_⟩
  repeat (first | (refine Plan.take (v := ?_) (a' := ?_) (by rfl) ?_ ?_ ?_; rotate_left 2; (· (intro w' hS'; (try dsimp only at hS'); go_simp; try with_reducible rfl)); (· (simp only [Act.put, List.setIfInBounds_toArray, List.set_cons_zero, List.set_cons_succ]; try with_reducible rfl))) | (refine Plan.pass (a' := ?_) (by rfl) ?_ ?_; rotate_left 1; (· (simp only [Act.put, List.setIfInBounds_toArray, List.set_cons_zero, List.set_cons_succ]; try with_reducible rfl))))
  refine Plan.fin ?_
  go_wp2
  go_ret
  obtain ⟨d1, d2⟩ := Duo.turn (B := B) hd hB hB2 (Nat.le_trans hsz W0.out.size) (fun b hb => Nat.lt_of_lt_of_le (L2.out b hb) W0.out.size) (fun b hb => Nat.lt_of_lt_of_le (L1.out b hb) W0.out.size) H1'.out T1.out H2'.out T2.out (hg.spoil i at_ by_)
  exact ⟨by simp, _, d1, (W0.out.below hsz (fun _ h => by cases h)).trans d2⟩

end Go.Proofs.Ythgdknhocjlphaa
