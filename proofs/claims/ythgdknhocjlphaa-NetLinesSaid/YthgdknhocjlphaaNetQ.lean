/- do: Take, Look. -/
import Derived.Test.YthgdknhocjlphaaNetO
namespace Go.Proofs.Ythgdknhocjlphaa
open Go Go.RowKit

theorem TakeS_at {ms : Mail} {j : Nat} {m : List UInt8 × Bool} (h : ms[j]? = some m) : TakeS ms j = (some m.1, ms.eraseIdx j) := by
  have hl := (List.getElem?_eq_some_iff.1 h).1
  unfold TakeS
  rw [if_neg (by omega), lookS_in h]; rfl

theorem take_no (n room : Nat) (ms : Mail) (F : List Nat) (i : Int) (w : World) (h : NetRep w n room ms F) (hs : Small ms) (hi : i < 0 ∨ (ms.length : Int) ≤ i) :
    Calls Try.prog 10 #[.pointer (some ⟨n, 0, none⟩), .int .i64 i] w fun e w' => e = .returned (.tuple #[.slice none 0 0, .bool false]) ∧ w' = w :=
  (Take_any n room ms F i w h hs).mono fun e w' ⟨a, c, hx⟩ => by
    rcases hx with ⟨_, h1, h2⟩ | ⟨bs, F', h1, h2, _⟩
    · exact ⟨h1, h2⟩
    · unfold TakeS at h1
      rw [if_pos hi] at h1
      cases h1
theorem take_at (n room : Nat) (ms : Mail) (F : List Nat) (j : Nat) (m : List UInt8 × Bool) (w : World) (h : NetRep w n room ms F) (hs : Small ms) (hm : ms[j]? = some m) :
    Calls Try.prog 10 #[.pointer (some ⟨n, 0, none⟩), .int .i64 j] w fun e w' => ∃ a c F', e = .returned (.tuple #[.slice a m.1.length c, .bool true]) ∧ w'.ownsRow w.heap.size 5 1 (.slice a m.1.length c) m.1.length (u8s m.1) ∧ NetRep w' n room (ms.eraseIdx j) F' ∧ Turned F F' w w' :=
  (Take_any n room ms F j w h hs).mono fun e w' ⟨a, c, hx⟩ => by
    rw [TakeS_at hm] at hx
    rcases hx with ⟨h0, _⟩ | ⟨bs, F', h1, h2, h3, h4, h5, h6, _⟩
    · cases h0
    · cases h1
      exact ⟨a, c, F', h3, h4, h5, h6⟩
theorem rtake_no (n room : Nat) (ms : Mail) (F : List Nat) (i : Int) (w : World) (h : RefRep w n room ms F) (hs : Small ms) (hi : i < 0 ∨ (ms.length : Int) ≤ i) :
    Calls Try.prog 23 #[.pointer (some ⟨n, 0, none⟩), .int .i64 i] w fun e w' => e = .returned (.tuple #[.slice none 0 0, .bool false]) ∧ w' = w :=
  (rTake_any n room ms F i w h hs).mono fun e w' ⟨a, c, hx⟩ => by
    rcases hx with ⟨_, h1, h2⟩ | ⟨bs, F', h1, h2, _⟩
    · exact ⟨h1, h2⟩
    · unfold TakeS at h1
      rw [if_pos hi] at h1
      cases h1
theorem rtake_at (n room : Nat) (ms : Mail) (F : List Nat) (j : Nat) (m : List UInt8 × Bool) (w : World) (h : RefRep w n room ms F) (hs : Small ms) (hm : ms[j]? = some m) :
    Calls Try.prog 23 #[.pointer (some ⟨n, 0, none⟩), .int .i64 j] w fun e w' => ∃ a c F', e = .returned (.tuple #[.slice a m.1.length c, .bool true]) ∧ w'.ownsRow 0 5 1 (.slice a m.1.length c) m.1.length (u8s m.1) ∧ RefRep w' n room (ms.eraseIdx j) F' ∧ Turned F F' w w' :=
  (rTake_any n room ms F j w h hs).mono fun e w' ⟨a, c, hx⟩ => by
    rw [TakeS_at hm] at hx
    rcases hx with ⟨h0, _⟩ | ⟨bs, F', h1, h2, h3, h4, _, h5, h6⟩
    · cases h0
    · cases h1
      exact ⟨a, c, F', h3, h4, h5, h6⟩

theorem Duo.below {B n rn room : Nat} {ms : Mail} {w w' : World} (h : Duo B w n rn room ms) (k : Keeps [] w w') : Duo B w' n rn room ms ∧ Below B w w' := by
  obtain ⟨F, F2, h1, h2, hd, hB, hB2, hsz, hg⟩ := h
  exact ⟨⟨F, F2, h1.k k, h2.k k, hd, hB, hB2, Nat.le_trans hsz k.size, hg⟩, k.below hsz (fun _ h => by cases h)⟩

set_option maxRecDepth 100000 in
set_option maxHeartbeats 1600000 in
theorem do_take_no (B n rn room : Nat) (ms : Mail) (kind i at_ by_ : Int) (bv : Value) (w : World) (h : Duo B w n rn room ms) (wk : (Lit.int .i64 kind).wf = true) (hp : placeOf kind 6 = 2) (hi : i < 0 ∨ (ms.length : Int) ≤ i) :
    Calls Try.prog 17 #[.pointer (some ⟨n, 0, none⟩), .pointer (some ⟨rn, 0, none⟩), .agg #[.int .i64 kind, .int .i64 i, .int .i64 at_, .int .i64 by_, bv]] w fun e w' => e = .returned (.bool true) ∧ ∃ ms', Duo B w' n rn room ms' ∧ Below B w w' := by
  have HD := hid h
  obtain ⟨F, F2, h1, h2, hd, hB, hB2, hsz, hg⟩ := h
  have HP := hid hp
  have HI := hid hi
  have H1 := hid h1
  have H2 := hid h2
  clear hp h1 h2 hi
  have KA : Hid (Keeps [] w (w.alloc (.cells #[.int .i64 kind, .int .i64 i, .int .i64 at_, .int .i64 by_, bv] 41))) := (Keeps.refl [] w).alloc _
  have cv : ∀ w : World, (convert 26 9 (.slice none 0 0)).run Try.prog w = .ok (.string (str [])) w := fun w => run_convert_str w _ _ 5 _ [] Try.underlying26 Try.underlying5 Try.underlying9 ⟨rfl, .inl ⟨rfl, _, _, rfl⟩⟩
  go_enter Try.func17, Try.ntmps17
  go_wp2_with (go_at_call 7; go_must (refine (place_is 2 kind 6 _ (by omega) (by omega) wk HP.out).mono ?_; rintro e w' ⟨rfl, hw'⟩; subst hw'))
  go_wp2_with (first
    | (go_at_call 10; go_must (refine (take_no n room ms F i _ (by exact H1.out.k KA.out) hg.small HI.out).mono ?_; rintro e w' ⟨rfl, hw'⟩; subst hw'))
    | (go_at_call 23; go_must (refine (rtake_no rn room ms F2 i _ (by exact H2.out.k KA.out) hg.small HI.out).mono ?_; rintro e w' ⟨rfl, hw'⟩; subst hw')))
  go_ret
  obtain ⟨d1, d2⟩ := HD.out.below KA.out
  exact ⟨by simp, _, d1, d2⟩

set_option maxRecDepth 100000 in
set_option maxHeartbeats 1600000 in
theorem do_take_at (B n rn room : Nat) (ms : Mail) (kind : Int) (j : Nat) (m : List UInt8 × Bool) (at_ by_ : Int) (bv : Value) (w : World) (h : Duo B w n rn room ms) (wk : (Lit.int .i64 kind).wf = true) (hp : placeOf kind 6 = 2) (hm : ms[j]? = some m) :
    Calls Try.prog 17 #[.pointer (some ⟨n, 0, none⟩), .pointer (some ⟨rn, 0, none⟩), .agg #[.int .i64 kind, .int .i64 j, .int .i64 at_, .int .i64 by_, bv]] w fun e w' => e = .returned (.bool true) ∧ ∃ ms', Duo B w' n rn room ms' ∧ Below B w w' := by
  obtain ⟨F, F2, h1, h2, hd, hB, hB2, hsz, hg⟩ := h
  have HP := hid hp
  have HI := hid hm
  have L1 := hid h1.lt
  have L2 := hid h2.lt
  have H1 := hid h1
  have H2 := hid h2
  clear hp h1 h2 hm
  have KA : Hid (Keeps [] w (w.alloc (.cells #[.int .i64 kind, .int .i64 j, .int .i64 at_, .int .i64 by_, bv] 41))) := (Keeps.refl [] w).alloc _
  have S1 := KA.out.size
  have hbx : w.heap.size ∉ F := fun hb => by have := L1.out _ hb; omega
  have hbx2 : w.heap.size ∉ F2 := fun hb => by have := L2.out _ hb; omega
  have HS1 := hid S1
  simp only [World.size_alloc] at S1
  go_enter Try.func17, Try.ntmps17
  go_wp2_with (go_at_call 7; go_must (refine (place_is 2 kind 6 _ (by omega) (by omega) wk HP.out).mono ?_; rintro e w' ⟨rfl, hw'⟩; subst hw'))
  go_wp2_with fail
  refine (take_at n room ms F j m _ (H1.out.k KA.out) hg.small HI.out).mono ?_
  rintro e w1 ⟨a, c, F', rfl, o1, h1', t1⟩
  have H1' := hid h1'
  have T1 := hid t1
  have O1 := hid o1
  clear h1' t1 o1
  have b1 : w1.cell? ⟨w.heap.size, 1, none⟩ = some (.int .i64 j) := T1.out.1.cellSome (by simp) hbx
  go_wp2_with fail
  refine (rtake_at rn room ms F2 j m _ ((H2.out.k KA.out).keeps T1.out.1 (fun b hb hb' => hd b hb' hb)) hg.small HI.out).mono ?_
  rintro e w2 ⟨a2, c2, F2', rfl, o2, h2', t2⟩
  have H2' := hid h2'
  have T2 := hid t2
  have O2 := hid o2
  clear h2' t2 o2
  have cv1 : (convert 26 9 (.slice a m.1.length c)).run Try.prog w2 = .ok (.string (str m.1)) w2 := run_convert_str _ _ _ 5 _ m.1 Try.underlying26 Try.underlying5 Try.underlying9 ((Reads.ofOwn O1.out).keeps T2.out.1 (fun b hb hb' => by have := (ownB_ge O1.out b hb).1; have := L2.out b hb'; have := HS1.out; omega))
  have cv2 : (convert 26 9 (.slice a2 m.1.length c2)).run Try.prog w2 = .ok (.string (str m.1)) w2 := run_convert_str _ _ _ 5 _ m.1 Try.underlying26 Try.underlying5 Try.underlying9 (Reads.ofOwn O2.out)
  go_wp2
  go_ret
  obtain ⟨d1, d2⟩ := Duo.turn (B := B) hd hB hB2 (Nat.le_trans hsz HS1.out) (fun b hb => Nat.lt_of_lt_of_le (L2.out b hb) HS1.out) (fun b hb => Nat.lt_of_lt_of_le (L1.out b hb) HS1.out) H1'.out T1.out H2'.out T2.out (hg.erase j)
  exact ⟨by simp, _, d1, (KA.out.below hsz (fun _ h => by cases h)).trans d2⟩

end Go.Proofs.Ythgdknhocjlphaa
