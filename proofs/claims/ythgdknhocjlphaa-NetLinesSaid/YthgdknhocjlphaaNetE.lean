/- (*net.Net).Send, Twice, Spoil. -/
import Derived.Test.YthgdknhocjlphaaNetD
namespace Go.Proofs.Ythgdknhocjlphaa
open Go Go.RowKit

set_option maxHeartbeats 400000 in
theorem Send_empty (n : Nat) (a : Option Addr) (c : Nat) (w : World) :
    Calls Try.prog 9 #[.pointer (some ⟨n, 0, none⟩), .slice a 0 c] w fun e w' => e = .returned (.int .i64 1) ∧ w' = w := by
  go_enter Try.func9, Try.ntmps9
  go_wp2
  go_ret
  exact ⟨rfl, rfl⟩

set_option maxHeartbeats 400000 in
theorem Send_full (n room : Nat) (ms : Mail) (F : List Nat) (a : Option Addr) (c : Nat) (bs : List UInt8) (w : World) (h : NetRep w n room ms F) (hr : Reads w 1 (.slice a bs.length c) bs.length (u8s bs)) (hbs : bs.length ≤ 140737488355328)
    (hbv : ∀ b, b ∈ ownB (.slice a bs.length c) → b < w.heap.size) (hk : ms.length ≤ 100000) (h0 : bs.length ≠ 0) :
    Calls Try.prog 9 #[.pointer (some ⟨n, 0, none⟩), .slice a bs.length c] w fun e w' => e = .returned (.int .i64 (sendS room ms (bs, false)).1) ∧ ∃ F', NetRep w' n room (sendS room ms (bs, false)).2 F' ∧ Turned F F' w w' := by
  have hb : ((bs.length : Int) == 0) = false := by simp; intro e; rw [e] at h0; exact h0 rfl
  have H1 := hid h
  have H2 := hid hr
  have H3 := hid hbv
  clear h hr hbv
  go_enter Try.func9, Try.ntmps9
  go_wp2_with (go_at_call 20; refine (send_any n room ms F _ false bs w H1.out H2.out hbs H3.out hk).mono ?_; rintro e w' ⟨rfl, F', h1, h2⟩)
  go_ret
  exact ⟨rfl, F', h1, h2⟩

/-- What Send answers. -/
def SendS (room : Nat) (ms : Mail) (bs : List UInt8) : Int × Mail := if bs.length = 0 then (1, ms) else sendS room ms (bs, false)

theorem Send_any (n room : Nat) (ms : Mail) (F : List Nat) (v : Value) (bs : List UInt8) (w : World) (h : NetRep w n room ms F) (hr : Reads w 1 v bs.length (u8s bs)) (hbs : bs.length ≤ 140737488355328)
    (hbv : ∀ b, b ∈ ownB v → b < w.heap.size) (hk : ms.length ≤ 100000) :
    Calls Try.prog 9 #[.pointer (some ⟨n, 0, none⟩), v] w fun e w' => e = .returned (.int .i64 (SendS room ms bs).1) ∧ ∃ F', NetRep w' n room (SendS room ms bs).2 F' ∧ Turned F F' w w' := by
  obtain ⟨a, c, rfl⟩ : ∃ a c, v = .slice a bs.length c := by
    rcases hr.2 with ⟨h0, a, c, rfl⟩ | ⟨_, b, off, c, rfl, _⟩
    · exact ⟨a, c, by rw [h0]⟩
    · exact ⟨_, _, rfl⟩
  by_cases h0 : bs.length = 0
  · have hs : SendS room ms bs = (1, ms) := if_pos h0
    rw [hs, h0]
    exact (Send_empty n a c w).mono fun e w' ⟨he, hw⟩ => by
      subst hw
      exact ⟨he, F, h, Keeps.refl _ _, fun k hk => .inl hk⟩
  · have hs : SendS room ms bs = sendS room ms (bs, false) := if_neg h0
    rw [hs]
    exact Send_full n room ms F a c bs w h hr hbs hbv hk h0

set_option maxHeartbeats 400000 in
theorem Twice_out (n : Nat) (i : Int) (a : Option Addr) (k c : Nat) (w : World) (hl : w.cell? ⟨n, 1, none⟩ = some (.slice a k c)) (hi : i < 0 ∨ (k : Int) ≤ i) :
    Calls Try.prog 19 #[.pointer (some ⟨n, 0, none⟩), .int .i64 i] w fun e w' => e = .returned (.int .i64 3) ∧ w' = w := by
  have H := hid hi
  clear hi
  go_enter Try.func19, Try.ntmps19
  go_wp2_with (go_at_call 21; refine (none_is true _ _ _ _ _ _ hl (by simp [H.out])).mono ?_; rintro e w' ⟨rfl, rfl⟩)
  go_ret
  exact ⟨rfl, rfl⟩

set_option maxHeartbeats 400000 in
theorem Twice_in (n j g k cap : Nat) (room : Nat) (ms : Mail) (F : List Nat) (v : Value) (s : Bool) (bs : List UInt8) (w : World) (h : NetRep w n room ms F) (hl : w.cell? ⟨n, 1, none⟩ = some (.slice (some ⟨g, 0, none⟩) k cap)) (hj : j < k) (_hk : k ≤ 100000) (hk' : ms.length ≤ 100000)
    (hv : w.cell? ⟨g, j * 2, none⟩ = some v) (hs : w.cell? ⟨g, j * 2 + 1, none⟩ = some (.bool s)) (hr : Reads w 1 v bs.length (u8s bs)) (hbs : bs.length ≤ 140737488355328) (hbv : ∀ b, b ∈ ownB v → b < w.heap.size) :
    Calls Try.prog 19 #[.pointer (some ⟨n, 0, none⟩), .int .i64 j] w fun e w' => e = .returned (.int .i64 (sendS room ms (bs, s)).1) ∧ ∃ F', NetRep w' n room (sendS room ms (bs, s)).2 F' ∧ Turned F F' w w' := by
  have H := hid hr
  have H1 := hid h
  have H3 := hid hbv
  clear hr h hbv
  have j0 : (0 : Int) ≤ (j : Int) := Int.natCast_nonneg _
  have j1 : (j : Int) < (k : Int) := by omega
  have HB : Hid (false = decide ((j : Int) < 0 ∨ (k : Int) ≤ j)) := by show _ = _; simp; omega
  go_enter Try.func19, Try.ntmps19
  go_wp2_with (first | (go_at_call 21; refine (none_is false _ _ _ _ _ _ hl HB.out).mono ?_; rintro e w' ⟨rfl, rfl⟩) | (go_at_call 20; refine (send_any n room ms F v s bs _ H1.out H.out hbs H3.out hk').mono ?_; rintro e w' ⟨rfl, F', h1, h2⟩))
  go_ret
  exact ⟨rfl, F', h1, h2⟩

def TwiceS (room : Nat) (ms : Mail) (i : Int) : Int × Mail := if i < 0 then (3, ms) else match ms[i.toNat]? with | some m => sendS room ms m | none => (3, ms)

theorem TwiceS_out {room : Nat} {ms : Mail} {i : Int} (h : i < 0 ∨ (ms.length : Int) ≤ i) : TwiceS room ms i = (3, ms) := by
  unfold TwiceS
  split
  · rfl
  · rw [List.getElem?_eq_none (by omega)]
theorem TwiceS_in {room : Nat} {ms : Mail} {j : Nat} {m : List UInt8 × Bool} (h : ms[j]? = some m) : TwiceS room ms j = sendS room ms m := by
  unfold TwiceS
  rw [if_neg (by omega), Int.toNat_natCast, h]

theorem Twice_any (n room : Nat) (ms : Mail) (F : List Nat) (i : Int) (w : World) (h : NetRep w n room ms F) (hs : Small ms) :
    Calls Try.prog 19 #[.pointer (some ⟨n, 0, none⟩), .int .i64 i] w fun e w' => e = .returned (.int .i64 (TwiceS room ms i).1) ∧ ∃ F', NetRep w' n room (TwiceS room ms i).2 F' ∧ Turned F F' w w' := by
  have h' := h
  obtain ⟨lv, vs, G, hb, hm, hF, hn⟩ := h
  by_cases hi : i < 0 ∨ (ms.length : Int) ≤ i
  · obtain ⟨a, c, rfl⟩ := hm.form
    rw [TwiceS_out hi]
    exact (Twice_out n i a ms.length c w (by simpa using cell_of_block hb 1) hi).mono fun e w' ⟨he, hw⟩ => by
      subst hw
      exact ⟨he, F, h', Keeps.refl _ _, fun k hk => .inl hk⟩
  · obtain ⟨j, rfl⟩ := Int.eq_ofNat_of_zero_le (show 0 ≤ i by omega)
    obtain ⟨g, cap, v, m, rfl, hv, hmj, c0, c1, ho, _⟩ := hm.at j (by omega)
    rw [TwiceS_in hmj]
    exact Twice_in n j g ms.length cap room ms F v m.2 m.1 w h' (by simpa using cell_of_block hb 1) (by omega) hs.1 hs.1 c0 c1 (Reads.ofOwn ho) (hs.2 m (List.mem_of_getElem? hmj)) (fun b hb => (ownB_ge ho b hb).2)

end Go.Proofs.Ythgdknhocjlphaa
