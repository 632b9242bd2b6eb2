/- (*net.Net).Look, Twice, Send, Spoil. -/
import Derived.Test.YthgdknhocjlphaaNetC
namespace Go.Proofs.Ythgdknhocjlphaa
open Go Go.RowKit

theorem none_is (x : Bool) (b : Nat) (i : Int) (a : Option Addr) (n c : Nat) (w : World) (hl : w.cell? ⟨b, 1, none⟩ = some (.slice a n c)) (hx : x = decide (i < 0 ∨ (n : Int) ≤ i)) :
    Calls Try.prog 21 #[.pointer (some ⟨b, 0, none⟩), .int .i64 i] w fun e w' => e = .returned (.bool x) ∧ w' = w := by
  rw [hx]; exact none_any b i a n c w hl

/-- A message's cells in memory. -/
theorem Msgs.at {w : World} {et : TypeId} {lv : Value} {vs : List Value} {ms : Mail} {F : List Nat} (h : Msgs w et lv vs ms F) (j : Nat) (hj : j < ms.length) :
    ∃ g cap v m, lv = .slice (some ⟨g, 0, none⟩) ms.length cap ∧ vs[j]? = some v ∧ ms[j]? = some m ∧ w.cell? ⟨g, j * 2, none⟩ = some v ∧ w.cell? ⟨g, j * 2 + 1, none⟩ = some (.bool m.2) ∧
      w.ownsRow 0 5 1 v m.1.length (u8s m.1) ∧ w.frozen? ⟨g, j * 2, none⟩ = false ∧ w.frozen? ⟨g, j * 2 + 1, none⟩ = false ∧ g ∈ ownB lv ∧ ms.length ≤ cap ∧ cap ≤ maxLen := by
  have hv : vs[j]? = some (vs[j]'(by rw [h.len]; exact hj)) := List.getElem?_eq_getElem _
  have hm : ms[j]? = some ms[j] := List.getElem?_eq_getElem _
  obtain ⟨c0, c1⟩ := mcells_get vs ms j _ _ hv hm
  rcases h.own.2 with ⟨_, h0⟩ | ⟨g, cap, cur, rfl, hb, hg, hnc, hcm, hcs, htake⟩
  · omega
  · have ho : w.ownsRow 0 et 2 (.slice (some ⟨g, 0, none⟩) ms.length cap) ms.length (mcells vs ms) := h.own
    exact ⟨g, cap, _, _, rfl, hv, hm, (ho.cellAt _ (by omega)).trans c0, (ho.cellAt _ (by omega)).trans c1, h.body j _ _ hv hm, ho.frozenAt _, ho.frozenAt _, by simp [mem_ownB, Value.ownBlock], hnc, hcm⟩

set_option maxHeartbeats 400000 in
theorem look_out (n : Nat) (i : Int) (a : Option Addr) (k c : Nat) (w : World) (hl : w.cell? ⟨n, 1, none⟩ = some (.slice a k c)) (hi : i < 0 ∨ (k : Int) ≤ i) :
    Calls Try.prog 15 #[.pointer (some ⟨n, 0, none⟩), .int .i64 i] w fun e w' => e = .returned (.tuple #[.slice none 0 0, .bool false]) ∧ w' = w := by
  have H := hid hi
  clear hi
  go_enter Try.func15, Try.ntmps15
  go_wp2_with (go_at_call 21; refine (none_is true _ _ _ _ _ _ hl (by simp [H.out])).mono ?_; rintro e w' ⟨rfl, rfl⟩)
  go_ret2
  exact ⟨rfl, rfl⟩

set_option maxHeartbeats 400000 in
theorem look_in (n j g k cap : Nat) (v : Value) (bs : List UInt8) (w : World) (hl : w.cell? ⟨n, 1, none⟩ = some (.slice (some ⟨g, 0, none⟩) k cap)) (hj : j < k) (_hk : k ≤ 100000)
    (hv : w.cell? ⟨g, j * 2, none⟩ = some v) (hr : Reads w 1 v bs.length (u8s bs)) (hbs : bs.length ≤ 140737488355328) :
    Calls Try.prog 15 #[.pointer (some ⟨n, 0, none⟩), .int .i64 j] w fun e w' => ∃ a c, e = .returned (.tuple #[.slice a bs.length c, .bool true]) ∧ w'.ownsRow w.heap.size 5 1 (.slice a bs.length c) bs.length (u8s bs) ∧ w.grownBy w' none := by
  have H := hid hr
  clear hr
  have j0 : (0 : Int) ≤ (j : Int) := Int.natCast_nonneg _
  have j1 : (j : Int) < (k : Int) := by omega
  have HB : Hid (false = decide ((j : Int) < 0 ∨ (k : Int) ≤ j)) := by show _ = _; simp; omega
  go_enter Try.func15, Try.ntmps15
  go_wp2_with (first | (go_at_call 21; refine (none_is false _ _ _ _ _ _ hl HB.out).mono ?_; rintro e w' ⟨rfl, rfl⟩) | (go_at_call 22; refine (own_any v bs _ H.out hbs).mono ?_; rintro e w1 ⟨a, c, rfl, ho, hg⟩))
  go_ret2
  exact ⟨a, c, rfl, ho, hg⟩

theorem Msgs.form {w : World} {et : TypeId} {lv : Value} {vs : List Value} {ms : Mail} {F : List Nat} (h : Msgs w et lv vs ms F) : ∃ a c, lv = .slice a ms.length c := len_form h.own

/-- What Look answers. -/
def lookS (ms : Mail) (i : Int) : Option (List UInt8) := if i < 0 then none else (ms[i.toNat]?).map (·.1)

theorem lookS_out {ms : Mail} {i : Int} (h : i < 0 ∨ (ms.length : Int) ≤ i) : lookS ms i = none := by
  unfold lookS
  split
  · rfl
  · rw [List.getElem?_eq_none (by omega)]; rfl
theorem lookS_in {ms : Mail} {j : Nat} {m : List UInt8 × Bool} (h : ms[j]? = some m) : lookS ms j = some m.1 := by
  unfold lookS
  rw [if_neg (by omega), Int.toNat_natCast, h]; rfl

def Small (ms : Mail) : Prop := ms.length ≤ 100000 ∧ ∀ m ∈ ms, m.1.length ≤ 140737488355328

/-- Look: a copy in new memory, or nothing. -/
theorem look_any (n room : Nat) (ms : Mail) (F : List Nat) (i : Int) (w : World) (h : NetRep w n room ms F) (hs : Small ms) :
    Calls Try.prog 15 #[.pointer (some ⟨n, 0, none⟩), .int .i64 i] w fun e w' => ∃ a c, w.grownBy w' none ∧
      ((lookS ms i = none ∧ e = .returned (.tuple #[.slice none 0 0, .bool false])) ∨ ∃ bs, lookS ms i = some bs ∧ e = .returned (.tuple #[.slice a bs.length c, .bool true]) ∧ w'.ownsRow w.heap.size 5 1 (.slice a bs.length c) bs.length (u8s bs)) := by
  obtain ⟨lv, vs, G, hb, hm, rfl, hn⟩ := h
  by_cases hi : i < 0 ∨ (ms.length : Int) ≤ i
  · obtain ⟨a, c, rfl⟩ := hm.form
    refine (look_out n i a ms.length c w (by simpa using cell_of_block hb 1) hi).mono fun e w' ⟨he, hw⟩ => ?_
    subst hw
    exact ⟨none, 0, ⟨rfl, rfl, rfl, Nat.le_refl _, fun _ _ _ => rfl⟩, .inl ⟨lookS_out hi, he⟩⟩
  · obtain ⟨j, rfl⟩ := Int.eq_ofNat_of_zero_le (show 0 ≤ i by omega)
    obtain ⟨g, cap, v, m, rfl, hv, hmj, c0, c1, ho, _⟩ := hm.at j (by omega)
    refine (look_in n j g ms.length cap v m.1 w (by simpa using cell_of_block hb 1) (by omega) hs.1 c0 (Reads.ofOwn ho) (hs.2 m (List.mem_of_getElem? hmj))).mono fun e w' ⟨a, c, he, ho', hg⟩ => ?_
    exact ⟨a, c, hg, .inr ⟨m.1, lookS_in hmj, he, ho'⟩⟩

end Go.Proofs.Ythgdknhocjlphaa
