/- palaverref01's Valid, Count; the program's runes.Valid, Count; values' checks, both ways. -/
import Derived.Test.YtdpbjdkkaekebaaDoorVaC
namespace Go.Proofs.YtdpbjdkkaekebaaDoor
open Go Go.RowKit

theorem blk3 {w : World} {b : Nat} {x0 x1 x2 : Value} {t : TypeId} (h : w.heap[b]? = some (.cells #[x0, x1, x2] t (0, 0))) :
    (w.cell? ⟨b, 0, none⟩ = some x0 ∧ w.cell? ⟨b, 1, none⟩ = some x1 ∧ w.cell? ⟨b, 2, none⟩ = some x2) ∧ ∀ i, w.frozen? ⟨b, i, none⟩ = false :=
  ⟨⟨cell_of_block h 0, cell_of_block h 1, cell_of_block h 2⟩, fun i => frozen_of_row w b i _ _ h⟩
theorem fresh_pcs {w w' : World} {v : Value} {l : List Pc} (h : FreshPcs w w' v l) : ListAt pcL w' (fun b => w.heap.size ≤ b) v l := OwnAt.list h (fun b _ hb => hb.1) (fun b hb => (OwnAt.ge h b hb).1)
theorem all_prefix {l : List Pc} {k : Nat} (h : ∀ j x, j < k → l[j]? = some x → x.bad = false) (hk : l.length ≤ k) : l.all (fun x => !x.bad) = true := by
  rw [List.all_eq_true]
  intro x hx
  obtain ⟨j, hj⟩ := List.getElem?_of_mem hx
  have hlt : j < l.length := (List.getElem?_eq_some_iff.1 hj).1
  rw [h j x (by omega) hj]; rfl
theorem all_not {l : List Pc} {k : Nat} {x : Pc} (h : l[k]? = some x) (hb : x.bad = true) : l.all (fun x => !x.bad) = false := by
  rw [Bool.eq_false_iff]
  intro ha
  have := List.all_eq_true.1 ha x (List.mem_of_getElem? h)
  rw [hb] at this
  cases this

set_option maxRecDepth 100000 in
theorem r1Valid_any (s : ByteArray) (w : World) (hs : s.size ≤ 1000000) :
    Calls Tryd.prog 16 #[.string s] w fun e w' => e = .returned (.bool (Lib.validD s.data.toList)) ∧ Keeps [] w w' := by
  have HV : Hid ((pieces s.data.toList).all (fun x => !x.bad) = Lib.validD s.data.toList) := pieces_valid _
  have hln := pieces_le s.data.toList
  have hsz : s.data.toList.length = s.size := Array.length_toList
  rw [hsz] at hln
  clear hsz
  go_enter Tryd.func16, Tryd.ntmps16
  go_wp2_with fail
  refine (pieces_any s w hs).mono ?_
  rintro e w1 ⟨a, q, rfl, hf, hk⟩
  obtain ⟨l, hl⟩ : ∃ l, pieces s.data.toList = l := ⟨_, rfl⟩
  rw [hl] at hf hln ⊢
  have HVV : Hid (l.all (fun x => !x.bad) = Lib.validD s.data.toList) := by show _ = _; rw [← hl]; exact HV.out
  have HL := hid (fresh_pcs hf)
  have HK := hid hk
  clear hf hk hl HV
  go_wp2_with fail
  go_loop [4] (fun i => ∃ k : Nat, k ≤ l.length ∧ i = .int .i64 k ∧ Hid (∀ j x, j < k → l[j]? = some x → x.bad = false)) (fun i => l.length - (intOf i).toNat)
  case atStart => exact ⟨0, Nat.zero_le _, rfl, fun j x h _ => by omega⟩
  case round =>
    obtain ⟨k, hk, rfl, HA⟩ := hrel
    have i0 : (0 : Int) ≤ (k : Int) := Int.natCast_nonneg _
    by_cases hlt : k < l.length
    · have hlt' : (k : Int) < (l.length : Int) := by omega
      obtain ⟨x, hx⟩ : ∃ x, l[k]? = some x := ⟨_, List.getElem?_eq_getElem hlt⟩
      obtain ⟨g, off, c, ha, hc1, hc2, hc3, _⟩ := HL.out.addr (fun hn => by rw [hn] at hlt; simp at hlt)
      simp at ha
      obtain ⟨rfl, rfl⟩ := ha
      obtain ⟨cs, hcs, hcell⟩ := HL.out.get hx
      have y3 : w1.cell? ⟨g, off + k * 4 + 3, none⟩ = some (.bool x.bad) := hcell 3 _ (by rw [hcs]; rfl)
      have HX := hid hx
      have HL' : Hid (0 < l.length) := by show 0 < l.length; omega
      clear hcell hcs hx
      rcases hb : x.bad with _ | _
      · rw [hb] at y3
        have HB := hid hb
        clear hb
        go_wp2_with fail
        go_round
        case rel => exact ⟨k + 1, by omega, by go_num, fun j x' hj hx' => by rcases Nat.lt_or_ge j k with h | h; exact HA.out j x' h hx'; obtain rfl : j = k := (by omega); rw [HX.out] at hx'; cases hx'; exact HB.out⟩
        case measure => simp [intOf]; omega
      · rw [hb] at y3
        have HB : Hid (Lib.validD s.data.toList = false) := HVV.out.symm.trans (all_not HX.out hb)
        clear hb
        go_wp2_with fail
        go_ret
        exact ⟨by rw [HB.out]; rfl, HK.out⟩
    · have hge : (l.length : Int) ≤ (k : Int) := by omega
      have HB : Hid (Lib.validD s.data.toList = true) := HVV.out.symm.trans (all_prefix HA.out (by omega))
      go_wp2_with fail
      go_ret
      exact ⟨by rw [HB.out]; rfl, HK.out⟩

set_option maxRecDepth 100000 in
theorem r1Count_any (s : ByteArray) (w : World) (hs : s.size ≤ 1000000) :
    Calls Tryd.prog 17 #[.string s] w fun e w' => e = .returned (.int .i64 (Lib.runeCount s)) ∧ Keeps [] w w' := by
  have HC : Hid ((pieces s.data.toList).length = Lib.runeCount s) := pieces_count s
  go_enter Tryd.func17, Tryd.ntmps17
  go_wp2_with fail
  refine (pieces_any s w hs).mono ?_
  rintro e w1 ⟨a, q, rfl, hf, hk⟩
  have HK := hid hk
  clear hk hf
  go_wp2_with fail
  go_ret
  exact ⟨by rw [← HC.out]; rfl, HK.out⟩

set_option maxRecDepth 100000 in
theorem ruCount_any (s : ByteArray) (w : World) (hs : s.size < 9223372036854775807) :
    Calls Tryd.prog 36 #[.string s] w fun e w' => e = .returned (.int .i64 (Lib.runeCount s)) ∧ Keeps [] w w' := by
  go_enter Tryd.func36, Tryd.ntmps36
  go_wp2_with fail
  refine (uCount_any s w hs).mono ?_
  rintro e w1 ⟨rfl, hk⟩
  have HK := hid hk
  clear hk
  go_wp2_with fail
  go_ret
  exact ⟨rfl, HK.out⟩

end Go.Proofs.YtdpbjdkkaekebaaDoor
