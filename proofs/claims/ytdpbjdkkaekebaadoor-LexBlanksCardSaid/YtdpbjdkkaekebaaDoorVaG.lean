/- quoted: a text between quotes. -/
import Derived.Test.YtdpbjdkkaekebaaDoorVaQ
import Derived.Test.YtdpbjdkkaekebaaDoorVaE
import Derived.BigCall
import Derived.Deep.DeepMust
namespace Go.Proofs.YtdpbjdkkaekebaaDoor
open Go Go.RowKit

theorem hexIdx (k : Nat) (hk : k < (⟨#[48, 49, 50, 51, 52, 53, 54, 55, 56, 57, 97, 98, 99, 100, 101, 102]⟩ : ByteArray).size) : ((⟨#[48, 49, 50, 51, 52, 53, 54, 55, 56, 57, 97, 98, 99, 100, 101, 102]⟩ : ByteArray)[k]'hk) = hexD k := by
  have h : ∀ k : Fin 16, (⟨#[48, 49, 50, 51, 52, 53, 54, 55, 56, 57, 97, 98, 99, 100, 101, 102]⟩ : ByteArray)[k.val] = hexD k.val := by decide
  exact h ⟨k, hk⟩
set_option maxRecDepth 100000 in
theorem and15 : ∀ x : Fin 160, bits .and .i32 ((x.val : Nat) : Int) 15 = ((x.val % 16 : Nat) : Int) := by decide
theorem byteCells_one' (c : UInt8) : Lib.byteCells [c] = [.int .u8 c.toNat] := rfl

set_option maxHeartbeats 8000000 in
set_option maxRecDepth 1000000 in
theorem vquoted_any (s : ByteArray) (w : World) (hs : s.size ≤ 1000000) :
    Calls Tryd.prog 46 #[.string s] w fun e w' => e = .returned (.string ⟨(quoteL s.data.toList).toArray⟩) ∧ Keeps [] w w' := by
  have HL : Hid (s.data.toList.length = s.size) := Array.length_toList
  go_enter Tryd.func46, Tryd.ntmps46
  go_wp2_with fail
  refine (Tryd.Builder_WriteByte_k w.heap.size w.heap.size [] 34 _ (Lib.IsBuilderF.of (Lib.fresh_isBuilder 76 5 w)) (by simp) (by simp)).mono ?_
  rintro e w1 ⟨rfl, h1, b1, k1⟩
  have hz1 : w.heap.size < w1.heap.size := by have := b1.size; simp at this; omega
  have HI : Hid (Lib.IsBuilderF 76 5 w.heap.size w.heap.size (Lib.byteCells [34]) w1) := Or.inr h1
  have HB : Hid (Below w.heap.size w w1) := ((Below.refl _ w).alloc (Nat.le_refl _) _).trans b1
  clear h1 b1 k1
  go_wp2_with fail
  go_loopw [] (fun wr => ∃ (pos : Nat) (acc : List UInt8), pos ≤ s.size ∧ w1.heap.size < wr.heap.size ∧ Hid (Lib.IsBuilderF 76 5 w.heap.size w.heap.size (Lib.byteCells acc) wr ∧ wr.heap[w1.heap.size]? = some (.stringIter s pos) ∧ Below w.heap.size w wr ∧ QAt s.data.toList acc pos)) (fun wr => s.size - wr.iterPos w1.heap.size)
  case atStart =>
    refine ⟨0, [34], Nat.zero_le _, by simp [World.iter], HI.out.alloc _, ?_, HB.out.alloc (Nat.le_of_lt hz1) _, QAt.zero _⟩
    have := World.iter_heap w1 s 0
    simpa using this
  case round =>
    obtain ⟨pos, acc, hps, hsz, HW⟩ := hrel
    have hit := HW.out.2.1
    have hI := HW.out.1
    have hbw := HW.out.2.2.1
    by_cases hp : pos < s.size
    · obtain ⟨n, hn⟩ : ∃ n, (Utf8.decode s pos).2 = n := ⟨_, rfl⟩
      obtain ⟨r, hr⟩ : ∃ r, (Utf8.decode s pos).1 = r := ⟨_, rfl⟩
      obtain ⟨wi, hwi⟩ : ∃ wi, wr.iterAt w1.heap.size s (pos + n) = wi := ⟨_, rfl⟩
      have hnx : ∀ ty, (Instr.next (.pointer (some ⟨w1.heap.size, 0, none⟩)) true ty).run Tryd.prog wr = _ := fun ty => Lib.run_next_any_at wr w1.heap.size s pos ty hit hp
      have hI2 := hI.iterAt hit (pos + n)
      have hit2 := Lib.iterAt_heap wr w1.heap.size s pos (pos + n) hit
      have hbw2 := Lib.below_iterAt hbw (k := w1.heap.size) (by omega) s (pos + n)
      have hszi : wi.heap.size = wr.heap.size := by rw [← hwi, Lib.iterAt_size]
      have hr1 : r ≤ 1114111 := by rw [← hr]; exact Lib.rune_le s pos
      have HQ : Hid (QAt s.data.toList (acc ++ quoteR r) (pos + n)) := by
        have := HW.out.2.2.2.next (by rw [HL.out]; exact hp)
        rw [Lib.decodeL_drop, hr, hn] at this
        exact this
      have hn1 : 1 ≤ n := by rw [← hn]; exact Lib.width_pos s pos
      have hn2 : pos + n ≤ s.size := by have := HQ.out.1; rw [HL.out] at this; exact this
      rw [hwi] at hI2 hit2 hbw2
      simp only [hn, hr, hwi] at hnx
      have HA : Hid (acc.length ≤ 6000001) := by have := HW.out.2.2.2.2.1; show acc.length ≤ 6000001; omega
      have HI2 := hid hI2
      have HT2 := hid hit2
      have HB2 := hid hbw2
      have HN : Hid (∀ ty, (Instr.next (.pointer (some ⟨w1.heap.size, 0, none⟩)) true ty).run Tryd.prog wr = _) := hnx
      have hzi : w1.heap.size < wi.heap.size := by omega
      clear hit hI hbw hI2 hit2 hbw2 hwi hn hr hnx hszi
      have hnx := HN.out
      by_cases hq : r = 34 ∨ r = 92
      · have HS := hid (quoteR_sign hq)
        have hq' : ((r : Int) == 34) = true ∨ (((r : Int) == 34) = false ∧ ((r : Int) == 92) = true) := by simp; omega
        clear hq
        rcases hq' with d1 | ⟨d1, d2⟩
        all_goals
          go_wp2_with fail
          refine (Tryd.Builder_WriteByte_k w.heap.size w.heap.size _ 92 _ HI2.out (by rw [Lib.byteCells_length]; have := HA.out; omega) (by omega)).mono ?_
          rintro e w4 ⟨rfl, h4, b4, k4⟩
          have HI4 : Hid (Lib.IsBuilderF 76 5 w.heap.size w.heap.size (Lib.byteCells (acc ++ [92])) w4) := by
            show Lib.IsBuilderF _ _ _ _ _ _
            rw [Lib.byteCells_append]; exact Or.inr h4
          have HT4 : Hid (w4.heap[w1.heap.size]? = some (.stringIter s (pos + n))) := k4.iter HT2.out (by omega)
          have HB4 : Hid (Below w.heap.size w w4) := HB2.out.trans b4
          have hz4 : w1.heap.size < w4.heap.size := Nat.lt_of_lt_of_le hzi b4.size
          clear h4 b4 k4
          go_wp2_with fail
          refine (Tryd.Builder_WriteRune_k w.heap.size w.heap.size _ (r : Int) (by omega) (by omega) _ HI4.out (by rw [Lib.byteCells_length]; have := HA.out; simp; omega) (by omega)).mono ?_
          rintro e w5 ⟨rfl, h5, b5, k5⟩
          have HJ : Hid (Lib.IsBuilderF 76 5 w.heap.size w.heap.size (Lib.byteCells (acc ++ 92 :: Lib.encodeRune r)) w5) := by
            have e : Lib.byteCells (acc ++ 92 :: Lib.encodeRune r) = Lib.byteCells (acc ++ [92]) ++ Lib.runeCells (r : Int) := by rw [← Lib.byteCells_encodeRune, ← Lib.byteCells_append]; simp
            show Lib.IsBuilderF _ _ _ _ _ _
            rw [e]
            exact Or.inr h5
          have HK : Hid (w5.heap[w1.heap.size]? = some (.stringIter s (pos + n))) := k5.iter HT4.out (by omega)
          have HBZ : Hid (Below w.heap.size w w5) := HB4.out.trans b5
          have HZ : Hid (w1.heap.size < w5.heap.size) := Nat.lt_of_lt_of_le hz4 b5.size
          clear h5 b5 k5
          go_wp2_with fail
          go_roundw
          case rel => exact ⟨pos + n, acc ++ quoteR r, hn2, HZ.out, by rw [HS.out]; exact HJ.out, HK.out, HBZ.out, HQ.out⟩
          case measure =>
            simp only [World.iterPos, HK.out, HW.out.2.1]
            omega
      · by_cases hc : ctlR r = true
        · have HS := hid (quoteR_ctl hc)
          have d1 : ((r : Int) == 34) = false := by simp; omega
          have d2 : ((r : Int) == 92) = false := by simp; omega
          have hcc : ((r : Int) < 32) ∨ (32 ≤ (r : Int) ∧ 127 ≤ (r : Int) ∧ (r : Int) ≤ 159) := by simp [ctlR] at hc; omega
          have q0 : r ≤ 159 := by omega
          have q1 : r / 16 < 16 := by omega
          have q2 : (r : Int) / 16 < 16 := by omega
          have q3 : r % 16 < 16 := by omega
          have HBT : Hid (bits .and .i32 (r : Int) 15 = ((r % 16 : Nat) : Int)) := and15 ⟨r, by omega⟩
          clear hq hc
          rcases hcc with c1 | ⟨c1, c2, c3⟩
          all_goals
            go_wp2_with fail
            refine (Tryd.Builder_WriteString_k w.heap.size w.heap.size _ ⟨#[92, 117, 48, 48]⟩ _ HI2.out (by rw [Lib.byteCells_length]; have := HA.out; show _ + 4 ≤ _; omega) (by omega)).mono ?_
            rintro e w4 ⟨rfl, h4, b4, k4⟩
            have HI4 : Hid (Lib.IsBuilderF 76 5 w.heap.size w.heap.size (Lib.byteCells (acc ++ [92, 117, 48, 48])) w4) := by
              show Lib.IsBuilderF _ _ _ _ _ _
              rw [Lib.byteCells_append]; exact Or.inr h4
            have HT4 : Hid (w4.heap[w1.heap.size]? = some (.stringIter s (pos + n))) := k4.iter HT2.out (by omega)
            have HB4 : Hid (Below w.heap.size w w4) := HB2.out.trans b4
            have hz4 : w1.heap.size < w4.heap.size := Nat.lt_of_lt_of_le hzi b4.size
            clear h4 b4 k4
            go_wp2_with fail
            refine (Tryd.Builder_WriteByte_k w.heap.size w.heap.size _ _ _ HI4.out (by rw [Lib.byteCells_length]; have := HA.out; simp; omega) (by omega)).mono ?_
            rintro e w6 ⟨rfl, h6, b6, k6⟩
            have HI6 : Hid (Lib.IsBuilderF 76 5 w.heap.size w.heap.size (Lib.byteCells (acc ++ [92, 117, 48, 48, hexD (r / 16)])) w6) := by
              show Lib.IsBuilderF _ _ _ _ _ _
              rw [hexIdx] at h6
              have e : Lib.byteCells (acc ++ [92, 117, 48, 48, hexD (r / 16)]) = Lib.byteCells (acc ++ [92, 117, 48, 48]) ++ [.int .u8 (hexD (r / 16)).toNat] := by rw [← byteCells_one', ← Lib.byteCells_append]; simp
              rw [e]; exact Or.inr h6
            have HT6 : Hid (w6.heap[w1.heap.size]? = some (.stringIter s (pos + n))) := k6.iter HT4.out (by omega)
            have HB6 : Hid (Below w.heap.size w w6) := HB4.out.trans b6
            have hz6 : w1.heap.size < w6.heap.size := Nat.lt_of_lt_of_le hz4 b6.size
            clear h6 b6 k6
            have hbt := HBT.out
            go_wp2_with fail
            clear hbt
            refine (Tryd.Builder_WriteByte_k w.heap.size w.heap.size _ _ _ HI6.out (by rw [Lib.byteCells_length]; have := HA.out; simp; omega) (by omega)).mono ?_
            rintro e w7 ⟨rfl, h7, b7, k7⟩
            have HI7 : Hid (Lib.IsBuilderF 76 5 w.heap.size w.heap.size (Lib.byteCells (acc ++ [92, 117, 48, 48, hexD (r / 16), hexD (r % 16)])) w7) := by
              show Lib.IsBuilderF _ _ _ _ _ _
              rw [hexIdx] at h7
              have e : Lib.byteCells (acc ++ [92, 117, 48, 48, hexD (r / 16), hexD (r % 16)]) = Lib.byteCells (acc ++ [92, 117, 48, 48, hexD (r / 16)]) ++ [.int .u8 (hexD (r % 16)).toNat] := by rw [← byteCells_one', ← Lib.byteCells_append]; simp
              rw [e]; exact Or.inr h7
            have HT7 : Hid (w7.heap[w1.heap.size]? = some (.stringIter s (pos + n))) := k7.iter HT6.out (by omega)
            have HB7 : Hid (Below w.heap.size w w7) := HB6.out.trans b7
            have hz7 : w1.heap.size < w7.heap.size := Nat.lt_of_lt_of_le hz6 b7.size
            clear h7 b7 k7
            go_wp2_with fail
            go_roundw
            case rel => exact ⟨pos + n, acc ++ quoteR r, hn2, hz7, by rw [HS.out]; exact HI7.out, HT7.out, HB7.out, HQ.out⟩
            case measure =>
              simp only [World.iterPos, HT7.out, HW.out.2.1]
              omega
        · have HS := hid (quoteR_any hq (by simpa using hc))
          have d1 : ((r : Int) == 34) = false := by simp; omega
          have d2 : ((r : Int) == 92) = false := by simp; omega
          have hcc : (32 ≤ (r : Int) ∧ (r : Int) < 127) ∨ (32 ≤ (r : Int) ∧ 127 ≤ (r : Int) ∧ 159 < (r : Int)) := by simp [ctlR] at hc; omega
          clear hq hc
          rcases hcc with ⟨c1, c2⟩ | ⟨c1, c2, c3⟩
          all_goals
            go_wp2_with fail
            refine (Tryd.Builder_WriteRune_k w.heap.size w.heap.size _ (r : Int) (by omega) (by omega) _ HI2.out (by rw [Lib.byteCells_length]; have := HA.out; simp; omega) (by omega)).mono ?_
            rintro e w5 ⟨rfl, h5, b5, k5⟩
            have HJ : Hid (Lib.IsBuilderF 76 5 w.heap.size w.heap.size (Lib.byteCells (acc ++ Lib.encodeRune r)) w5) := by
              have e : Lib.byteCells (acc ++ Lib.encodeRune r) = Lib.byteCells acc ++ Lib.runeCells (r : Int) := by rw [← Lib.byteCells_encodeRune, ← Lib.byteCells_append]
              show Lib.IsBuilderF _ _ _ _ _ _
              rw [e]
              exact Or.inr h5
            have HK : Hid (w5.heap[w1.heap.size]? = some (.stringIter s (pos + n))) := k5.iter HT2.out (by omega)
            have HBZ : Hid (Below w.heap.size w w5) := HB2.out.trans b5
            have HZ : Hid (w1.heap.size < w5.heap.size) := Nat.lt_of_lt_of_le hzi b5.size
            clear h5 b5 k5
            go_wp2_with fail
            go_roundw
            case rel => exact ⟨pos + n, acc ++ quoteR r, hn2, HZ.out, by rw [HS.out]; exact HJ.out, HK.out, HBZ.out, HQ.out⟩
            case measure =>
              simp only [World.iterPos, HK.out, HW.out.2.1]
              omega
    · have hnx : ∀ ty, (Instr.next (.pointer (some ⟨w1.heap.size, 0, none⟩)) true ty).run Tryd.prog wr = _ := fun ty => Lib.run_next_end_at wr w1.heap.size s pos ty hit hp
      have HE : Hid (quoteL s.data.toList = acc ++ [34]) := HW.out.2.2.2.end_ (by rw [HL.out]; exact hp)
      have HA : Hid (acc.length ≤ 6000001) := by have := HW.out.2.2.2.2.1; show acc.length ≤ 6000001; omega
      clear hit hI hbw
      go_wp2_with fail
      refine (Tryd.Builder_WriteByte_k w.heap.size w.heap.size _ 34 _ HW.out.1 (by rw [Lib.byteCells_length]; have := HA.out; omega) (by omega)).mono ?_
      rintro e w4 ⟨rfl, h4, b4, k4⟩
      have HI4 : Hid (Lib.IsBuilderF 76 5 w.heap.size w.heap.size (Lib.byteCells (acc ++ [34])) w4) := by
        show Lib.IsBuilderF _ _ _ _ _ _
        rw [Lib.byteCells_append]; exact Or.inr h4
      have HB4 : Hid (Below w.heap.size w w4) := HW.out.2.2.1.trans b4
      have hz4 : w1.heap.size < w4.heap.size := Nat.lt_of_lt_of_le hsz b4.size
      clear h4 b4 k4 hnx
      go_wp2_with fail
      refine (Tryd.Builder_String_any_k w.heap.size w.heap.size _ _ HI4.out (by omega)).mono ?_
      rintro e w5 ⟨rfl, _, b5, _⟩
      have HB5 : Hid (Below w.heap.size w w5) := HB4.out.trans b5
      clear b5
      go_wp2_with fail
      go_ret
      exact ⟨by rw [HE.out]; rfl, Keeps.ofBelowSize HB5.out⟩

end Go.Proofs.YtdpbjdkkaekebaaDoor
