/- A run of pieces of a class, as the program finds it. -/
import Derived.Test.YtdpbjdkkaekebaaDoorLxK
namespace Go.Proofs.YtdpbjdkkaekebaaDoor
open Go Go.RowKit

theorem clsL_drop (s : ByteArray) (p : Nat) : clsL (s.data.toList.drop p) = clsR (Utf8.decode s p).1 ∧ wid (s.data.toList.drop p) = (Utf8.decode s p).2 := by
  unfold clsL wid
  rw [Lib.decodeL_drop]
  exact ⟨rfl, rfl⟩
set_option maxRecDepth 100000 in
set_option maxHeartbeats 4000000 in
theorem lxRun_any (s : ByteArray) (a b : Nat) (w : World) (hs : s.size ≤ 1000000) (ha : a ≤ 3) (hb : b ≤ 3) :
    Calls Tryd.prog 33 #[.string s, .int .i64 a, .int .i64 b] w fun e w' => e = .returned (.int .i64 (runL a b s.data.toList)) ∧ Keeps [] w w' := by
  have HL : Hid (s.data.toList.length = s.size) := Array.length_toList
  go_enter Tryd.func33, Tryd.ntmps33
  go_wp2_with fail
  go_loopw [] (fun wr => ∃ (pos : Nat), pos ≤ s.size ∧ w.heap.size < wr.heap.size ∧ Hid (wr.heap[w.heap.size]? = some (.stringIter s pos) ∧ Keeps [] w wr ∧ runL a b s.data.toList = pos + runL a b (s.data.toList.drop pos))) (fun wr => s.size - wr.iterPos w.heap.size)
  case atStart =>
    refine ⟨0, Nat.zero_le _, by simp [World.iter], World.iter_heap w s 0, ?_, by simp⟩
    exact (Keeps.refl [] w).alloc _
  case round =>
    obtain ⟨pos, hps, hsz, HW⟩ := hrel
    have hit := HW.out.1
    by_cases hp : pos < s.size
    · obtain ⟨n, hn⟩ : ∃ n, (Utf8.decode s pos).2 = n := ⟨_, rfl⟩
      obtain ⟨r, hr⟩ : ∃ r, (Utf8.decode s pos).1 = r := ⟨_, rfl⟩
      obtain ⟨wi, hwi⟩ : ∃ wi, wr.iterAt w.heap.size s (pos + n) = wi := ⟨_, rfl⟩
      have hnx : ∀ ty, (Instr.next (.pointer (some ⟨w.heap.size, 0, none⟩)) true ty).run Tryd.prog wr = _ := fun ty => Lib.run_next_any_at wr w.heap.size s pos ty hit hp
      have hit2 := Lib.iterAt_heap wr w.heap.size s pos (pos + n) hit
      have hbw2 := Lib.below_iterAt (HW.out.2.1.belowSize) (k := w.heap.size) (Nat.le_refl _) s (pos + n)
      have hszi : wi.heap.size = wr.heap.size := by rw [← hwi, Lib.iterAt_size]
      have hr1 : r ≤ 1114111 := by rw [← hr]; exact Lib.rune_le s pos
      have hn1 : 1 ≤ n := by rw [← hn]; exact Lib.width_pos s pos
      have hne : s.data.toList.drop pos ≠ [] := by
        intro h
        have := congrArg List.length h
        rw [List.length_drop, HL.out, List.length_nil] at this
        omega
      have hn2 : pos + n ≤ s.size := by
        have := wid_le hne
        rw [(clsL_drop s pos).2, hn, List.length_drop, HL.out] at this
        omega
      have HC := hid ((clsL_drop s pos).1)
      have HN := hid ((clsL_drop s pos).2)
      rw [hr] at HC
      rw [hn] at HN
      rw [hwi] at hit2 hbw2
      simp only [hn, hr, hwi] at hnx
      have HT2 := hid hit2
      have HB2 := hid (Keeps.ofBelowSize hbw2)
      have HNE := hid hne
      have hzi : w.heap.size < wi.heap.size := by omega
      have HX : Hid (∀ ty, (Instr.next (.pointer (some ⟨w.heap.size, 0, none⟩)) true ty).run Tryd.prog wr = _) := hnx
      clear hit hit2 hbw2 hwi hn hr hnx hszi hne
      have hnx := HX.out
      go_wp2_with fail
      refine (ruClass_any r _ hr1).mono ?_
      rintro e w4 ⟨rfl, hk⟩
      obtain ⟨c, hc⟩ : ∃ c, clsR r = c := ⟨_, rfl⟩
      rw [hc] at HC ⊢
      have HK := hid (HB2.out.trans hk (fun _ _ h => h))
      have HI : Hid (w4.heap[w.heap.size]? = some (.stringIter s (pos + n))) := (hk.block _ hzi (by simp)).trans HT2.out
      have hz4 : w.heap.size < w4.heap.size := Nat.lt_of_lt_of_le hzi hk.size
      clear hk hnx hc
      by_cases c1 : c = a
      · have HS := hid (HW.out.2.2)
        rw [runL_in HNE.out (.inl (HC.out.trans c1)), HN.out, List.drop_drop] at HS
        have d1 : ((c : Int) != (a : Int)) = false := by simp [c1]
        clear c1
        go_wp2_with fail
        go_roundw
        case rel => exact ⟨pos + n, hn2, hz4, HI.out, HK.out, by rw [HS.out]; omega⟩
        case measure =>
          simp only [World.iterPos, HI.out, HW.out.1]
          omega
      · have d1 : ((c : Int) != (a : Int)) = true := by simp; omega
        by_cases c2 : c = b
        · have HS := hid (HW.out.2.2)
          rw [runL_in HNE.out (.inr (HC.out.trans c2)), HN.out, List.drop_drop] at HS
          have d2 : ((c : Int) != (b : Int)) = false := by simp [c2]
          clear c1 c2
          go_wp2_with fail
          go_roundw
          case rel => exact ⟨pos + n, hn2, hz4, HI.out, HK.out, by rw [HS.out]; omega⟩
          case measure =>
            simp only [World.iterPos, HI.out, HW.out.1]
            omega
        · have d2 : ((c : Int) != (b : Int)) = true := by simp; omega
          have HS := hid (HW.out.2.2)
          rw [runL_out (l := s.data.toList.drop pos) (by rw [HC.out]; exact fun h => h.elim c1 c2), Nat.add_zero] at HS
          clear c1 c2
          go_wp2_with fail
          go_ret
          exact ⟨by rw [HS.out]; rfl, HK.out⟩
    · have he : pos = s.size := by omega
      subst he
      have HS := hid (HW.out.2.2)
      rw [List.drop_of_length_le (by rw [HL.out]; exact Nat.le_refl _), runL_nil, Nat.add_zero] at HS
      have hnx : ∀ ty, (Instr.next (.pointer (some ⟨w.heap.size, 0, none⟩)) true ty).run Tryd.prog wr = _ := fun ty => Lib.run_next_end_at wr w.heap.size s s.size ty hit hp
      have HK := hid (HW.out.2.1)
      clear hit
      go_wp2_with fail
      go_ret
      exact ⟨by rw [HS.out]; rfl, HK.out⟩

end Go.Proofs.YtdpbjdkkaekebaaDoor
