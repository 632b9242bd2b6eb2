/- The first rune of a text: runes.At at 0. -/
import Derived.Test.YtdpbjdkkaekebaaDoorRfH
import Derived.Test.YtdpbjdkkaekebaaDoorVaG
namespace Go.Proofs.YtdpbjdkkaekebaaDoor
open Go Go.RowKit

set_option maxRecDepth 100000 in
set_option maxHeartbeats 1600000 in
theorem ruAt_zero (s : ByteArray) (w : World) (hT : Tabs w) (h0 : 0 < s.size) (hs : s.size ≤ 1000000) :
    Calls Tryd.prog 49 #[.string s, .int .i64 0] w fun e w' => e = .returned (.tuple #[.int .i32 (Lib.decodeL s.data.toList).1, .int .i64 (Lib.decodeL s.data.toList).2, .bool true]) ∧ Keeps [] w w' := by
  have HT := hid hT
  have hx : s.extract 0 s.size = s := by simp
  have HX := hid hx
  have HG : Hid ((Lib.decodeGo s).1 = (Lib.decodeL s.data.toList).1 ∧ (Lib.decodeGo s).2 = (Lib.decodeL s.data.toList).2) := by
    have := Lib.decodeL_drop s 0
    rw [List.drop_zero] at this
    show _ ∧ _
    rw [this]
    unfold Lib.decodeGo
    rw [if_neg (by omega)]
    exact ⟨rfl, rfl⟩
  have HU : Hid ((Utf8.decode s 0).1 = (Lib.decodeL s.data.toList).1) := by
    have := Lib.decodeL_drop s 0
    rw [List.drop_zero] at this
    show _ = _
    rw [this]
  clear hT
  go_enter Tryd.func49, Tryd.ntmps49
  go_wp2_with fail
  go_loopw [] (fun wr => Hid (wr.heap[w.heap.size]? = some (.stringIter s 0) ∧ Below w.heap.size w wr)) (fun wr => 0)
  case atStart =>
    refine ⟨World.iter_heap w s 0, (Below.refl _ w).alloc (Nat.le_refl _) _⟩
  case round =>
    have HW := hrel
    obtain ⟨n, hn⟩ : ∃ n, (Utf8.decode s 0).2 = n := ⟨_, rfl⟩
    obtain ⟨r, hr⟩ : ∃ r, (Utf8.decode s 0).1 = r := ⟨_, rfl⟩
    obtain ⟨wi, hwi⟩ : ∃ wi, wr.iterAt w.heap.size s (0 + n) = wi := ⟨_, rfl⟩
    have hnx : ∀ ty, (Instr.next (.pointer (some ⟨w.heap.size, 0, none⟩)) true ty).run Tryd.prog wr = _ := fun ty => Lib.run_next_any_at wr w.heap.size s 0 ty HW.out.1 h0
    have hbw2 := Lib.below_iterAt HW.out.2 (k := w.heap.size) (Nat.le_refl _) s (0 + n)
    rw [hwi] at hbw2
    simp only [hn, hr, hwi] at hnx
    have HB2 : Hid (Keeps [] w wi) := Keeps.ofBelowSize hbw2
    rw [hr] at HU
    clear hwi hn hr hbw2
    go_wp2_with fail
    refine (uDecode_any s _ (HT.out.k HB2.out)).mono ?_
    rintro e w4 ⟨rfl, hk⟩
    have K4 : Hid (Keeps [] w w4) := HB2.out.trans hk (fun _ _ h => h)
    clear hk hnx
    rw [HG.out.2]
    go_wp2_with fail
    refine bodyPost_ret (results_tmp3 rfl _ _ _) rfl ?_
    exact ⟨by rw [HU.out]; rfl, K4.out⟩

end Go.Proofs.YtdpbjdkkaekebaaDoor
