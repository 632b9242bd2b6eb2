/- The document's bytes of a rune. -/
import Derived.Test.YtdpbjdkkaekebaaDoorRfA0
import Derived.Test.YtdpbjdkkaekebaaDoorVaX
namespace Go.Proofs.YtdpbjdkkaekebaaDoor
open Go Go.RowKit

def byL (r : Nat) : List UInt8 :=
  if r < 128 then [UInt8.ofNat r] else if r < 2048 then [UInt8.ofNat (192 + r / 64), UInt8.ofNat (128 + r % 64)]
  else if r < 65536 then [UInt8.ofNat (224 + r / 4096), UInt8.ofNat (128 + r / 64 % 64), UInt8.ofNat (128 + r % 64)]
  else [UInt8.ofNat (240 + r / 262144), UInt8.ofNat (128 + r / 4096 % 64), UInt8.ofNat (128 + r / 64 % 64), UInt8.ofNat (128 + r % 64)]

theorem conv_cells (w : World) (n : Nat) (xs : List UInt8) (hn : xs.length = n) (hp : 0 < n) (hm : n ≤ 1000) (cs : Array Value) (hcs : cs = (u8s xs).toArray) :
    (convert 74 9 (.slice (some ⟨w.heap.size, 0, none⟩) n n)).run Tryd.prog (w.alloc (.cells cs 5)) = .ok (.string (str xs)) (w.alloc (.cells cs 5)) := by
  subst hn hcs
  refine run_convert_str _ 74 9 5 _ xs Tryd.underlying74 Tryd.underlying5 Tryd.underlying9 ⟨by simp, .inr ⟨hp, _, _, _, rfl, Nat.le_refl _, le_maxLen (by omega), by simp, fun j u hu => ?_⟩⟩
  rw [cell_of_row _ _ _ _ _ _ (heap_alloc_new w _)]
  simpa using hu

set_option maxRecDepth 100000 in
set_option maxHeartbeats 800000 in
theorem r1Bytes_any (r : Nat) (hr : r < 2097152) (w : World) : Calls Tryd.prog 43 #[.int .i32 r] w fun e w' => e = .returned (.string (str (byL r))) ∧ Keeps [] w w' := by
  have r0 : (0 : Int) ≤ (r : Int) := Int.natCast_nonneg _
  by_cases h1 : r < 128
  · have h1' : (r : Int) < 128 := by omega
    have HE : Hid (byL r = [UInt8.ofNat (r)]) := (by unfold byL; rw [if_pos h1] : byL r = [UInt8.ofNat (r)])
    have cv := conv_cells w 1 [UInt8.ofNat (r)] rfl (by decide) (by decide) #[.int .u8 ((r : Int))] (by simp [u8s]; omega)
    obtain ⟨xs, hxs⟩ : ∃ xs, [UInt8.ofNat (r)] = xs := ⟨_, rfl⟩
    rw [hxs] at cv HE
    clear hxs h1
    clear hr
    go_enter Tryd.func43, Tryd.ntmps43
    go_wp2_with fail
    go_ret
    rw [HE.out]
    exact ⟨rfl, by exact Keeps.K⟩
  by_cases h2 : r < 2048
  · have h2' : (r : Int) < 2048 := by omega
    have g0 : (128 : Int) ≤ (r : Int) := by omega
    have e0 : ((r : Int) < 128) = False := by simp; omega
    have HE : Hid (byL r = [UInt8.ofNat (192 + r / 64), UInt8.ofNat (128 + r % 64)]) := (by unfold byL; rw [if_neg h1]; rw [if_pos h2] : byL r = [UInt8.ofNat (192 + r / 64), UInt8.ofNat (128 + r % 64)])
    have cv := conv_cells w 2 [UInt8.ofNat (192 + r / 64), UInt8.ofNat (128 + r % 64)] rfl (by decide) (by decide) #[.int .u8 (192 + (r : Int) / 64), .int .u8 (128 + (r : Int) % 64)] (by simp [u8s]; omega)
    obtain ⟨xs, hxs⟩ : ∃ xs, [UInt8.ofNat (192 + r / 64), UInt8.ofNat (128 + r % 64)] = xs := ⟨_, rfl⟩
    rw [hxs] at cv HE
    clear hxs h1 h2
    clear hr
    go_enter Tryd.func43, Tryd.ntmps43
    go_wp2_with fail
    go_ret
    rw [HE.out]
    exact ⟨rfl, by exact Keeps.K⟩
  by_cases h3 : r < 65536
  · have h3' : (r : Int) < 65536 := by omega
    have g0 : (128 : Int) ≤ (r : Int) := by omega
    have e0 : ((r : Int) < 128) = False := by simp; omega
    have g1 : (2048 : Int) ≤ (r : Int) := by omega
    have e1 : ((r : Int) < 2048) = False := by simp; omega
    have HE : Hid (byL r = [UInt8.ofNat (224 + r / 4096), UInt8.ofNat (128 + r / 64 % 64), UInt8.ofNat (128 + r % 64)]) := (by unfold byL; rw [if_neg h1]; rw [if_neg h2]; rw [if_pos h3] : byL r = [UInt8.ofNat (224 + r / 4096), UInt8.ofNat (128 + r / 64 % 64), UInt8.ofNat (128 + r % 64)])
    have cv := conv_cells w 3 [UInt8.ofNat (224 + r / 4096), UInt8.ofNat (128 + r / 64 % 64), UInt8.ofNat (128 + r % 64)] rfl (by decide) (by decide) #[.int .u8 (224 + (r : Int) / 4096), .int .u8 (128 + (r : Int) / 64 % 64), .int .u8 (128 + (r : Int) % 64)] (by simp [u8s]; omega)
    obtain ⟨xs, hxs⟩ : ∃ xs, [UInt8.ofNat (224 + r / 4096), UInt8.ofNat (128 + r / 64 % 64), UInt8.ofNat (128 + r % 64)] = xs := ⟨_, rfl⟩
    rw [hxs] at cv HE
    clear hxs h1 h2 h3
    clear hr
    go_enter Tryd.func43, Tryd.ntmps43
    go_wp2_with fail
    go_ret
    rw [HE.out]
    exact ⟨rfl, by exact Keeps.K⟩
  have g0 : (128 : Int) ≤ (r : Int) := by omega
  have e0 : ((r : Int) < 128) = False := by simp; omega
  have g1 : (2048 : Int) ≤ (r : Int) := by omega
  have e1 : ((r : Int) < 2048) = False := by simp; omega
  have g2 : (65536 : Int) ≤ (r : Int) := by omega
  have e2 : ((r : Int) < 65536) = False := by simp; omega
  have HE : Hid (byL r = [UInt8.ofNat (240 + r / 262144), UInt8.ofNat (128 + r / 4096 % 64), UInt8.ofNat (128 + r / 64 % 64), UInt8.ofNat (128 + r % 64)]) := (by unfold byL; rw [if_neg h1]; rw [if_neg h2]; rw [if_neg h3] : byL r = [UInt8.ofNat (240 + r / 262144), UInt8.ofNat (128 + r / 4096 % 64), UInt8.ofNat (128 + r / 64 % 64), UInt8.ofNat (128 + r % 64)])
  have cv := conv_cells w 4 [UInt8.ofNat (240 + r / 262144), UInt8.ofNat (128 + r / 4096 % 64), UInt8.ofNat (128 + r / 64 % 64), UInt8.ofNat (128 + r % 64)] rfl (by decide) (by decide) #[.int .u8 (240 + (r : Int) / 262144), .int .u8 (128 + (r : Int) / 4096 % 64), .int .u8 (128 + (r : Int) / 64 % 64), .int .u8 (128 + (r : Int) % 64)] (by simp [u8s]; omega)
  obtain ⟨xs, hxs⟩ : ∃ xs, [UInt8.ofNat (240 + r / 262144), UInt8.ofNat (128 + r / 4096 % 64), UInt8.ofNat (128 + r / 64 % 64), UInt8.ofNat (128 + r % 64)] = xs := ⟨_, rfl⟩
  rw [hxs] at cv HE
  clear hxs h1 h2 h3
  have hrI : (r : Int) < 2097152 := by omega
  clear hr
  go_enter Tryd.func43, Tryd.ntmps43
  go_wp2_with fail
  go_ret
  rw [HE.out]
  exact ⟨rfl, by exact Keeps.K⟩

theorem byL_enc {r : Nat} (h : r < 55296 ∨ (57344 ≤ r ∧ r ≤ 1114111)) : byL r = Lib.encodeRune (r : Int) := by
  unfold byL
  repeat' split
  · rw [enc1 r (by omega)]
  · rw [enc2 r (by omega) (by omega)]
  · rw [enc3 r (by omega)]
  · rw [enc4 r (by omega) (by omega)]

end Go.Proofs.YtdpbjdkkaekebaaDoor
