/- Place and Bytes of the laws; plain.List of bytes. -/
import Derived.Test.YtpppoajnbhipeaaRows
import Derived.Test.YtpppoajnbhipeaaLays
namespace Go.Proofs.Ytpppoajnbhipeaa
open Go Go.RowKit

/-- Which place a number is. -/
def placeOf (v n : Int) : Int := if v.tmod n < 0 then v.tmod n + n else v.tmod n
theorem placeOf_bd (v n : Int) (h : 0 < n) : 0 ≤ placeOf v n ∧ placeOf v n < n := by
  have a1 : v.tmod n < n := Int.tmod_lt_of_pos v h
  have a2 := Int.lt_tmod_of_pos v h
  unfold placeOf
  split <;> omega

set_option maxHeartbeats 400000 in
theorem place_any (v n : Int) (w : World) (h0 : 0 < n) (h1 : n ≤ 1000000000) (_wv : (Lit.int .i64 v).wf = true) :
    Calls Try.prog 21 #[.int .i64 v, .int .i64 n] w fun e w' => e = .returned (.int .i64 (placeOf v n)) ∧ w' = w := by
  have hn : n ≠ 0 := by omega
  have a1 : v.tmod n < n := Int.tmod_lt_of_pos v h0
  have a2 : -n < v.tmod n := by have := Int.lt_tmod_of_pos v h0; omega
  by_cases hc : v.tmod n < 0
  · go_enter Try.func21, Try.ntmps21
    go_wp2
    go_ret
    exact ⟨by simp [placeOf, hc], rfl⟩
  · go_enter Try.func21, Try.ntmps21
    go_wp2
    go_ret
    have e : placeOf v n = v.tmod n := by rw [placeOf, if_neg (by omega)]
    exact ⟨by rw [e]; rfl, rfl⟩

theorem place_is (p v n : Int) (w : World) (h0 : 0 < n) (h1 : n ≤ 1000000000) (wv : (Lit.int .i64 v).wf = true) (hp : placeOf v n = p) :
    Calls Try.prog 21 #[.int .i64 v, .int .i64 n] w fun e w' => e = .returned (.int .i64 p) ∧ w' = w := by rw [← hp]; exact place_any v n w h0 h1 wv

theorem Try.infoU8 : (Try.prog.info? 5).map (fun i => (i.zero, i.size, i.bytes)) = some (some (.int .u8 0), 1, 1) := by kernel_rfl

/-- What a copy of bytes leaves. -/
def Copied (bs : List UInt8) (w : World) (e : Ending) (w' : World) : Prop := ∃ a c, e = .returned (.slice a bs.length c) ∧ w'.ownsRow w.heap.size 5 1 (.slice a bs.length c) bs.length (u8s bs) ∧ Keeps [] w w'
theorem Copied.bytes {bs : List UInt8} {w w' : World} {P : Nat → Prop} {a : Option Addr} {c : Nat} (h : w'.ownsRow w.heap.size 5 1 (.slice a bs.length c) bs.length (u8s bs)) (hP : ∀ b, w.heap.size ≤ b → b < w'.heap.size → P b) : BytesAt w' P (.slice a bs.length c) bs := BytesAt.ofOwn h rfl hP

set_option maxHeartbeats 400000 in
theorem lawBytes_any (v : Value) (bs : List UInt8) (w : World) (hr : Reads w 1 v bs.length (u8s bs)) (hb : bs.length ≤ 140737488355328) : Calls Try.prog 41 #[v] w (Copied bs w) := by
  obtain ⟨i0, hi, hz0, hz1, hz2⟩ := info_parts Try.infoU8
  go_enter Try.func41, Try.ntmps41
  go_wp2_with (at_builtin; refine wpList_append_copy _ rfl (.tmp 3) 38 rfl 5 i0 (.int .u8 0) 1 1 Try.underlying38 hi hz0 hz1 hz2 rfl (by decide) v bs.length (u8s bs) rfl hr (u8s_one bs) (by omega) (le_maxLen (by omega)) ?_)
  intro v' w' h1 h2
  obtain ⟨a, c, hv⟩ := len_form h1
  have H := hid hv
  clear hv
  go_wp2
  go_ret
  exact ⟨a, c, congrArg Ending.returned H.out, by rw [← H.out]; exact h1, Keeps.ofGrown h2 (fun _ h => by cases h)⟩

set_option maxHeartbeats 400000 in
theorem listB_any (v : Value) (bs : List UInt8) (w : World) (hr : Reads w 1 v bs.length (u8s bs)) (hb : bs.length ≤ 140737488355328) : Calls Try.prog 61 #[v] w (Copied bs w) := by
  obtain ⟨i0, hi, hz0, hz1, hz2⟩ := info_parts Try.infoU8
  go_enter Try.func61, Try.ntmps61
  go_wp2_with (at_builtin; refine wpList_append_copy _ rfl (.tmp 3) 38 rfl 5 i0 (.int .u8 0) 1 1 Try.underlying38 hi hz0 hz1 hz2 rfl (by decide) v bs.length (u8s bs) rfl hr (u8s_one bs) (by omega) (le_maxLen (by omega)) ?_)
  intro v' w' h1 h2
  obtain ⟨a, c, hv⟩ := len_form h1
  have H := hid hv
  clear hv
  go_wp2
  go_ret
  exact ⟨a, c, congrArg Ending.returned H.out, by rw [← H.out]; exact h1, Keeps.ofGrown h2 (fun _ h => by cases h)⟩

end Go.Proofs.Ytpppoajnbhipeaa
