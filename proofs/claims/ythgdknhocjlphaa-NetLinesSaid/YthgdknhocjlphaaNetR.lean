/- do: Look; all of do. -/
import Derived.Test.YthgdknhocjlphaaNetP
import Derived.Test.YthgdknhocjlphaaNetQ
namespace Go.Proofs.Ythgdknhocjlphaa
open Go Go.RowKit

set_option maxRecDepth 100000 in
set_option maxHeartbeats 1600000 in
theorem do_look_neg (B n rn room : Nat) (ms : Mail) (kind i at_ by_ : Int) (bv : Value) (w : World) (h : Duo B w n rn room ms) (wk : (Lit.int .i64 kind).wf = true) (hp : placeOf kind 6 = 5) (hlt : i < 0) :
    Calls Try.prog 17 #[.pointer (some ⟨n, 0, none⟩), .pointer (some ⟨rn, 0, none⟩), .agg #[.int .i64 kind, .int .i64 i, .int .i64 at_, .int .i64 by_, bv]] w fun e w' => e = .returned (.bool true) ∧ ∃ ms', Duo B w' n rn room ms' ∧ Below B w w' := by
  have HD := hid h
  obtain ⟨F, F2, h1, h2, hd, hB, hB2, hsz, hg⟩ := h
  obtain ⟨lv, vs, G, hb, hm, hF2, hn⟩ := h2
  obtain ⟨a, c, rfl⟩ := hm.form
  have h0 : w.cell? ⟨rn, 0, none⟩ = some (.slice a ms.length c) := by simpa using cell_of_block hb 0
  have HP := hid hp
  have HI : Hid (i < 0 ∨ (ms.length : Int) ≤ i) := .inl hlt
  have H1 := hid h1
  clear hp h1 hb hm
  have KA : Hid (Keeps [] w (w.alloc (.cells #[.int .i64 kind, .int .i64 i, .int .i64 at_, .int .i64 by_, bv] 41))) := (Keeps.refl [] w).alloc _
  go_enter Try.func17, Try.ntmps17
  go_wp2_with (go_at_call 7; go_must (refine (place_is 5 kind 6 _ (by omega) (by omega) wk HP.out).mono ?_; rintro e w' ⟨rfl, hw'⟩; subst hw'))
  go_wp2_with fail
  refine (look_no n room ms F i _ (H1.out.k KA.out) hg.small HI.out).mono ?_
  rintro e w1 ⟨rfl, k1⟩
  have K1 := hid (KA.out.nil_trans k1 (by simp))
  have b1 : w1.cell? ⟨w.heap.size, 1, none⟩ = some (.int .i64 i) := k1.cellSome (by simp) (by simp)
  have c1 := K1.out.cellSome h0 (by simp)
  clear k1
  go_wp2_with fail
  go_loopw [13] (fun i wr => i = .int .i64 0 ∧ wr = w1) (fun _ _ => 0)
  (· exact ⟨rfl, rfl⟩)
  obtain ⟨rfl, rfl⟩ := hrel
  go_wp2_with fail
  have hx : decide (0 ≤ i) = false := by simp; omega
  refine Plan.wp_region_plan (fun w' => w'.cell? ⟨w.heap.size, 1, none⟩ = some (.int .i64 i) ∧ w'.cell? ⟨rn, 0, none⟩ = some (.slice a ms.length c)) 14 [(true, 0), (true, 1), (true, 2), (true, 3), (true, 4), (true, 5), (true, 6), (true, 7), (true, 8), (true, 9), (true, 10), (true, 11), (true, 12), (true, 13)] (by kernel_rfl) (by kernel_rfl) (by kernel_rfl) (fun _ _ _ _ _ h => h) ?_ (fun hS => ?_)
  (· exact ⟨b1, c1⟩)
  simp only [Plan.pick, List.getElem?_cons_zero, List.getElem?_cons_succ, Option.getD_some, List.drop_succ_cons, List.drop_zero]
  repeat (first | (refine Plan.take (v := ?_) (a' := ?_) (by rfl) ?_ ?_ ?_; rotate_left 2; (· (intro w' hS'; (try dsimp only at hS'); go_simp; try with_reducible rfl)); (· (simp only [Act.put, List.setIfInBounds_toArray, List.set_cons_zero, List.set_cons_succ]; try with_reducible rfl))) | (refine Plan.pass (a' := ?_) (by rfl) ?_ ?_; rotate_left 1; (· (simp only [Act.put, List.setIfInBounds_toArray, List.set_cons_zero, List.set_cons_succ]; try with_reducible rfl))))
  refine Plan.fin ?_
  go_wp2
  go_ret
  obtain ⟨d1, d2⟩ := HD.out.below K1.out.drew
  exact ⟨by simp, _, d1, d2⟩

set_option maxRecDepth 100000 in
set_option maxHeartbeats 1600000 in
theorem do_look_big (B n rn room : Nat) (ms : Mail) (kind i at_ by_ : Int) (bv : Value) (w : World) (h : Duo B w n rn room ms) (wk : (Lit.int .i64 kind).wf = true) (hp : placeOf kind 6 = 5) (hge : (ms.length : Int) ≤ i) :
    Calls Try.prog 17 #[.pointer (some ⟨n, 0, none⟩), .pointer (some ⟨rn, 0, none⟩), .agg #[.int .i64 kind, .int .i64 i, .int .i64 at_, .int .i64 by_, bv]] w fun e w' => e = .returned (.bool true) ∧ ∃ ms', Duo B w' n rn room ms' ∧ Below B w w' := by
  have HD := hid h
  obtain ⟨F, F2, h1, h2, hd, hB, hB2, hsz, hg⟩ := h
  obtain ⟨lv, vs, G, hb, hm, hF2, hn⟩ := h2
  obtain ⟨a, c, rfl⟩ := hm.form
  have h0 : w.cell? ⟨rn, 0, none⟩ = some (.slice a ms.length c) := by simpa using cell_of_block hb 0
  have HP := hid hp
  have HI : Hid (i < 0 ∨ (ms.length : Int) ≤ i) := .inr hge
  have H1 := hid h1
  clear hp h1 hb hm
  have KA : Hid (Keeps [] w (w.alloc (.cells #[.int .i64 kind, .int .i64 i, .int .i64 at_, .int .i64 by_, bv] 41))) := (Keeps.refl [] w).alloc _
  go_enter Try.func17, Try.ntmps17
  go_wp2_with (go_at_call 7; go_must (refine (place_is 5 kind 6 _ (by omega) (by omega) wk HP.out).mono ?_; rintro e w' ⟨rfl, hw'⟩; subst hw'))
  go_wp2_with fail
  refine (look_no n room ms F i _ (H1.out.k KA.out) hg.small HI.out).mono ?_
  rintro e w1 ⟨rfl, k1⟩
  have K1 := hid (KA.out.nil_trans k1 (by simp))
  have b1 : w1.cell? ⟨w.heap.size, 1, none⟩ = some (.int .i64 i) := k1.cellSome (by simp) (by simp)
  have c1 := K1.out.cellSome h0 (by simp)
  clear k1
  go_wp2_with fail
  go_loopw [13] (fun i wr => i = .int .i64 0 ∧ wr = w1) (fun _ _ => 0)
  (· exact ⟨rfl, rfl⟩)
  obtain ⟨rfl, rfl⟩ := hrel
  go_wp2_with fail
  have hx : decide (0 ≤ i) = true := by simp; omega
  have hx2 : decide (i < (ms.length : Int)) = false := by simp; omega
  have hx3 : 0 ≤ i := by omega
  refine Plan.wp_region_plan (fun w' => w'.cell? ⟨w.heap.size, 1, none⟩ = some (.int .i64 i) ∧ w'.cell? ⟨rn, 0, none⟩ = some (.slice a ms.length c)) 14 [(true, 0), (true, 1), (true, 2), (true, 3), (true, 4), (true, 5), (true, 6), (true, 7), (true, 8), (true, 9), (true, 10), (true, 11), (true, 12), (true, 13)] (by kernel_rfl) (by kernel_rfl) (by kernel_rfl) (fun _ _ _ _ _ h => h) ?_ (fun hS => ?_)
  (· exact ⟨b1, c1⟩)
  simp only [Plan.pick, List.getElem?_cons_zero, List.getElem?_cons_succ, Option.getD_some, List.drop_succ_cons, List.drop_zero]
  repeat (first | (refine Plan.take (v := ?_) (a' := ?_) (by rfl) ?_ ?_ ?_; rotate_left 2; (· (intro w' hS'; (try dsimp only at hS'); go_simp; try with_reducible rfl)); (· (simp only [Act.put, List.setIfInBounds_toArray, List.set_cons_zero, List.set_cons_succ]; try with_reducible rfl))) | (refine Plan.pass (a' := ?_) (by rfl) ?_ ?_; rotate_left 1; (· (simp only [Act.put, List.setIfInBounds_toArray, List.set_cons_zero, List.set_cons_succ]; try with_reducible rfl))))
  refine Plan.fin ?_
  go_wp2
  go_ret
  obtain ⟨d1, d2⟩ := HD.out.below K1.out.drew
  exact ⟨by simp, _, d1, d2⟩

set_option maxRecDepth 100000 in
set_option maxHeartbeats 1600000 in
theorem do_look_at (B n rn room : Nat) (ms : Mail) (kind : Int) (j : Nat) (m : List UInt8 × Bool) (at_ by_ : Int) (bv : Value) (w : World) (h : Duo B w n rn room ms) (wk : (Lit.int .i64 kind).wf = true) (hp : placeOf kind 6 = 5) (hm : ms[j]? = some m) :
    Calls Try.prog 17 #[.pointer (some ⟨n, 0, none⟩), .pointer (some ⟨rn, 0, none⟩), .agg #[.int .i64 kind, .int .i64 j, .int .i64 at_, .int .i64 by_, bv]] w fun e w' => e = .returned (.bool true) ∧ ∃ ms', Duo B w' n rn room ms' ∧ Below B w w' := by
  have HD := hid h
  obtain ⟨F, F2, h1, h2, hd, hB, hB2, hsz, hg⟩ := h
  obtain ⟨lv, vs, G, hb, hm2, hF2, hn⟩ := h2
  obtain ⟨a, c, rfl⟩ := hm2.form
  have h0 : w.cell? ⟨rn, 0, none⟩ = some (.slice a ms.length c) := by simpa using cell_of_block hb 0
  have hjl := (List.getElem?_eq_some_iff.1 hm).1
  have HML := hid ((hg.2.2 m (List.mem_of_getElem? hm)).2)
  have HP := hid hp
  have HI := hid hm
  have H1 := hid h1
  clear hp h1 hm hb hm2
  have KA : Hid (Keeps [] w (w.alloc (.cells #[.int .i64 kind, .int .i64 j, .int .i64 at_, .int .i64 by_, bv] 41))) := (Keeps.refl [] w).alloc _
  have i0 : (0 : Int) ≤ (j : Int) := Int.natCast_nonneg _
  have i1 : (j : Int) < (ms.length : Int) := by omega
  have hmax : m.1.length ≤ 9223372036854775807 := by have := HML.out; omega
  go_enter Try.func17, Try.ntmps17
  go_wp2_with (go_at_call 7; go_must (refine (place_is 5 kind 6 _ (by omega) (by omega) wk HP.out).mono ?_; rintro e w' ⟨rfl, hw'⟩; subst hw'))
  go_wp2_with fail
  refine (look_at n room ms F j m _ (H1.out.k KA.out) hg.small HI.out).mono ?_
  rintro e w1 ⟨a1, cc, rfl, o1, k1⟩
  have K1 := hid (KA.out.nil_trans k1 (by simp))
  have O1 := hid (ownsRow_base o1 (base' := w.heap.size + 1) (by simp))
  have b1 : w1.cell? ⟨w.heap.size, 1, none⟩ = some (.int .i64 j) := k1.cellSome (by simp) (by simp)
  have c1 := K1.out.cellSome h0 (by simp)
  have hw1 : rn < w1.heap.size := World.block_lt_of_cell? _ _ c1
  have hrn : rn < w.heap.size := World.block_lt_of_cell? _ _ h0
  clear k1 o1
  go_wp2_with fail
  go_loopw [13] (fun i wr => ∃ k : Nat, k ≤ m.1.length ∧ i = .int .i64 k ∧ Hid (Keeps (ownB (.slice a1 m.1.length cc)) w1 wr ∧ ∃ xs, wr.ownsRow (w.heap.size + 1) 5 1 (.slice a1 m.1.length cc) m.1.length xs)) (fun i _ => m.1.length - (intOf i).toNat)
  case atStart => exact ⟨0, Nat.zero_le _, rfl, Keeps.refl _ _, _, O1.out⟩
  case round =>
    obtain ⟨k, hk, rfl, HW⟩ := hrel
    have i3 : (0 : Int) ≤ (k : Int) := Int.natCast_nonneg _
    by_cases hlt : k < m.1.length
    · obtain ⟨vb, ha⟩ := own_addr HW.out.2.choose_spec (by omega)
      subst ha
      have i2 : (k : Int) < (m.1.length : Int) := by omega
      obtain ⟨xs, hxs⟩ := HW.out.2
      have hc : ∃ u, wr.cell? ⟨vb, k, none⟩ = some u := by rw [hxs.cellAt k (by omega)]; exact ⟨_, List.getElem?_eq_getElem (by rw [hxs.1]; omega)⟩
      obtain ⟨u, hu⟩ := hc
      have hf := hxs.frozenAt k
      have HX := hid hxs
      clear hxs
      go_wp2_with fail
      go_roundw
      case rel => exact ⟨k + 1, by omega, by go_num, HW.out.1.setCell (.inl (by simp [mem_ownB, Value.ownBlock])) _, own_set HX.out _ _⟩
      case measure => simp [intOf]; omega
    · have hge : m.1.length ≤ k := by omega
      have W2 := hid HW.out.1
      have HG : Hid (∀ b ∈ ownB (.slice a1 m.1.length cc), w.heap.size < b) := fun b hb => by have := (ownB_ge O1.out b hb).1; omega
      have b2 : wr.cell? ⟨w.heap.size, 1, none⟩ = some (.int .i64 j) := W2.out.cellSome b1 (fun hb => by have h := HG.out _ hb; simp at h)
      have c2 : wr.cell? ⟨rn, 0, none⟩ = some (.slice a ms.length c) := W2.out.cellSome c1 (fun hb => by have h := HG.out _ hb; simp at h; omega)
      have K3 : Hid (Keeps [] w wr) := K1.out.nil_trans W2.out (fun b hb => by have := HG.out b hb; omega)
      go_wp2_with fail
      refine Plan.wp_region_plan (fun w' => w'.cell? ⟨w.heap.size, 1, none⟩ = some (.int .i64 j) ∧ w'.cell? ⟨rn, 0, none⟩ = some (.slice a ms.length c)) 14 [(true, 0), (true, 1), (true, 2), (true, 3), (true, 4), (true, 5), (true, 6), (true, 7), (true, 8), (true, 9), (true, 10), (true, 11), (true, 12), (true, 13)] (by kernel_rfl) (by kernel_rfl) (by kernel_rfl) (fun _ _ _ _ _ h => h) ?_ (fun hS => ?_)
      (· exact ⟨b2, c2⟩)
      simp only [Plan.pick, List.getElem?_cons_zero, List.getElem?_cons_succ, Option.getD_some, List.drop_succ_cons, List.drop_zero]
      repeat (first | (refine Plan.take (v := ?_) (a' := ?_) (by rfl) ?_ ?_ ?_; rotate_left 2; (· (intro w' hS'; (try dsimp only at hS'); go_simp; try with_reducible rfl)); (· (simp only [Act.put, List.setIfInBounds_toArray, List.set_cons_zero, List.set_cons_succ]; try with_reducible rfl))) | (refine Plan.pass (a' := ?_) (by rfl) ?_ ?_; rotate_left 1; (· (simp only [Act.put, List.setIfInBounds_toArray, List.set_cons_zero, List.set_cons_succ]; try with_reducible rfl))))
      refine Plan.fin ?_
      go_wp2
      go_ret
      obtain ⟨d1, d2⟩ := HD.out.below K3.out.drew
      exact ⟨by simp, _, d1, d2⟩

/-- ALL OF do. -/
theorem do_any (B n rn room : Nat) (ms : Mail) (kind i at_ by_ : Int) (bv : Value) (bs : List UInt8) (w : World) (h : Duo B w n rn room ms) (wk : (Lit.int .i64 kind).wf = true)
    (hr : Reads w 1 bv bs.length (u8s bs)) (hbs : bs.length ≤ 500) (hbB : ∀ b ∈ ownB bv, bs.length ≠ 0 → b < B) :
    Calls Try.prog 17 #[.pointer (some ⟨n, 0, none⟩), .pointer (some ⟨rn, 0, none⟩), .agg #[.int .i64 kind, .int .i64 i, .int .i64 at_, .int .i64 by_, bv]] w fun e w' => e = .returned (.bool true) ∧ ∃ ms', Duo B w' n rn room ms' ∧ Below B w w' := by
  obtain ⟨p0, p1⟩ := placeOf_bd kind 6 (by omega)
  have hin : ∀ j : Nat, j < ms.length → ∃ m, ms[j]? = some m := fun j hj => ⟨ms[j], List.getElem?_eq_getElem hj⟩
  have hcase : placeOf kind 6 = 0 ∨ placeOf kind 6 = 1 ∨ placeOf kind 6 = 2 ∨ placeOf kind 6 = 3 ∨ placeOf kind 6 = 4 ∨ placeOf kind 6 = 5 := by omega
  rcases hcase with hp | hp | hp | hp | hp | hp
  · exact do_send B n rn room ms 0 kind i at_ by_ bv bs w h wk hp rfl rfl rfl rfl hr hbs hbB
  · exact do_send B n rn room ms 1 kind i at_ by_ bv bs w h wk hp rfl rfl rfl rfl hr hbs hbB
  · by_cases hi : i < 0 ∨ (ms.length : Int) ≤ i
    · exact do_take_no B n rn room ms kind i at_ by_ bv w h wk hp hi
    · obtain ⟨j, rfl⟩ := Int.eq_ofNat_of_zero_le (show 0 ≤ i by omega)
      obtain ⟨m, hm⟩ := hin j (by omega)
      exact do_take_at B n rn room ms kind j m at_ by_ bv w h wk hp hm
  · exact do_twice B n rn room ms kind i at_ by_ bv w h wk hp
  · exact do_spoil B n rn room ms kind i at_ by_ bv w h wk hp
  · by_cases hi : i < 0 ∨ (ms.length : Int) ≤ i
    · rcases hi with hi | hi
      · exact do_look_neg B n rn room ms kind i at_ by_ bv w h wk hp hi
      · exact do_look_big B n rn room ms kind i at_ by_ bv w h wk hp hi
    · obtain ⟨j, rfl⟩ := Int.eq_ofNat_of_zero_le (show 0 ≤ i by omega)
      obtain ⟨m, hm⟩ := hin j (by omega)
      exact do_look_at B n rn room ms kind j m at_ by_ bv w h wk hp hm

end Go.Proofs.Ythgdknhocjlphaa
