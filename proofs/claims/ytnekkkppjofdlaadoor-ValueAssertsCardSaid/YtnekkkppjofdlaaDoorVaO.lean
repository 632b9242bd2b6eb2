/- odd and plain: boxes by a number, and the values that they are. (Printed by gen_odd.py.) -/
import Derived.Test.YtnekkkppjofdlaaDoorVaM
import Derived.Test.YtnekkkppjofdlaaDoorVaChecks
import Derived.Laws.IdiomStrings
import Derived.Laws.Cover2
namespace Go.Proofs.YtnekkkppjofdlaaDoor
open Go Go.RowKit

/-- Which place a number is. -/
def placeOf (v n : Int) : Int := if v.tmod n < 0 then v.tmod n + n else v.tmod n
theorem placeOf_bd (v n : Int) (h : 0 < n) : 0 ≤ placeOf v n ∧ placeOf v n < n := by
  have a1 : v.tmod n < n := Int.tmod_lt_of_pos v h
  have a2 := Int.lt_tmod_of_pos v h
  unfold placeOf
  split <;> omega

set_option maxHeartbeats 400000 in
theorem place_any (v n : Int) (w : World) (h0 : 0 < n) (h1 : n ≤ 1000000000) (_wv : (Lit.int .i64 v).wf = true) :
    Calls Tryd.prog 51 #[.int .i64 v, .int .i64 n] w fun e w' => e = .returned (.int .i64 (placeOf v n)) ∧ w' = w := by
  have hn : n ≠ 0 := by omega
  have a1 : v.tmod n < n := Int.tmod_lt_of_pos v h0
  have a2 : -n < v.tmod n := by have := Int.lt_tmod_of_pos v h0; omega
  by_cases hc : v.tmod n < 0
  · go_enter Tryd.func51, Tryd.ntmps51
    go_wp2
    go_ret
    exact ⟨by simp [placeOf, hc], rfl⟩
  · go_enter Tryd.func51, Tryd.ntmps51
    go_wp2
    go_ret
    have e : placeOf v n = v.tmod n := by rw [placeOf, if_neg (by omega)]
    exact ⟨by rw [e]; rfl, rfl⟩

theorem place_is (p v n : Int) (w : World) (h0 : 0 < n) (h1 : n ≤ 1000000000) (wv : (Lit.int .i64 v).wf = true) (hp : placeOf v n = p) :
    Calls Tryd.prog 51 #[.int .i64 v, .int .i64 n] w fun e w' => e = .returned (.int .i64 p) ∧ w' = w := by rw [← hp]; exact place_any v n w h0 h1 wv

def OddPost (p n : Int) (s : ByteArray) (w : World) (e : Ending) (w' : World) : Prop := ∃ x, e = .returned x ∧ BoxOk x (plainD p n s).1 (plainD p n s).2 ∧ (p = 0 → x = .nilIface) ∧ (p ≠ 0 → ∃ t u, x = .iface t u) ∧ Keeps [] w w'

theorem plain_text {n : Int} {s : ByteArray} : checkD ⟨3, 0, s⟩ = textOk s := by simp [checkD]


set_option maxRecDepth 100000 in
theorem odd_0 (k n : Int) (s : ByteArray) (w : World) (wk : (Lit.int .i64 k).wf = true) (hn : I64 n) (hs : s.size ≤ 5000) (hp : placeOf k 11 = 0) : Calls Tryd.prog 23 #[.int .i64 k, .int .i64 n, .string s] w (OddPost 0 n s w) := by
  have HN := hid hn
  clear hn
  go_enter Tryd.func23, Tryd.ntmps23
  go_wp2_with fail
  refine (place_is 0 k 11 _ (by decide) (by decide) wk hp).mono ?_
  rintro e w1 ⟨rfl, hw⟩
  subst hw
  go_wp2_with fail
  go_ret
  exact ⟨_, rfl, box_nil, fun _ => rfl, fun h => absurd rfl h, by exact Keeps.K⟩

set_option maxRecDepth 100000 in
theorem odd_1 (k n : Int) (s : ByteArray) (w : World) (wk : (Lit.int .i64 k).wf = true) (hn : I64 n) (hs : s.size ≤ 5000) (hp : placeOf k 11 = 1) : Calls Tryd.prog 23 #[.int .i64 k, .int .i64 n, .string s] w (OddPost 1 n s w) := by
  have HN := hid hn
  clear hn
  go_enter Tryd.func23, Tryd.ntmps23
  go_wp2_with fail
  refine (place_is 1 k 11 _ (by decide) (by decide) wk hp).mono ?_
  rintro e w1 ⟨rfl, hw⟩
  subst hw
  go_wp2_with fail
  go_ret
  exact ⟨_, rfl, box_int n, fun h => absurd h (by decide), fun _ => ⟨_, _, rfl⟩, by exact Keeps.K⟩

set_option maxRecDepth 100000 in
theorem odd_2_even (k n : Int) (s : ByteArray) (w : World) (hv : n.tmod 2 = 0) (wk : (Lit.int .i64 k).wf = true) (hn : I64 n) (hs : s.size ≤ 5000) (hp : placeOf k 11 = 2) : Calls Tryd.prog 23 #[.int .i64 k, .int .i64 n, .string s] w (OddPost 2 n s w) := by
  have HN := hid hn
  clear hn
  go_enter Tryd.func23, Tryd.ntmps23
  go_wp2_with fail
  refine (place_is 2 k 11 _ (by decide) (by decide) wk hp).mono ?_
  rintro e w1 ⟨rfl, hw⟩
  subst hw
  go_wp2_with fail
  go_ret
  exact ⟨_, rfl, by show BoxOk _ (plainD 2 n s).1 (plainD 2 n s).2; rw [show plainD 2 n s = (⟨2, 1, ⟨#[]⟩⟩, true) by simp [plainD, hv]]; exact box_true, fun h => absurd h (by decide), fun _ => ⟨_, _, rfl⟩, by exact Keeps.K⟩

set_option maxRecDepth 100000 in
theorem odd_2_uneven (k n : Int) (s : ByteArray) (w : World) (hv : ¬ n.tmod 2 = 0) (wk : (Lit.int .i64 k).wf = true) (hn : I64 n) (hs : s.size ≤ 5000) (hp : placeOf k 11 = 2) : Calls Tryd.prog 23 #[.int .i64 k, .int .i64 n, .string s] w (OddPost 2 n s w) := by
  have HN := hid hn
  clear hn
  go_enter Tryd.func23, Tryd.ntmps23
  go_wp2_with fail
  refine (place_is 2 k 11 _ (by decide) (by decide) wk hp).mono ?_
  rintro e w1 ⟨rfl, hw⟩
  subst hw
  go_wp2_with fail
  go_ret
  exact ⟨_, rfl, by show BoxOk (.iface 4 (.bool (n.tmod 2 == 0))) _ _; rw [show (n.tmod 2 == 0) = false by simpa using hv]; show BoxOk _ (plainD 2 n s).1 (plainD 2 n s).2; rw [show plainD 2 n s = (⟨2, 0, ⟨#[]⟩⟩, true) by simp [plainD, hv]]; exact box_false, fun h => absurd h (by decide), fun _ => ⟨_, _, rfl⟩, by exact Keeps.K⟩

set_option maxRecDepth 100000 in
theorem odd_3 (k n : Int) (s : ByteArray) (w : World) (wk : (Lit.int .i64 k).wf = true) (hn : I64 n) (hs : s.size ≤ 5000) (hp : placeOf k 11 = 3) : Calls Tryd.prog 23 #[.int .i64 k, .int .i64 n, .string s] w (OddPost 3 n s w) := by
  have HN := hid hn
  clear hn
  go_enter Tryd.func23, Tryd.ntmps23
  go_wp2_with fail
  refine (place_is 3 k 11 _ (by decide) (by decide) wk hp).mono ?_
  rintro e w1 ⟨rfl, hw⟩
  subst hw
  go_wp2_with fail
  go_ret
  exact ⟨_, rfl, by rcases ho : textOk s with _ | _; (· have e : plainD 3 n s = (val0, false) := (by simp [plainD, checkD, ho]); rw [e]; exact box_notext s hs ho); (· have e : plainD 3 n s = (⟨3, 0, s⟩, true) := (by simp [plainD, checkD, ho]); rw [e]; exact box_text s hs ho), fun h => absurd h (by decide), fun _ => ⟨_, _, rfl⟩, by exact Keeps.K⟩

set_option maxRecDepth 100000 in
theorem odd_4 (k n : Int) (s : ByteArray) (w : World) (wk : (Lit.int .i64 k).wf = true) (hn : I64 n) (hs : s.size ≤ 5000) (hp : placeOf k 11 = 4) : Calls Tryd.prog 23 #[.int .i64 k, .int .i64 n, .string s] w (OddPost 4 n s w) := by
  have HN := hid hn
  clear hn
  go_enter Tryd.func23, Tryd.ntmps23
  go_wp2_with fail
  refine (place_is 4 k 11 _ (by decide) (by decide) wk hp).mono ?_
  rintro e w1 ⟨rfl, hw⟩
  subst hw
  go_wp2_with fail
  go_ret
  exact ⟨_, rfl, by rcases ho : checkD ⟨4, n, ⟨#[]⟩⟩ with _ | _; (· have e : plainD 4 n s = (val0, false) := (by simp [plainD, ho]); rw [e]; exact box_noval n ho); (· have e : plainD 4 n s = (⟨4, n, ⟨#[]⟩⟩, true) := (by simp [plainD, ho]); rw [e]; exact box_val n ho), fun h => absurd h (by decide), fun _ => ⟨_, _, rfl⟩, by exact Keeps.K⟩

set_option maxRecDepth 100000 in
theorem odd_5 (k n : Int) (s : ByteArray) (w : World) (wk : (Lit.int .i64 k).wf = true) (hn : I64 n) (hs : s.size ≤ 5000) (hp : placeOf k 11 = 5) : Calls Tryd.prog 23 #[.int .i64 k, .int .i64 n, .string s] w (OddPost 5 n s w) := by
  have HN := hid hn
  clear hn
  go_enter Tryd.func23, Tryd.ntmps23
  go_wp2_with fail
  refine (place_is 5 k 11 _ (by decide) (by decide) wk hp).mono ?_
  rintro e w1 ⟨rfl, hw⟩
  subst hw
  go_wp2_with fail
  go_ret
  exact ⟨_, rfl, box_okind n, fun h => absurd h (by decide), fun _ => ⟨_, _, rfl⟩, by exact Keeps.K⟩

set_option maxRecDepth 100000 in
theorem odd_6 (k n : Int) (s : ByteArray) (w : World) (wk : (Lit.int .i64 k).wf = true) (hn : I64 n) (hs : s.size ≤ 5000) (hp : placeOf k 11 = 6) : Calls Tryd.prog 23 #[.int .i64 k, .int .i64 n, .string s] w (OddPost 6 n s w) := by
  have HN := hid hn
  clear hn
  go_enter Tryd.func23, Tryd.ntmps23
  go_wp2_with fail
  refine (place_is 6 k 11 _ (by decide) (by decide) wk hp).mono ?_
  rintro e w1 ⟨rfl, hw⟩
  subst hw
  go_wp2_with fail
  go_ret
  exact ⟨_, rfl, box_goint n, fun h => absurd h (by decide), fun _ => ⟨_, _, rfl⟩, by exact Keeps.K⟩

set_option maxRecDepth 100000 in
theorem odd_7 (k n : Int) (s : ByteArray) (w : World) (wk : (Lit.int .i64 k).wf = true) (hn : I64 n) (hs : s.size ≤ 5000) (hp : placeOf k 11 = 7) : Calls Tryd.prog 23 #[.int .i64 k, .int .i64 n, .string s] w (OddPost 7 n s w) := by
  have HN := hid hn
  clear hn
  go_enter Tryd.func23, Tryd.ntmps23
  go_wp2_with fail
  refine (place_is 7 k 11 _ (by decide) (by decide) wk hp).mono ?_
  rintro e w1 ⟨rfl, hw⟩
  subst hw
  go_wp2_with fail
  go_ret
  exact ⟨_, rfl, box_ptr _, fun h => absurd h (by decide), fun _ => ⟨_, _, rfl⟩, by exact Keeps.K⟩

set_option maxRecDepth 100000 in
theorem odd_8 (k n : Int) (s : ByteArray) (w : World) (wk : (Lit.int .i64 k).wf = true) (hn : I64 n) (hs : s.size ≤ 5000) (hp : placeOf k 11 = 8) : Calls Tryd.prog 23 #[.int .i64 k, .int .i64 n, .string s] w (OddPost 8 n s w) := by
  have HN := hid hn
  clear hn
  have cv : ∀ w : World, (convert 9 50 (.string s)).run Tryd.prog w = _ := fun w => run_bytes_of_string w 9 50 5 s Tryd.underlying9 Tryd.underlying50 Tryd.underlying5
  go_enter Tryd.func23, Tryd.ntmps23
  go_wp2_with fail
  refine (place_is 8 k 11 _ (by decide) (by decide) wk hp).mono ?_
  rintro e w1 ⟨rfl, hw⟩
  subst hw
  go_wp2_with fail
  go_ret
  exact ⟨_, rfl, box_bytes _ _ _, fun h => absurd h (by decide), fun _ => ⟨_, _, rfl⟩, by exact Keeps.K⟩

set_option maxRecDepth 100000 in
theorem odd_9 (k n : Int) (s : ByteArray) (w : World) (wk : (Lit.int .i64 k).wf = true) (hn : I64 n) (hs : s.size ≤ 5000) (hp : placeOf k 11 = 9) : Calls Tryd.prog 23 #[.int .i64 k, .int .i64 n, .string s] w (OddPost 9 n s w) := by
  have HN := hid hn
  clear hn
  have cv : ∃ x : Value, ∀ w : World, (convert 2 74 (.int .i64 n)).run Tryd.prog w = .ok x w := ⟨_, fun w => run_convert_int_float w 2 74 .i64 .f64 n rfl rfl⟩
  obtain ⟨x, cv⟩ := cv
  go_enter Tryd.func23, Tryd.ntmps23
  go_wp2_with fail
  refine (place_is 9 k 11 _ (by decide) (by decide) wk hp).mono ?_
  rintro e w1 ⟨rfl, hw⟩
  subst hw
  go_wp2_with fail
  go_ret
  exact ⟨_, rfl, box_float _, fun h => absurd h (by decide), fun _ => ⟨_, _, rfl⟩, by exact Keeps.K⟩

set_option maxRecDepth 100000 in
theorem odd_10 (k n : Int) (s : ByteArray) (w : World) (wk : (Lit.int .i64 k).wf = true) (hn : I64 n) (hs : s.size ≤ 5000) (hp : placeOf k 11 = 10) : Calls Tryd.prog 23 #[.int .i64 k, .int .i64 n, .string s] w (OddPost 10 n s w) := by
  have HN := hid hn
  clear hn
  go_enter Tryd.func23, Tryd.ntmps23
  go_wp2_with fail
  refine (place_is 10 k 11 _ (by decide) (by decide) wk hp).mono ?_
  rintro e w1 ⟨rfl, hw⟩
  subst hw
  go_wp2_with fail
  go_ret
  exact ⟨_, rfl, box_errno n, fun h => absurd h (by decide), fun _ => ⟨_, _, rfl⟩, by exact Keeps.K⟩

set_option maxRecDepth 100000 in
set_option maxHeartbeats 1600000 in
theorem plain_0 (k n : Int) (s : ByteArray) (w : World) (hT : Tabs w) (wk : (Lit.int .i64 k).wf = true) (hp : placeOf k 11 = 0) : Calls Tryd.prog 24 #[.int .i64 k, .int .i64 n, .string s] w (UnboxPost ⟨0, 0, ⟨#[]⟩⟩ true w) := by
  have HT := hid hT
  clear hT
  go_enter Tryd.func24, Tryd.ntmps24
  go_wp2_with fail
  refine (place_is 0 k 11 _ (by decide) (by decide) wk hp).mono ?_
  rintro e w1 ⟨rfl, hw⟩
  subst hw
  go_wp2_with fail
  refine bodyPost_ret (v := .tuple #[.agg #[.int .i64 0, .int .i64 0, .string ⟨#[]⟩], .bool true]) (results_cell_tmp rfl _ _ w.heap.size 23 _ (0, 0) _ _ rfl rfl (new2 w _ _ 0 rfl) Tryd.underlying23 rfl (by kernel_rfl)) rfl ⟨rfl, Keeps.K⟩


set_option maxRecDepth 100000 in
set_option maxHeartbeats 1600000 in
theorem plain_1 (k n : Int) (s : ByteArray) (w : World) (hT : Tabs w) (wk : (Lit.int .i64 k).wf = true) (hp : placeOf k 11 = 1) : Calls Tryd.prog 24 #[.int .i64 k, .int .i64 n, .string s] w (UnboxPost ⟨1, n, ⟨#[]⟩⟩ true w) := by
  have HT := hid hT
  clear hT
  go_enter Tryd.func24, Tryd.ntmps24
  go_wp2_with fail
  refine (place_is 1 k 11 _ (by decide) (by decide) wk hp).mono ?_
  rintro e w1 ⟨rfl, hw⟩
  subst hw
  go_wp2_with fail
  refine bodyPost_ret (v := .tuple #[.agg #[.int .i64 1, .int .i64 n, .string ⟨#[]⟩], .bool true]) (results_cell_tmp rfl _ _ w.heap.size 23 _ (0, 0) _ _ rfl rfl (new2 w _ _ 0 rfl) Tryd.underlying23 rfl (by kernel_rfl)) rfl ⟨rfl, Keeps.K⟩


set_option maxRecDepth 100000 in
set_option maxHeartbeats 1600000 in
theorem plain_2_even (k n : Int) (s : ByteArray) (w : World) (hT : Tabs w) (hv : n.tmod 2 = 0) (wk : (Lit.int .i64 k).wf = true) (hp : placeOf k 11 = 2) : Calls Tryd.prog 24 #[.int .i64 k, .int .i64 n, .string s] w (UnboxPost ⟨2, 1, ⟨#[]⟩⟩ true w) := by
  have HT := hid hT
  clear hT
  have hv' : (n.tmod 2 == 0) = true := by simpa using hv
  go_enter Tryd.func24, Tryd.ntmps24
  go_wp2_with fail
  refine (place_is 2 k 11 _ (by decide) (by decide) wk hp).mono ?_
  rintro e w1 ⟨rfl, hw⟩
  subst hw
  go_wp2_with fail
  refine bodyPost_ret (v := .tuple #[.agg #[.int .i64 2, .int .i64 1, .string ⟨#[]⟩], .bool true]) (results_cell_tmp rfl _ _ w.heap.size 23 _ (0, 0) _ _ rfl rfl (new2 w _ _ 0 rfl) Tryd.underlying23 rfl (by kernel_rfl)) rfl ⟨rfl, Keeps.K⟩


set_option maxRecDepth 100000 in
set_option maxHeartbeats 1600000 in
theorem plain_2_uneven (k n : Int) (s : ByteArray) (w : World) (hT : Tabs w) (hv : ¬ n.tmod 2 = 0) (wk : (Lit.int .i64 k).wf = true) (hp : placeOf k 11 = 2) : Calls Tryd.prog 24 #[.int .i64 k, .int .i64 n, .string s] w (UnboxPost ⟨2, 0, ⟨#[]⟩⟩ true w) := by
  have HT := hid hT
  clear hT
  have hv' : (n.tmod 2 == 0) = false := by simpa using hv
  go_enter Tryd.func24, Tryd.ntmps24
  go_wp2_with fail
  refine (place_is 2 k 11 _ (by decide) (by decide) wk hp).mono ?_
  rintro e w1 ⟨rfl, hw⟩
  subst hw
  go_wp2_with fail
  refine bodyPost_ret (v := .tuple #[.agg #[.int .i64 2, .int .i64 0, .string ⟨#[]⟩], .bool true]) (results_cell_tmp rfl _ _ w.heap.size 23 _ (0, 0) _ _ rfl rfl (new2 w _ _ 0 rfl) Tryd.underlying23 rfl (by kernel_rfl)) rfl ⟨rfl, Keeps.K⟩


set_option maxRecDepth 100000 in
set_option maxHeartbeats 1600000 in
theorem plain_3_yes (k n : Int) (s : ByteArray) (w : World) (hT : Tabs w) (hs : s.size ≤ 5000) (ho : checkD ⟨3, 0, s⟩ = true) (wk : (Lit.int .i64 k).wf = true) (hp : placeOf k 11 = 3) : Calls Tryd.prog 24 #[.int .i64 k, .int .i64 n, .string s] w (UnboxPost ⟨3, 0, s⟩ true w) := by
  have HT := hid hT
  clear hT
  have HO := hid (r5check_is ⟨3, 0, s⟩ true ho)
  unfold valV at HO
  have hs' : s.size ≤ 9223372036854775806 := by omega
  clear ho
  go_enter Tryd.func24, Tryd.ntmps24
  go_wp2_with fail
  refine (place_is 3 k 11 _ (by decide) (by decide) wk hp).mono ?_
  rintro e w1 ⟨rfl, hw⟩
  subst hw
  go_wp2_with fail
  refine (HO.out _ (HT.out.k (by exact Keeps.K)) hs').mono ?_
  rintro e w2 ⟨rfl, hk⟩
  have HK : Hid (Keeps [] w w2) := Keeps.trans (by exact Keeps.K) hk (fun _ _ h => h)
  have HBK := hid ((hk.block w.heap.size (by simp; omega) (by simp)).trans (new2 w _ _ 0 rfl))
  obtain ⟨⟨c0, c1, c2⟩, f⟩ := blk3 HBK.out
  have HBK2 := hid ((hk.block (w.heap.size + 1) (by simp) (by simp)).trans (new_2 w _ _))
  obtain ⟨⟨d0, d1, d2⟩, g⟩ := blk3 HBK2.out
  clear hk
  go_wp2_with fail
  refine bodyPost_ret (v := .tuple #[.agg #[.int .i64 3, .int .i64 0, .string s], .bool true]) (results_cell_tmp rfl _ _ w.heap.size 23 _ (0, 0) _ _ rfl rfl (heap3 HBK.out) Tryd.underlying23 rfl (by kernel_rfl)) rfl ⟨rfl, by have kk := HK.out; exact Keeps.K⟩


set_option maxRecDepth 100000 in
set_option maxHeartbeats 1600000 in
theorem plain_3_no (k n : Int) (s : ByteArray) (w : World) (hT : Tabs w) (hs : s.size ≤ 5000) (ho : checkD ⟨3, 0, s⟩ = false) (wk : (Lit.int .i64 k).wf = true) (hp : placeOf k 11 = 3) : Calls Tryd.prog 24 #[.int .i64 k, .int .i64 n, .string s] w (UnboxPost ⟨0, 0, ⟨#[]⟩⟩ false w) := by
  have HT := hid hT
  clear hT
  have HO := hid (r5check_is ⟨3, 0, s⟩ false ho)
  unfold valV at HO
  have hs' : s.size ≤ 9223372036854775806 := by omega
  clear ho
  go_enter Tryd.func24, Tryd.ntmps24
  go_wp2_with fail
  refine (place_is 3 k 11 _ (by decide) (by decide) wk hp).mono ?_
  rintro e w1 ⟨rfl, hw⟩
  subst hw
  go_wp2_with fail
  refine (HO.out _ (HT.out.k (by exact Keeps.K)) hs').mono ?_
  rintro e w2 ⟨rfl, hk⟩
  have HK : Hid (Keeps [] w w2) := Keeps.trans (by exact Keeps.K) hk (fun _ _ h => h)
  have HBK := hid ((hk.block w.heap.size (by simp; omega) (by simp)).trans (new2 w _ _ 0 rfl))
  obtain ⟨⟨c0, c1, c2⟩, f⟩ := blk3 HBK.out
  have HBK2 := hid ((hk.block (w.heap.size + 1) (by simp) (by simp)).trans (new_2 w _ _))
  obtain ⟨⟨d0, d1, d2⟩, g⟩ := blk3 HBK2.out
  clear hk
  go_wp2_with fail
  refine bodyPost_ret (v := .tuple #[.agg #[.int .i64 0, .int .i64 0, .string ⟨#[]⟩], .bool false]) (results_cell_tmp rfl _ _ w.heap.size 23 _ (0, 0) _ _ rfl rfl (heap3 HBK.out) Tryd.underlying23 rfl (by kernel_rfl)) rfl ⟨rfl, by have kk := HK.out; exact Keeps.K⟩


set_option maxRecDepth 100000 in
set_option maxHeartbeats 1600000 in
theorem plain_4_yes (k n : Int) (s : ByteArray) (w : World) (hT : Tabs w) (ho : checkD ⟨4, n, ⟨#[]⟩⟩ = true) (wk : (Lit.int .i64 k).wf = true) (hp : placeOf k 11 = 4) : Calls Tryd.prog 24 #[.int .i64 k, .int .i64 n, .string s] w (UnboxPost ⟨4, n, ⟨#[]⟩⟩ true w) := by
  have HT := hid hT
  clear hT
  have HO := hid (r5check_is ⟨4, n, ⟨#[]⟩⟩ true ho)
  unfold valV at HO
  clear ho
  go_enter Tryd.func24, Tryd.ntmps24
  go_wp2_with fail
  refine (place_is 4 k 11 _ (by decide) (by decide) wk hp).mono ?_
  rintro e w1 ⟨rfl, hw⟩
  subst hw
  go_wp2_with fail
  refine (HO.out _ (HT.out.k (by exact Keeps.K)) (by decide)).mono ?_
  rintro e w2 ⟨rfl, hk⟩
  have HK : Hid (Keeps [] w w2) := Keeps.trans (by exact Keeps.K) hk (fun _ _ h => h)
  have HBK := hid ((hk.block w.heap.size (by simp; omega) (by simp)).trans (new2 w _ _ 0 rfl))
  obtain ⟨⟨c0, c1, c2⟩, f⟩ := blk3 HBK.out
  have HBK2 := hid ((hk.block (w.heap.size + 1) (by simp) (by simp)).trans (new_2 w _ _))
  obtain ⟨⟨d0, d1, d2⟩, g⟩ := blk3 HBK2.out
  clear hk
  go_wp2_with fail
  refine bodyPost_ret (v := .tuple #[.agg #[.int .i64 4, .int .i64 n, .string ⟨#[]⟩], .bool true]) (results_cell_tmp rfl _ _ w.heap.size 23 _ (0, 0) _ _ rfl rfl (heap3 HBK.out) Tryd.underlying23 rfl (by kernel_rfl)) rfl ⟨rfl, by have kk := HK.out; exact Keeps.K⟩


set_option maxRecDepth 100000 in
set_option maxHeartbeats 1600000 in
theorem plain_4_no (k n : Int) (s : ByteArray) (w : World) (hT : Tabs w) (ho : checkD ⟨4, n, ⟨#[]⟩⟩ = false) (wk : (Lit.int .i64 k).wf = true) (hp : placeOf k 11 = 4) : Calls Tryd.prog 24 #[.int .i64 k, .int .i64 n, .string s] w (UnboxPost ⟨0, 0, ⟨#[]⟩⟩ false w) := by
  have HT := hid hT
  clear hT
  have HO := hid (r5check_is ⟨4, n, ⟨#[]⟩⟩ false ho)
  unfold valV at HO
  clear ho
  go_enter Tryd.func24, Tryd.ntmps24
  go_wp2_with fail
  refine (place_is 4 k 11 _ (by decide) (by decide) wk hp).mono ?_
  rintro e w1 ⟨rfl, hw⟩
  subst hw
  go_wp2_with fail
  refine (HO.out _ (HT.out.k (by exact Keeps.K)) (by decide)).mono ?_
  rintro e w2 ⟨rfl, hk⟩
  have HK : Hid (Keeps [] w w2) := Keeps.trans (by exact Keeps.K) hk (fun _ _ h => h)
  have HBK := hid ((hk.block w.heap.size (by simp; omega) (by simp)).trans (new2 w _ _ 0 rfl))
  obtain ⟨⟨c0, c1, c2⟩, f⟩ := blk3 HBK.out
  have HBK2 := hid ((hk.block (w.heap.size + 1) (by simp) (by simp)).trans (new_2 w _ _))
  obtain ⟨⟨d0, d1, d2⟩, g⟩ := blk3 HBK2.out
  clear hk
  go_wp2_with fail
  refine bodyPost_ret (v := .tuple #[.agg #[.int .i64 0, .int .i64 0, .string ⟨#[]⟩], .bool false]) (results_cell_tmp rfl _ _ w.heap.size 23 _ (0, 0) _ _ rfl rfl (heap3 HBK.out) Tryd.underlying23 rfl (by kernel_rfl)) rfl ⟨rfl, by have kk := HK.out; exact Keeps.K⟩


set_option maxRecDepth 100000 in
set_option maxHeartbeats 1600000 in
theorem plain_5 (k n : Int) (s : ByteArray) (w : World) (hT : Tabs w) (wk : (Lit.int .i64 k).wf = true) (hp : placeOf k 11 = 5) : Calls Tryd.prog 24 #[.int .i64 k, .int .i64 n, .string s] w (UnboxPost ⟨0, 0, ⟨#[]⟩⟩ false w) := by
  have HT := hid hT
  clear hT
  go_enter Tryd.func24, Tryd.ntmps24
  go_wp2_with fail
  refine (place_is 5 k 11 _ (by decide) (by decide) wk hp).mono ?_
  rintro e w1 ⟨rfl, hw⟩
  subst hw
  go_wp2_with fail
  refine bodyPost_ret (v := .tuple #[.agg #[.int .i64 0, .int .i64 0, .string ⟨#[]⟩], .bool false]) (results_cell_tmp rfl _ _ w.heap.size 23 _ (0, 0) _ _ rfl rfl (new2 w _ _ 0 rfl) Tryd.underlying23 rfl (by kernel_rfl)) rfl ⟨rfl, Keeps.K⟩


set_option maxRecDepth 100000 in
set_option maxHeartbeats 1600000 in
theorem plain_6 (k n : Int) (s : ByteArray) (w : World) (hT : Tabs w) (wk : (Lit.int .i64 k).wf = true) (hp : placeOf k 11 = 6) : Calls Tryd.prog 24 #[.int .i64 k, .int .i64 n, .string s] w (UnboxPost ⟨0, 0, ⟨#[]⟩⟩ false w) := by
  have HT := hid hT
  clear hT
  go_enter Tryd.func24, Tryd.ntmps24
  go_wp2_with fail
  refine (place_is 6 k 11 _ (by decide) (by decide) wk hp).mono ?_
  rintro e w1 ⟨rfl, hw⟩
  subst hw
  go_wp2_with fail
  refine bodyPost_ret (v := .tuple #[.agg #[.int .i64 0, .int .i64 0, .string ⟨#[]⟩], .bool false]) (results_cell_tmp rfl _ _ w.heap.size 23 _ (0, 0) _ _ rfl rfl (new2 w _ _ 0 rfl) Tryd.underlying23 rfl (by kernel_rfl)) rfl ⟨rfl, Keeps.K⟩


set_option maxRecDepth 100000 in
set_option maxHeartbeats 1600000 in
theorem plain_7 (k n : Int) (s : ByteArray) (w : World) (hT : Tabs w) (wk : (Lit.int .i64 k).wf = true) (hp : placeOf k 11 = 7) : Calls Tryd.prog 24 #[.int .i64 k, .int .i64 n, .string s] w (UnboxPost ⟨0, 0, ⟨#[]⟩⟩ false w) := by
  have HT := hid hT
  clear hT
  go_enter Tryd.func24, Tryd.ntmps24
  go_wp2_with fail
  refine (place_is 7 k 11 _ (by decide) (by decide) wk hp).mono ?_
  rintro e w1 ⟨rfl, hw⟩
  subst hw
  go_wp2_with fail
  refine bodyPost_ret (v := .tuple #[.agg #[.int .i64 0, .int .i64 0, .string ⟨#[]⟩], .bool false]) (results_cell_tmp rfl _ _ w.heap.size 23 _ (0, 0) _ _ rfl rfl (new2 w _ _ 0 rfl) Tryd.underlying23 rfl (by kernel_rfl)) rfl ⟨rfl, Keeps.K⟩


set_option maxRecDepth 100000 in
set_option maxHeartbeats 1600000 in
theorem plain_8 (k n : Int) (s : ByteArray) (w : World) (hT : Tabs w) (wk : (Lit.int .i64 k).wf = true) (hp : placeOf k 11 = 8) : Calls Tryd.prog 24 #[.int .i64 k, .int .i64 n, .string s] w (UnboxPost ⟨0, 0, ⟨#[]⟩⟩ false w) := by
  have HT := hid hT
  clear hT
  go_enter Tryd.func24, Tryd.ntmps24
  go_wp2_with fail
  refine (place_is 8 k 11 _ (by decide) (by decide) wk hp).mono ?_
  rintro e w1 ⟨rfl, hw⟩
  subst hw
  go_wp2_with fail
  refine bodyPost_ret (v := .tuple #[.agg #[.int .i64 0, .int .i64 0, .string ⟨#[]⟩], .bool false]) (results_cell_tmp rfl _ _ w.heap.size 23 _ (0, 0) _ _ rfl rfl (new2 w _ _ 0 rfl) Tryd.underlying23 rfl (by kernel_rfl)) rfl ⟨rfl, Keeps.K⟩


set_option maxRecDepth 100000 in
set_option maxHeartbeats 1600000 in
theorem plain_9 (k n : Int) (s : ByteArray) (w : World) (hT : Tabs w) (wk : (Lit.int .i64 k).wf = true) (hp : placeOf k 11 = 9) : Calls Tryd.prog 24 #[.int .i64 k, .int .i64 n, .string s] w (UnboxPost ⟨0, 0, ⟨#[]⟩⟩ false w) := by
  have HT := hid hT
  clear hT
  go_enter Tryd.func24, Tryd.ntmps24
  go_wp2_with fail
  refine (place_is 9 k 11 _ (by decide) (by decide) wk hp).mono ?_
  rintro e w1 ⟨rfl, hw⟩
  subst hw
  go_wp2_with fail
  refine bodyPost_ret (v := .tuple #[.agg #[.int .i64 0, .int .i64 0, .string ⟨#[]⟩], .bool false]) (results_cell_tmp rfl _ _ w.heap.size 23 _ (0, 0) _ _ rfl rfl (new2 w _ _ 0 rfl) Tryd.underlying23 rfl (by kernel_rfl)) rfl ⟨rfl, Keeps.K⟩


set_option maxRecDepth 100000 in
set_option maxHeartbeats 1600000 in
theorem plain_10 (k n : Int) (s : ByteArray) (w : World) (hT : Tabs w) (wk : (Lit.int .i64 k).wf = true) (hp : placeOf k 11 = 10) : Calls Tryd.prog 24 #[.int .i64 k, .int .i64 n, .string s] w (UnboxPost ⟨0, 0, ⟨#[]⟩⟩ false w) := by
  have HT := hid hT
  clear hT
  go_enter Tryd.func24, Tryd.ntmps24
  go_wp2_with fail
  refine (place_is 10 k 11 _ (by decide) (by decide) wk hp).mono ?_
  rintro e w1 ⟨rfl, hw⟩
  subst hw
  go_wp2_with fail
  refine bodyPost_ret (v := .tuple #[.agg #[.int .i64 0, .int .i64 0, .string ⟨#[]⟩], .bool false]) (results_cell_tmp rfl _ _ w.heap.size 23 _ (0, 0) _ _ rfl rfl (new2 w _ _ 0 rfl) Tryd.underlying23 rfl (by kernel_rfl)) rfl ⟨rfl, Keeps.K⟩


theorem odd_any (k n : Int) (s : ByteArray) (w : World) (wk : (Lit.int .i64 k).wf = true) (hn : I64 n) (hs : s.size ≤ 5000) : Calls Tryd.prog 23 #[.int .i64 k, .int .i64 n, .string s] w (OddPost (placeOf k 11) n s w) := by
  obtain ⟨b0, b1⟩ := placeOf_bd k 11 (by decide)
  obtain ⟨p, hp⟩ : ∃ p, placeOf k 11 = p := ⟨_, rfl⟩
  rw [hp] at b0 b1 ⊢
  have : p = 0 ∨ p = 1 ∨ p = 2 ∨ p = 3 ∨ p = 4 ∨ p = 5 ∨ p = 6 ∨ p = 7 ∨ p = 8 ∨ p = 9 ∨ p = 10 := by omega
  rcases this with rfl | rfl | rfl | rfl | rfl | rfl | rfl | rfl | rfl | rfl | rfl
  · exact odd_0 k n s w wk hn hs hp
  · exact odd_1 k n s w wk hn hs hp
  · by_cases hv : n.tmod 2 = 0
    · exact odd_2_even k n s w hv wk hn hs hp
    · exact odd_2_uneven k n s w hv wk hn hs hp
  · exact odd_3 k n s w wk hn hs hp
  · exact odd_4 k n s w wk hn hs hp
  · exact odd_5 k n s w wk hn hs hp
  · exact odd_6 k n s w wk hn hs hp
  · exact odd_7 k n s w wk hn hs hp
  · exact odd_8 k n s w wk hn hs hp
  · exact odd_9 k n s w wk hn hs hp
  · exact odd_10 k n s w wk hn hs hp

theorem plain_any (k n : Int) (s : ByteArray) (w : World) (hT : Tabs w) (wk : (Lit.int .i64 k).wf = true) (hs : s.size ≤ 5000) : Calls Tryd.prog 24 #[.int .i64 k, .int .i64 n, .string s] w (UnboxPost (plainD (placeOf k 11) n s).1 (plainD (placeOf k 11) n s).2 w) := by
  obtain ⟨b0, b1⟩ := placeOf_bd k 11 (by decide)
  obtain ⟨p, hp⟩ : ∃ p, placeOf k 11 = p := ⟨_, rfl⟩
  rw [hp] at b0 b1 ⊢
  have : p = 0 ∨ p = 1 ∨ p = 2 ∨ p = 3 ∨ p = 4 ∨ p = 5 ∨ p = 6 ∨ p = 7 ∨ p = 8 ∨ p = 9 ∨ p = 10 := by omega
  rcases this with rfl | rfl | rfl | rfl | rfl | rfl | rfl | rfl | rfl | rfl | rfl
  · exact plain_0 k n s w hT wk hp
  · exact plain_1 k n s w hT wk hp
  · by_cases hv : n.tmod 2 = 0
    · rw [show plainD 2 n s = (⟨2, 1, ⟨#[]⟩⟩, true) by simp [plainD, hv]]; exact plain_2_even k n s w hT hv wk hp
    · rw [show plainD 2 n s = (⟨2, 0, ⟨#[]⟩⟩, true) by simp [plainD, hv]]; exact plain_2_uneven k n s w hT hv wk hp
  · rcases ho : checkD ⟨3, 0, s⟩ with _ | _
    · rw [show plainD 3 n s = (val0, false) by simp [plainD, ho]]; exact plain_3_no k n s w hT hs ho wk hp
    · rw [show plainD 3 n s = (⟨3, 0, s⟩, true) by simp [plainD, ho]]; exact plain_3_yes k n s w hT hs ho wk hp
  · rcases ho : checkD ⟨4, n, ⟨#[]⟩⟩ with _ | _
    · rw [show plainD 4 n s = (val0, false) by simp [plainD, ho]]; exact plain_4_no k n s w hT ho wk hp
    · rw [show plainD 4 n s = (⟨4, n, ⟨#[]⟩⟩, true) by simp [plainD, ho]]; exact plain_4_yes k n s w hT ho wk hp
  · exact plain_5 k n s w hT wk hp
  · exact plain_6 k n s w hT wk hp
  · exact plain_7 k n s w hT wk hp
  · exact plain_8 k n s w hT wk hp
  · exact plain_9 k n s w hT wk hp
  · exact plain_10 k n s w hT wk hp

end Go.Proofs.YtnekkkppjofdlaaDoor
