/- ValueApart, walked. (Printed by gen_apart.py.) -/
import Derived.Test.YtnekkkppjofdlaaDoorWireC
import Derived.Test.YtnekkkppjofdlaaDoorVaW
import Derived.Test.YtnekkkppjofdlaaDoorVaL
import Derived.Test.YtnekkkppjofdlaaDoorStrs
import Derived.Test.YtnekkkppjofdlaaDoorPlanT
namespace Go.Proofs.YtnekkkppjofdlaaDoor
open Go Go.RowKit

theorem ishow (v : ValD) (t : ByteArray) (ht : bytes (showL v) = t) (w : World) (hT : Tabs w) (hs : v.s.size ≤ 1000000) (hn : I64 v.n) :
    Calls Tryd.prog 18 #[valV v] w fun e w' => e = .returned (.string t) ∧ Keeps [] w w' := by
  rw [← ht]; exact vshow_any v w hT hs hn
theorem bytes_ext {s s' : ByteArray} (h : s.toList = s'.toList) : s = s' := by
  rw [ByteArray.toList_eq, ByteArray.toList_eq] at h
  obtain ⟨⟨l⟩⟩ := s
  obtain ⟨⟨m⟩⟩ := s'
  simp at h
  rw [h]
theorem reads_nil (w : World) : Reads w 1 (.slice none 0 0) 0 (u8s []) := ⟨rfl, .inl ⟨rfl, none, 0, rfl⟩⟩


set_option maxRecDepth 100000 in
set_option maxHeartbeats 1600000 in
theorem apart_no_a (k n : Int) (s : ByteArray) (k' n' : Int) (s' : ByteArray) (w : World) (hT : Tabs w) (h0 : checkD ⟨k, n, s⟩ = false) :
    Calls Tryd.prog 7 #[.agg #[.int .i64 k, .int .i64 n, .string s], .agg #[.int .i64 k', .int .i64 n', .string s']] w fun e w' => e = .returned (.bool true) ∧ Keeps [] w w' := by
  have HT := hid hT
  have HA := hid (r5check_all ⟨k, n, s⟩ _ h0)
  unfold valV at HA
  clear hT h0
  go_enter Tryd.func7, Tryd.ntmps7
  go_wp2_with fail
  refine (HA.out _ (HT.out.k (by exact Keeps.K))).mono ?_
  rintro e w2 ⟨rfl, hk⟩
  have HK2 : Hid (Keeps [] w w2) := Keeps.trans (by exact Keeps.K) hk (fun _ _ h => h)
  clear hk
  go_wp2_with fail
  refine (awake5_any _ (HT.out.k HK2.out)).mono ?_
  rintro e w3 ⟨rfl, hk⟩
  have HK3 : Hid (Keeps [] w w3) := Keeps.trans HK2.out hk (fun _ _ h => h)
  clear hk
  go_wp2_with fail
  go_ret
  exact ⟨rfl, HK3.out⟩

set_option maxRecDepth 100000 in
set_option maxHeartbeats 1600000 in
theorem apart_no_b (k n : Int) (s : ByteArray) (k' n' : Int) (s' : ByteArray) (w : World) (hT : Tabs w) (h0 : checkD ⟨k, n, s⟩ = true) (h1 : checkD ⟨k', n', s'⟩ = false) :
    Calls Tryd.prog 7 #[.agg #[.int .i64 k, .int .i64 n, .string s], .agg #[.int .i64 k', .int .i64 n', .string s']] w fun e w' => e = .returned (.bool true) ∧ Keeps [] w w' := by
  have HT := hid hT
  have HA := hid (r5check_all ⟨k, n, s⟩ _ h0)
  unfold valV at HA
  have HB := hid (r5check_all ⟨k', n', s'⟩ _ h1)
  unfold valV at HB
  clear hT h0
  go_enter Tryd.func7, Tryd.ntmps7
  go_wp2_with fail
  refine (HA.out _ (HT.out.k (by exact Keeps.K))).mono ?_
  rintro e w1 ⟨rfl, hk⟩
  have c0 : w1.cell? ⟨w.heap.size + 1, 0, none⟩ = some (.int .i64 k') := hk.cellSome (by go_simp) (by simp)
  have c1 : w1.cell? ⟨w.heap.size + 1, 1, none⟩ = some (.int .i64 n') := hk.cellSome (by go_simp) (by simp)
  have c2 : w1.cell? ⟨w.heap.size + 1, 2, none⟩ = some (.string s') := hk.cellSome (by go_simp) (by simp)
  have HK1 : Hid (Keeps [] w w1) := Keeps.trans (by exact Keeps.K) hk (fun _ _ h => h)
  clear hk
  go_wp2_with fail
  refine (HB.out _ (HT.out.k HK1.out)).mono ?_
  rintro e w2 ⟨rfl, hk⟩
  have HK2 : Hid (Keeps [] w w2) := Keeps.trans HK1.out hk (fun _ _ h => h)
  clear hk
  go_wp2_with fail
  refine (awake5_any _ (HT.out.k HK2.out)).mono ?_
  rintro e w3 ⟨rfl, hk⟩
  have HK3 : Hid (Keeps [] w w3) := Keeps.trans HK2.out hk (fun _ _ h => h)
  clear hk
  go_wp2_with fail
  go_ret
  exact ⟨rfl, HK3.out⟩

set_option maxRecDepth 100000 in
set_option maxHeartbeats 6400000 in
theorem apart_ne (k n : Int) (s : ByteArray) (k' n' : Int) (s' : ByteArray) (w : World) (hT : Tabs w) (hne : (⟨k, n, s⟩ : ValD) ≠ ⟨k', n', s'⟩) (h0 : checkD ⟨k, n, s⟩ = true) (h1 : checkD ⟨k', n', s'⟩ = true) (hk : I64 k) (hn : I64 n) (hk' : I64 k') (hn' : I64 n') :
    Calls Tryd.prog 7 #[.agg #[.int .i64 k, .int .i64 n, .string s], .agg #[.int .i64 k', .int .i64 n', .string s']] w fun e w' => e = .returned (.bool true) ∧ Keeps [] w w' := by
  have HT := hid hT
  have s0 := checkD_small h0
  have s1 := checkD_small h1
  have HA := hid (r5check_all ⟨k, n, s⟩ _ h0)
  have HB := hid (r5check_all ⟨k', n', s'⟩ _ h1)
  obtain ⟨ta, hta⟩ : ∃ ta, bytes (showL ⟨k, n, s⟩) = ta := ⟨_, rfl⟩
  obtain ⟨tb, htb⟩ : ∃ tb, bytes (showL ⟨k', n', s'⟩) = tb := ⟨_, rfl⟩
  have HSA := hid (fun w hT => ishow ⟨k, n, s⟩ ta hta w hT (by omega) hn)
  have HSB := hid (fun w hT => ishow ⟨k', n', s'⟩ tb htb w hT (by omega) hn')
  obtain ⟨pa, hpa⟩ : ∃ pa, putL ⟨k, n, s⟩ = pa := ⟨_, rfl⟩
  obtain ⟨pb, hpb⟩ : ∃ pb, putL ⟨k', n', s'⟩ = pb := ⟨_, rfl⟩
  have HPA := hid (fun w => vPut_any none [] 0 rfl 0 ⟨k, n, s⟩ w (reads_nil w) (by simp) (by omega) hk hn)
  have HPB := hid (fun w => vPut_any none [] 0 rfl 0 ⟨k', n', s'⟩ w (reads_nil w) (by simp) (by omega) hk' hn')
  rw [hpa] at HPA
  rw [hpb] at HPB
  have q3 : ¬ (k = k' ∧ n = n' ∧ s.toList = s'.toList) := by
    rintro ⟨rfl, rfl, h⟩
    have e : s = s' := bytes_ext h
    exact hne (by rw [e])
  have q1 : (ta.toList == tb.toList) = false := by rw [← hta, ← htb]; simp; intro h; exact hne (showL_inj h0 h1 (by simpa [bytes] using h))
  have q2 : (pa == pb) = false := by rw [← hpa, ← hpb]; simp; intro h; exact hne (putL_inj h)
  unfold valV at HA HB HSA HSB HPA HPB
  clear hT h0 h1 hta htb hpa hpb hk hn hk' hn' s0 s1
  go_enter Tryd.func7, Tryd.ntmps7
  go_wp2_with fail
  refine (HA.out _ (HT.out.k (by exact Keeps.K))).mono ?_
  rintro e w1 ⟨rfl, hk⟩
  have c0 : w1.cell? ⟨w.heap.size, 0, none⟩ = some (.int .i64 k) := hk.cellSome (by go_simp) (by simp)
  have c1 : w1.cell? ⟨w.heap.size, 1, none⟩ = some (.int .i64 n) := hk.cellSome (by go_simp) (by simp)
  have c2 : w1.cell? ⟨w.heap.size, 2, none⟩ = some (.string s) := hk.cellSome (by go_simp) (by simp)
  have c3 : w1.cell? ⟨w.heap.size + 1, 0, none⟩ = some (.int .i64 k') := hk.cellSome (by go_simp) (by simp)
  have c4 : w1.cell? ⟨w.heap.size + 1, 1, none⟩ = some (.int .i64 n') := hk.cellSome (by go_simp) (by simp)
  have c5 : w1.cell? ⟨w.heap.size + 1, 2, none⟩ = some (.string s') := hk.cellSome (by go_simp) (by simp)
  have HK1 : Hid (Keeps [] w w1) := Keeps.trans (by exact Keeps.K) hk (fun _ _ h => h)
  clear hk
  go_wp2_with fail
  refine (HB.out _ (HT.out.k HK1.out)).mono ?_
  rintro e w2 ⟨rfl, hk⟩
  have d0 : w2.cell? ⟨w.heap.size, 0, none⟩ = some (.int .i64 k) := hk.cellSome (by go_simp) (by simp)
  have d1 : w2.cell? ⟨w.heap.size, 1, none⟩ = some (.int .i64 n) := hk.cellSome (by go_simp) (by simp)
  have d2 : w2.cell? ⟨w.heap.size, 2, none⟩ = some (.string s) := hk.cellSome (by go_simp) (by simp)
  have d3 : w2.cell? ⟨w.heap.size + 1, 0, none⟩ = some (.int .i64 k') := hk.cellSome (by go_simp) (by simp)
  have d4 : w2.cell? ⟨w.heap.size + 1, 1, none⟩ = some (.int .i64 n') := hk.cellSome (by go_simp) (by simp)
  have d5 : w2.cell? ⟨w.heap.size + 1, 2, none⟩ = some (.string s') := hk.cellSome (by go_simp) (by simp)
  have HK2 : Hid (Keeps [] w w2) := Keeps.trans HK1.out hk (fun _ _ h => h)
  clear hk c0 c1 c2 c3 c4 c5
  go_wp2_with fail
  refine Plan.wp_region_tree (fun wx => wx.cell? ⟨w.heap.size, 0, none⟩ = some (.int .i64 k) ∧ wx.cell? ⟨w.heap.size, 1, none⟩ = some (.int .i64 n) ∧ wx.cell? ⟨w.heap.size, 2, none⟩ = some (.string s) ∧ wx.cell? ⟨w.heap.size + 1, 0, none⟩ = some (.int .i64 k') ∧ wx.cell? ⟨w.heap.size + 1, 1, none⟩ = some (.int .i64 n') ∧ wx.cell? ⟨w.heap.size + 1, 2, none⟩ = some (.string s')) 20 (.take 0 (.take 2 (.take 5 (.take 6 (.take 7 (.step 1 (.step 3 (.take 4 (.take 8 (.take 9 (.take 10 (.take 13 (.take 17 (.take 18 (.take 19 (.step 11 (.fork 12 14 (.step 14 (.step 15 (.take 16 .fin))) (.fork 12 15 (.step 15 (.take 16 .fin)) (.step 12 (.take 16 .fin)))))))))))))))))))) (by kernel_rfl) (by as_aux_lemma => kernel_rfl) (by kernel_rfl) (fun _ _ _ _ _ h => h) ?_ (fun hS => ?_)
  (· go_simp)
  simp only [Plan.pickT, List.append_eq, List.cons_append, List.nil_append, Plan.g1, Plan.g2, Option.getD_some, List.drop_succ_cons, List.drop_zero]
  iterate 4 (first | (refine Plan.takeT (v := ?_) (a' := ?_) (Plan.want_all (by rfl)) ?_ ?_ ?_; rotate_left 2; (· (intro w' hS'; (try dsimp only at hS'); go_simp; try with_reducible rfl)); (· (simp only [Act.put, Plan.l1, Plan.l2, Plan.l3]; try with_reducible rfl))) | (refine Plan.takeT (v := ?_) (a' := ?_) (Plan.want_yes (by rfl) (by rfl) (by rfl) (by rfl)) ?_ ?_ ?_; rotate_left 2; (· (intro w' hS'; (try dsimp only at hS'); go_simp; try with_reducible rfl)); (· (simp only [Act.put, Plan.l1, Plan.l2, Plan.l3]; try with_reducible rfl))) | fail)
  refine Plan.takeT (v := .bool false) (a' := ?_) (by first | exact Plan.want_all (by rfl) | exact Plan.want_yes (by rfl) (by rfl) (by rfl) (by rfl)) ?_ ?_ ?_; rotate_left 1; (· (intro w' hS'; (try dsimp only at hS'); go_simp; exact fun x y z => q3 ⟨x, y, z⟩)); (· (simp only [Act.put, List.setIfInBounds_toArray, List.set_cons_zero, List.set_cons_succ]; try with_reducible rfl))
  refine Plan.stepT ?_
  go_wp2_with fail
  refine (HSA.out _ (HT.out.k (by have kk := HK2.out; exact Keeps.K))).mono ?_
  rintro e w3 ⟨rfl, hk⟩
  have e0 : w3.cell? ⟨w.heap.size, 0, none⟩ = some (.int .i64 k) := hk.cellSome (by go_simp) (by simp)
  have e1 : w3.cell? ⟨w.heap.size, 1, none⟩ = some (.int .i64 n) := hk.cellSome (by go_simp) (by simp)
  have e2 : w3.cell? ⟨w.heap.size, 2, none⟩ = some (.string s) := hk.cellSome (by go_simp) (by simp)
  have e3 : w3.cell? ⟨w.heap.size + 1, 0, none⟩ = some (.int .i64 k') := hk.cellSome (by go_simp) (by simp)
  have e4 : w3.cell? ⟨w.heap.size + 1, 1, none⟩ = some (.int .i64 n') := hk.cellSome (by go_simp) (by simp)
  have e5 : w3.cell? ⟨w.heap.size + 1, 2, none⟩ = some (.string s') := hk.cellSome (by go_simp) (by simp)
  have HK3 : Hid (Keeps [] w w3) := Keeps.trans (by have kk := HK2.out; exact Keeps.K) hk (fun _ _ h => h)
  clear hk d0 d1 d2 d3 d4 d5 hS
  go_wp2_with fail
  refine ⟨?_, ?_⟩
  (· go_simp)
  refine Plan.stepT ?_
  go_wp2_with fail
  refine (HSB.out _ (HT.out.k HK3.out)).mono ?_
  rintro e w4 ⟨rfl, hk⟩
  have f0 : w4.cell? ⟨w.heap.size, 0, none⟩ = some (.int .i64 k) := hk.cellSome (by go_simp) (by simp)
  have f1 : w4.cell? ⟨w.heap.size, 1, none⟩ = some (.int .i64 n) := hk.cellSome (by go_simp) (by simp)
  have f2 : w4.cell? ⟨w.heap.size, 2, none⟩ = some (.string s) := hk.cellSome (by go_simp) (by simp)
  have f3 : w4.cell? ⟨w.heap.size + 1, 0, none⟩ = some (.int .i64 k') := hk.cellSome (by go_simp) (by simp)
  have f4 : w4.cell? ⟨w.heap.size + 1, 1, none⟩ = some (.int .i64 n') := hk.cellSome (by go_simp) (by simp)
  have f5 : w4.cell? ⟨w.heap.size + 1, 2, none⟩ = some (.string s') := hk.cellSome (by go_simp) (by simp)
  have HK4 : Hid (Keeps [] w w4) := Keeps.trans HK3.out hk (fun _ _ h => h)
  clear hk e0 e1 e2 e3 e4 e5
  go_wp2_with fail
  refine ⟨?_, ?_⟩
  (· go_simp)
  iterate 7 (first | (refine Plan.takeT (v := ?_) (a' := ?_) (Plan.want_all (by rfl)) ?_ ?_ ?_; rotate_left 2; (· (intro w' hS'; (try dsimp only at hS'); go_simp; try with_reducible rfl)); (· (simp only [Act.put, Plan.l1, Plan.l2, Plan.l3]; try with_reducible rfl))) | (refine Plan.takeT (v := ?_) (a' := ?_) (Plan.want_yes (by rfl) (by rfl) (by rfl) (by rfl)) ?_ ?_ ?_; rotate_left 2; (· (intro w' hS'; (try dsimp only at hS'); go_simp; try with_reducible rfl)); (· (simp only [Act.put, Plan.l1, Plan.l2, Plan.l3]; try with_reducible rfl))) | fail)
  refine Plan.takeT (v := .bool false) (a' := ?_) (by first | exact Plan.want_all (by rfl) | exact Plan.want_yes (by rfl) (by rfl) (by rfl) (by rfl)) ?_ ?_ ?_; rotate_left 1; (· (intro w' hS'; (try dsimp only at hS'); go_simp; exact fun x y z => q3 ⟨x, y, z⟩)); (· (simp only [Act.put, List.setIfInBounds_toArray, List.set_cons_zero, List.set_cons_succ]; try with_reducible rfl))
  refine Plan.stepT ?_
  go_wp2_with fail
  refine (HPA.out _).mono ?_
  rintro e w5 ⟨a5, q5, rfl, h1, hk⟩
  have g0 : w5.cell? ⟨w.heap.size, 0, none⟩ = some (.int .i64 k) := hk.cellSome (by go_simp) (by simp)
  have g1 : w5.cell? ⟨w.heap.size, 1, none⟩ = some (.int .i64 n) := hk.cellSome (by go_simp) (by simp)
  have g2 : w5.cell? ⟨w.heap.size, 2, none⟩ = some (.string s) := hk.cellSome (by go_simp) (by simp)
  have g3 : w5.cell? ⟨w.heap.size + 1, 0, none⟩ = some (.int .i64 k') := hk.cellSome (by go_simp) (by simp)
  have g4 : w5.cell? ⟨w.heap.size + 1, 1, none⟩ = some (.int .i64 n') := hk.cellSome (by go_simp) (by simp)
  have g5 : w5.cell? ⟨w.heap.size + 1, 2, none⟩ = some (.string s') := hk.cellSome (by go_simp) (by simp)
  have HK5 : Hid (Keeps [] w w5) := Keeps.trans HK4.out hk (fun _ _ h => h)
  have RA5 : Hid (Reads w5 1 (.slice a5 ([] ++ pa).length q5) ([] ++ pa).length (u8s ([] ++ pa))) := Reads.ofOwn h1
  have cv : (convert 50 9 (.slice a5 ([] ++ pa).length q5)).run Tryd.prog w5 = .ok (.string (str ([] ++ pa))) w5 := run_convert_str w5 50 9 5 _ _ Tryd.underlying50 Tryd.underlying5 Tryd.underlying9 (Reads.ofOwn h1)
  rw [List.nil_append] at cv RA5 ⊢
  clear hk h1 f0 f1 f2 f3 f4 f5
  go_wp2_with fail
  refine ⟨?_, ?_⟩
  (· go_simp)
  refine Plan.forkT ?_ ?_
  · go_wp2_with fail
    refine ⟨?_, ?_⟩
    (· go_simp)
    clear cv
    refine Plan.stepT ?_
    go_wp2_with fail
    refine (HPB.out _).mono ?_
    rintro e w6 ⟨a6, q6, rfl, h1, hk⟩
    have i0 : w6.cell? ⟨w.heap.size, 0, none⟩ = some (.int .i64 k) := hk.cellSome (by go_simp) (by simp)
    have i1 : w6.cell? ⟨w.heap.size, 1, none⟩ = some (.int .i64 n) := hk.cellSome (by go_simp) (by simp)
    have i2 : w6.cell? ⟨w.heap.size, 2, none⟩ = some (.string s) := hk.cellSome (by go_simp) (by simp)
    have i3 : w6.cell? ⟨w.heap.size + 1, 0, none⟩ = some (.int .i64 k') := hk.cellSome (by go_simp) (by simp)
    have i4 : w6.cell? ⟨w.heap.size + 1, 1, none⟩ = some (.int .i64 n') := hk.cellSome (by go_simp) (by simp)
    have i5 : w6.cell? ⟨w.heap.size + 1, 2, none⟩ = some (.string s') := hk.cellSome (by go_simp) (by simp)
    have HK6 : Hid (Keeps [] w w6) := Keeps.trans HK5.out hk (fun _ _ h => h)
    have RA6 : Hid (Reads w6 1 (.slice a5 pa.length q5) pa.length (u8s pa)) := RA5.out.k0 hk
    have cv : (convert 50 9 (.slice a6 ([] ++ pb).length q6)).run Tryd.prog w6 = .ok (.string (str ([] ++ pb))) w6 := run_convert_str w6 50 9 5 _ _ Tryd.underlying50 Tryd.underlying5 Tryd.underlying9 (Reads.ofOwn h1)
    rw [List.nil_append] at cv ⊢
    clear hk h1 g0 g1 g2 g3 g4 g5
    go_wp2_with fail
    refine ⟨?_, ?_⟩
    (· go_simp)
    refine Plan.stepT ?_
    go_wp2_with fail
    refine ⟨?_, ?_⟩
    (· go_simp)
    iterate 1 (first | (refine Plan.takeT (v := ?_) (a' := ?_) (Plan.want_all (by rfl)) ?_ ?_ ?_; rotate_left 2; (· (intro w' hS'; (try dsimp only at hS'); go_simp; try with_reducible rfl)); (· (simp only [Act.put, Plan.l1, Plan.l2, Plan.l3]; try with_reducible rfl))) | (refine Plan.takeT (v := ?_) (a' := ?_) (Plan.want_yes (by rfl) (by rfl) (by rfl) (by rfl)) ?_ ?_ ?_; rotate_left 2; (· (intro w' hS'; (try dsimp only at hS'); go_simp; try with_reducible rfl)); (· (simp only [Act.put, Plan.l1, Plan.l2, Plan.l3]; try with_reducible rfl))) | fail)
    refine Plan.finT ?_
    go_wp2_with fail
    refine (awake5_any _ (HT.out.k HK6.out)).mono ?_
    rintro e w7 ⟨rfl, hk⟩
    have HK7 : Hid (Keeps [] w w7) := Keeps.trans HK6.out hk (fun _ _ h => h)
    clear hk
    go_wp2_with fail
    go_ret
    exact ⟨rfl, HK7.out⟩
  · clear cv
    go_wp2_with fail
    refine (HPB.out _).mono ?_
    rintro e w6 ⟨a6, q6, rfl, h1, hk⟩
    have i0 : w6.cell? ⟨w.heap.size, 0, none⟩ = some (.int .i64 k) := hk.cellSome (by go_simp) (by simp)
    have i1 : w6.cell? ⟨w.heap.size, 1, none⟩ = some (.int .i64 n) := hk.cellSome (by go_simp) (by simp)
    have i2 : w6.cell? ⟨w.heap.size, 2, none⟩ = some (.string s) := hk.cellSome (by go_simp) (by simp)
    have i3 : w6.cell? ⟨w.heap.size + 1, 0, none⟩ = some (.int .i64 k') := hk.cellSome (by go_simp) (by simp)
    have i4 : w6.cell? ⟨w.heap.size + 1, 1, none⟩ = some (.int .i64 n') := hk.cellSome (by go_simp) (by simp)
    have i5 : w6.cell? ⟨w.heap.size + 1, 2, none⟩ = some (.string s') := hk.cellSome (by go_simp) (by simp)
    have HK6 : Hid (Keeps [] w w6) := Keeps.trans HK5.out hk (fun _ _ h => h)
    have RA6 : Hid (Reads w6 1 (.slice a5 pa.length q5) pa.length (u8s pa)) := RA5.out.k0 hk
    have cv : (convert 50 9 (.slice a6 ([] ++ pb).length q6)).run Tryd.prog w6 = .ok (.string (str ([] ++ pb))) w6 := run_convert_str w6 50 9 5 _ _ Tryd.underlying50 Tryd.underlying5 Tryd.underlying9 (Reads.ofOwn h1)
    rw [List.nil_append] at cv ⊢
    clear hk h1 g0 g1 g2 g3 g4 g5
    go_wp2_with fail
    have cv2 : (convert 50 9 (.slice a5 pa.length q5)).run Tryd.prog w6 = .ok (.string (str pa)) w6 := run_convert_str w6 50 9 5 _ _ Tryd.underlying50 Tryd.underlying5 Tryd.underlying9 RA6.out
    refine ⟨?_, ?_⟩
    (· go_simp)
    refine Plan.forkT ?_ ?_
    · go_wp2_with fail
      refine ⟨?_, ?_⟩
      (· go_simp)
      refine Plan.stepT ?_
      go_wp2_with fail
      refine ⟨?_, ?_⟩
      (· go_simp)
      iterate 1 (first | (refine Plan.takeT (v := ?_) (a' := ?_) (Plan.want_all (by rfl)) ?_ ?_ ?_; rotate_left 2; (· (intro w' hS'; (try dsimp only at hS'); go_simp; try with_reducible rfl)); (· (simp only [Act.put, Plan.l1, Plan.l2, Plan.l3]; try with_reducible rfl))) | (refine Plan.takeT (v := ?_) (a' := ?_) (Plan.want_yes (by rfl) (by rfl) (by rfl) (by rfl)) ?_ ?_ ?_; rotate_left 2; (· (intro w' hS'; (try dsimp only at hS'); go_simp; try with_reducible rfl)); (· (simp only [Act.put, Plan.l1, Plan.l2, Plan.l3]; try with_reducible rfl))) | fail)
      refine Plan.finT ?_
      go_wp2_with fail
      refine (awake5_any _ (HT.out.k HK6.out)).mono ?_
      rintro e w7 ⟨rfl, hk⟩
      have HK7 : Hid (Keeps [] w w7) := Keeps.trans HK6.out hk (fun _ _ h => h)
      clear hk
      go_wp2_with fail
      go_ret
      exact ⟨rfl, HK7.out⟩
    · go_wp2_with fail
      refine ⟨?_, ?_⟩
      (· go_simp)
      refine Plan.stepT ?_
      go_wp2_with fail
      refine ⟨?_, ?_⟩
      (· go_simp)
      iterate 1 (first | (refine Plan.takeT (v := ?_) (a' := ?_) (Plan.want_all (by rfl)) ?_ ?_ ?_; rotate_left 2; (· (intro w' hS'; (try dsimp only at hS'); go_simp; try with_reducible rfl)); (· (simp only [Act.put, Plan.l1, Plan.l2, Plan.l3]; try with_reducible rfl))) | (refine Plan.takeT (v := ?_) (a' := ?_) (Plan.want_yes (by rfl) (by rfl) (by rfl) (by rfl)) ?_ ?_ ?_; rotate_left 2; (· (intro w' hS'; (try dsimp only at hS'); go_simp; try with_reducible rfl)); (· (simp only [Act.put, Plan.l1, Plan.l2, Plan.l3]; try with_reducible rfl))) | fail)
      refine Plan.finT ?_
      go_wp2_with fail
      refine (awake5_any _ (HT.out.k HK6.out)).mono ?_
      rintro e w7 ⟨rfl, hk⟩
      have HK7 : Hid (Keeps [] w w7) := Keeps.trans HK6.out hk (fun _ _ h => h)
      clear hk
      go_wp2_with fail
      go_ret
      exact ⟨rfl, HK7.out⟩

set_option maxRecDepth 100000 in
set_option maxHeartbeats 6400000 in
theorem apart_eq (k n : Int) (s : ByteArray) (k' n' : Int) (s' : ByteArray) (w : World) (hT : Tabs w) (hek : k = k') (hen : n = n') (hes : s = s') (h0 : checkD ⟨k, n, s⟩ = true) (h1 : checkD ⟨k', n', s'⟩ = true) (hk : I64 k) (hn : I64 n) (hk' : I64 k') (hn' : I64 n') :
    Calls Tryd.prog 7 #[.agg #[.int .i64 k, .int .i64 n, .string s], .agg #[.int .i64 k', .int .i64 n', .string s']] w fun e w' => e = .returned (.bool true) ∧ Keeps [] w w' := by
  have HT := hid hT
  have s0 := checkD_small h0
  have s1 := checkD_small h1
  have HA := hid (r5check_all ⟨k, n, s⟩ _ h0)
  have HB := hid (r5check_all ⟨k', n', s'⟩ _ h1)
  obtain ⟨ta, hta⟩ : ∃ ta, bytes (showL ⟨k, n, s⟩) = ta := ⟨_, rfl⟩
  obtain ⟨tb, htb⟩ : ∃ tb, bytes (showL ⟨k', n', s'⟩) = tb := ⟨_, rfl⟩
  have HSA := hid (fun w hT => ishow ⟨k, n, s⟩ ta hta w hT (by omega) hn)
  have HSB := hid (fun w hT => ishow ⟨k', n', s'⟩ tb htb w hT (by omega) hn')
  obtain ⟨pa, hpa⟩ : ∃ pa, putL ⟨k, n, s⟩ = pa := ⟨_, rfl⟩
  obtain ⟨pb, hpb⟩ : ∃ pb, putL ⟨k', n', s'⟩ = pb := ⟨_, rfl⟩
  have HPA := hid (fun w => vPut_any none [] 0 rfl 0 ⟨k, n, s⟩ w (reads_nil w) (by simp) (by omega) hk hn)
  have HPB := hid (fun w => vPut_any none [] 0 rfl 0 ⟨k', n', s'⟩ w (reads_nil w) (by simp) (by omega) hk' hn')
  rw [hpa] at HPA
  rw [hpb] at HPB
  have Q3 : Hid (k = k' ∧ n = n' ∧ s.toList = s'.toList) := ⟨hek, hen, by rw [hes]⟩
  have q1 : (ta.toList == tb.toList) = true := by rw [← hta, ← htb, hek, hen, hes]; simp
  have q2 : (pa == pb) = true := by rw [← hpa, ← hpb, hek, hen, hes]; simp
  clear hek hen hes
  unfold valV at HA HB HSA HSB HPA HPB
  clear hT h0 h1 hta htb hpa hpb hk hn hk' hn' s0 s1
  go_enter Tryd.func7, Tryd.ntmps7
  go_wp2_with fail
  refine (HA.out _ (HT.out.k (by exact Keeps.K))).mono ?_
  rintro e w1 ⟨rfl, hk⟩
  have c0 : w1.cell? ⟨w.heap.size, 0, none⟩ = some (.int .i64 k) := hk.cellSome (by go_simp) (by simp)
  have c1 : w1.cell? ⟨w.heap.size, 1, none⟩ = some (.int .i64 n) := hk.cellSome (by go_simp) (by simp)
  have c2 : w1.cell? ⟨w.heap.size, 2, none⟩ = some (.string s) := hk.cellSome (by go_simp) (by simp)
  have c3 : w1.cell? ⟨w.heap.size + 1, 0, none⟩ = some (.int .i64 k') := hk.cellSome (by go_simp) (by simp)
  have c4 : w1.cell? ⟨w.heap.size + 1, 1, none⟩ = some (.int .i64 n') := hk.cellSome (by go_simp) (by simp)
  have c5 : w1.cell? ⟨w.heap.size + 1, 2, none⟩ = some (.string s') := hk.cellSome (by go_simp) (by simp)
  have HK1 : Hid (Keeps [] w w1) := Keeps.trans (by exact Keeps.K) hk (fun _ _ h => h)
  clear hk
  go_wp2_with fail
  refine (HB.out _ (HT.out.k HK1.out)).mono ?_
  rintro e w2 ⟨rfl, hk⟩
  have d0 : w2.cell? ⟨w.heap.size, 0, none⟩ = some (.int .i64 k) := hk.cellSome (by go_simp) (by simp)
  have d1 : w2.cell? ⟨w.heap.size, 1, none⟩ = some (.int .i64 n) := hk.cellSome (by go_simp) (by simp)
  have d2 : w2.cell? ⟨w.heap.size, 2, none⟩ = some (.string s) := hk.cellSome (by go_simp) (by simp)
  have d3 : w2.cell? ⟨w.heap.size + 1, 0, none⟩ = some (.int .i64 k') := hk.cellSome (by go_simp) (by simp)
  have d4 : w2.cell? ⟨w.heap.size + 1, 1, none⟩ = some (.int .i64 n') := hk.cellSome (by go_simp) (by simp)
  have d5 : w2.cell? ⟨w.heap.size + 1, 2, none⟩ = some (.string s') := hk.cellSome (by go_simp) (by simp)
  have HK2 : Hid (Keeps [] w w2) := Keeps.trans HK1.out hk (fun _ _ h => h)
  clear hk c0 c1 c2 c3 c4 c5
  go_wp2_with fail
  refine Plan.wp_region_tree (fun wx => wx.cell? ⟨w.heap.size, 0, none⟩ = some (.int .i64 k) ∧ wx.cell? ⟨w.heap.size, 1, none⟩ = some (.int .i64 n) ∧ wx.cell? ⟨w.heap.size, 2, none⟩ = some (.string s) ∧ wx.cell? ⟨w.heap.size + 1, 0, none⟩ = some (.int .i64 k') ∧ wx.cell? ⟨w.heap.size + 1, 1, none⟩ = some (.int .i64 n') ∧ wx.cell? ⟨w.heap.size + 1, 2, none⟩ = some (.string s')) 20 (.take 0 (.take 2 (.take 5 (.take 6 (.take 7 (.step 1 (.step 3 (.take 4 (.take 8 (.take 9 (.take 10 (.take 13 (.take 17 (.take 18 (.take 19 (.step 11 (.fork 12 14 (.step 14 (.step 15 (.take 16 .fin))) (.fork 12 15 (.step 15 (.take 16 .fin)) (.step 12 (.take 16 .fin)))))))))))))))))))) (by kernel_rfl) (by as_aux_lemma => kernel_rfl) (by kernel_rfl) (fun _ _ _ _ _ h => h) ?_ (fun hS => ?_)
  (· go_simp)
  simp only [Plan.pickT, List.append_eq, List.cons_append, List.nil_append, Plan.g1, Plan.g2, Option.getD_some, List.drop_succ_cons, List.drop_zero]
  iterate 4 (first | (refine Plan.takeT (v := ?_) (a' := ?_) (Plan.want_all (by rfl)) ?_ ?_ ?_; rotate_left 2; (· (intro w' hS'; (try dsimp only at hS'); go_simp; try with_reducible rfl)); (· (simp only [Act.put, Plan.l1, Plan.l2, Plan.l3]; try with_reducible rfl))) | (refine Plan.takeT (v := ?_) (a' := ?_) (Plan.want_yes (by rfl) (by rfl) (by rfl) (by rfl)) ?_ ?_ ?_; rotate_left 2; (· (intro w' hS'; (try dsimp only at hS'); go_simp; try with_reducible rfl)); (· (simp only [Act.put, Plan.l1, Plan.l2, Plan.l3]; try with_reducible rfl))) | fail)
  refine Plan.takeT (v := .bool true) (a' := ?_) (by first | exact Plan.want_all (by rfl) | exact Plan.want_yes (by rfl) (by rfl) (by rfl) (by rfl)) ?_ ?_ ?_; rotate_left 1; (· (intro w' hS'; (try dsimp only at hS'); go_simp; rw [if_pos Q3.out.1, if_pos Q3.out.2.1, if_pos Q3.out.2.2])); (· (simp only [Act.put, List.setIfInBounds_toArray, List.set_cons_zero, List.set_cons_succ]; try with_reducible rfl))
  refine Plan.stepT ?_
  go_wp2_with fail
  refine (HSA.out _ (HT.out.k (by have kk := HK2.out; exact Keeps.K))).mono ?_
  rintro e w3 ⟨rfl, hk⟩
  have e0 : w3.cell? ⟨w.heap.size, 0, none⟩ = some (.int .i64 k) := hk.cellSome (by go_simp) (by simp)
  have e1 : w3.cell? ⟨w.heap.size, 1, none⟩ = some (.int .i64 n) := hk.cellSome (by go_simp) (by simp)
  have e2 : w3.cell? ⟨w.heap.size, 2, none⟩ = some (.string s) := hk.cellSome (by go_simp) (by simp)
  have e3 : w3.cell? ⟨w.heap.size + 1, 0, none⟩ = some (.int .i64 k') := hk.cellSome (by go_simp) (by simp)
  have e4 : w3.cell? ⟨w.heap.size + 1, 1, none⟩ = some (.int .i64 n') := hk.cellSome (by go_simp) (by simp)
  have e5 : w3.cell? ⟨w.heap.size + 1, 2, none⟩ = some (.string s') := hk.cellSome (by go_simp) (by simp)
  have HK3 : Hid (Keeps [] w w3) := Keeps.trans (by have kk := HK2.out; exact Keeps.K) hk (fun _ _ h => h)
  clear hk d0 d1 d2 d3 d4 d5 hS
  go_wp2_with fail
  refine ⟨?_, ?_⟩
  (· go_simp)
  refine Plan.stepT ?_
  go_wp2_with fail
  refine (HSB.out _ (HT.out.k HK3.out)).mono ?_
  rintro e w4 ⟨rfl, hk⟩
  have f0 : w4.cell? ⟨w.heap.size, 0, none⟩ = some (.int .i64 k) := hk.cellSome (by go_simp) (by simp)
  have f1 : w4.cell? ⟨w.heap.size, 1, none⟩ = some (.int .i64 n) := hk.cellSome (by go_simp) (by simp)
  have f2 : w4.cell? ⟨w.heap.size, 2, none⟩ = some (.string s) := hk.cellSome (by go_simp) (by simp)
  have f3 : w4.cell? ⟨w.heap.size + 1, 0, none⟩ = some (.int .i64 k') := hk.cellSome (by go_simp) (by simp)
  have f4 : w4.cell? ⟨w.heap.size + 1, 1, none⟩ = some (.int .i64 n') := hk.cellSome (by go_simp) (by simp)
  have f5 : w4.cell? ⟨w.heap.size + 1, 2, none⟩ = some (.string s') := hk.cellSome (by go_simp) (by simp)
  have HK4 : Hid (Keeps [] w w4) := Keeps.trans HK3.out hk (fun _ _ h => h)
  clear hk e0 e1 e2 e3 e4 e5
  go_wp2_with fail
  refine ⟨?_, ?_⟩
  (· go_simp)
  iterate 7 (first | (refine Plan.takeT (v := ?_) (a' := ?_) (Plan.want_all (by rfl)) ?_ ?_ ?_; rotate_left 2; (· (intro w' hS'; (try dsimp only at hS'); go_simp; try with_reducible rfl)); (· (simp only [Act.put, Plan.l1, Plan.l2, Plan.l3]; try with_reducible rfl))) | (refine Plan.takeT (v := ?_) (a' := ?_) (Plan.want_yes (by rfl) (by rfl) (by rfl) (by rfl)) ?_ ?_ ?_; rotate_left 2; (· (intro w' hS'; (try dsimp only at hS'); go_simp; try with_reducible rfl)); (· (simp only [Act.put, Plan.l1, Plan.l2, Plan.l3]; try with_reducible rfl))) | fail)
  refine Plan.takeT (v := .bool true) (a' := ?_) (by first | exact Plan.want_all (by rfl) | exact Plan.want_yes (by rfl) (by rfl) (by rfl) (by rfl)) ?_ ?_ ?_; rotate_left 1; (· (intro w' hS'; (try dsimp only at hS'); go_simp; rw [if_pos Q3.out.1, if_pos Q3.out.2.1, if_pos Q3.out.2.2])); (· (simp only [Act.put, List.setIfInBounds_toArray, List.set_cons_zero, List.set_cons_succ]; try with_reducible rfl))
  refine Plan.stepT ?_
  go_wp2_with fail
  refine (HPA.out _).mono ?_
  rintro e w5 ⟨a5, q5, rfl, h1, hk⟩
  have g0 : w5.cell? ⟨w.heap.size, 0, none⟩ = some (.int .i64 k) := hk.cellSome (by go_simp) (by simp)
  have g1 : w5.cell? ⟨w.heap.size, 1, none⟩ = some (.int .i64 n) := hk.cellSome (by go_simp) (by simp)
  have g2 : w5.cell? ⟨w.heap.size, 2, none⟩ = some (.string s) := hk.cellSome (by go_simp) (by simp)
  have g3 : w5.cell? ⟨w.heap.size + 1, 0, none⟩ = some (.int .i64 k') := hk.cellSome (by go_simp) (by simp)
  have g4 : w5.cell? ⟨w.heap.size + 1, 1, none⟩ = some (.int .i64 n') := hk.cellSome (by go_simp) (by simp)
  have g5 : w5.cell? ⟨w.heap.size + 1, 2, none⟩ = some (.string s') := hk.cellSome (by go_simp) (by simp)
  have HK5 : Hid (Keeps [] w w5) := Keeps.trans HK4.out hk (fun _ _ h => h)
  have RA5 : Hid (Reads w5 1 (.slice a5 ([] ++ pa).length q5) ([] ++ pa).length (u8s ([] ++ pa))) := Reads.ofOwn h1
  have cv : (convert 50 9 (.slice a5 ([] ++ pa).length q5)).run Tryd.prog w5 = .ok (.string (str ([] ++ pa))) w5 := run_convert_str w5 50 9 5 _ _ Tryd.underlying50 Tryd.underlying5 Tryd.underlying9 (Reads.ofOwn h1)
  rw [List.nil_append] at cv RA5 ⊢
  clear hk h1 f0 f1 f2 f3 f4 f5
  go_wp2_with fail
  refine ⟨?_, ?_⟩
  (· go_simp)
  refine Plan.forkT ?_ ?_
  · go_wp2_with fail
    refine ⟨?_, ?_⟩
    (· go_simp)
    clear cv
    refine Plan.stepT ?_
    go_wp2_with fail
    refine (HPB.out _).mono ?_
    rintro e w6 ⟨a6, q6, rfl, h1, hk⟩
    have i0 : w6.cell? ⟨w.heap.size, 0, none⟩ = some (.int .i64 k) := hk.cellSome (by go_simp) (by simp)
    have i1 : w6.cell? ⟨w.heap.size, 1, none⟩ = some (.int .i64 n) := hk.cellSome (by go_simp) (by simp)
    have i2 : w6.cell? ⟨w.heap.size, 2, none⟩ = some (.string s) := hk.cellSome (by go_simp) (by simp)
    have i3 : w6.cell? ⟨w.heap.size + 1, 0, none⟩ = some (.int .i64 k') := hk.cellSome (by go_simp) (by simp)
    have i4 : w6.cell? ⟨w.heap.size + 1, 1, none⟩ = some (.int .i64 n') := hk.cellSome (by go_simp) (by simp)
    have i5 : w6.cell? ⟨w.heap.size + 1, 2, none⟩ = some (.string s') := hk.cellSome (by go_simp) (by simp)
    have HK6 : Hid (Keeps [] w w6) := Keeps.trans HK5.out hk (fun _ _ h => h)
    have RA6 : Hid (Reads w6 1 (.slice a5 pa.length q5) pa.length (u8s pa)) := RA5.out.k0 hk
    have cv : (convert 50 9 (.slice a6 ([] ++ pb).length q6)).run Tryd.prog w6 = .ok (.string (str ([] ++ pb))) w6 := run_convert_str w6 50 9 5 _ _ Tryd.underlying50 Tryd.underlying5 Tryd.underlying9 (Reads.ofOwn h1)
    rw [List.nil_append] at cv ⊢
    clear hk h1 g0 g1 g2 g3 g4 g5
    go_wp2_with fail
    refine ⟨?_, ?_⟩
    (· go_simp)
    refine Plan.stepT ?_
    go_wp2_with fail
    refine ⟨?_, ?_⟩
    (· go_simp)
    iterate 1 (first | (refine Plan.takeT (v := ?_) (a' := ?_) (Plan.want_all (by rfl)) ?_ ?_ ?_; rotate_left 2; (· (intro w' hS'; (try dsimp only at hS'); go_simp; try with_reducible rfl)); (· (simp only [Act.put, Plan.l1, Plan.l2, Plan.l3]; try with_reducible rfl))) | (refine Plan.takeT (v := ?_) (a' := ?_) (Plan.want_yes (by rfl) (by rfl) (by rfl) (by rfl)) ?_ ?_ ?_; rotate_left 2; (· (intro w' hS'; (try dsimp only at hS'); go_simp; try with_reducible rfl)); (· (simp only [Act.put, Plan.l1, Plan.l2, Plan.l3]; try with_reducible rfl))) | fail)
    refine Plan.finT ?_
    go_wp2_with fail
    refine (awake5_any _ (HT.out.k HK6.out)).mono ?_
    rintro e w7 ⟨rfl, hk⟩
    have HK7 : Hid (Keeps [] w w7) := Keeps.trans HK6.out hk (fun _ _ h => h)
    clear hk
    go_wp2_with fail
    go_ret
    exact ⟨rfl, HK7.out⟩
  · clear cv
    go_wp2_with fail
    refine (HPB.out _).mono ?_
    rintro e w6 ⟨a6, q6, rfl, h1, hk⟩
    have i0 : w6.cell? ⟨w.heap.size, 0, none⟩ = some (.int .i64 k) := hk.cellSome (by go_simp) (by simp)
    have i1 : w6.cell? ⟨w.heap.size, 1, none⟩ = some (.int .i64 n) := hk.cellSome (by go_simp) (by simp)
    have i2 : w6.cell? ⟨w.heap.size, 2, none⟩ = some (.string s) := hk.cellSome (by go_simp) (by simp)
    have i3 : w6.cell? ⟨w.heap.size + 1, 0, none⟩ = some (.int .i64 k') := hk.cellSome (by go_simp) (by simp)
    have i4 : w6.cell? ⟨w.heap.size + 1, 1, none⟩ = some (.int .i64 n') := hk.cellSome (by go_simp) (by simp)
    have i5 : w6.cell? ⟨w.heap.size + 1, 2, none⟩ = some (.string s') := hk.cellSome (by go_simp) (by simp)
    have HK6 : Hid (Keeps [] w w6) := Keeps.trans HK5.out hk (fun _ _ h => h)
    have RA6 : Hid (Reads w6 1 (.slice a5 pa.length q5) pa.length (u8s pa)) := RA5.out.k0 hk
    have cv : (convert 50 9 (.slice a6 ([] ++ pb).length q6)).run Tryd.prog w6 = .ok (.string (str ([] ++ pb))) w6 := run_convert_str w6 50 9 5 _ _ Tryd.underlying50 Tryd.underlying5 Tryd.underlying9 (Reads.ofOwn h1)
    rw [List.nil_append] at cv ⊢
    clear hk h1 g0 g1 g2 g3 g4 g5
    go_wp2_with fail
    have cv2 : (convert 50 9 (.slice a5 pa.length q5)).run Tryd.prog w6 = .ok (.string (str pa)) w6 := run_convert_str w6 50 9 5 _ _ Tryd.underlying50 Tryd.underlying5 Tryd.underlying9 RA6.out
    refine ⟨?_, ?_⟩
    (· go_simp)
    refine Plan.forkT ?_ ?_
    · go_wp2_with fail
      refine ⟨?_, ?_⟩
      (· go_simp)
      refine Plan.stepT ?_
      go_wp2_with fail
      refine ⟨?_, ?_⟩
      (· go_simp)
      iterate 1 (first | (refine Plan.takeT (v := ?_) (a' := ?_) (Plan.want_all (by rfl)) ?_ ?_ ?_; rotate_left 2; (· (intro w' hS'; (try dsimp only at hS'); go_simp; try with_reducible rfl)); (· (simp only [Act.put, Plan.l1, Plan.l2, Plan.l3]; try with_reducible rfl))) | (refine Plan.takeT (v := ?_) (a' := ?_) (Plan.want_yes (by rfl) (by rfl) (by rfl) (by rfl)) ?_ ?_ ?_; rotate_left 2; (· (intro w' hS'; (try dsimp only at hS'); go_simp; try with_reducible rfl)); (· (simp only [Act.put, Plan.l1, Plan.l2, Plan.l3]; try with_reducible rfl))) | fail)
      refine Plan.finT ?_
      go_wp2_with fail
      refine (awake5_any _ (HT.out.k HK6.out)).mono ?_
      rintro e w7 ⟨rfl, hk⟩
      have HK7 : Hid (Keeps [] w w7) := Keeps.trans HK6.out hk (fun _ _ h => h)
      clear hk
      go_wp2_with fail
      go_ret
      exact ⟨rfl, HK7.out⟩
    · go_wp2_with fail
      refine ⟨?_, ?_⟩
      (· go_simp)
      refine Plan.stepT ?_
      go_wp2_with fail
      refine ⟨?_, ?_⟩
      (· go_simp)
      iterate 1 (first | (refine Plan.takeT (v := ?_) (a' := ?_) (Plan.want_all (by rfl)) ?_ ?_ ?_; rotate_left 2; (· (intro w' hS'; (try dsimp only at hS'); go_simp; try with_reducible rfl)); (· (simp only [Act.put, Plan.l1, Plan.l2, Plan.l3]; try with_reducible rfl))) | (refine Plan.takeT (v := ?_) (a' := ?_) (Plan.want_yes (by rfl) (by rfl) (by rfl) (by rfl)) ?_ ?_ ?_; rotate_left 2; (· (intro w' hS'; (try dsimp only at hS'); go_simp; try with_reducible rfl)); (· (simp only [Act.put, Plan.l1, Plan.l2, Plan.l3]; try with_reducible rfl))) | fail)
      refine Plan.finT ?_
      go_wp2_with fail
      refine (awake5_any _ (HT.out.k HK6.out)).mono ?_
      rintro e w7 ⟨rfl, hk⟩
      have HK7 : Hid (Keeps [] w w7) := Keeps.trans HK6.out hk (fun _ _ h => h)
      clear hk
      go_wp2_with fail
      go_ret
      exact ⟨rfl, HK7.out⟩

theorem apart_any (v u : ValD) (w : World) (hT : Tabs w) (hk : I64 v.kind) (hn : I64 v.n) (hk' : I64 u.kind) (hn' : I64 u.n) :
    Calls Tryd.prog 7 #[valV v, valV u] w fun e w' => e = .returned (.bool true) ∧ Keeps [] w w' := by
  obtain ⟨k, n, s⟩ := v
  obtain ⟨k', n', s'⟩ := u
  rcases h0 : checkD ⟨k, n, s⟩ with _ | _
  · exact apart_no_a k n s k' n' s' w hT h0
  · rcases h1 : checkD ⟨k', n', s'⟩ with _ | _
    · exact apart_no_b k n s k' n' s' w hT h0 h1
    · by_cases h : (⟨k, n, s⟩ : ValD) = ⟨k', n', s'⟩
      · obtain ⟨e1, e2, e3⟩ := ValD.mk.inj h
        exact apart_eq k n s k' n' s' w hT e1 e2 e3 h0 h1 hk hn hk' hn'
      · exact apart_ne k n s k' n' s' w hT h h0 h1 hk hn hk' hn'

end Go.Proofs.YtnekkkppjofdlaaDoor
