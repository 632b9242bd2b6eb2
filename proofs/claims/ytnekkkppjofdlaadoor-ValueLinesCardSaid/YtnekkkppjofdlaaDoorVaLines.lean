/- ValueLines, walked. -/
import Derived.Test.YtnekkkppjofdlaaDoorVaChecks
import Derived.Test.YtnekkkppjofdlaaDoorVaU
import Derived.Test.YtnekkkppjofdlaaDoorVaW
namespace Go.Proofs.YtnekkkppjofdlaaDoor
open Go Go.RowKit

theorem show_facts (v : ValD) (hc : checkD v = true) : okL (showL v) = true ∧ ∃ b r, showL v = b :: r ∧ ((b.toNat : Int) == 34) = (v.kind == 3) := by
  obtain ⟨k, n, s⟩ := v
  have hit : ∀ b r, Lib.itoa n = b :: r → ((b.toNat : Int) == 34) = false := fun b r h => by
    have := itoa_bd n b (by rw [h]; simp)
    simp; omega
  have hok : okL (Lib.itoa n) = true := okL_ascii _ (fun b hb => by have := itoa_bd n b hb; omega)
  by_cases k1 : k = 1
  · subst k1
    rw [showL_int]
    obtain ⟨b, r, h⟩ := List.exists_cons_of_ne_nil (itoa_ne n)
    exact ⟨hok, b, r, h, hit b r h⟩
  by_cases k2 : k = 2
  · subst k2
    rw [showL_bool]
    rcases n == 1 with _ | _
    · exact ⟨by decide +kernel, 102, [97, 108, 115, 101], by decide +kernel, rfl⟩
    · exact ⟨by decide +kernel, 116, [114, 117, 101], by decide +kernel, rfl⟩
  by_cases k3 : k = 3
  · subst k3
    rw [showL_text]
    exact ⟨okL_quote _, 34, _, rfl, by simp⟩
  by_cases k4 : k = 4
  · subst k4
    rw [showL_bad]
    refine ⟨by rw [okL_byte _ _ (by decide) (by decide)]; exact hok, 35, _, rfl, by simp⟩
  · have e : showL ⟨k, n, s⟩ = [45] := by show (if k = 1 then _ else if k = 2 then _ else if k = 3 then _ else if k = 4 then _ else _) = _; rw [if_neg k1, if_neg k2, if_neg k3, if_neg k4]
    rw [e]
    refine ⟨by decide +kernel, 45, [], rfl, ?_⟩
    have : (k == 3) = false := by simpa using k3
    show ((45 : Int) == 34) = (k == 3)
    rw [this]; rfl
theorem showL_size (v : ValD) (hc : checkD v = true) (hn : I64 v.n) : (showL v).length ≤ 10000 := by
  have h4 := checkD_small hc
  have hi := Lib.itoa_length_le v.n hn.1 hn.2
  have hq : (quoteL v.s.data.toList).length ≤ 2 + 6 * v.s.data.toList.length := by
    have : ∀ (f : Nat) (l : List UInt8), (quoteGo f l).length ≤ 6 * l.length := by
      intro f
      induction f with
      | zero => intro l; simp [quoteGo]
      | succ f ih =>
        intro l
        unfold quoteGo
        split
        · simp
        · rename_i hne
          have h1 := quoteR_len (Lib.decodeL l).1
          have h2 := ih (l.drop (Lib.decodeL l).2)
          have h3 := Lib.decodeL_width l
          have h4 : 0 < l.length := List.length_pos_iff.2 hne
          rw [List.length_append]
          rw [List.length_drop] at h2
          omega
    have h := this v.s.data.toList.length v.s.data.toList
    unfold quoteL
    simp only [List.length_cons, List.length_append, List.length_nil]
    omega
  have hl : v.s.data.toList.length = v.s.size := Array.length_toList
  unfold showL
  repeat' split
  all_goals first
    | omega
    | (simp only [List.length_cons, List.length_nil]; omega)
theorem show_is (v : ValD) (b : ByteArray) (hb : bytes (showL v) = b) (w : World) (hT : Tabs w) (hs : v.s.size ≤ 1000000) (hn : I64 v.n) :
    Calls Tryd.prog 18 #[valV v] w fun e w' => e = .returned (.string b) ∧ Keeps [] w w' := by
  rw [← hb]; exact vshow_any v w hT hs hn

theorem bytes_pieces (l : List UInt8) : (bytes l).data.toList = l := by simp [bytes]
theorem bytes_size (l : List UInt8) : (bytes l).size = l.length := by show l.toArray.size = _; simp
theorem piece_fine {l : List UInt8} (h : okL l = true) {i : Nat} {x : Pc} (hx : (pieces l)[i]? = some x) : x.bad = false ∧ 32 ≤ x.r ∧ (x.r < 127 ∨ 159 < x.r) := by
  have h1 := List.all_eq_true.1 ((pieces_ok l).trans h) x (List.mem_of_getElem? hx)
  simp [ctlR] at h1
  exact ⟨h1.1, by omega, by omega⟩

set_option maxRecDepth 100000 in
set_option maxHeartbeats 6400000 in
theorem lines_show (k n : Int) (s sb : ByteArray) (q : Bool) (w : World) (hT : Tabs w) (hs : s.size ≤ 400) (hc : checkD ⟨k, n, s⟩ = true) (hsh : ∀ w, Tabs w → Calls Tryd.prog 18 #[.agg #[.int .i64 k, .int .i64 n, .string s]] w fun e w' => e = .returned (.string sb) ∧ Keeps [] w w')
    (h1 : okL sb.data.toList = true) (hz : 0 < sb.size) (hzm : sb.size ≤ 10000) (hq : (((sb[0]'hz).toNat : Int) == 34) = q) (hk3 : (k == 3) = q) :
    Calls Tryd.prog 4 #[.agg #[.int .i64 k, .int .i64 n, .string s]] w fun e w' => e = .returned (.bool true) ∧ Keeps [] w w' := by
  have HT := hid hT
  have HC := hid (r5check_is ⟨k, n, s⟩ true hc)
  unfold valV at HC
  have HSH := hid hsh
  have HF : Hid (∀ (i : Nat) (x : Pc), (pieces sb.data.toList)[i]? = some x → x.bad = false ∧ 32 ≤ x.r ∧ (x.r < 127 ∨ 159 < x.r)) := fun i x hx => piece_fine h1 hx
  have HQ := hid hq
  have HK3 := hid hk3
  have hs' : s.size ≤ 9223372036854775806 := by omega
  clear hT hc hsh h1 hq hk3
  go_enter Tryd.func4, Tryd.ntmps4
  go_wp2_with fail
  refine (HC.out _ (HT.out.k (by exact Keeps.K)) hs').mono ?_
  rintro e w1 ⟨rfl, hk⟩
  have c0 : w1.cell? ⟨w.heap.size, 0, none⟩ = some (.int .i64 k) := hk.cellSome (by go_simp) (by simp)
  have c1 : w1.cell? ⟨w.heap.size, 1, none⟩ = some (.int .i64 n) := hk.cellSome (by go_simp) (by simp)
  have c2 : w1.cell? ⟨w.heap.size, 2, none⟩ = some (.string s) := hk.cellSome (by go_simp) (by simp)
  have HK1 : Hid (Keeps [] w w1) := Keeps.trans (by exact Keeps.K) hk (fun _ _ h => h)
  clear hk
  go_wp2_with fail
  refine (HSH.out _ (HT.out.k HK1.out)).mono ?_
  rintro e w2 ⟨rfl, hk⟩
  have d0 : w2.cell? ⟨w.heap.size, 0, none⟩ = some (.int .i64 k) := hk.cellSome c0 (by simp)
  have HK2 : Hid (Keeps [] w w2) := Keeps.trans HK1.out hk (fun _ _ h => h)
  clear hk c0 c1 c2
  go_wp2_with fail
  refine (pieces_any sb _ (by omega)).mono ?_
  rintro e w3 ⟨a, cq, rfl, hf, hk⟩
  have e0 : w3.cell? ⟨w.heap.size, 0, none⟩ = some (.int .i64 k) := hk.cellSome d0 (by simp)
  have HK3' : Hid (Keeps [] w w3) := Keeps.trans HK2.out hk (fun _ _ h => h)
  have HL := hid (fresh_pcs hf)
  have hln := pieces_le sb.data.toList
  obtain ⟨l, hl⟩ : ∃ l, pieces sb.data.toList = l := ⟨_, rfl⟩
  have hsz : sb.data.toList.length = sb.size := Array.length_toList
  rw [hl, hsz] at hln
  rw [hl] at HL HF ⊢
  clear hk d0 hf hl hsz
  go_wp2_with fail
  go_loop [5] (fun i => ∃ j : Nat, j ≤ l.length ∧ i = .int .i64 j) (fun i => l.length - (intOf i).toNat)
  case atStart => exact ⟨0, Nat.zero_le _, rfl⟩
  case round =>
    obtain ⟨j, hj, rfl⟩ := hrel
    have i0 : (0 : Int) ≤ (j : Int) := Int.natCast_nonneg _
    by_cases hlt : j < l.length
    · have hlt' : (j : Int) < (l.length : Int) := by omega
      obtain ⟨x, hx⟩ : ∃ x, l[j]? = some x := ⟨_, List.getElem?_eq_getElem hlt⟩
      obtain ⟨g, off, c, ha, hc1, hc2, hc3, _⟩ := HL.out.addr (fun hn => by rw [hn] at hlt; simp at hlt)
      simp at ha
      obtain ⟨rfl, rfl⟩ := ha
      obtain ⟨cs, hcs, hcell⟩ := HL.out.get hx
      have y2 : w3.cell? ⟨g, off + j * 4 + 2, none⟩ = some (.int .i32 x.r) := hcell 2 _ (by rw [hcs]; rfl)
      have y3 : w3.cell? ⟨g, off + j * 4 + 3, none⟩ = some (.bool x.bad) := hcell 3 _ (by rw [hcs]; rfl)
      obtain ⟨hb, r1, r2⟩ := HF.out j x hx
      rw [hb] at y3
      have r1' : (32 : Int) ≤ (x.r : Int) := by omega
      clear hcell hcs hx hb r1
      rcases r2 with r2 | r2
      · have r2' : (x.r : Int) < 127 := by omega
        clear r2
        go_wp2_with fail
        go_round
        case rel => exact ⟨j + 1, by omega, by go_num⟩
        case measure => simp [intOf]; omega
      · have r2' : (127 : Int) ≤ (x.r : Int) := by omega
        have r3' : (159 : Int) < (x.r : Int) := by omega
        clear r2
        go_wp2_with fail
        go_round
        case rel => exact ⟨j + 1, by omega, by go_num⟩
        case measure => simp [intOf]; omega
    · have hge : (l.length : Int) ≤ (j : Int) := by omega
      go_wp2_with fail
      have hz' : (0 : Int) < (sb.size : Int) := by omega
      have hq := HQ.out
      have hk3 := HK3.out
      refine Plan.wp_region_plan (fun wx => wx.cell? ⟨w.heap.size, 0, none⟩ = some (.int .i64 k)) 10 [(true, 0), (true, 1), (true, 2), (true, 3), (true, 4), (true, 5), (true, 6), (true, 7), (true, 8), (true, 9)] (by kernel_rfl) (by as_aux_lemma => kernel_rfl) (by kernel_rfl) (fun _ _ _ _ _ h => h) ?_ (fun hS => ?_)
      (· go_simp)
      simp only [Plan.pick, List.append_eq, List.cons_append, List.nil_append, Plan.g1, Plan.g2, Option.getD_some, List.drop_succ_cons, List.drop_zero]
      iterate 10 (first | refine Plan.tA ?_ | refine Plan.tY ?_ | refine Plan.pN ?_ | refine Plan.pU ?_ | fail)
      refine Plan.fin ?_
      go_wp2_with fail
      refine (awake5_any _ (HT.out.k HK3'.out.drew)).mono ?_
      rintro e w4 ⟨rfl, hk⟩
      have HK4 : Hid (Keeps [] w w4) := Keeps.trans HK3'.out.drew hk (fun _ _ h => h)
      clear hk
      go_wp2_with fail
      go_ret
      exact ⟨rfl, HK4.out⟩

set_option maxRecDepth 100000 in
theorem lines_refused (v : ValD) (w : World) (hT : Tabs w) (hc : checkD v = false) : Calls Tryd.prog 4 #[valV v] w fun e w' => e = .returned (.bool true) ∧ Keeps [] w w' := by
  have HT := hid hT
  have HC := hid (r5check_all v false hc)
  obtain ⟨k, n, s⟩ := v
  unfold valV at HC ⊢
  clear hT hc
  go_enter Tryd.func4, Tryd.ntmps4
  go_wp2_with fail
  refine (HC.out _ (HT.out.k (by exact Keeps.K))).mono ?_
  rintro e w1 ⟨rfl, hk⟩
  have HK1 : Hid (Keeps [] w w1) := Keeps.trans (by exact Keeps.K) hk (fun _ _ h => h)
  clear hk
  go_wp2_with fail
  refine (awake5_any _ (HT.out.k HK1.out)).mono ?_
  rintro e w4 ⟨rfl, hk⟩
  have HK4 : Hid (Keeps [] w w4) := Keeps.trans HK1.out hk (fun _ _ h => h)
  clear hk
  go_wp2_with fail
  go_ret
  exact ⟨rfl, HK4.out⟩
theorem lines_any (v : ValD) (w : World) (hT : Tabs w) (hn : I64 v.n) : Calls Tryd.prog 4 #[valV v] w fun e w' => e = .returned (.bool true) ∧ Keeps [] w w' := by
  rcases hc : checkD v with _ | _
  · exact lines_refused v w hT hc
  · obtain ⟨h1, b, r, h2, h3⟩ := show_facts v hc
    have h4 := showL_size v hc hn
    have h5 := checkD_small hc
    have hsh := show_is v (bytes (showL v)) rfl
    have hz : 0 < (bytes (showL v)).size := by rw [bytes_size, h2]; simp
    refine lines_show v.kind v.n v.s (bytes (showL v)) (v.kind == 3) w hT h5 hc (fun w hT => hsh w hT (by omega) hn) (by rw [bytes_pieces]; exact h1) hz (by rw [bytes_size]; exact h4) ?_ rfl
    rw [← h3]
    have e : ((bytes (showL v))[0]'hz) = b := by
      show (showL v).toArray[0] = b
      simp [h2]
    rw [e]

end Go.Proofs.YtnekkkppjofdlaaDoor
