/- leads: a new core that leads. -/
import Derived.Test.YtpppoajnbhipeaaLeadD
import Derived.Test.YtpppoajnbhipeaaHearA
import Derived.Test.YtpppoajnbhipeaaCoreP
namespace Go.Proofs.Ytpppoajnbhipeaa
open Go Go.RowKit

theorem leadT_succ {p t0 : Int} {l : List Ent} {k : Nat} (h : k < 7) : ({ leadT p t0 l k with patience := (leadT p t0 l k).patience + 1 } : CoreD) = leadT p t0 l (k + 1) := by
  unfold leadT
  rw [if_pos (by omega), if_pos (by omega)]
  unfold leadS
  simp

theorem cTerm_is (w : World) (B n : Nat) (c : CoreD) (lv sv : Value) (h : CoreAt w B n c lv sv) (v : Int) (hv : c.term = v) : Calls Try.prog 29 #[.pointer (some ⟨n, 0, none⟩)] w fun e w' => e = .returned (.int .i64 v) ∧ w' = w := by rw [← hv]; exact cTerm_any w B n c lv sv h
theorem cRole_is (w : World) (B n : Nat) (c : CoreD) (lv sv : Value) (h : CoreAt w B n c lv sv) (v : Int) (hv : c.role = v) : Calls Try.prog 32 #[.pointer (some ⟨n, 0, none⟩)] w fun e w' => e = .returned (.int .i64 v) ∧ w' = w := by rw [← hv]; exact cRole_any w B n c lv sv h

def LeadsPost (p t0 : Int) (l : List Ent) (w : World) (e : Ending) (w' : World) : Prop :=
  ∃ n c lv sv, e = .returned (.pointer (some ⟨n, 0, none⟩)) ∧ CoreAt w' w.heap.size n c lv sv ∧ Led p t0 l c ∧ Keeps [] w w'

set_option maxRecDepth 100000 in
set_option maxHeartbeats 6400000 in
theorem leads_any (w : World) (nodes p : Int) (l : List Ent) (a0 : Option Addr) (c0 : Nat) (P : Nat → Prop) (wn : (Lit.int .i64 nodes).wf = true) (hp : 3 + placeOf nodes 3 = p) (hl : ListAt entL w P (.slice a0 l.length c0) l) (hd : ∀ e ∈ l, e.data.length ≤ 1000000) (hn : l.length ≤ 100) (hm : mayNewD (cfL p) 1 5 0 0 0 l = true) :
    Calls Try.prog 26 #[.int .i64 nodes, .slice a0 l.length c0] w (LeadsPost p 5 l w) := by
  have hb := placeOf_bd nodes 3 (by omega)
  have p3 : 3 ≤ p := by omega
  have p5 : p ≤ 5 := by omega
  have HP := hid hp
  have HL := hid hl
  have HD := hid hd
  have HM := hid hm
  clear hl hd hm hp hb
  go_enter Try.func26, Try.ntmps26
  go_wp2_with fail
  refine (cfL_is p nodes _ wn HP.out).mono ?_
  rintro e w2 ⟨rfl, k2⟩
  have K2 : Hid (Keeps [] w w2) := k2
  clear k2
  go_wp2_with fail
  have HX : Hid (∃ w3 cb, w3 = w2.alloc (.cells #[.int .i64 p, .int .i64 2, .int .i64 2, .int .i64 8, .int .i64 40, .int .i64 3, .int .i64 9, .int .i64 200, .int .i64 9] 23) ∧ cb = w2.heap.size ∧ Keeps [] w w3 ∧ w3.heap[cb]? = some (.cells #[.int .i64 p, .int .i64 2, .int .i64 2, .int .i64 8, .int .i64 40, .int .i64 3, .int .i64 9, .int .i64 200, .int .i64 9] 23 (0, 0)) ∧ w.heap.size ≤ cb) := ⟨_, _, rfl, rfl, K2.out.alloc _, heap_alloc_new w2 _, K2.out.size⟩
  obtain ⟨w3, cb, hw3, hcb, k3, b3, hcw⟩ := HX.out
  rw [← hw3, ← hcb]
  have K3 := hid k3
  have hcb3 : cb < w3.heap.size := (Array.getElem?_eq_some_iff.1 b3).1
  obtain ⟨⟨z0, z1, z2, z3, z4, z5, z6, z7, z8⟩, _⟩ := blk9 b3
  have ZF : Hid (∀ wx, Keeps [] w3 wx → wx.cell? ⟨cb, 0, none⟩ = some (.int .i64 p) ∧ wx.cell? ⟨cb, 1, none⟩ = some (.int .i64 2) ∧ wx.cell? ⟨cb, 2, none⟩ = some (.int .i64 2) ∧ wx.cell? ⟨cb, 3, none⟩ = some (.int .i64 8) ∧ wx.cell? ⟨cb, 4, none⟩ = some (.int .i64 40) ∧ wx.cell? ⟨cb, 5, none⟩ = some (.int .i64 3) ∧ wx.cell? ⟨cb, 6, none⟩ = some (.int .i64 9) ∧ wx.cell? ⟨cb, 7, none⟩ = some (.int .i64 200) ∧ wx.cell? ⟨cb, 8, none⟩ = some (.int .i64 9)) := fun wx k => ⟨k.cellSome z0 (by simp), k.cellSome z1 (by simp), k.cellSome z2 (by simp), k.cellSome z3 (by simp), k.cellSome z4 (by simp), k.cellSome z5 (by simp), k.cellSome z6 (by simp), k.cellSome z7 (by simp), k.cellSome z8 (by simp)⟩
  have HB3 := hid b3
  clear hw3 hcb k3 b3 HX z0 z1 z2 z3 z4 z5 z6 z7 z8
  refine Plan.wp_region_plan (fun wx => wx.cell? ⟨cb, 0, none⟩ = some (.int .i64 p) ∧ wx.cell? ⟨cb, 1, none⟩ = some (.int .i64 2) ∧ wx.cell? ⟨cb, 2, none⟩ = some (.int .i64 2) ∧ wx.cell? ⟨cb, 3, none⟩ = some (.int .i64 8) ∧ wx.cell? ⟨cb, 4, none⟩ = some (.int .i64 40) ∧ wx.cell? ⟨cb, 5, none⟩ = some (.int .i64 3) ∧ wx.cell? ⟨cb, 6, none⟩ = some (.int .i64 9) ∧ wx.cell? ⟨cb, 7, none⟩ = some (.int .i64 200) ∧ wx.cell? ⟨cb, 8, none⟩ = some (.int .i64 9)) 8 [(true, 0), (true, 1), (false, 2), (false, 3), (true, 4), (true, 5), (true, 6), (true, 7)] (by kernel_rfl) (by as_aux_lemma => kernel_rfl) (by kernel_rfl) (fun _ _ _ _ _ h => h) ?_ (fun hS => ?_)
  (· exact ZF.out _ (Keeps.refl [] w3).drew)
  simp only [Plan.pick, List.append_eq, List.cons_append, List.nil_append, List.getElem?_cons_zero, List.getElem?_cons_succ, Option.getD_some, List.drop_succ_cons, List.drop_zero]
  iterate 2 (first | (refine Plan.take (v := ?_) (a' := ?_) (Plan.want_all (by rfl)) ?_ ?_ ?_; rotate_left 2; (· (intro w' hS'; (try dsimp only at hS'); go_simp; try with_reducible rfl)); (· (simp only [Act.put, List.setIfInBounds_toArray, List.set_cons_zero, List.set_cons_succ]; try with_reducible rfl))) | (refine Plan.take (v := ?_) (a' := ?_) (Plan.want_yes (by rfl) (by rfl) (by rfl) (by rfl)) ?_ ?_ ?_; rotate_left 2; (· (intro w' hS'; (try dsimp only at hS'); go_simp; try with_reducible rfl)); (· (simp only [Act.put, List.setIfInBounds_toArray, List.set_cons_zero, List.set_cons_succ]; try with_reducible rfl))) | (refine Plan.pass (a' := ?_) (Plan.want_no (by rfl) (by rfl) (by rfl) (by rfl)) ?_ ?_; rotate_left 1; (· (simp only [Act.put, List.setIfInBounds_toArray, List.set_cons_zero, List.set_cons_succ]; try with_reducible rfl))) | (refine Plan.pass (a' := ?_) (Plan.want_un (by rfl) (by rfl) (by rfl) (by rfl)) ?_ ?_; rotate_left 1; (· (simp only [Act.put, List.setIfInBounds_toArray, List.set_cons_zero, List.set_cons_succ]; try with_reducible rfl))) | fail)
  refine Plan.step ?_
  go_wp2_with fail
  refine (lEntries_any _ l a0 c0 P (HL.out.k ?_) HD.out (by omega)).mono ?_
  (· have kk := K3.out; (repeat (first | (with_reducible exact Keeps.refl _ _) | (with_reducible assumption) | ((with_reducible refine Keeps.setCell ?_ ?_ _); rotate_left 1; (· first | (refine .inl ?_; simp; done) | (refine .inr ?_; first | exact Nat.le_refl _ | (simp; done) | (simp; omega) | omega))) | (with_reducible refine Keeps.alloc ?_ _) | (with_reducible refine Keeps.drewN ?_ _) | (with_reducible refine Keeps.drew ?_))))
  rintro e w4 ⟨a4, q4, rfl, f4, k4⟩
  have K4 : Hid (Keeps [] w3 w4) := Keeps.trans (by (repeat (first | (with_reducible exact Keeps.refl _ _) | (with_reducible assumption) | ((with_reducible refine Keeps.setCell ?_ ?_ _); rotate_left 1; (· first | (refine .inl ?_; simp; done) | (refine .inr ?_; first | exact Nat.le_refl _ | (simp; done) | (simp; omega) | omega))) | (with_reducible refine Keeps.alloc ?_ _) | (with_reducible refine Keeps.drewN ?_ _) | (with_reducible refine Keeps.drew ?_)))) k4 (fun _ _ h => h)
  have L4 : Hid (ListAt entL w4 (fun _ => True) (.slice a4 l.length q4) l) := OwnAt.list f4 (fun _ _ _ => trivial) (fun _ _ => trivial)
  clear f4 k4
  go_wp2_with fail
  refine ⟨ZF.out _ K4.out, ?_⟩
  refine Plan.step ?_
  go_wp2_with fail
  refine (cNew_any (cfL p) 1 5 0 0 0 l a4 q4 (fun _ => True) _ L4.out HD.out).mono ?_
  rintro e w5 h5
  rcases h5 with ⟨_, n, lv, sv, rfl, hc5, k5⟩ | ⟨h5, _⟩
  rotate_left 1
  · exact absurd h5 (by rw [HM.out]; simp)
  have K5 : Hid (Keeps [] w3 w5) := K4.out.trans k5 (fun _ _ h => h)
  have KW5 : Hid (Keeps [] w w5) := K3.out.trans K5.out (fun _ _ h => h)
  have hB : cb < w4.heap.size := Nat.lt_of_lt_of_le hcb3 K4.out.size
  have HBW : Hid (w.heap.size ≤ w4.heap.size) := Keeps.size (K3.out.trans K4.out (fun _ _ h => h))
  have C5 : Hid (CoreAt w5 w4.heap.size n (leadT p 5 l 0) lv sv) := hc5
  have Z5 : Hid (w5.cell? ⟨cb, 0, none⟩ = some (.int .i64 p)) := (ZF.out _ K5.out).1
  clear k5 hc5
  go_wp2_with fail
  refine ⟨ZF.out _ K5.out, ?_⟩
  iterate 4 (first | (refine Plan.take (v := ?_) (a' := ?_) (Plan.want_all (by rfl)) ?_ ?_ ?_; rotate_left 2; (· (intro w' hS'; (try dsimp only at hS'); go_simp; try with_reducible rfl)); (· (simp only [Act.put, List.setIfInBounds_toArray, List.set_cons_zero, List.set_cons_succ]; try with_reducible rfl))) | (refine Plan.take (v := ?_) (a' := ?_) (Plan.want_yes (by rfl) (by rfl) (by rfl) (by rfl)) ?_ ?_ ?_; rotate_left 2; (· (intro w' hS'; (try dsimp only at hS'); go_simp; try with_reducible rfl)); (· (simp only [Act.put, List.setIfInBounds_toArray, List.set_cons_zero, List.set_cons_succ]; try with_reducible rfl))) | (refine Plan.pass (a' := ?_) (Plan.want_no (by rfl) (by rfl) (by rfl) (by rfl)) ?_ ?_; rotate_left 1; (· (simp only [Act.put, List.setIfInBounds_toArray, List.set_cons_zero, List.set_cons_succ]; try with_reducible rfl))) | (refine Plan.pass (a' := ?_) (Plan.want_un (by rfl) (by rfl) (by rfl) (by rfl)) ?_ ?_; rotate_left 1; (· (simp only [Act.put, List.setIfInBounds_toArray, List.set_cons_zero, List.set_cons_succ]; try with_reducible rfl))) | fail)
  refine Plan.fin ?_
  go_wp2_with fail
  have HNB : Hid (∀ b ∈ n :: ownB lv, w4.heap.size ≤ b) := fun b hb => (C5.out.lt b hb).1
  have hcn : cb ≠ n := fun h => by have := HNB.out n (by simp); omega
  have HLN : Hid (l.length ≤ 100) := hn
  go_loopw [8] (fun i wr => ∃ k : Nat, k ≤ 8 ∧ i = .int .i64 k ∧ Hid (CoreAt wr w4.heap.size n (leadT p 5 l k) lv sv ∧ Keeps [] w wr ∧ wr.cell? ⟨cb, 0, none⟩ = some (.int .i64 p))) (fun i _ => 8 - (intOf i).toNat)
  case atStart => exact ⟨0, by omega, rfl, C5.out, KW5.out, Z5.out⟩
  case round =>
    obtain ⟨k, hk, rfl, HW⟩ := hrel
    have i0 : (0 : Int) ≤ (k : Int) := Int.natCast_nonneg _
    have i6 : (k : Int) < 60 := by omega
    by_cases h7 : k ≤ 7
    · by_cases hlt : k < 7
      · go_wp2_with fail
        refine (cRole_is _ _ n _ lv sv HW.out.1 0 (by unfold leadT; rw [if_pos h7]; rfl)).mono ?_
        rintro e wr2 ⟨rfl, rfl⟩
        go_wp2_with fail
        refine (tick_wait _ _ n _ lv sv HW.out.1 (by unfold leadT; rw [if_pos h7]; show (0 : Int) ≠ 2; decide) (by unfold leadT; rw [if_pos h7]; show (0 : Int) ≤ (k : Int) ∧ (k : Int) ≤ _; omega) (by unfold leadT; rw [if_pos h7]; show (k : Int) + 1 < 8 + min ((1 - 1) * (2 + 6)) 40; omega)).mono ?_
        rintro e w6 ⟨rfl, hc, hk4⟩
        rw [leadT_succ hlt] at hc
        have W6 : Hid (CoreAt w6 w4.heap.size n (leadT p 5 l (k + 1)) lv sv ∧ Keeps [] w w6 ∧ w6.cell? ⟨cb, 0, none⟩ = some (.int .i64 p)) := ⟨hc, HW.out.2.1.trans hk4 (fun b hb hb' => by simp at hb'; subst hb'; have := HNB.out _ (List.mem_cons_self ..); have := HBW.out; omega), hk4.cellSome HW.out.2.2 (by simpa using hcn)⟩
        clear hc hk4
        go_wp2_with fail
        go_roundw
        case rel => exact ⟨k + 1, by omega, by go_num, W6.out⟩
        case measure => simp [intOf]; omega
      · have hk7 : k = 7 := by omega
        have HK7 := hid hk7
        clear hk7 hlt
        go_wp2_with fail
        refine (cRole_is _ _ n _ lv sv HW.out.1 0 (by unfold leadT; rw [if_pos h7]; rfl)).mono ?_
        rintro e wr2 ⟨rfl, rfl⟩
        go_wp2_with fail
        refine (tick_run _ _ n _ lv sv HW.out.1 (by unfold leadT; rw [if_pos h7]; show (0 : Int) ≠ 2; decide) (by unfold leadT; rw [if_pos h7]; show (0 : Int) ≤ (k : Int) ∧ (k : Int) ≤ _; omega) (by unfold leadT; rw [if_pos h7]; show 8 + min ((1 - 1) * (2 + 6)) 40 ≤ (k : Int) + 1; have := HK7.out; omega) (by unfold leadT; rw [if_pos h7]; show (5 : Int) < _; decide)).mono ?_
        rintro e w6 ⟨a, q, rfl, hc, _, hk4⟩
        have W6 : Hid (CoreAt w6 w4.heap.size n (leadT p 5 l (k + 1)) lv sv ∧ Keeps [] w w6 ∧ w6.cell? ⟨cb, 0, none⟩ = some (.int .i64 p)) := by
          refine ⟨?_, HW.out.2.1.trans hk4 (fun b hb hb' => by simp at hb'; subst hb'; have := HNB.out _ (List.mem_cons_self ..); have := HBW.out; omega), hk4.cellSome HW.out.2.2 (by simpa using hcn)⟩
          have e : leadT p 5 l (k + 1) = runD (leadT p 5 l k) := by
            rw [HK7.out]
            rfl
          rw [e]
          exact hc
        clear hc hk4
        go_wp2_with fail
        go_roundw
        case rel => exact ⟨k + 1, by omega, by go_num, W6.out⟩
        case measure => simp [intOf]; omega
    · have hk8 : k = 8 := by omega
      have hcx : leadT p 5 l k = leadV p 5 l 2 := by rw [leadV_two]; unfold leadT; rw [if_neg h7]
      have HC8 : Hid (CoreAt wr w4.heap.size n (leadV p 5 l 2) lv sv) := by
        show CoreAt _ _ _ _ _ _
        rw [← hcx]
        exact HW.out.1
      clear hk8 hcx
      go_wp2_with fail
      refine (cRole_is _ _ n _ lv sv HC8.out 1 (by rw [leadV_two]; rfl)).mono ?_
      rintro e wr2 ⟨rfl, rfl⟩
      go_wp2_with fail
      go_loopw [9] (fun iv wi => ∃ (i : Nat) (lv sv : Value), 2 ≤ i ∧ i ≤ p.toNat + 1 ∧ iv = .int .i64 i ∧ Hid (CoreAt wi w4.heap.size n (leadV p 5 l i) lv sv ∧ Keeps [] w wi ∧ wi.cell? ⟨cb, 0, none⟩ = some (.int .i64 p))) (fun iv _ => p.toNat + 1 - (intOf iv).toNat)
      case atStart => exact ⟨2, lv, sv, by omega, by omega, rfl, HC8.out, HW.out.2⟩
      case round =>
        obtain ⟨i, lv2, sv2, hi2, hi3, rfl, HV⟩ := hrel
        have j0 : (0 : Int) ≤ (i : Int) := Int.natCast_nonneg _
        have zc := HV.out.2.2
        by_cases hle : i ≤ p.toNat
        · have j1 : (i : Int) ≤ p := by omega
          go_wp2_with fail
          refine (cTerm_any _ _ n _ lv2 sv2 HV.out.1).mono ?_
          rintro e wr2 ⟨rfl, rfl⟩
          go_wp2_with fail
          refine (hear_but _ _ n _ lv2 sv2 (voteY i (leadV p 5 l i).term) none none 0 0 HV.out.1 (ListAt.nil _ _ _ _) (BytesAt.nil _ _ _ _) (by simp [voteY]) (by have := leadV_last (p := p) (t0 := 5) (l := l) i; have := HLN.out; omega) (fun _ h3 => by cases h3)).mono ?_
          rintro e w6 ⟨ra, rq, lv', sv', rfl, hc, _, hk4, hv⟩
          have W6 : Hid (CoreAt w6 w4.heap.size n (leadV p 5 l (i + 1)) lv' sv' ∧ Keeps [] w w6 ∧ w6.cell? ⟨cb, 0, none⟩ = some (.int .i64 p)) := by
            refine ⟨?_, HV.out.2.1.trans hk4 (fun b hb hb' => by have := (HV.out.1.lt b hb').1; have := HBW.out; omega), hk4.cellSome zc (fun hb' => by have := (HV.out.1.lt cb hb').1; omega)⟩
            rw [leadV_succ hi2]
            exact hc
          clear hc hk4 hv zc
          go_wp2_with fail
          go_roundw
          case rel => exact ⟨i + 1, lv', sv', by omega, by omega, by go_num, W6.out⟩
          case measure => simp [intOf]; omega
        · have hip : i = p.toNat + 1 := by omega
          have j1 : p < (i : Int) := by omega
          have HLED : Hid (Led p 5 l (leadV p 5 l i)) := by
            show Led _ _ _ _
            rw [hip]
            exact leadV_led ⟨p3, p5⟩ (by omega) (by have := HLN.out; omega)
          clear hip
          go_wp2_with fail
          refine (cRole_is _ _ n _ lv2 sv2 HV.out.1 2 HLED.out.role).mono ?_
          rintro e wr2 ⟨rfl, rfl⟩
          go_wp2_with fail
          go_ret
          exact ⟨n, _, lv2, sv2, rfl, HV.out.1.lower HBW.out, HLED.out, HV.out.2.1⟩

end Go.Proofs.Ytpppoajnbhipeaa
