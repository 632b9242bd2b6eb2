/- CoreVotes, walked. -/
import Derived.Test.YtpppoajnbhipeaaVotesD
import Derived.Test.YtpppoajnbhipeaaCoreQ
import Derived.Test.YtpppoajnbhipeaaCoreP
import Derived.Test.YtpppoajnbhipeaaCoreG
import Derived.Test.YtpppoajnbhipeaaOpenL
namespace Go.Proofs.Ytpppoajnbhipeaa
open Go Go.RowKit

def cfN (p : Int) : ConfD := { nodes := p, clients := 2, heart := 2, lo := 8, range := 40, sessions := 3, snap := 9, room := 200, retry := 9 }
theorem conf_is (p n : Int) (w : World) (wn : (Lit.int .i64 n).wf = true) (h : 3 + placeOf n 3 = p) : Calls Try.prog 19 #[.int .i64 n] w fun e w' => e = .returned (.agg #[.int .i64 p, .int .i64 2, .int .i64 2, .int .i64 8, .int .i64 40, .int .i64 3, .int .i64 9, .int .i64 200, .int .i64 9]) ∧ Keeps [] w w' := by
  have := cConf_any n w wn
  unfold confV confOf at this
  rw [h] at this
  exact this

set_option maxRecDepth 100000 in
set_option maxHeartbeats 6400000 in
theorem votes_big (nodes : Int) (l : List Ent) (v1 : Value) (a0 : Option Addr) (c0 : Nat) (P : Nat → Prop) (w : World) (hl : ListAt entL w P (.slice a0 l.length c0) l) (hs : smallD { msg0 with entries := l } = false) :
    Calls Try.prog 4 #[.int .i64 nodes, .slice a0 l.length c0, v1] w fun e w' => e = .returned (.bool true) ∧ Below w.heap.size w w' := by
  have HL := hid hl
  have HS := hid hs
  clear hl hs
  go_enter Try.func4, Try.ntmps4
  go_wp2_with fail
  refine (small_is false _ { msg0 with entries := l } a0 none c0 0 P HL.out HS.out).mono ?_
  rintro e w1 ⟨rfl, k1⟩
  have K1 := hid k1
  clear k1
  go_wp2_with fail
  refine (cAwake_any _).mono ?_
  rintro e w5 ⟨rfl, k5⟩
  have K5 : Hid (Keeps [] w w5) := K1.out.trans k5 (fun _ _ h => h)
  clear k5
  go_wp2_with fail
  go_ret
  exact ⟨rfl, K5.out.below (Nat.le_refl _) (fun _ h => by cases h)⟩

set_option maxRecDepth 100000 in
set_option maxHeartbeats 6400000 in
theorem votes_walk (nodes : Int) (l : List Ent) (asks : List MsgD) (a0 a1 : Option Addr) (c0 c1 : Nat) (P : Nat → Prop) (w : World) (wn : (Lit.int .i64 nodes).wf = true) (hl : ListAt entL w P (.slice a0 l.length c0) l) (ha : ListAt msgL w P (.slice a1 asks.length c1) asks) (hm : ∀ m ∈ asks, MsgW m) (hs : smallD { msg0 with entries := l } = true) :
    Calls Try.prog 4 #[.int .i64 nodes, .slice a0 l.length c0, .slice a1 asks.length c1] w fun e w' => e = .returned (.bool true) ∧ Below w.heap.size w w' := by
  obtain ⟨p, hp⟩ : ∃ p, 3 + placeOf nodes 3 = p := ⟨_, rfl⟩
  have hb := placeOf_bd nodes 3 (by omega)
  have p3 : 3 ≤ p := by omega
  have p5 : p ≤ 5 := by omega
  have HP := hid hp
  have HL := hid hl
  have HA := hid ha
  have HM := hid hm
  have HS := hid hs
  have HD : Hid (∀ e ∈ l, e.data.length ≤ 1000000) := fun e he => by have := (smallD_yes hs).2.2 e he; omega
  have hln : l.length ≤ 12 := (smallD_yes hs).2.1
  have HMY : Hid (mayNewD (cfN p) 1 0 0 0 0 l = true ∨ mayNewD (cfN p) 1 0 0 0 0 l = false) := by cases mayNewD (cfN p) 1 0 0 0 0 l <;> simp [Hid]
  clear hl ha hm hs hp hb
  go_enter Try.func4, Try.ntmps4
  go_wp2_with fail
  refine (small_is true _ { msg0 with entries := l } a0 none c0 0 P HL.out HS.out).mono ?_
  rintro e w1 ⟨rfl, k1⟩
  have K1 := hid k1
  clear k1
  go_wp2_with fail
  refine (conf_is p nodes _ wn HP.out).mono ?_
  rintro e w2 ⟨rfl, k2⟩
  have K2 : Hid (Keeps [] w w2) := K1.out.trans k2 (fun _ _ h => h)
  clear k2
  go_wp2_with fail
  have HX : Hid (∃ w3 cb, w3 = w2.alloc (.cells #[.int .i64 p, .int .i64 2, .int .i64 2, .int .i64 8, .int .i64 40, .int .i64 3, .int .i64 9, .int .i64 200, .int .i64 9] 23) ∧ cb = w2.heap.size ∧ Keeps [] w w3 ∧ w3.heap[cb]? = some (.cells #[.int .i64 p, .int .i64 2, .int .i64 2, .int .i64 8, .int .i64 40, .int .i64 3, .int .i64 9, .int .i64 200, .int .i64 9] 23 (0, 0)) ∧ w.heap.size ≤ cb) := ⟨_, _, rfl, rfl, K2.out.alloc _, heap_alloc_new w2 _, K2.out.size⟩
  obtain ⟨w3, cb, hw3, hcb, k3, b3, hcw⟩ := HX.out
  rw [← hw3, ← hcb]
  have K3 := hid k3
  have hcb3 : cb < w3.heap.size := (Array.getElem?_eq_some_iff.1 b3).1
  obtain ⟨⟨z0, z1, z2, z3, z4, z5, z6, z7, z8⟩, _⟩ := blk9 b3
  have ZF : Hid (∀ wx, Keeps [] w3 wx → wx.cell? ⟨cb, 0, none⟩ = some (.int .i64 p) ∧ wx.cell? ⟨cb, 1, none⟩ = some (.int .i64 2) ∧ wx.cell? ⟨cb, 2, none⟩ = some (.int .i64 2) ∧ wx.cell? ⟨cb, 3, none⟩ = some (.int .i64 8) ∧ wx.cell? ⟨cb, 4, none⟩ = some (.int .i64 40) ∧ wx.cell? ⟨cb, 5, none⟩ = some (.int .i64 3) ∧ wx.cell? ⟨cb, 6, none⟩ = some (.int .i64 9) ∧ wx.cell? ⟨cb, 7, none⟩ = some (.int .i64 200) ∧ wx.cell? ⟨cb, 8, none⟩ = some (.int .i64 9)) := fun wx k => ⟨k.cellSome z0 (by simp), k.cellSome z1 (by simp), k.cellSome z2 (by simp), k.cellSome z3 (by simp), k.cellSome z4 (by simp), k.cellSome z5 (by simp), k.cellSome z6 (by simp), k.cellSome z7 (by simp), k.cellSome z8 (by simp)⟩
  have HB3 := hid b3
  clear hw3 hcb k3 b3 HX z0 z1 z2 z3 z4 z5 z6 z7 z8
  refine Plan.wp_region_plan (fun wx => wx.cell? ⟨cb, 0, none⟩ = some (.int .i64 p) ∧ wx.cell? ⟨cb, 1, none⟩ = some (.int .i64 2) ∧ wx.cell? ⟨cb, 2, none⟩ = some (.int .i64 2) ∧ wx.cell? ⟨cb, 3, none⟩ = some (.int .i64 8) ∧ wx.cell? ⟨cb, 4, none⟩ = some (.int .i64 40) ∧ wx.cell? ⟨cb, 5, none⟩ = some (.int .i64 3) ∧ wx.cell? ⟨cb, 6, none⟩ = some (.int .i64 9) ∧ wx.cell? ⟨cb, 7, none⟩ = some (.int .i64 200) ∧ wx.cell? ⟨cb, 8, none⟩ = some (.int .i64 9)) 8 [(true, 0), (true, 1), (false, 2), (false, 3), (true, 4), (true, 5), (true, 6), (true, 7)] (by kernel_rfl) (by as_aux_lemma => kernel_rfl) (by kernel_rfl) (fun _ _ _ _ _ h => h) ?_ (fun hS => ?_)
  (· exact ZF.out _ (Keeps.refl [] w3).drew)
  simp only [Plan.pick, List.append_eq, List.cons_append, List.nil_append, List.getElem?_cons_zero, List.getElem?_cons_succ, Option.getD_some, List.drop_succ_cons, List.drop_zero]
  iterate 2 (first | (refine Plan.take (v := ?_) (a' := ?_) (Plan.want_all (by rfl)) ?_ ?_ ?_; rotate_left 2; (· (intro w' hS'; (try dsimp only at hS'); go_simp; try with_reducible rfl)); (· (simp only [Act.put, List.setIfInBounds_toArray, List.set_cons_zero, List.set_cons_succ]; try with_reducible rfl))) | (refine Plan.take (v := ?_) (a' := ?_) (Plan.want_yes (by rfl) (by rfl) (by rfl) (by rfl)) ?_ ?_ ?_; rotate_left 2; (· (intro w' hS'; (try dsimp only at hS'); go_simp; try with_reducible rfl)); (· (simp only [Act.put, List.setIfInBounds_toArray, List.set_cons_zero, List.set_cons_succ]; try with_reducible rfl))) | (refine Plan.pass (a' := ?_) (Plan.want_no (by rfl) (by rfl) (by rfl) (by rfl)) ?_ ?_; rotate_left 1; (· (simp only [Act.put, List.setIfInBounds_toArray, List.set_cons_zero, List.set_cons_succ]; try with_reducible rfl))) | (refine Plan.pass (a' := ?_) (Plan.want_un (by rfl) (by rfl) (by rfl) (by rfl)) ?_ ?_; rotate_left 1; (· (simp only [Act.put, List.setIfInBounds_toArray, List.set_cons_zero, List.set_cons_succ]; try with_reducible rfl))) | fail)
  refine Plan.step ?_
  go_wp2_with fail
  refine (lEntries_any _ l a0 c0 P (HL.out.k ?_) HD.out (by omega)).mono ?_
  (· have kk := K3.out; (repeat (first | (with_reducible exact Keeps.refl _ _) | (with_reducible assumption) | ((with_reducible refine Keeps.setCell ?_ ?_ _); rotate_left 1; (· first | (refine .inl ?_; simp; done) | (refine .inr ?_; first | exact Nat.le_refl _ | (simp; done) | (simp; omega) | omega))) | (with_reducible refine Keeps.alloc ?_ _) | (with_reducible refine Keeps.drewN ?_ _) | (with_reducible refine Keeps.drew ?_))))
  rintro e w4 ⟨a4, q4, rfl, f4, k4⟩
  have K4 : Hid (Keeps [] w3 w4) := Keeps.trans (by (repeat (first | (with_reducible exact Keeps.refl _ _) | (with_reducible assumption) | ((with_reducible refine Keeps.setCell ?_ ?_ _); rotate_left 1; (· first | (refine .inl ?_; simp; done) | (refine .inr ?_; first | exact Nat.le_refl _ | (simp; done) | (simp; omega) | omega))) | (with_reducible refine Keeps.alloc ?_ _) | (with_reducible refine Keeps.drewN ?_ _) | (with_reducible refine Keeps.drew ?_)))) k4 (fun _ _ h => h)
  have L4 : Hid (ListAt entL w4 (fun _ => True) (.slice a4 l.length q4) l) := OwnAt.list f4 (fun _ _ _ => trivial) (fun _ _ => trivial)
  clear f4 k4
  go_wp2_with fail
  refine ⟨ZF.out _ K4.out, ?_⟩
  refine Plan.step ?_
  go_wp2_with fail
  refine (cNew_any (cfN p) 1 0 0 0 0 l a4 q4 (fun _ => True) _ L4.out HD.out).mono ?_
  rintro e w5 h5
  rcases h5 with ⟨_, n, lv, sv, rfl, hc5, k5⟩ | ⟨_, rfl, k5⟩
  rotate_left 1
  · have K5 : Hid (Keeps [] w3 w5) := K4.out.trans k5 (fun _ _ h => h)
    clear k5
    go_wp2_with fail
    refine ⟨ZF.out _ K5.out, ?_⟩
    iterate 4 (first | (refine Plan.take (v := ?_) (a' := ?_) (Plan.want_all (by rfl)) ?_ ?_ ?_; rotate_left 2; (· (intro w' hS'; (try dsimp only at hS'); go_simp; try with_reducible rfl)); (· (simp only [Act.put, List.setIfInBounds_toArray, List.set_cons_zero, List.set_cons_succ]; try with_reducible rfl))) | (refine Plan.take (v := ?_) (a' := ?_) (Plan.want_yes (by rfl) (by rfl) (by rfl) (by rfl)) ?_ ?_ ?_; rotate_left 2; (· (intro w' hS'; (try dsimp only at hS'); go_simp; try with_reducible rfl)); (· (simp only [Act.put, List.setIfInBounds_toArray, List.set_cons_zero, List.set_cons_succ]; try with_reducible rfl))) | (refine Plan.pass (a' := ?_) (Plan.want_no (by rfl) (by rfl) (by rfl) (by rfl)) ?_ ?_; rotate_left 1; (· (simp only [Act.put, List.setIfInBounds_toArray, List.set_cons_zero, List.set_cons_succ]; try with_reducible rfl))) | (refine Plan.pass (a' := ?_) (Plan.want_un (by rfl) (by rfl) (by rfl) (by rfl)) ?_ ?_; rotate_left 1; (· (simp only [Act.put, List.setIfInBounds_toArray, List.set_cons_zero, List.set_cons_succ]; try with_reducible rfl))) | fail)
    refine Plan.fin ?_
    go_wp2_with fail
    refine (cAwake_any _).mono ?_
    rintro e w6 ⟨rfl, k6⟩
    have K6 : Hid (Keeps [] w w6) := (K3.out.trans K5.out (fun _ _ h => h)).trans k6 (fun _ _ h => h)
    clear k6
    go_wp2_with fail
    go_ret
    exact ⟨rfl, K6.out.below (Nat.le_refl _) (fun _ h => by cases h)⟩
  have K5 : Hid (Keeps [] w3 w5) := K4.out.trans k5 (fun _ _ h => h)
  have KW5 : Hid (Keeps [] w w5) := K3.out.trans K5.out (fun _ _ h => h)
  have HNC : Hid (cb ∉ n :: ownB lv) := fun h => by have h1 := (hc5.lt _ h).1; have h2 := K4.out.size; omega
  have C5 : Hid (CoreAt w5 w.heap.size n (newD (cfN p) 1 0 0 0 0 l) lv sv) := hc5.lower (K3.out.trans K4.out (fun _ _ h => h)).size
  clear k5 hc5
  go_wp2_with fail
  refine ⟨ZF.out _ K5.out, ?_⟩
  iterate 4 (first | (refine Plan.take (v := ?_) (a' := ?_) (Plan.want_all (by rfl)) ?_ ?_ ?_; rotate_left 2; (· (intro w' hS'; (try dsimp only at hS'); go_simp; try with_reducible rfl)); (· (simp only [Act.put, List.setIfInBounds_toArray, List.set_cons_zero, List.set_cons_succ]; try with_reducible rfl))) | (refine Plan.take (v := ?_) (a' := ?_) (Plan.want_yes (by rfl) (by rfl) (by rfl) (by rfl)) ?_ ?_ ?_; rotate_left 2; (· (intro w' hS'; (try dsimp only at hS'); go_simp; try with_reducible rfl)); (· (simp only [Act.put, List.setIfInBounds_toArray, List.set_cons_zero, List.set_cons_succ]; try with_reducible rfl))) | (refine Plan.pass (a' := ?_) (Plan.want_no (by rfl) (by rfl) (by rfl) (by rfl)) ?_ ?_; rotate_left 1; (· (simp only [Act.put, List.setIfInBounds_toArray, List.set_cons_zero, List.set_cons_succ]; try with_reducible rfl))) | (refine Plan.pass (a' := ?_) (Plan.want_un (by rfl) (by rfl) (by rfl) (by rfl)) ?_ ?_; rotate_left 1; (· (simp only [Act.put, List.setIfInBounds_toArray, List.set_cons_zero, List.set_cons_succ]; try with_reducible rfl))) | fail)
  refine Plan.fin ?_
  go_wp2_with fail
  have HWI : Hid (∃ w6 wb, w6 = w5.alloc (.cells #[.int .i64 0, .int .i64 0, .int .i64 0, .int .i64 0, .int .i64 0, .int .i64 0, .int .i64 0, .int .i64 0, .int .i64 0, .int .i64 0, .int .i64 0, .int .i64 0, .int .i64 0, .int .i64 0, .int .i64 0, .int .i64 0, .int .i64 0, .int .i64 0, .int .i64 0, .int .i64 0, .int .i64 0, .int .i64 0, .int .i64 0, .int .i64 0, .int .i64 0, .int .i64 0, .int .i64 0, .int .i64 0, .int .i64 0, .int .i64 0, .int .i64 0, .int .i64 0, .int .i64 0, .int .i64 0, .int .i64 0, .int .i64 0, .int .i64 0, .int .i64 0, .int .i64 0, .int .i64 0, .int .i64 0, .int .i64 0, .int .i64 0, .int .i64 0, .int .i64 0, .int .i64 0, .int .i64 0, .int .i64 0, .int .i64 0, .int .i64 0, .int .i64 0, .int .i64 0, .int .i64 0, .int .i64 0, .int .i64 0, .int .i64 0, .int .i64 0, .int .i64 0, .int .i64 0, .int .i64 0, .int .i64 0, .int .i64 0, .int .i64 0, .int .i64 0] 43) ∧ wb = w5.heap.size ∧ Keeps [] w5 w6 ∧ w6.heap[wb]? = some (.cells (ints (List.replicate 64 0)).toArray 43 (0, 0)) ∧ w.heap.size ≤ wb ∧ CoreAt w6 w.heap.size n { newD (cfN p) 1 0 0 0 0 l with ban := fun b => False ∨ b = wb } lv sv ∧ wb ∉ n :: ownB lv) := ⟨_, _, rfl, rfl, (Keeps.refl [] w5).alloc _, heap_alloc_new w5 _, KW5.out.size, C5.out.banned ((Keeps.refl [] w5).alloc _) (fun b => b = w5.heap.size) (fun b hb => by rw [hb]; simp) (fun b hb => (C5.out.lt b hb).2), fun h => by have := (C5.out.lt _ h).2; omega⟩
  obtain ⟨w6, wb, hw6, hwb, k6, b6, hww, hc6, hno6⟩ := HWI.out
  rw [← hw6, ← hwb]
  have K6 : Hid (Keeps [] w w6) := KW5.out.trans k6 (fun _ _ h => h)
  have hwl : wb < w6.heap.size := (Array.getElem?_eq_some_iff.1 b6).1
  have hcwb : cb < wb := by have := (K5.out.size); omega
  have CB6 : Hid (w6.cell? ⟨cb, 0, none⟩ = some (.int .i64 p) ∧ cb ∉ n :: ownB lv ∧ cb < w6.heap.size) := ⟨(ZF.out _ (K5.out.trans k6 (fun _ _ h => h))).1, fun h => HNC.out h, by omega⟩
  have I6 : Hid (VotesInv (cfN p) (fun b => False ∨ b = wb) { newD (cfN p) 1 0 0 0 0 l with ban := fun b => False ∨ b = wb } (List.replicate 64 0)) := ⟨rfl, rfl, rfl, rfl, fun t h => by exact absurd (getD_rep 64 t) h, rfl⟩
  have B6 := hid b6
  have HWB := hid hww
  have HCW : Hid (cb ≠ wb) := by show cb ≠ wb; omega
  have C6 := hid hc6
  have N6 := hid hno6
  clear hw6 hwb k6 b6 hc6 hno6 HWI ZF HB3 K3 K4 L4 K5 KW5 C5
  have HAZ : Hid (∀ k, k < asks.length → ∃ m, asks[k]? = some m) := fun k hk => ⟨asks[k], List.getElem?_eq_getElem hk⟩
  obtain ⟨pm, hpm⟩ : ∃ pm, p - 1 = pm := ⟨_, rfl⟩
  have HPM := hid hpm
  have pm2 : 2 ≤ pm := by omega
  have pm4 : pm ≤ 4 := by omega
  clear hpm
  go_loopw [11] (fun i wr => ∃ k : Nat, k ≤ asks.length ∧ k ≤ 60 ∧ i = .int .i64 k ∧ wr.cell? ⟨cb, 0, none⟩ = some (.int .i64 p) ∧ Hid (∃ (c : CoreD) (lv sv : Value) (who : List Int), CoreAt wr w.heap.size n c lv sv ∧ wr.heap[wb]? = some (.cells (ints who).toArray 43 (0, 0)) ∧ VotesInv (cfN p) (fun b => False ∨ b = wb) c who ∧ Keeps [] w wr ∧ wb ∉ n :: ownB lv ∧ cb ∉ n :: ownB lv)) (fun i _ => asks.length - (intOf i).toNat)
  case atStart => exact ⟨0, Nat.zero_le _, by omega, rfl, CB6.out.1, ⟨_, lv, sv, _, C6.out, B6.out, I6.out, K6.out, N6.out, CB6.out.2.1⟩⟩
  case round =>
    obtain ⟨k, hk, hk60, rfl, zb, HW⟩ := hrel
    have i0 : (0 : Int) ≤ (k : Int) := Int.natCast_nonneg _
    by_cases hlt : k < asks.length ∧ k < 60
    · obtain ⟨hlt, hlt60⟩ := hlt
      have i1 : (k : Int) < (asks.length : Int) := by omega
      have i2 : (k : Int) < 60 := by omega
      obtain ⟨m, he⟩ := HAZ.out k hlt
      obtain ⟨c, lv, sv, who, hc, hwho, hinv, hkw, hn1, hn2⟩ := HW.out
      have C0 := hid hc
      have B0 := hid hwho
      have I0 := hid hinv
      have KW := hid hkw
      have N1 := hid hn1
      have N2 := hid hn2
      obtain ⟨g, off, cg, ha, hcg, hcm, hgl, hgP⟩ := (HA.out.k hkw).addr (fun hn => by rw [hn] at hlt; simp at hlt)
      simp at ha
      obtain ⟨ha, hcc⟩ := ha
      subst ha
      subst hcc
      obtain ⟨cs, ⟨ev, dv, rfl, _⟩, hcs⟩ := (HA.out.k hkw).get he
      have y1 : wr.cell? ⟨g, off + k * 10 + 1, none⟩ = some (.int .i64 m.frm) := hcs 1 _ rfl
      have y3 : wr.cell? ⟨g, off + k * 10 + 3, none⟩ = some (.int .i64 m.term) := hcs 3 _ rfl
      have y4 : wr.cell? ⟨g, off + k * 10 + 4, none⟩ = some (.int .i64 m.a) := hcs 4 _ rfl
      have y5 : wr.cell? ⟨g, off + k * 10 + 5, none⟩ = some (.int .i64 m.b) := hcs 5 _ rfl
      have WM : Hid (MsgW m) := HM.out m (List.mem_of_getElem? he)
      clear hcs he hcm hcg HW hc hwho hinv hkw hn1 hn2
      have SF : Hid (∀ wx, Keeps [] wr wx → wx.cell? ⟨cb, 0, none⟩ = some (.int .i64 p) ∧ wx.cell? ⟨g, off + k * 10 + 1, none⟩ = some (.int .i64 m.frm) ∧ wx.cell? ⟨g, off + k * 10 + 3, none⟩ = some (.int .i64 m.term) ∧ wx.cell? ⟨g, off + k * 10 + 4, none⟩ = some (.int .i64 m.a) ∧ wx.cell? ⟨g, off + k * 10 + 5, none⟩ = some (.int .i64 m.b)) := fun wx kx => ⟨kx.cellSome zb (by simp), kx.cellSome y1 (by simp), kx.cellSome y3 (by simp), kx.cellSome y4 (by simp), kx.cellSome y5 (by simp)⟩
      obtain ⟨r1, hr1⟩ : ∃ r, placeOf m.frm pm = r := ⟨_, rfl⟩
      obtain ⟨r2, hr2⟩ : ∃ r, placeOf m.term 60 = r := ⟨_, rfl⟩
      obtain ⟨r3, hr3⟩ : ∃ r, placeOf m.a 30 = r := ⟨_, rfl⟩
      obtain ⟨r4, hr4⟩ : ∃ r, placeOf m.b 12 = r := ⟨_, rfl⟩
      have q1 := placeOf_bd m.frm pm (by omega)
      have q2 := placeOf_bd m.term 60 (by omega)
      have q3 := placeOf_bd m.a 30 (by omega)
      have q4 := placeOf_bd m.b 12 (by omega)
      rw [hr1] at q1
      rw [hr2] at q2
      rw [hr3] at q3
      rw [hr4] at q4
      obtain ⟨f, hf⟩ : ∃ f, f = 2 + r1 := ⟨_, rfl⟩
      obtain ⟨tm, htm⟩ : ∃ f, f = 1 + r2 := ⟨_, rfl⟩
      have hpm := HPM.out
      have f0 : 2 ≤ f := by omega
      have f1 : f ≤ p := by omega
      have t0 : 1 ≤ tm := by omega
      have t1 : tm ≤ 60 := by omega
      have a0' : 0 ≤ r3 := q3.1
      have a1' : r3 ≤ 29 := by omega
      have b0' : 0 ≤ r4 := q4.1
      have b1' : r4 ≤ 11 := by omega
      have wr1 : IntKind.i64.wrap (p - 1) = pm := by rw [IntWalk.i64_in _ (by omega)]; exact hpm
      have wr2 : IntKind.i64.wrap (2 + r1) = f := by rw [IntWalk.i64_in _ (by omega)]; exact hf.symm
      have wr3 : IntKind.i64.wrap (1 + r2) = tm := by rw [IntWalk.i64_in _ (by omega)]; exact htm.symm
      have HR1 := hid hr1
      have HR2 := hid hr2
      have HR3 := hid hr3
      have HR4 := hid hr4
      clear hr1 hr2 hr3 hr4 q1 q2 q3 q4 hf htm hpm
      go_wp2_with fail
      apply once
      · intro GO
        refine Plan.wp_region_tree (fun wx => wx.cell? ⟨cb, 0, none⟩ = some (.int .i64 p) ∧ wx.cell? ⟨g, off + k * 10 + 1, none⟩ = some (.int .i64 m.frm) ∧ wx.cell? ⟨g, off + k * 10 + 3, none⟩ = some (.int .i64 m.term) ∧ wx.cell? ⟨g, off + k * 10 + 4, none⟩ = some (.int .i64 m.a) ∧ wx.cell? ⟨g, off + k * 10 + 5, none⟩ = some (.int .i64 m.b)) 31 (.take 0 (.take 1 (.take 2 (.take 3 (.take 4 (.take 5 (.take 6 (.take 7 (.take 10 (.take 11 (.take 12 (.take 13 (.take 14 (.take 17 (.take 18 (.take 19 (.take 20 (.take 21 (.take 23 (.take 24 (.take 25 (.take 26 (.take 27 (.fork 8 30 (.take 9 (.fork 15 30 (.take 16 (.fork 22 30 (.fork 28 30 (.take 29 (.step 30 .fin)) (.step 28 (.take 29 .fin))) (.step 22 (.step 28 (.take 29 .fin))))) (.step 15 (.take 16 (.step 22 (.step 28 (.take 29 .fin))))))) (.step 8 (.take 9 (.step 15 (.take 16 (.step 22 (.step 28 (.take 29 .fin))))))))))))))))))))))))))))))) (by kernel_rfl) (by as_aux_lemma => kernel_rfl) (by kernel_rfl) (fun _ _ _ _ _ h => h) ?_ (fun hS => ?_)
        (· exact SF.out _ (Keeps.refl [] wr).drew)
        simp only [Plan.pickT, List.append_eq, List.cons_append, List.nil_append, List.getElem?_cons_zero, List.getElem?_cons_succ, Option.getD_some, List.drop_succ_cons, List.drop_zero]
        iterate 23 (first | (refine Plan.takeT (v := ?_) (a' := ?_) (Plan.want_all (by rfl)) ?_ ?_ ?_; rotate_left 2; (· (intro w' hS'; (try dsimp only at hS'); go_simp; try with_reducible rfl)); (· (simp only [Act.put, List.setIfInBounds_toArray, List.set_cons_zero, List.set_cons_succ]; try with_reducible rfl))) | fail)
        refine Plan.forkT ?_ ?_
        · go_wp2_with fail
          refine (place_is r1 m.frm pm _ (by omega) (by omega) WM.out.frm HR1.out).mono ?_
          rintro e w' ⟨rfl, hw'⟩
          subst hw'
          go_wp2_with fail
          refine ⟨?_, ?_⟩
          (· exact SF.out _ (by (repeat (first | (with_reducible exact Keeps.refl _ _) | (with_reducible assumption) | ((with_reducible refine Keeps.setCell ?_ ?_ _); rotate_left 1; (· first | (refine .inl ?_; simp; done) | (refine .inr ?_; first | exact Nat.le_refl _ | (simp; done) | (simp; omega) | omega))) | (with_reducible refine Keeps.alloc ?_ _) | (with_reducible refine Keeps.drewN ?_ _) | (with_reducible refine Keeps.drew ?_)))))
          iterate 1 (first | (refine Plan.takeT (v := ?_) (a' := ?_) (Plan.want_all (by rfl)) ?_ ?_ ?_; rotate_left 2; (· (intro w' hS'; (try dsimp only at hS'); go_simp; try with_reducible rfl)); (· (simp only [Act.put, List.setIfInBounds_toArray, List.set_cons_zero, List.set_cons_succ]; try with_reducible rfl))) | fail)
          refine Plan.forkT ?_ ?_
          · go_wp2_with fail
            refine (place_is r2 m.term 60 _ (by omega) (by omega) WM.out.term HR2.out).mono ?_
            rintro e w' ⟨rfl, hw'⟩
            subst hw'
            go_wp2_with fail
            refine ⟨?_, ?_⟩
            (· exact SF.out _ (by (repeat (first | (with_reducible exact Keeps.refl _ _) | (with_reducible assumption) | ((with_reducible refine Keeps.setCell ?_ ?_ _); rotate_left 1; (· first | (refine .inl ?_; simp; done) | (refine .inr ?_; first | exact Nat.le_refl _ | (simp; done) | (simp; omega) | omega))) | (with_reducible refine Keeps.alloc ?_ _) | (with_reducible refine Keeps.drewN ?_ _) | (with_reducible refine Keeps.drew ?_)))))
            iterate 1 (first | (refine Plan.takeT (v := ?_) (a' := ?_) (Plan.want_all (by rfl)) ?_ ?_ ?_; rotate_left 2; (· (intro w' hS'; (try dsimp only at hS'); go_simp; try with_reducible rfl)); (· (simp only [Act.put, List.setIfInBounds_toArray, List.set_cons_zero, List.set_cons_succ]; try with_reducible rfl))) | fail)
            refine Plan.forkT ?_ ?_
            · go_wp2_with fail
              refine (place_is r3 m.a 30 _ (by omega) (by omega) WM.out.a HR3.out).mono ?_
              rintro e w' ⟨rfl, hw'⟩
              subst hw'
              go_wp2_with fail
              refine ⟨?_, ?_⟩
              (· exact SF.out _ (by (repeat (first | (with_reducible exact Keeps.refl _ _) | (with_reducible assumption) | ((with_reducible refine Keeps.setCell ?_ ?_ _); rotate_left 1; (· first | (refine .inl ?_; simp; done) | (refine .inr ?_; first | exact Nat.le_refl _ | (simp; done) | (simp; omega) | omega))) | (with_reducible refine Keeps.alloc ?_ _) | (with_reducible refine Keeps.drewN ?_ _) | (with_reducible refine Keeps.drew ?_)))))
              refine Plan.forkT ?_ ?_
              · go_wp2_with fail
                refine (place_is r4 m.b 12 _ (by omega) (by omega) WM.out.b HR4.out).mono ?_
                rintro e w' ⟨rfl, hw'⟩
                subst hw'
                go_wp2_with fail
                refine ⟨?_, ?_⟩
                (· exact SF.out _ (by (repeat (first | (with_reducible exact Keeps.refl _ _) | (with_reducible assumption) | ((with_reducible refine Keeps.setCell ?_ ?_ _); rotate_left 1; (· first | (refine .inl ?_; simp; done) | (refine .inr ?_; first | exact Nat.le_refl _ | (simp; done) | (simp; omega) | omega))) | (with_reducible refine Keeps.alloc ?_ _) | (with_reducible refine Keeps.drewN ?_ _) | (with_reducible refine Keeps.drew ?_)))))
                iterate 1 (first | (refine Plan.takeT (v := ?_) (a' := ?_) (Plan.want_all (by rfl)) ?_ ?_ ?_; rotate_left 2; (· (intro w' hS'; (try dsimp only at hS'); go_simp; try with_reducible rfl)); (· (simp only [Act.put, List.setIfInBounds_toArray, List.set_cons_zero, List.set_cons_succ]; try with_reducible rfl))) | fail)
                refine Plan.stepT ?_
                go_wp2_with fail
                refine ⟨?_, ?_⟩
                (· exact SF.out _ (by (repeat (first | (with_reducible exact Keeps.refl _ _) | (with_reducible assumption) | ((with_reducible refine Keeps.setCell ?_ ?_ _); rotate_left 1; (· first | (refine .inl ?_; simp; done) | (refine .inr ?_; first | exact Nat.le_refl _ | (simp; done) | (simp; omega) | omega))) | (with_reducible refine Keeps.alloc ?_ _) | (with_reducible refine Keeps.drewN ?_ _) | (with_reducible refine Keeps.drew ?_)))))
                refine Plan.finT ?_
                refine wpl_fold (fun wx => Keeps [] wr wx ∧ wx.heap[wr.heap.size]? = some (.cells #[.int .i64 0, .int .i64 0, .int .i64 0, .int .i64 0, .int .i64 0, .int .i64 0, .int .i64 0, .bool false, .slice none 0 0, .slice none 0 0] 40 (0, 0))) ?_ ?_
                rotate_left 1
                (· exact GO.out)
                exact ⟨by (repeat (first | (with_reducible exact Keeps.refl _ _) | (with_reducible assumption) | ((with_reducible refine Keeps.setCell ?_ ?_ _); rotate_left 1; (· first | (refine .inl ?_; simp; done) | (refine .inr ?_; first | exact Nat.le_refl _ | (simp; done) | (simp; omega) | omega))) | (with_reducible refine Keeps.alloc ?_ _) | (with_reducible refine Keeps.drewN ?_ _) | (with_reducible refine Keeps.drew ?_))), heap_alloc_new _ _⟩
              · go_wp2_with fail
                refine ⟨?_, ?_⟩
                (· exact SF.out _ (by (repeat (first | (with_reducible exact Keeps.refl _ _) | (with_reducible assumption) | ((with_reducible refine Keeps.setCell ?_ ?_ _); rotate_left 1; (· first | (refine .inl ?_; simp; done) | (refine .inr ?_; first | exact Nat.le_refl _ | (simp; done) | (simp; omega) | omega))) | (with_reducible refine Keeps.alloc ?_ _) | (with_reducible refine Keeps.drewN ?_ _) | (with_reducible refine Keeps.drew ?_)))))
                refine Plan.stepT ?_
                go_wp2_with fail
                refine (place_is r4 m.b 12 _ (by omega) (by omega) WM.out.b HR4.out).mono ?_
                rintro e w' ⟨rfl, hw'⟩
                subst hw'
                go_wp2_with fail
                refine ⟨?_, ?_⟩
                (· exact SF.out _ (by (repeat (first | (with_reducible exact Keeps.refl _ _) | (with_reducible assumption) | ((with_reducible refine Keeps.setCell ?_ ?_ _); rotate_left 1; (· first | (refine .inl ?_; simp; done) | (refine .inr ?_; first | exact Nat.le_refl _ | (simp; done) | (simp; omega) | omega))) | (with_reducible refine Keeps.alloc ?_ _) | (with_reducible refine Keeps.drewN ?_ _) | (with_reducible refine Keeps.drew ?_)))))
                iterate 1 (first | (refine Plan.takeT (v := ?_) (a' := ?_) (Plan.want_all (by rfl)) ?_ ?_ ?_; rotate_left 2; (· (intro w' hS'; (try dsimp only at hS'); go_simp; try with_reducible rfl)); (· (simp only [Act.put, List.setIfInBounds_toArray, List.set_cons_zero, List.set_cons_succ]; try with_reducible rfl))) | fail)
                refine Plan.finT ?_
                refine wpl_fold (fun wx => Keeps [] wr wx ∧ wx.heap[wr.heap.size]? = some (.cells #[.int .i64 0, .int .i64 0, .int .i64 0, .int .i64 0, .int .i64 0, .int .i64 0, .int .i64 0, .bool false, .slice none 0 0, .slice none 0 0] 40 (0, 0))) ?_ ?_
                rotate_left 1
                (· exact GO.out)
                exact ⟨by (repeat (first | (with_reducible exact Keeps.refl _ _) | (with_reducible assumption) | ((with_reducible refine Keeps.setCell ?_ ?_ _); rotate_left 1; (· first | (refine .inl ?_; simp; done) | (refine .inr ?_; first | exact Nat.le_refl _ | (simp; done) | (simp; omega) | omega))) | (with_reducible refine Keeps.alloc ?_ _) | (with_reducible refine Keeps.drewN ?_ _) | (with_reducible refine Keeps.drew ?_))), heap_alloc_new _ _⟩
            · go_wp2_with fail
              refine ⟨?_, ?_⟩
              (· exact SF.out _ (by (repeat (first | (with_reducible exact Keeps.refl _ _) | (with_reducible assumption) | ((with_reducible refine Keeps.setCell ?_ ?_ _); rotate_left 1; (· first | (refine .inl ?_; simp; done) | (refine .inr ?_; first | exact Nat.le_refl _ | (simp; done) | (simp; omega) | omega))) | (with_reducible refine Keeps.alloc ?_ _) | (with_reducible refine Keeps.drewN ?_ _) | (with_reducible refine Keeps.drew ?_)))))
              refine Plan.stepT ?_
              go_wp2_with fail
              refine (place_is r3 m.a 30 _ (by omega) (by omega) WM.out.a HR3.out).mono ?_
              rintro e w' ⟨rfl, hw'⟩
              subst hw'
              go_wp2_with fail
              refine ⟨?_, ?_⟩
              (· exact SF.out _ (by (repeat (first | (with_reducible exact Keeps.refl _ _) | (with_reducible assumption) | ((with_reducible refine Keeps.setCell ?_ ?_ _); rotate_left 1; (· first | (refine .inl ?_; simp; done) | (refine .inr ?_; first | exact Nat.le_refl _ | (simp; done) | (simp; omega) | omega))) | (with_reducible refine Keeps.alloc ?_ _) | (with_reducible refine Keeps.drewN ?_ _) | (with_reducible refine Keeps.drew ?_)))))
              refine Plan.stepT ?_
              go_wp2_with fail
              refine (place_is r4 m.b 12 _ (by omega) (by omega) WM.out.b HR4.out).mono ?_
              rintro e w' ⟨rfl, hw'⟩
              subst hw'
              go_wp2_with fail
              refine ⟨?_, ?_⟩
              (· exact SF.out _ (by (repeat (first | (with_reducible exact Keeps.refl _ _) | (with_reducible assumption) | ((with_reducible refine Keeps.setCell ?_ ?_ _); rotate_left 1; (· first | (refine .inl ?_; simp; done) | (refine .inr ?_; first | exact Nat.le_refl _ | (simp; done) | (simp; omega) | omega))) | (with_reducible refine Keeps.alloc ?_ _) | (with_reducible refine Keeps.drewN ?_ _) | (with_reducible refine Keeps.drew ?_)))))
              iterate 1 (first | (refine Plan.takeT (v := ?_) (a' := ?_) (Plan.want_all (by rfl)) ?_ ?_ ?_; rotate_left 2; (· (intro w' hS'; (try dsimp only at hS'); go_simp; try with_reducible rfl)); (· (simp only [Act.put, List.setIfInBounds_toArray, List.set_cons_zero, List.set_cons_succ]; try with_reducible rfl))) | fail)
              refine Plan.finT ?_
              refine wpl_fold (fun wx => Keeps [] wr wx ∧ wx.heap[wr.heap.size]? = some (.cells #[.int .i64 0, .int .i64 0, .int .i64 0, .int .i64 0, .int .i64 0, .int .i64 0, .int .i64 0, .bool false, .slice none 0 0, .slice none 0 0] 40 (0, 0))) ?_ ?_
              rotate_left 1
              (· exact GO.out)
              exact ⟨by (repeat (first | (with_reducible exact Keeps.refl _ _) | (with_reducible assumption) | ((with_reducible refine Keeps.setCell ?_ ?_ _); rotate_left 1; (· first | (refine .inl ?_; simp; done) | (refine .inr ?_; first | exact Nat.le_refl _ | (simp; done) | (simp; omega) | omega))) | (with_reducible refine Keeps.alloc ?_ _) | (with_reducible refine Keeps.drewN ?_ _) | (with_reducible refine Keeps.drew ?_))), heap_alloc_new _ _⟩
          · go_wp2_with fail
            refine ⟨?_, ?_⟩
            (· exact SF.out _ (by (repeat (first | (with_reducible exact Keeps.refl _ _) | (with_reducible assumption) | ((with_reducible refine Keeps.setCell ?_ ?_ _); rotate_left 1; (· first | (refine .inl ?_; simp; done) | (refine .inr ?_; first | exact Nat.le_refl _ | (simp; done) | (simp; omega) | omega))) | (with_reducible refine Keeps.alloc ?_ _) | (with_reducible refine Keeps.drewN ?_ _) | (with_reducible refine Keeps.drew ?_)))))
            refine Plan.stepT ?_
            go_wp2_with fail
            refine (place_is r2 m.term 60 _ (by omega) (by omega) WM.out.term HR2.out).mono ?_
            rintro e w' ⟨rfl, hw'⟩
            subst hw'
            go_wp2_with fail
            refine ⟨?_, ?_⟩
            (· exact SF.out _ (by (repeat (first | (with_reducible exact Keeps.refl _ _) | (with_reducible assumption) | ((with_reducible refine Keeps.setCell ?_ ?_ _); rotate_left 1; (· first | (refine .inl ?_; simp; done) | (refine .inr ?_; first | exact Nat.le_refl _ | (simp; done) | (simp; omega) | omega))) | (with_reducible refine Keeps.alloc ?_ _) | (with_reducible refine Keeps.drewN ?_ _) | (with_reducible refine Keeps.drew ?_)))))
            iterate 1 (first | (refine Plan.takeT (v := ?_) (a' := ?_) (Plan.want_all (by rfl)) ?_ ?_ ?_; rotate_left 2; (· (intro w' hS'; (try dsimp only at hS'); go_simp; try with_reducible rfl)); (· (simp only [Act.put, List.setIfInBounds_toArray, List.set_cons_zero, List.set_cons_succ]; try with_reducible rfl))) | fail)
            refine Plan.stepT ?_
            go_wp2_with fail
            refine (place_is r3 m.a 30 _ (by omega) (by omega) WM.out.a HR3.out).mono ?_
            rintro e w' ⟨rfl, hw'⟩
            subst hw'
            go_wp2_with fail
            refine ⟨?_, ?_⟩
            (· exact SF.out _ (by (repeat (first | (with_reducible exact Keeps.refl _ _) | (with_reducible assumption) | ((with_reducible refine Keeps.setCell ?_ ?_ _); rotate_left 1; (· first | (refine .inl ?_; simp; done) | (refine .inr ?_; first | exact Nat.le_refl _ | (simp; done) | (simp; omega) | omega))) | (with_reducible refine Keeps.alloc ?_ _) | (with_reducible refine Keeps.drewN ?_ _) | (with_reducible refine Keeps.drew ?_)))))
            refine Plan.stepT ?_
            go_wp2_with fail
            refine (place_is r4 m.b 12 _ (by omega) (by omega) WM.out.b HR4.out).mono ?_
            rintro e w' ⟨rfl, hw'⟩
            subst hw'
            go_wp2_with fail
            refine ⟨?_, ?_⟩
            (· exact SF.out _ (by (repeat (first | (with_reducible exact Keeps.refl _ _) | (with_reducible assumption) | ((with_reducible refine Keeps.setCell ?_ ?_ _); rotate_left 1; (· first | (refine .inl ?_; simp; done) | (refine .inr ?_; first | exact Nat.le_refl _ | (simp; done) | (simp; omega) | omega))) | (with_reducible refine Keeps.alloc ?_ _) | (with_reducible refine Keeps.drewN ?_ _) | (with_reducible refine Keeps.drew ?_)))))
            iterate 1 (first | (refine Plan.takeT (v := ?_) (a' := ?_) (Plan.want_all (by rfl)) ?_ ?_ ?_; rotate_left 2; (· (intro w' hS'; (try dsimp only at hS'); go_simp; try with_reducible rfl)); (· (simp only [Act.put, List.setIfInBounds_toArray, List.set_cons_zero, List.set_cons_succ]; try with_reducible rfl))) | fail)
            refine Plan.finT ?_
            refine wpl_fold (fun wx => Keeps [] wr wx ∧ wx.heap[wr.heap.size]? = some (.cells #[.int .i64 0, .int .i64 0, .int .i64 0, .int .i64 0, .int .i64 0, .int .i64 0, .int .i64 0, .bool false, .slice none 0 0, .slice none 0 0] 40 (0, 0))) ?_ ?_
            rotate_left 1
            (· exact GO.out)
            exact ⟨by (repeat (first | (with_reducible exact Keeps.refl _ _) | (with_reducible assumption) | ((with_reducible refine Keeps.setCell ?_ ?_ _); rotate_left 1; (· first | (refine .inl ?_; simp; done) | (refine .inr ?_; first | exact Nat.le_refl _ | (simp; done) | (simp; omega) | omega))) | (with_reducible refine Keeps.alloc ?_ _) | (with_reducible refine Keeps.drewN ?_ _) | (with_reducible refine Keeps.drew ?_))), heap_alloc_new _ _⟩
        · go_wp2_with fail
          refine ⟨?_, ?_⟩
          (· exact SF.out _ (by (repeat (first | (with_reducible exact Keeps.refl _ _) | (with_reducible assumption) | ((with_reducible refine Keeps.setCell ?_ ?_ _); rotate_left 1; (· first | (refine .inl ?_; simp; done) | (refine .inr ?_; first | exact Nat.le_refl _ | (simp; done) | (simp; omega) | omega))) | (with_reducible refine Keeps.alloc ?_ _) | (with_reducible refine Keeps.drewN ?_ _) | (with_reducible refine Keeps.drew ?_)))))
          refine Plan.stepT ?_
          go_wp2_with fail
          refine (place_is r1 m.frm pm _ (by omega) (by omega) WM.out.frm HR1.out).mono ?_
          rintro e w' ⟨rfl, hw'⟩
          subst hw'
          go_wp2_with fail
          refine ⟨?_, ?_⟩
          (· exact SF.out _ (by (repeat (first | (with_reducible exact Keeps.refl _ _) | (with_reducible assumption) | ((with_reducible refine Keeps.setCell ?_ ?_ _); rotate_left 1; (· first | (refine .inl ?_; simp; done) | (refine .inr ?_; first | exact Nat.le_refl _ | (simp; done) | (simp; omega) | omega))) | (with_reducible refine Keeps.alloc ?_ _) | (with_reducible refine Keeps.drewN ?_ _) | (with_reducible refine Keeps.drew ?_)))))
          iterate 1 (first | (refine Plan.takeT (v := ?_) (a' := ?_) (Plan.want_all (by rfl)) ?_ ?_ ?_; rotate_left 2; (· (intro w' hS'; (try dsimp only at hS'); go_simp; try with_reducible rfl)); (· (simp only [Act.put, List.setIfInBounds_toArray, List.set_cons_zero, List.set_cons_succ]; try with_reducible rfl))) | fail)
          refine Plan.stepT ?_
          go_wp2_with fail
          refine (place_is r2 m.term 60 _ (by omega) (by omega) WM.out.term HR2.out).mono ?_
          rintro e w' ⟨rfl, hw'⟩
          subst hw'
          go_wp2_with fail
          refine ⟨?_, ?_⟩
          (· exact SF.out _ (by (repeat (first | (with_reducible exact Keeps.refl _ _) | (with_reducible assumption) | ((with_reducible refine Keeps.setCell ?_ ?_ _); rotate_left 1; (· first | (refine .inl ?_; simp; done) | (refine .inr ?_; first | exact Nat.le_refl _ | (simp; done) | (simp; omega) | omega))) | (with_reducible refine Keeps.alloc ?_ _) | (with_reducible refine Keeps.drewN ?_ _) | (with_reducible refine Keeps.drew ?_)))))
          iterate 1 (first | (refine Plan.takeT (v := ?_) (a' := ?_) (Plan.want_all (by rfl)) ?_ ?_ ?_; rotate_left 2; (· (intro w' hS'; (try dsimp only at hS'); go_simp; try with_reducible rfl)); (· (simp only [Act.put, List.setIfInBounds_toArray, List.set_cons_zero, List.set_cons_succ]; try with_reducible rfl))) | fail)
          refine Plan.stepT ?_
          go_wp2_with fail
          refine (place_is r3 m.a 30 _ (by omega) (by omega) WM.out.a HR3.out).mono ?_
          rintro e w' ⟨rfl, hw'⟩
          subst hw'
          go_wp2_with fail
          refine ⟨?_, ?_⟩
          (· exact SF.out _ (by (repeat (first | (with_reducible exact Keeps.refl _ _) | (with_reducible assumption) | ((with_reducible refine Keeps.setCell ?_ ?_ _); rotate_left 1; (· first | (refine .inl ?_; simp; done) | (refine .inr ?_; first | exact Nat.le_refl _ | (simp; done) | (simp; omega) | omega))) | (with_reducible refine Keeps.alloc ?_ _) | (with_reducible refine Keeps.drewN ?_ _) | (with_reducible refine Keeps.drew ?_)))))
          refine Plan.stepT ?_
          go_wp2_with fail
          refine (place_is r4 m.b 12 _ (by omega) (by omega) WM.out.b HR4.out).mono ?_
          rintro e w' ⟨rfl, hw'⟩
          subst hw'
          go_wp2_with fail
          refine ⟨?_, ?_⟩
          (· exact SF.out _ (by (repeat (first | (with_reducible exact Keeps.refl _ _) | (with_reducible assumption) | ((with_reducible refine Keeps.setCell ?_ ?_ _); rotate_left 1; (· first | (refine .inl ?_; simp; done) | (refine .inr ?_; first | exact Nat.le_refl _ | (simp; done) | (simp; omega) | omega))) | (with_reducible refine Keeps.alloc ?_ _) | (with_reducible refine Keeps.drewN ?_ _) | (with_reducible refine Keeps.drew ?_)))))
          iterate 1 (first | (refine Plan.takeT (v := ?_) (a' := ?_) (Plan.want_all (by rfl)) ?_ ?_ ?_; rotate_left 2; (· (intro w' hS'; (try dsimp only at hS'); go_simp; try with_reducible rfl)); (· (simp only [Act.put, List.setIfInBounds_toArray, List.set_cons_zero, List.set_cons_succ]; try with_reducible rfl))) | fail)
          refine Plan.finT ?_
          refine wpl_fold (fun wx => Keeps [] wr wx ∧ wx.heap[wr.heap.size]? = some (.cells #[.int .i64 0, .int .i64 0, .int .i64 0, .int .i64 0, .int .i64 0, .int .i64 0, .int .i64 0, .bool false, .slice none 0 0, .slice none 0 0] 40 (0, 0))) ?_ ?_
          rotate_left 1
          (· exact GO.out)
          exact ⟨by (repeat (first | (with_reducible exact Keeps.refl _ _) | (with_reducible assumption) | ((with_reducible refine Keeps.setCell ?_ ?_ _); rotate_left 1; (· first | (refine .inl ?_; simp; done) | (refine .inr ?_; first | exact Nat.le_refl _ | (simp; done) | (simp; omega) | omega))) | (with_reducible refine Keeps.alloc ?_ _) | (with_reducible refine Keeps.drewN ?_ _) | (with_reducible refine Keeps.drew ?_))), heap_alloc_new _ _⟩
      · rintro wx ⟨kx, bx⟩
        obtain ⟨⟨c0, c1, c2, c3, c4, c5, c6, c7, c8, c9⟩, fx⟩ := blk10 bx
        have hxl : wr.heap.size < wx.heap.size := World.block_lt_of_cell? _ _ c0
        have KX := hid kx
        have NB : Hid (wr.heap.size ∉ n :: ownB lv) := fun h => by have := (C0.out.lt _ h).2; omega
        have HG7 : Hid (∃ w7, w7 = ((((((((((wx.setCell ⟨wr.heap.size, 0, none⟩ (.int .i64 1)).setCell ⟨wr.heap.size, 1, none⟩ (.int .i64 f)).setCell ⟨wr.heap.size, 2, none⟩ (.int .i64 1)).setCell ⟨wr.heap.size, 3, none⟩ (.int .i64 tm)).setCell ⟨wr.heap.size, 4, none⟩ (.int .i64 r3)).setCell ⟨wr.heap.size, 5, none⟩ (.int .i64 r4)).setCell ⟨wr.heap.size, 6, none⟩ (.int .i64 0)).setCell ⟨wr.heap.size, 7, none⟩ (.bool false)).setCell ⟨wr.heap.size, 8, none⟩ (.slice none 0 0)).setCell ⟨wr.heap.size, 9, none⟩ (.slice none 0 0)) ∧ Keeps [] wr w7 ∧ w7.cell? ⟨wr.heap.size, 1, none⟩ = some (.int .i64 f) ∧ w7.cell? ⟨wr.heap.size, 3, none⟩ = some (.int .i64 tm) ∧ w7.cell? ⟨wr.heap.size, 4, none⟩ = some (.int .i64 r3) ∧ w7.cell? ⟨wr.heap.size, 5, none⟩ = some (.int .i64 r4)) :=
          ⟨_, rfl, by (repeat (first | (with_reducible exact Keeps.refl _ _) | (with_reducible assumption) | ((with_reducible refine Keeps.setCell ?_ ?_ _); rotate_left 1; (· first | (refine .inl ?_; simp; done) | (refine .inr ?_; first | exact Nat.le_refl _ | (simp; done) | (simp; omega) | omega))) | (with_reducible refine Keeps.alloc ?_ _) | (with_reducible refine Keeps.drewN ?_ _) | (with_reducible refine Keeps.drew ?_))), by go_simp, by go_simp, by go_simp, by go_simp⟩
        obtain ⟨c', ok, hh, hle, hno, hyes⟩ := vote_heard I0.out ⟨f0, f1⟩ ⟨t0, t1⟩ ⟨a0', a1'⟩ ⟨b0', b1'⟩
        have HRI := hid (vote_right I0.out ⟨f0, f1⟩ ⟨t0, t1⟩ ⟨a0', a1'⟩ ⟨b0', b1'⟩)
        have HH := hid hh
        have HNO := hid hno
        have HYES := hid hyes
        have gle : decide (c'.term < tm) = false := by simpa using hle
        have hi1 : 0 ≤ c'.term := by omega
        have ZB0 := hid zb
        clear kx bx hh hno hyes hle y1 y3 y4 y5 zb SF wr1 wr2 wr3
        rcases ok with _ | _
        · go_wp2_with fail
          obtain ⟨w7, hw7, hk7, e1, e3, e4, e5⟩ := HG7.out
          rw [← hw7]
          have K7 := hid hk7
          have hz7 : wr.heap.size < w7.heap.size := World.block_lt_of_cell? _ _ e1
          clear hw7 hk7 c0 c1 c2 c3 c4 c5 c6 c7 c8 c9 fx HG7
          refine (hear_1 w7 w.heap.size n c _ lv sv (voteAsk f tm r3 r4) none none 0 0 (C0.out.k K7.out) (ListAt.nil _ _ _ _) (BytesAt.nil _ _ _ _) HRI.out rfl rfl).mono ?_
          rintro e w8 hp
          rw [HH.out] at hp
          obtain ⟨a, q, lv', sv', rfl, hc', hms, hk8, hv8⟩ := hp
          have hls := hms.list
          obtain ⟨g2, off2, q2, ha2, _, _, _, _⟩ := hls.addr (by simp)
          simp at ha2
          obtain ⟨ha2, hq2⟩ := ha2
          subst ha2
          subst hq2
          obtain ⟨cs2, ⟨ev2, dv2, rfl, _⟩, hcs2⟩ := hls.get (i := 0) rfl
          have m0 : w8.cell? ⟨g2, off2, none⟩ = some (.int .i64 2) := hcs2 0 _ rfl
          have m2 : w8.cell? ⟨g2, off2 + 2, none⟩ = some (.int .i64 f) := hcs2 2 _ rfl
          have m3 : w8.cell? ⟨g2, off2 + 3, none⟩ = some (.int .i64 c'.term) := hcs2 3 _ rfl
          have m7 : w8.cell? ⟨g2, off2 + 7, none⟩ = some (.bool false) := hcs2 7 _ rfl
          have b1 := hk8.cellSome e1 NB.out
          have b3 := hk8.cellSome e3 NB.out
          have b4 := hk8.cellSome e4 NB.out
          have b5 := hk8.cellSome e5 NB.out
          have ZB : Hid (w8.cell? ⟨cb, 0, none⟩ = some (.int .i64 p)) := hk8.cellSome (K7.out.cellSome ZB0.out (by simp)) N2.out
          have BW : Hid (w8.heap[wb]? = some (.cells (ints who).toArray 43 (0, 0))) := (hk8.block wb (Nat.lt_of_lt_of_le (Array.getElem?_eq_some_iff.1 B0.out).1 K7.out.size) N1.out).trans ((K7.out.block wb (Array.getElem?_eq_some_iff.1 B0.out).1 (by simp)).trans B0.out)
          have K8 : Hid (Keeps [] w w8) := (KW.out.trans K7.out (fun _ _ h => h)).trans hk8 (fun b hb hb' => by have := (C0.out.lt _ hb').1; omega)
          have HN : Hid (wb ∉ n :: ownB lv' ∧ cb ∉ n :: ownB lv') := by
            have x1 := (Array.getElem?_eq_some_iff.1 B0.out).1
            have x2 := K7.out.size
            have x3 := World.block_lt_of_cell? _ _ ZB0.out
            have x4 : cb < wr.heap.size := x3
            refine ⟨fun hb => ?_, fun hb => ?_⟩ <;> rcases List.mem_cons.1 hb with hb | hb
            · exact N1.out (by rw [hb]; simp)
            · rcases hv8 _ hb with hb | hb
              · exact N1.out (List.mem_cons_of_mem _ hb)
              · omega
            · exact N2.out (by rw [hb]; simp)
            · rcases hv8 _ hb with hb | hb
              · exact N2.out (List.mem_cons_of_mem _ hb)
              · omega
          have C8 : Hid (CoreAt w8 w.heap.size n c' lv' sv') := hc'
          have hz8 : w7.heap.size ≤ w8.heap.size := hk8.size
          clear hc' hms hls hcs2 hk8 hv8 e1 e3 e4 e5
          go_wp2_with fail
          go_quiet (fail)
          go_wp2_with fail
          go_roundw
          case rel => exact ⟨k + 1, by omega, by omega, by go_num, ZB.out, ⟨c', lv', sv', who, C8.out.k ((Keeps.refl [] _).drewN _), BW.out, HNO.out (by first | trivial | rfl), K8.out.drewN _, HN.out.1, HN.out.2⟩⟩
          case measure => simp [intOf]; omega
        · obtain ⟨htm', hvo, hwv, hin', hlb, hla⟩ := HYES.out rfl
          have HIN := hid hin'
          have HVO := hid hvo
          have htc := hid htm'
          obtain ⟨wv, hwvd⟩ : ∃ v, who.getD tm.toNat 0 = v := ⟨_, rfl⟩
          rw [hwvd] at hwv
          have HWV := hid hwvd
          obtain ⟨LL, hLL⟩ : ∃ v, lastD c' = v := ⟨_, rfl⟩
          rw [hLL] at hlb hla
          obtain ⟨TT, okT, hTT⟩ : ∃ v o, atD c' LL = (v, o) := ⟨_, _, rfl⟩
          rw [hTT] at hlb hla
          have HLL := hid hLL
          have HTT := hid hTT
          have gb : decide (r4 < TT) = false := by simpa using hlb
          have HLA := hid hla
          clear htm' hvo hin' hwvd hLL hTT hlb hla
          go_wp2_with fail
          obtain ⟨w7, hw7, hk7, e1, e3, e4, e5⟩ := HG7.out
          rw [← hw7]
          have K7 := hid hk7
          have hz7 : wr.heap.size < w7.heap.size := World.block_lt_of_cell? _ _ e1
          clear hw7 hk7 c0 c1 c2 c3 c4 c5 c6 c7 c8 c9 fx HG7
          refine (hear_1 w7 w.heap.size n c _ lv sv (voteAsk f tm r3 r4) none none 0 0 (C0.out.k K7.out) (ListAt.nil _ _ _ _) (BytesAt.nil _ _ _ _) HRI.out rfl rfl).mono ?_
          rintro e w8 hp
          rw [HH.out] at hp
          obtain ⟨a, q, lv', sv', rfl, hc', hms, hk8, hv8⟩ := hp
          have hls := hms.list
          obtain ⟨g2, off2, q2, ha2, _, _, _, _⟩ := hls.addr (by simp)
          simp at ha2
          obtain ⟨ha2, hq2⟩ := ha2
          subst ha2
          subst hq2
          obtain ⟨cs2, ⟨ev2, dv2, rfl, _⟩, hcs2⟩ := hls.get (i := 0) rfl
          have m0 : w8.cell? ⟨g2, off2, none⟩ = some (.int .i64 2) := hcs2 0 _ rfl
          have m2 : w8.cell? ⟨g2, off2 + 2, none⟩ = some (.int .i64 f) := hcs2 2 _ rfl
          have m3 : w8.cell? ⟨g2, off2 + 3, none⟩ = some (.int .i64 tm) := (hcs2 3 _ rfl).trans (by rw [← htc.out]; rfl)
          have m7 : w8.cell? ⟨g2, off2 + 7, none⟩ = some (.bool true) := hcs2 7 _ rfl
          have b1 := hk8.cellSome e1 NB.out
          have b3 := hk8.cellSome e3 NB.out
          have b4 := hk8.cellSome e4 NB.out
          have b5 := hk8.cellSome e5 NB.out
          have ZB : Hid (w8.cell? ⟨cb, 0, none⟩ = some (.int .i64 p)) := hk8.cellSome (K7.out.cellSome ZB0.out (by simp)) N2.out
          have BW : Hid (w8.heap[wb]? = some (.cells (ints who).toArray 43 (0, 0))) := (hk8.block wb (Nat.lt_of_lt_of_le (Array.getElem?_eq_some_iff.1 B0.out).1 K7.out.size) N1.out).trans ((K7.out.block wb (Array.getElem?_eq_some_iff.1 B0.out).1 (by simp)).trans B0.out)
          have K8 : Hid (Keeps [] w w8) := (KW.out.trans K7.out (fun _ _ h => h)).trans hk8 (fun b hb hb' => by have := (C0.out.lt _ hb').1; omega)
          have HN : Hid (wb ∉ n :: ownB lv' ∧ cb ∉ n :: ownB lv') := by
            have x1 := (Array.getElem?_eq_some_iff.1 B0.out).1
            have x2 := K7.out.size
            have x3 := World.block_lt_of_cell? _ _ ZB0.out
            have x4 : cb < wr.heap.size := x3
            refine ⟨fun hb => ?_, fun hb => ?_⟩ <;> rcases List.mem_cons.1 hb with hb | hb
            · exact N1.out (by rw [hb]; simp)
            · rcases hv8 _ hb with hb | hb
              · exact N1.out (List.mem_cons_of_mem _ hb)
              · omega
            · exact N2.out (by rw [hb]; simp)
            · rcases hv8 _ hb with hb | hb
              · exact N2.out (List.mem_cons_of_mem _ hb)
              · omega
          have C8 : Hid (CoreAt w8 w.heap.size n c' lv' sv') := hc'
          have hz8 : w7.heap.size ≤ w8.heap.size := hk8.size
          clear hc' hms hls hcs2 hk8 hv8 e1 e3 e4 e5
          have hTN : Hid (tm.toNat < 64) := by show _ < _; omega
          have bw : w8.cell? ⟨wb, tm.toNat, none⟩ = some (.int .i64 wv) := by
            have h1 := cell_of_block BW.out tm.toNat
            rw [h1, ← HWV.out]
            have := HIN.out.len
            have := hTN.out
            simp at this
            have h2 : tm.toNat < who.length := by have := I0.out.len; omega
            simp [ints, List.getD, h2]
          have bwf : w8.frozen? ⟨wb, tm.toNat, none⟩ = false := frozen_of_row w8 wb tm.toNat _ _ BW.out
          have hwl8 : wb < w8.heap.size := World.block_lt_of_cell? _ _ bw
          have hLB := lastD_bd C8.out
          rw [HLL.out] at hLB
          obtain ⟨L0, L1⟩ := hLB
          have HD8 : Hid (∀ kk, ∃ w9, w9 = (w8.drewN kk).setCell ⟨wb, tm.toNat, none⟩ (.int .i64 f) ∧ CoreAt w9 w.heap.size n c' lv' sv' ∧ w9.heap[wb]? = some (.cells (ints (who.set tm.toNat f)).toArray 43 (0, 0)) ∧ Keeps [] w w9 ∧ Keeps [wb] w8 w9) := fun kk => by
            have k9 : Keeps [wb] w8 ((w8.drewN kk).setCell ⟨wb, tm.toNat, none⟩ (.int .i64 f)) := ((Keeps.refl _ _).drewN _).setCell (.inl (by simp)) _
            refine ⟨_, rfl, C8.out.keepB k9 (fun h => HN.out.1 (by simp at h; rw [h]; simp)) (fun b hb h => HN.out.1 (by simp at h; rw [← h]; exact List.mem_cons_of_mem _ hb)) ?_, ?_, K8.out.trans k9 (fun b h1 h2 => by simp at h2; have := HWB.out; omega), k9⟩
            · exact fun b hb => .inr (.inl (by rw [HIN.out.ban]; simp at hb; exact .inr hb))
            · rw [heap_setCell_same (w8.drewN kk) wb tm.toNat _ _ (.int .i64 f) BW.out, ← ints_set]; simp
          have gt : decide (64 ≤ tm) = false := by simp; omega
          have t64 : tm < 64 := by omega
          have t00 : 0 ≤ tm := by omega
          have tn64 : tm.toNat < 64 := by omega
          have gf : (f != 0) = true := by simp; omega
          have hbw : wr.heap.size ≠ wb := fun h => by have := (Array.getElem?_eq_some_iff.1 B0.out).1; omega
          have hzz : wr.heap.size < w8.heap.size := World.block_lt_of_cell? _ _ b1
          go_wp2_with fail
          go_quiet (fail)
          go_wp2_with fail
          rcases hwv with hwv | hwv
          · have gw : (wv != 0) = false := by simp [hwv]
            clear hwv
            refine Plan.wp_region_plan (fun wx => wx.cell? ⟨wr.heap.size, 1, none⟩ = some (.int .i64 f) ∧ wx.cell? ⟨wr.heap.size, 3, none⟩ = some (.int .i64 tm) ∧ wx.cell? ⟨wb, tm.toNat, none⟩ = some (.int .i64 wv)) 27 [(true, 0), (true, 1), (true, 2), (true, 3), (true, 4), (true, 5), (true, 6), (true, 7), (true, 8), (true, 9), (true, 10), (true, 11), (true, 12), (true, 13), (true, 14), (true, 15), (true, 16), (true, 17), (true, 18), (true, 19), (true, 20), (true, 21), (true, 22), (true, 23), (true, 25), (true, 26), (false, 24)] (by kernel_rfl) (by as_aux_lemma => kernel_rfl) (by kernel_rfl) (fun _ _ _ _ _ h => h) ?_ (fun hS => ?_)
            (· exact ⟨b1, b3, bw⟩)
            simp only [Plan.pick, List.append_eq, List.cons_append, List.nil_append, List.getElem?_cons_zero, List.getElem?_cons_succ, Option.getD_some, List.drop_succ_cons, List.drop_zero]
            iterate 26 (first | (refine Plan.take (v := ?_) (a' := ?_) (Plan.want_all (by rfl)) ?_ ?_ ?_; rotate_left 2; (· (intro w' hS'; (try dsimp only at hS'); go_simp; try with_reducible rfl)); (· (simp only [Act.put, List.setIfInBounds_toArray, List.set_cons_zero, List.set_cons_succ]; try with_reducible rfl))) | (refine Plan.take (v := ?_) (a' := ?_) (Plan.want_yes (by rfl) (by rfl) (by rfl) (by rfl)) ?_ ?_ ?_; rotate_left 2; (· (intro w' hS'; (try dsimp only at hS'); go_simp; try with_reducible rfl)); (· (simp only [Act.put, List.setIfInBounds_toArray, List.set_cons_zero, List.set_cons_succ]; try with_reducible rfl))) | (refine Plan.pass (a' := ?_) (Plan.want_no (by rfl) (by rfl) (by rfl) (by rfl)) ?_ ?_; rotate_left 1; (· (simp only [Act.put, List.setIfInBounds_toArray, List.set_cons_zero, List.set_cons_succ]; try with_reducible rfl))) | (refine Plan.pass (a' := ?_) (Plan.want_un (by rfl) (by rfl) (by rfl) (by rfl)) ?_ ?_; rotate_left 1; (· (simp only [Act.put, List.setIfInBounds_toArray, List.set_cons_zero, List.set_cons_succ]; try with_reducible rfl))) | fail)
            refine Plan.step ?_
            go_wp2_with fail
            refine (cVote_is _ w.heap.size n c' lv' sv' (C8.out.k ?_) f HVO.out).mono ?_
            (· (repeat (first | (with_reducible exact Keeps.refl _ _) | (with_reducible assumption) | ((with_reducible refine Keeps.setCell ?_ ?_ _); rotate_left 1; (· first | (refine .inl ?_; simp; done) | (refine .inr ?_; first | exact Nat.le_refl _ | (simp; done) | (simp; omega) | omega))) | (with_reducible refine Keeps.alloc ?_ _) | (with_reducible refine Keeps.drewN ?_ _) | (with_reducible refine Keeps.drew ?_))))
            rintro e w' ⟨rfl, hw'⟩
            subst hw'
            go_wp2_with fail
            refine ⟨⟨b1, b3, bw⟩, ?_⟩
            refine Plan.fin ?_
            go_wp2_with fail
            obtain ⟨w9, hw9, hc9, hb9, hk9, hk89⟩ := HD8.out (nq + 1)
            rw [← hw9]
            have C9 := hid hc9
            have B9 := hid hb9
            have K9 := hid hk9
            have d4 := hk89.cellSome b4 (by simp; exact hbw)
            have d5 := hk89.cellSome b5 (by simp; exact hbw)
            have ZB9 : Hid (w9.cell? ⟨cb, 0, none⟩ = some (.int .i64 p)) := hk89.cellSome ZB.out (by simp; exact HCW.out)
            have hz9 := hk89.size
            clear hw9 hc9 hb9 hk9 hk89 b1 b3 b4 b5 bw bwf m0 m2 m3 m7 HD8
            refine (cLast_is _ w.heap.size n c' lv' sv' C9.out LL HLL.out).mono ?_
            rintro e w' ⟨rfl, k1, rfl⟩
            go_wp2_with fail
            refine (cAt_is _ w.heap.size n c' lv' sv' (C9.out.k ?_) LL TT okT (by omega) (by omega) HTT.out).mono ?_
            (· (repeat (first | (with_reducible exact Keeps.refl _ _) | (with_reducible assumption) | ((with_reducible refine Keeps.setCell ?_ ?_ _); rotate_left 1; (· first | (refine .inl ?_; simp; done) | (refine .inr ?_; first | exact Nat.le_refl _ | (simp; done) | (simp; omega) | omega))) | (with_reducible refine Keeps.alloc ?_ _) | (with_reducible refine Keeps.drewN ?_ _) | (with_reducible refine Keeps.drew ?_))))
            rintro e w' ⟨rfl, k2, rfl⟩
            go_wp2_with fail
            rcases hbt : (r4 == TT) with _ | _
            rotate_left 1
            have gl : decide (r3 < LL) = false := by have := HLA.out (by simpa using hbt); simpa using this
            rotate_left 1
            all_goals
              refine Plan.wp_region_plan (fun wx => wx.cell? ⟨wr.heap.size, 4, none⟩ = some (.int .i64 r3) ∧ wx.cell? ⟨wr.heap.size, 5, none⟩ = some (.int .i64 r4)) 14 [(true, 0), (true, 1), (true, 2), (true, 3), (true, 4), (true, 5), (true, 6), (true, 7), (true, 8), (true, 9), (true, 10), (true, 11), (true, 12), (false, 13)] (by kernel_rfl) (by as_aux_lemma => kernel_rfl) (by kernel_rfl) (fun _ _ _ _ _ h => h) ?_ (fun hS => ?_)
              (· exact ⟨d4, d5⟩)
              simp only [Plan.pick, List.append_eq, List.cons_append, List.nil_append, List.getElem?_cons_zero, List.getElem?_cons_succ, Option.getD_some, List.drop_succ_cons, List.drop_zero]
              iterate 13 (first | (refine Plan.take (v := ?_) (a' := ?_) (Plan.want_all (by rfl)) ?_ ?_ ?_; rotate_left 2; (· (intro w' hS'; (try dsimp only at hS'); go_simp; try with_reducible rfl)); (· (simp only [Act.put, List.setIfInBounds_toArray, List.set_cons_zero, List.set_cons_succ]; try with_reducible rfl))) | (refine Plan.take (v := ?_) (a' := ?_) (Plan.want_yes (by rfl) (by rfl) (by rfl) (by rfl)) ?_ ?_ ?_; rotate_left 2; (· (intro w' hS'; (try dsimp only at hS'); go_simp; try with_reducible rfl)); (· (simp only [Act.put, List.setIfInBounds_toArray, List.set_cons_zero, List.set_cons_succ]; try with_reducible rfl))) | (refine Plan.pass (a' := ?_) (Plan.want_no (by rfl) (by rfl) (by rfl) (by rfl)) ?_ ?_; rotate_left 1; (· (simp only [Act.put, List.setIfInBounds_toArray, List.set_cons_zero, List.set_cons_succ]; try with_reducible rfl))) | (refine Plan.pass (a' := ?_) (Plan.want_un (by rfl) (by rfl) (by rfl) (by rfl)) ?_ ?_; rotate_left 1; (· (simp only [Act.put, List.setIfInBounds_toArray, List.set_cons_zero, List.set_cons_succ]; try with_reducible rfl))) | fail)
              refine Plan.step ?_
              go_wp2_with fail
              first
                | (refine (cLast_is _ w.heap.size n c' lv' sv' (C9.out.k ?_) LL HLL.out).mono ?_
                   (· (repeat (first | (with_reducible exact Keeps.refl _ _) | (with_reducible assumption) | ((with_reducible refine Keeps.setCell ?_ ?_ _); rotate_left 1; (· first | (refine .inl ?_; simp; done) | (refine .inr ?_; first | exact Nat.le_refl _ | (simp; done) | (simp; omega) | omega))) | (with_reducible refine Keeps.alloc ?_ _) | (with_reducible refine Keeps.drewN ?_ _) | (with_reducible refine Keeps.drew ?_))))
                   rintro e w' ⟨rfl, k3, rfl⟩
                   go_wp2_with fail)
                | skip
              refine ⟨⟨d4, d5⟩, ?_⟩
              refine Plan.fin ?_
              go_wp2_with fail
              go_roundw
              case rel => exact ⟨k + 1, by omega, by omega, by go_num, ZB9.out, ⟨c', lv', sv', who.set tm.toNat f, C9.out.k (by (repeat (first | (with_reducible exact Keeps.refl _ _) | (with_reducible assumption) | ((with_reducible refine Keeps.setCell ?_ ?_ _); rotate_left 1; (· first | (refine .inl ?_; simp; done) | (refine .inr ?_; first | exact Nat.le_refl _ | (simp; done) | (simp; omega) | omega))) | (with_reducible refine Keeps.alloc ?_ _) | (with_reducible refine Keeps.drewN ?_ _) | (with_reducible refine Keeps.drew ?_)))), B9.out, HIN.out, Keeps.trans K9.out (by (repeat (first | (with_reducible exact Keeps.refl _ _) | (with_reducible assumption) | ((with_reducible refine Keeps.setCell ?_ ?_ _); rotate_left 1; (· first | (refine .inl ?_; simp; done) | (refine .inr ?_; first | exact Nat.le_refl _ | (simp; done) | (simp; omega) | omega))) | (with_reducible refine Keeps.alloc ?_ _) | (with_reducible refine Keeps.drewN ?_ _) | (with_reducible refine Keeps.drew ?_)))) (fun _ _ h => h), HN.out.1, HN.out.2⟩⟩
              case measure => simp [intOf]; omega
          · have gw : (wv != 0) = true := by rw [hwv]; exact gf
            have gw2 : (wv != f) = false := by simp [hwv]
            clear hwv
            refine Plan.wp_region_plan (fun wx => wx.cell? ⟨wr.heap.size, 1, none⟩ = some (.int .i64 f) ∧ wx.cell? ⟨wr.heap.size, 3, none⟩ = some (.int .i64 tm) ∧ wx.cell? ⟨wb, tm.toNat, none⟩ = some (.int .i64 wv)) 27 [(true, 0), (true, 1), (true, 2), (true, 3), (true, 4), (true, 5), (true, 6), (true, 7), (true, 8), (true, 9), (true, 10), (true, 11), (true, 12), (true, 13), (true, 14), (true, 15), (true, 16), (true, 17), (true, 18), (true, 19), (true, 20), (true, 21), (true, 22), (true, 23), (true, 25), (true, 26), (false, 24)] (by kernel_rfl) (by as_aux_lemma => kernel_rfl) (by kernel_rfl) (fun _ _ _ _ _ h => h) ?_ (fun hS => ?_)
            (· exact ⟨b1, b3, bw⟩)
            simp only [Plan.pick, List.append_eq, List.cons_append, List.nil_append, List.getElem?_cons_zero, List.getElem?_cons_succ, Option.getD_some, List.drop_succ_cons, List.drop_zero]
            iterate 26 (first | (refine Plan.take (v := ?_) (a' := ?_) (Plan.want_all (by rfl)) ?_ ?_ ?_; rotate_left 2; (· (intro w' hS'; (try dsimp only at hS'); go_simp; try with_reducible rfl)); (· (simp only [Act.put, List.setIfInBounds_toArray, List.set_cons_zero, List.set_cons_succ]; try with_reducible rfl))) | (refine Plan.take (v := ?_) (a' := ?_) (Plan.want_yes (by rfl) (by rfl) (by rfl) (by rfl)) ?_ ?_ ?_; rotate_left 2; (· (intro w' hS'; (try dsimp only at hS'); go_simp; try with_reducible rfl)); (· (simp only [Act.put, List.setIfInBounds_toArray, List.set_cons_zero, List.set_cons_succ]; try with_reducible rfl))) | (refine Plan.pass (a' := ?_) (Plan.want_no (by rfl) (by rfl) (by rfl) (by rfl)) ?_ ?_; rotate_left 1; (· (simp only [Act.put, List.setIfInBounds_toArray, List.set_cons_zero, List.set_cons_succ]; try with_reducible rfl))) | (refine Plan.pass (a' := ?_) (Plan.want_un (by rfl) (by rfl) (by rfl) (by rfl)) ?_ ?_; rotate_left 1; (· (simp only [Act.put, List.setIfInBounds_toArray, List.set_cons_zero, List.set_cons_succ]; try with_reducible rfl))) | fail)
            refine Plan.step ?_
            go_wp2_with fail
            refine (cVote_is _ w.heap.size n c' lv' sv' (C8.out.k ?_) f HVO.out).mono ?_
            (· (repeat (first | (with_reducible exact Keeps.refl _ _) | (with_reducible assumption) | ((with_reducible refine Keeps.setCell ?_ ?_ _); rotate_left 1; (· first | (refine .inl ?_; simp; done) | (refine .inr ?_; first | exact Nat.le_refl _ | (simp; done) | (simp; omega) | omega))) | (with_reducible refine Keeps.alloc ?_ _) | (with_reducible refine Keeps.drewN ?_ _) | (with_reducible refine Keeps.drew ?_))))
            rintro e w' ⟨rfl, hw'⟩
            subst hw'
            go_wp2_with fail
            refine ⟨⟨b1, b3, bw⟩, ?_⟩
            refine Plan.fin ?_
            go_wp2_with fail
            obtain ⟨w9, hw9, hc9, hb9, hk9, hk89⟩ := HD8.out (nq + 1)
            rw [← hw9]
            have C9 := hid hc9
            have B9 := hid hb9
            have K9 := hid hk9
            have d4 := hk89.cellSome b4 (by simp; exact hbw)
            have d5 := hk89.cellSome b5 (by simp; exact hbw)
            have ZB9 : Hid (w9.cell? ⟨cb, 0, none⟩ = some (.int .i64 p)) := hk89.cellSome ZB.out (by simp; exact HCW.out)
            have hz9 := hk89.size
            clear hw9 hc9 hb9 hk9 hk89 b1 b3 b4 b5 bw bwf m0 m2 m3 m7 HD8
            refine (cLast_is _ w.heap.size n c' lv' sv' C9.out LL HLL.out).mono ?_
            rintro e w' ⟨rfl, k1, rfl⟩
            go_wp2_with fail
            refine (cAt_is _ w.heap.size n c' lv' sv' (C9.out.k ?_) LL TT okT (by omega) (by omega) HTT.out).mono ?_
            (· (repeat (first | (with_reducible exact Keeps.refl _ _) | (with_reducible assumption) | ((with_reducible refine Keeps.setCell ?_ ?_ _); rotate_left 1; (· first | (refine .inl ?_; simp; done) | (refine .inr ?_; first | exact Nat.le_refl _ | (simp; done) | (simp; omega) | omega))) | (with_reducible refine Keeps.alloc ?_ _) | (with_reducible refine Keeps.drewN ?_ _) | (with_reducible refine Keeps.drew ?_))))
            rintro e w' ⟨rfl, k2, rfl⟩
            go_wp2_with fail
            rcases hbt : (r4 == TT) with _ | _
            rotate_left 1
            have gl : decide (r3 < LL) = false := by have := HLA.out (by simpa using hbt); simpa using this
            rotate_left 1
            all_goals
              refine Plan.wp_region_plan (fun wx => wx.cell? ⟨wr.heap.size, 4, none⟩ = some (.int .i64 r3) ∧ wx.cell? ⟨wr.heap.size, 5, none⟩ = some (.int .i64 r4)) 14 [(true, 0), (true, 1), (true, 2), (true, 3), (true, 4), (true, 5), (true, 6), (true, 7), (true, 8), (true, 9), (true, 10), (true, 11), (true, 12), (false, 13)] (by kernel_rfl) (by as_aux_lemma => kernel_rfl) (by kernel_rfl) (fun _ _ _ _ _ h => h) ?_ (fun hS => ?_)
              (· exact ⟨d4, d5⟩)
              simp only [Plan.pick, List.append_eq, List.cons_append, List.nil_append, List.getElem?_cons_zero, List.getElem?_cons_succ, Option.getD_some, List.drop_succ_cons, List.drop_zero]
              iterate 13 (first | (refine Plan.take (v := ?_) (a' := ?_) (Plan.want_all (by rfl)) ?_ ?_ ?_; rotate_left 2; (· (intro w' hS'; (try dsimp only at hS'); go_simp; try with_reducible rfl)); (· (simp only [Act.put, List.setIfInBounds_toArray, List.set_cons_zero, List.set_cons_succ]; try with_reducible rfl))) | (refine Plan.take (v := ?_) (a' := ?_) (Plan.want_yes (by rfl) (by rfl) (by rfl) (by rfl)) ?_ ?_ ?_; rotate_left 2; (· (intro w' hS'; (try dsimp only at hS'); go_simp; try with_reducible rfl)); (· (simp only [Act.put, List.setIfInBounds_toArray, List.set_cons_zero, List.set_cons_succ]; try with_reducible rfl))) | (refine Plan.pass (a' := ?_) (Plan.want_no (by rfl) (by rfl) (by rfl) (by rfl)) ?_ ?_; rotate_left 1; (· (simp only [Act.put, List.setIfInBounds_toArray, List.set_cons_zero, List.set_cons_succ]; try with_reducible rfl))) | (refine Plan.pass (a' := ?_) (Plan.want_un (by rfl) (by rfl) (by rfl) (by rfl)) ?_ ?_; rotate_left 1; (· (simp only [Act.put, List.setIfInBounds_toArray, List.set_cons_zero, List.set_cons_succ]; try with_reducible rfl))) | fail)
              refine Plan.step ?_
              go_wp2_with fail
              first
                | (refine (cLast_is _ w.heap.size n c' lv' sv' (C9.out.k ?_) LL HLL.out).mono ?_
                   (· (repeat (first | (with_reducible exact Keeps.refl _ _) | (with_reducible assumption) | ((with_reducible refine Keeps.setCell ?_ ?_ _); rotate_left 1; (· first | (refine .inl ?_; simp; done) | (refine .inr ?_; first | exact Nat.le_refl _ | (simp; done) | (simp; omega) | omega))) | (with_reducible refine Keeps.alloc ?_ _) | (with_reducible refine Keeps.drewN ?_ _) | (with_reducible refine Keeps.drew ?_))))
                   rintro e w' ⟨rfl, k3, rfl⟩
                   go_wp2_with fail)
                | skip
              refine ⟨⟨d4, d5⟩, ?_⟩
              refine Plan.fin ?_
              go_wp2_with fail
              go_roundw
              case rel => exact ⟨k + 1, by omega, by omega, by go_num, ZB9.out, ⟨c', lv', sv', who.set tm.toNat f, C9.out.k (by (repeat (first | (with_reducible exact Keeps.refl _ _) | (with_reducible assumption) | ((with_reducible refine Keeps.setCell ?_ ?_ _); rotate_left 1; (· first | (refine .inl ?_; simp; done) | (refine .inr ?_; first | exact Nat.le_refl _ | (simp; done) | (simp; omega) | omega))) | (with_reducible refine Keeps.alloc ?_ _) | (with_reducible refine Keeps.drewN ?_ _) | (with_reducible refine Keeps.drew ?_)))), B9.out, HIN.out, Keeps.trans K9.out (by (repeat (first | (with_reducible exact Keeps.refl _ _) | (with_reducible assumption) | ((with_reducible refine Keeps.setCell ?_ ?_ _); rotate_left 1; (· first | (refine .inl ?_; simp; done) | (refine .inr ?_; first | exact Nat.le_refl _ | (simp; done) | (simp; omega) | omega))) | (with_reducible refine Keeps.alloc ?_ _) | (with_reducible refine Keeps.drewN ?_ _) | (with_reducible refine Keeps.drew ?_)))) (fun _ _ h => h), HN.out.1, HN.out.2⟩⟩
              case measure => simp [intOf]; omega
    · have hge : asks.length ≤ k ∨ k = 60 := by omega
      have KW : Hid (Keeps [] w wr) := by obtain ⟨_, _, _, _, _, _, _, h, _, _⟩ := HW.out; exact h
      clear HW
      rcases hge with hge | hge
      · have i1 : (asks.length : Int) ≤ (k : Int) := by omega
        have i2 : ¬ k < asks.length := by omega
        clear hge hlt
        go_wp2_with fail
        refine (cAwake_any _).mono ?_
        rintro e w9 ⟨rfl, k9⟩
        have K9 : Hid (Keeps [] w w9) := KW.out.trans k9 (fun _ _ h => h)
        clear k9
        go_wp2_with fail
        go_ret
        exact ⟨rfl, K9.out.below (Nat.le_refl _) (fun _ h => by cases h)⟩
      · subst hge
        rcases Nat.lt_or_ge 60 asks.length with hl2 | hl2
        · have i1 : (60 : Int) < (asks.length : Int) := by omega
          clear hlt
          go_wp2_with fail
          refine (cAwake_any _).mono ?_
          rintro e w9 ⟨rfl, k9⟩
          have K9 : Hid (Keeps [] w w9) := KW.out.trans k9 (fun _ _ h => h)
          clear k9
          go_wp2_with fail
          go_ret
          exact ⟨rfl, K9.out.below (Nat.le_refl _) (fun _ h => by cases h)⟩
        · have i1 : (asks.length : Int) ≤ 60 := by omega
          clear hlt
          go_wp2_with fail
          refine (cAwake_any _).mono ?_
          rintro e w9 ⟨rfl, k9⟩
          have K9 : Hid (Keeps [] w w9) := KW.out.trans k9 (fun _ _ h => h)
          clear k9
          go_wp2_with fail
          go_ret
          exact ⟨rfl, K9.out.below (Nat.le_refl _) (fun _ h => by cases h)⟩

end Go.Proofs.Ytpppoajnbhipeaa
