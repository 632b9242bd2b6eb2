/- CoreOld, walked. -/
import Derived.Test.YtpppoajnbhipeaaLeadA
import Derived.Test.YtpppoajnbhipeaaOldA
import Derived.Test.YtpppoajnbhipeaaMsgA
import Derived.Test.YtpppoajnbhipeaaCoreU
namespace Go.Proofs.Ytpppoajnbhipeaa
open Go Go.RowKit

theorem sameEntries_is (l : List Ent) (m : Nat) (hm : l.length = m) (P1 P2 : Nat → Prop) (a1 a2 : Option Addr) (c1 c2 : Nat) (w : World) (h1 : ListAt entL w P1 (.slice a1 m c1) l) (h2 : ListAt entL w P2 (.slice a2 m c2) l) (hl : m ≤ 100000) :
    Calls Try.prog 34 #[.slice a1 m c1, .slice a2 m c2] w fun x w' => x = .returned (.bool true) ∧ Keeps [] w w' := by
  subst hm
  exact sameEntries_any l P1 P2 a1 a2 c1 c2 w h1 h2 hl
theorem cFrom_is (w : World) (B n : Nat) (c : CoreD) (lv sv : Value) (h : CoreAt w B n c lv sv) (i : Int) (l : List Ent) (m : Nat) (hf : fromD c i = l) (hm : l.length = m) (b1 : -4611686018427387904 ≤ i) (b2 : i ≤ 4611686018427387904) :
    Calls Try.prog 28 #[.pointer (some ⟨n, 0, none⟩), .int .i64 i] w fun e w' => ∃ a k, e = .returned (.slice a m k) ∧ ListAt entL w' (fun b => w.heap.size ≤ b ∧ b < w'.heap.size) (.slice a m k) l ∧ Keeps [] w w' := by
  subst hm
  subst hf
  refine (cFrom_any w B n c lv sv h i b1 b2).mono ?_
  rintro e w' ⟨a, k, h1, h2, h3⟩
  exact ⟨a, k, h1, OwnAt.list h2 (fun b hb h => ⟨h.1, hb⟩) (fun b hb => OwnAt.ge h2 b hb), h3⟩
theorem cCommit_is (w : World) (B n : Nat) (c : CoreD) (lv sv : Value) (h : CoreAt w B n c lv sv) (b : Int) (hb : c.commit = b) : Calls Try.prog 30 #[.pointer (some ⟨n, 0, none⟩)] w fun e w' => e = .returned (.int .i64 b) ∧ w' = w := by
  rw [← hb]
  exact cCommit_any w B n c lv sv h
theorem cLeader_is (w : World) (B n : Nat) (c : CoreD) (lv sv : Value) (h : CoreAt w B n c lv sv) (b : Int) (hb : c.leader = b) : Calls Try.prog 33 #[.pointer (some ⟨n, 0, none⟩)] w fun e w' => e = .returned (.int .i64 b) ∧ w' = w := by
  rw [← hb]
  exact cLeader_any w B n c lv sv h

/-- What comes from an elder term turns nothing. -/
theorem elder_heard {c : CoreD} {m : MsgD} (h : m.term < c.term) : (hearD c m).1 = c := by
  have hs : stepD c m = c := by unfold stepD; rw [if_neg (by omega)]
  unfold hearD
  split
  · rfl
  rw [hs]
  unfold heardD
  split
  · have ho : askedOk c m = false := by
      have e : (m.term == c.term) = false := by simp; omega
      unfold askedOk
      rw [e]
      rfl
    show askedC c m = c
    unfold askedC
    rw [ho]
    rfl
  split
  · unfold votedD
    rw [if_pos (.inl (by omega))]
  split
  · unfold appendedD
    rw [if_pos (.inl (by omega))]
  first | rfl | rw [if_pos h]
theorem oldL_terms (ts : List Int) : ∀ e ∈ oldL ts, 1 ≤ e.term ∧ e.term ≤ 5 := fun e he => by
  unfold oldL oldD at he
  obtain ⟨i, _, rfl⟩ := List.mem_map.1 he
  exact oldT_bd ts (i + 1)
theorem oldL_data (ts : List Int) : ∀ e ∈ oldL ts, e.data.length = 1 := fun e he => by
  unfold oldL oldD at he
  obtain ⟨i, _, rfl⟩ := List.mem_map.1 he
  rfl
theorem oldL_len (ts : List Int) : (oldL ts).length ≤ 12 := by
  unfold oldL
  rw [oldD_len]
  omega
theorem oldNew_may (ts : List Int) {p id t : Int} (h : 3 ≤ p ∧ p ≤ 5) (hi : 1 ≤ id ∧ id ≤ p) (ht : 0 ≤ t ∧ t ≤ 1000) : mayNewD (cfL p) id t 0 0 0 (oldL ts) = true := by
  have h1 := oldL_len ts
  have h2 : (cfL p).may = true := by
    rw [ConfD.may_iff]
    unfold cfL
    simp only []
    omega
  simp only [mayNewD, inD, Bool.and_eq_true, decide_eq_true_eq, List.all_eq_true]
  refine ⟨⟨⟨⟨⟨⟨⟨h2, hi.1, hi.2⟩, ?_, ?_⟩, ?_, ?_⟩, ?_, ?_⟩, ?_, ?_⟩, ?_⟩, fun e he => ?_⟩
  all_goals first
    | omega
    | (have := oldL_terms ts e he; omega)
    | (show (0 : Int) ≤ p; omega)

set_option maxRecDepth 100000 in
set_option maxHeartbeats 6400000 in
theorem old_walk (ts : List Int) (ms : List MsgD) (a0 a1 : Option Addr) (c0 c1 : Nat) (P : Nat → Prop) (w : World) (hl : ListAt intL w P (.slice a0 ts.length c0) ts) (hw : ∀ x ∈ ts, IntW x) (hm : ListAt msgL w P (.slice a1 ms.length c1) ms) (hmw : ∀ m ∈ ms, MsgW m) :
    Calls Try.prog 5 #[.slice a0 ts.length c0, .slice a1 ms.length c1] w fun e w' => e = .returned (.bool true) ∧ Below w.heap.size w w' := by
  have HL := hid hl
  have HTS := hid hw
  have HM : Hid (ListAt msgL w (fun b => b < w.heap.size) (.slice a1 ms.length c1) ms) := hm.mono (fun b h _ => h)
  have HMW := hid hmw
  have hll := oldL_len ts
  have HOD := hid (oldL_data ts)
  clear hl hw hm hmw
  go_enter Try.func5, Try.ntmps5
  go_wp2_with fail
  refine (old_any w ts a0 c0 P HL.out HTS.out).mono ?_
  rintro x w1 ⟨la, lq, rfl, f1, k1⟩
  have K1 := hid k1
  have L1 : Hid (ListAt entL w1 (fun _ => True) (.slice la (oldL ts).length lq) (oldL ts)) := OwnAt.list f1 (fun _ _ _ => trivial) (fun _ _ => trivial)
  clear f1 k1
  go_wp2_with fail
  refine (leads_any w1 1 4 (oldL ts) la lq _ (by decide) (by decide) L1.out (fun e he => by have := HOD.out e he; omega) (by omega) (oldNew_may ts (by omega) (by omega) (by omega))).mono ?_
  rintro x w2 ⟨n, c, lv, sv, rfl, hc2, hld, k2⟩
  have LD := hid hld
  have C2 := hid hc2
  have K2 : Hid (Keeps [] w w2) := K1.out.trans k2 (fun _ _ h => h)
  have HFR : Hid (fromD c 1 = c.l) := by
    show c.l.drop (max 1 (c.base + 1) - c.base - 1).toNat = _
    rw [LD.out.base]
    rfl
  have HLL : Hid (c.l.length = (oldL ts).length + 1) := by show _ = _; rw [LD.out.log]; simp
  clear hld hc2 k2
  go_wp2_with fail
  refine (cFrom_is _ _ n c lv sv C2.out 1 c.l c.l.length HFR.out rfl (by omega) (by omega)).mono ?_
  rintro x w3 ⟨fa, fq, rfl, hl3, hk3⟩
  have K3 : Hid (Keeps [] w w3) := K2.out.trans hk3 (fun _ _ h => h)
  have C3 : Hid (CoreAt w3 w1.heap.size n c lv sv) := C2.out.k hk3
  have F3 := hid hl3
  have HZ1 : Hid (w.heap.size ≤ w1.heap.size) := K1.out.size
  have HZ : Hid (∀ b ∈ n :: ownB lv, b < w2.heap.size) := fun b hb => (C2.out.lt b hb).2
  clear hl3 hk3
  go_wp2_with fail
  refine (cTerm_is _ _ n c lv sv C3.out 6 LD.out.term).mono ?_
  rintro x w4 ⟨rfl, rfl⟩
  go_wp2_with fail
  refine (cCommit_is _ _ n c lv sv C3.out 0 LD.out.commit).mono ?_
  rintro x w5 ⟨rfl, rfl⟩
  go_wp2_with fail
  go_loopw [9] (fun i wr => ∃ (k : Nat) (lv sv : Value), i = .int .i64 k ∧ k ≤ ms.length ∧ k ≤ 30 ∧ Hid (CoreAt wr w1.heap.size n c lv sv ∧ Keeps [] w wr ∧ ListAt entL wr (fun b => w2.heap.size ≤ b ∧ b < w5.heap.size) (.slice fa c.l.length fq) c.l ∧ w5.heap.size ≤ wr.heap.size ∧ ∀ b ∈ n :: ownB lv, b < w2.heap.size ∨ w5.heap.size ≤ b)) (fun i _ => 30 - (intOf i).toNat)
  case atStart => exact ⟨0, lv, sv, rfl, by omega, by omega, C3.out, K3.out, F3.out, Nat.le_refl _, fun b hb => .inl (HZ.out b hb)⟩
  case round =>
    obtain ⟨k, lv2, sv2, rfl, hk, hk30, HW⟩ := hrel
    have i0 : (0 : Int) ≤ (k : Int) := Int.natCast_nonneg _
    by_cases hlt : k < ms.length
    · by_cases hlt2 : k < 30
      · have i1 : (k : Int) < (ms.length : Int) := by omega
        have i2 : (k : Int) < 30 := by omega
        obtain ⟨m, he⟩ : ∃ m, ms[k]? = some m := ⟨ms[k], List.getElem?_eq_getElem hlt⟩
        obtain ⟨g, off, cg, ha, hcg, hcm, hgl, hgP⟩ := (HM.out.k HW.out.2.1).addr (fun hn => by rw [hn] at hlt; simp at hlt)
        simp at ha
        obtain ⟨ha, hcc⟩ := ha
        subst ha
        subst hcc
        obtain ⟨cs, ⟨ev, dv, rfl, hev, hdv⟩, hcs⟩ := (HM.out.k HW.out.2.1).get he
        obtain ⟨ea, ec, rfl⟩ := hev.form
        obtain ⟨da, dc, rfl⟩ := hdv.form
        have y0 : wr.cell? ⟨g, off + k * 10, none⟩ = some (.int .i64 m.kind) := hcs 0 _ rfl
        have y1 : wr.cell? ⟨g, off + k * 10 + 1, none⟩ = some (.int .i64 m.frm) := hcs 1 _ rfl
        have y2 : wr.cell? ⟨g, off + k * 10 + 2, none⟩ = some (.int .i64 m.to) := hcs 2 _ rfl
        have y3 : wr.cell? ⟨g, off + k * 10 + 3, none⟩ = some (.int .i64 m.term) := hcs 3 _ rfl
        have y4 : wr.cell? ⟨g, off + k * 10 + 4, none⟩ = some (.int .i64 m.a) := hcs 4 _ rfl
        have y5 : wr.cell? ⟨g, off + k * 10 + 5, none⟩ = some (.int .i64 m.b) := hcs 5 _ rfl
        have y6 : wr.cell? ⟨g, off + k * 10 + 6, none⟩ = some (.int .i64 m.c) := hcs 6 _ rfl
        have y7 : wr.cell? ⟨g, off + k * 10 + 7, none⟩ = some (.bool m.ok) := hcs 7 _ rfl
        have y8 : wr.cell? ⟨g, off + k * 10 + 8, none⟩ = some (.slice ea m.entries.length ec) := hcs 8 _ rfl
        have y9 : wr.cell? ⟨g, off + k * 10 + 9, none⟩ = some (.slice da m.data.length dc) := hcs 9 _ rfl
        have WM : Hid (MsgW m) := HMW.out m (List.mem_of_getElem? he)
        have EV := hid hev
        have DV := hid hdv
        clear hcs he hcm hcg hev hdv
        rcases hsm : smallD m with _ | _
        · have HSM := hid hsm
          clear hsm
          go_wp2_with fail
          refine (small_is false _ m ea da ec dc _ (EV.out.k (by (repeat (first | (with_reducible exact Keeps.refl _ _) | (with_reducible assumption) | ((with_reducible refine Keeps.setCell ?_ ?_ _); rotate_left 1; (· first | (refine .inl ?_; simp; done) | (refine .inr ?_; first | exact Nat.le_refl _ | (simp; done) | (simp; omega) | omega))) | (with_reducible refine Keeps.alloc ?_ _) | (with_reducible refine Keeps.drewN ?_ _) | (with_reducible refine Keeps.drew ?_))))) HSM.out).mono ?_
          rintro x w6 ⟨rfl, k6⟩
          have K6 : Hid (Keeps [] w w6) := HW.out.2.1.trans (Keeps.trans (by (repeat (first | (with_reducible exact Keeps.refl _ _) | (with_reducible assumption) | ((with_reducible refine Keeps.setCell ?_ ?_ _); rotate_left 1; (· first | (refine .inl ?_; simp; done) | (refine .inr ?_; first | exact Nat.le_refl _ | (simp; done) | (simp; omega) | omega))) | (with_reducible refine Keeps.alloc ?_ _) | (with_reducible refine Keeps.drewN ?_ _) | (with_reducible refine Keeps.drew ?_)))) k6 (fun _ _ h => h)) (fun _ _ h => h)
          clear k6
          go_wp2_with fail
          refine (cAwake_any _).mono ?_
          rintro x w7 ⟨rfl, k7⟩
          have K7 : Hid (Keeps [] w w7) := K6.out.trans k7 (fun _ _ h => h)
          clear k7
          go_wp2_with fail
          go_ret
          exact ⟨rfl, K7.out.below (Nat.le_refl _) (fun _ h => by cases h)⟩
        · have HSM := hid hsm
          clear hsm
          go_wp2_with fail
          refine (small_is true _ m ea da ec dc _ (EV.out.k (by (repeat (first | (with_reducible exact Keeps.refl _ _) | (with_reducible assumption) | ((with_reducible refine Keeps.setCell ?_ ?_ _); rotate_left 1; (· first | (refine .inl ?_; simp; done) | (refine .inr ?_; first | exact Nat.le_refl _ | (simp; done) | (simp; omega) | omega))) | (with_reducible refine Keeps.alloc ?_ _) | (with_reducible refine Keeps.drewN ?_ _) | (with_reducible refine Keeps.drew ?_))))) HSM.out).mono ?_
          rintro x w6 ⟨rfl, k6⟩
          have hb6 : w6.heap[wr.heap.size]? = some (.cells #[.int .i64 m.kind, .int .i64 m.frm, .int .i64 m.to, .int .i64 m.term, .int .i64 m.a, .int .i64 m.b, .int .i64 m.c, .bool m.ok, .slice ea m.entries.length ec, .slice da m.data.length dc] 40 (0, 0)) := (k6.block wr.heap.size (by simp) (by simp)).trans (heap_alloc_new wr (.cells #[.int .i64 m.kind, .int .i64 m.frm, .int .i64 m.to, .int .i64 m.term, .int .i64 m.a, .int .i64 m.b, .int .i64 m.c, .bool m.ok, .slice ea m.entries.length ec, .slice da m.data.length dc] 40))
          have K6 : Hid (Keeps [] wr w6) := Keeps.trans (by (repeat (first | (with_reducible exact Keeps.refl _ _) | (with_reducible assumption) | ((with_reducible refine Keeps.setCell ?_ ?_ _); rotate_left 1; (· first | (refine .inl ?_; simp; done) | (refine .inr ?_; first | exact Nat.le_refl _ | (simp; done) | (simp; omega) | omega))) | (with_reducible refine Keeps.alloc ?_ _) | (with_reducible refine Keeps.drewN ?_ _) | (with_reducible refine Keeps.drew ?_)))) k6 (fun _ _ h => h)
          have HB6 := hid hb6
          obtain ⟨⟨x0, x1, x2, x3, x4, x5, x6, x7, x8, x9⟩, fx⟩ := blk10 hb6
          have hz6 : wr.heap.size < w6.heap.size := (Array.getElem?_eq_some_iff.1 hb6).1
          obtain ⟨r, hr⟩ : ∃ r, placeOf m.term 6 = r := ⟨_, rfl⟩
          have hrb := placeOf_bd m.term 6 (by omega)
          rw [hr] at hrb
          obtain ⟨r0, r5⟩ := hrb
          have HR := hid hr
          clear k6 hb6 hr y0 y1 y2 y3 y4 y5 y6 y7 y8 y9
          go_wp2_with fail
          refine Plan.wp_region_plan (fun wx => wx.cell? ⟨wr.heap.size, 3, none⟩ = some (.int .i64 m.term)) 4 [(true, 0), (true, 1), (true, 2), (false, 3)] (by kernel_rfl) (by as_aux_lemma => kernel_rfl) (by kernel_rfl) (fun _ _ _ _ _ h => h) ?_ (fun hS => ?_)
          (· go_simp)
          simp only [Plan.pick, List.append_eq, List.cons_append, List.nil_append, List.getElem?_cons_zero, List.getElem?_cons_succ, Option.getD_some, List.drop_succ_cons, List.drop_zero]
          iterate 3 (first | (refine Plan.take (v := ?_) (a' := ?_) (Plan.want_all (by rfl)) ?_ ?_ ?_; rotate_left 2; (· (intro w' hS'; (try dsimp only at hS'); go_simp; try with_reducible rfl)); (· (simp only [Act.put, List.setIfInBounds_toArray, List.set_cons_zero, List.set_cons_succ]; try with_reducible rfl))) | (refine Plan.take (v := ?_) (a' := ?_) (Plan.want_yes (by rfl) (by rfl) (by rfl) (by rfl)) ?_ ?_ ?_; rotate_left 2; (· (intro w' hS'; (try dsimp only at hS'); go_simp; try with_reducible rfl)); (· (simp only [Act.put, List.setIfInBounds_toArray, List.set_cons_zero, List.set_cons_succ]; try with_reducible rfl))) | (refine Plan.pass (a' := ?_) (Plan.want_no (by rfl) (by rfl) (by rfl) (by rfl)) ?_ ?_; rotate_left 1; (· (simp only [Act.put, List.setIfInBounds_toArray, List.set_cons_zero, List.set_cons_succ]; try with_reducible rfl))) | (refine Plan.pass (a' := ?_) (Plan.want_un (by rfl) (by rfl) (by rfl) (by rfl)) ?_ ?_; rotate_left 1; (· (simp only [Act.put, List.setIfInBounds_toArray, List.set_cons_zero, List.set_cons_succ]; try with_reducible rfl))) | fail)
          refine Plan.step ?_
          go_wp2_with fail
          refine (cTerm_is _ _ n c lv2 sv2 (HW.out.1.k ?_) 6 LD.out.term).mono ?_
          (· have kk := K6.out; (repeat (first | (with_reducible exact Keeps.refl _ _) | (with_reducible assumption) | ((with_reducible refine Keeps.setCell ?_ ?_ _); rotate_left 1; (· first | (refine .inl ?_; simp; done) | (refine .inr ?_; first | exact Nat.le_refl _ | (simp; done) | (simp; omega) | omega))) | (with_reducible refine Keeps.alloc ?_ _) | (with_reducible refine Keeps.drewN ?_ _) | (with_reducible refine Keeps.drew ?_))))
          rintro x w7 ⟨rfl, rfl⟩
          go_wp2_with fail
          refine ⟨?_, ?_⟩
          (· go_simp)
          refine Plan.fin ?_
          go_wp2_with fail
          refine (place_is r m.term 6 _ (by omega) (by omega) WM.out.term HR.out).mono ?_
          rintro x w7 ⟨rfl, rfl⟩
          go_wp2_with fail
          have hsy := smallD_yes HSM.out
          have KQ : Hid (Keeps [] wr ((w6.setCell ⟨wr.heap.size, 2, none⟩ (.int .i64 1)).setCell ⟨wr.heap.size, 3, none⟩ (.int .i64 r)).drew) := by
            show Keeps _ _ _
            have kk := K6.out
            (repeat (first | (with_reducible exact Keeps.refl _ _) | (with_reducible assumption) | ((with_reducible refine Keeps.setCell ?_ ?_ _); rotate_left 1; (· first | (refine .inl ?_; simp; done) | (refine .inr ?_; first | exact Nat.le_refl _ | (simp; done) | (simp; omega) | omega))) | (with_reducible refine Keeps.alloc ?_ _) | (with_reducible refine Keeps.drewN ?_ _) | (with_reducible refine Keeps.drew ?_)))
          refine (lMsg_any _ { m with to := 1, term := r } ea da ec dc _ (EV.out.k KQ.out) (DV.out.k KQ.out) (by have := hsy.2.1; show m.entries.length ≤ _; omega) (fun e he => by have := hsy.2.2 e he; omega) (by have := hsy.1; show m.data.length ≤ _; omega)).mono ?_
          rintro x w8 ⟨ea', ec', da', dc', rfl, hl8, hd8, hk8⟩
          have K8 : Hid (Keeps [] wr w8) := KQ.out.trans hk8 (fun _ _ h => h)
          have OFF : Hid (∀ b, ((w6.setCell ⟨wr.heap.size, 2, none⟩ (.int .i64 1)).setCell ⟨wr.heap.size, 3, none⟩ (.int .i64 r)).drew.heap.size ≤ b → Off n lv2 b) := fun b hb => by
            have hz := KQ.out.size
            exact ⟨fun h => by have := (HW.out.1.lt n (by simp)).2; omega, fun h => by have := (HW.out.1.lt b (List.mem_cons_of_mem _ h)).2; omega⟩
          have L8 : Hid (ListAt entL w8 (Off n lv2) (.slice ea' m.entries.length ec') m.entries) := hl8.mono (fun b _ hb => OFF.out b hb)
          have D8 : Hid (BytesAt w8 (Off n lv2) (.slice da' m.data.length dc') m.data) := hd8.mono (fun b _ hb => OFF.out b hb)
          have HDL : Hid (m.data.length ≤ 1000000) := by have := hsy.1; show _ ≤ _; omega
          clear hl8 hd8 hk8 hsy x0 x1 x2 x3 x4 x5 x6 x7 x8 x9 fx
          unfold msgV
          go_wp2_with fail
          refine (hear_but w8 _ n c lv2 sv2 { m with to := 1, term := r } ea' da' ec' dc' (HW.out.1.k K8.out) L8.out D8.out HDL.out (by unfold lastD; rw [LD.out.base, HLL.out]; omega) (fun _ _ h3 => by
            have e : stepD c { m with to := 1, term := r } = c := by unfold stepD; rw [if_neg (by rw [LD.out.term]; show ¬ ((5 : Int) + 1 < r); omega)]
            rw [e, LD.out.term] at h3
            exact absurd h3 (by show ¬ ((5 : Int) + 1 ≤ r); omega))).mono ?_
          rintro x w9 ⟨ra, rq, lv3, sv3, rfl, hc9, _, hk9, hv9⟩
          rw [elder_heard (by rw [LD.out.term]; show r < (5 : Int) + 1; omega)] at hc9
          have HN : Hid (CoreAt w9 w1.heap.size n c lv3 sv3 ∧ Keeps [] w w9 ∧ ListAt entL w9 (fun b => w2.heap.size ≤ b ∧ b < w5.heap.size) (.slice fa c.l.length fq) c.l ∧ w5.heap.size ≤ w9.heap.size ∧ ∀ b ∈ n :: ownB lv3, b < w2.heap.size ∨ w5.heap.size ≤ b) := by
            obtain ⟨h1, h2, h3, h4, h5⟩ := HW.out
            have hz8 := K8.out.size
            have hz9 := hk9.size
            refine ⟨hc9, (h2.trans K8.out (fun _ _ h => h)).trans hk9 (fun b hb hb' => by have := (h1.lt b hb').1; have := HZ1.out; omega), (h3.k K8.out).keep hk9 (fun b hb hb' => by rcases h5 b hb' with h | h <;> omega), by omega, fun b hb => ?_⟩
            rcases List.mem_cons.1 hb with rfl | hb
            · exact h5 _ (List.mem_cons_self ..)
            · rcases hv9 b hb with h | h
              · exact h5 b (List.mem_cons_of_mem _ h)
              · exact .inr (by omega)
          generalize (hearD c { m with to := 1, term := r }).2.length = zl
          clear hc9 hk9 hv9
          go_wp2_with fail
          refine (cTerm_is _ _ n c lv3 sv3 HN.out.1 6 LD.out.term).mono ?_
          rintro x w10 ⟨rfl, rfl⟩
          go_wp2_with fail
          refine (cRole_is _ _ n c lv3 sv3 HN.out.1 2 LD.out.role).mono ?_
          rintro x w11 ⟨rfl, rfl⟩
          go_wp2_with fail
          refine (cCommit_is _ _ n c lv3 sv3 HN.out.1 0 LD.out.commit).mono ?_
          rintro x w12 ⟨rfl, rfl⟩
          go_wp2_with fail
          refine (cLeader_is _ _ n c lv3 sv3 HN.out.1 1 LD.out.leader).mono ?_
          rintro x w13 ⟨rfl, rfl⟩
          go_wp2_with fail
          refine (cFrom_is _ _ n c lv3 sv3 HN.out.1 1 c.l c.l.length HFR.out rfl (by omega) (by omega)).mono ?_
          rintro x w14 ⟨fa2, fq2, rfl, hl14, hk14⟩
          have L14 := hid hl14
          have K14 := hid hk14
          clear hl14 hk14
          go_wp2_with fail
          refine (sameEntries_is c.l c.l.length rfl _ _ fa2 fa fq2 fq _ L14.out (HN.out.2.2.1.k K14.out) (by rw [HLL.out]; omega)).mono ?_
          rintro x w15 ⟨rfl, hk15⟩
          have HN2 : Hid (CoreAt w15 w1.heap.size n c lv3 sv3 ∧ Keeps [] w w15 ∧ ListAt entL w15 (fun b => w2.heap.size ≤ b ∧ b < w5.heap.size) (.slice fa c.l.length fq) c.l ∧ w5.heap.size ≤ w15.heap.size ∧ ∀ b ∈ n :: ownB lv3, b < w2.heap.size ∨ w5.heap.size ≤ b) := by
            have kk := K14.out.trans hk15 (fun _ _ h => h)
            have := kk.size
            exact ⟨HN.out.1.k kk, HN.out.2.1.trans kk (fun _ _ h => h), HN.out.2.2.1.k kk, by have := HN.out.2.2.2.1; omega, HN.out.2.2.2.2⟩
          clear hk15
          go_wp2_with fail
          go_roundw
          case rel => exact ⟨k + 1, lv3, sv3, by go_num, by omega, by omega, HN2.out⟩
          case measure => simp [intOf]; omega
      · have i2 : (30 : Int) ≤ (k : Int) := by omega
        have i1 : (k : Int) < (ms.length : Int) := by omega
        go_wp2_with fail
        refine (cAwake_any _).mono ?_
        rintro x w7 ⟨rfl, k7⟩
        have K7 : Hid (Keeps [] w w7) := HW.out.2.1.trans k7 (fun _ _ h => h)
        clear k7
        go_wp2_with fail
        go_ret
        exact ⟨rfl, K7.out.below (Nat.le_refl _) (fun _ h => by cases h)⟩
    · have i1 : (ms.length : Int) ≤ (k : Int) := by omega
      go_wp2_with fail
      refine (cAwake_any _).mono ?_
      rintro x w7 ⟨rfl, k7⟩
      have K7 : Hid (Keeps [] w w7) := HW.out.2.1.trans k7 (fun _ _ h => h)
      clear k7
      go_wp2_with fail
      go_ret
      exact ⟨rfl, K7.out.below (Nat.le_refl _) (fun _ h => by cases h)⟩

end Go.Proofs.Ytpppoajnbhipeaa
