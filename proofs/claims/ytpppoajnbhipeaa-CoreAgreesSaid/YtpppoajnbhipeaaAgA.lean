/- CoreAgrees, walked. -/
import Derived.Test.YtpppoajnbhipeaaAgD
import Derived.Test.YtpppoajnbhipeaaAskA
import Derived.Test.YtpppoajnbhipeaaLeadA
import Derived.Test.YtpppoajnbhipeaaOpenL
namespace Go.Proofs.Ytpppoajnbhipeaa
open Go Go.RowKit

theorem eld_elem (k : Nat) (w : World) (hk : k < 12) :
    entL.at_ ((w.alloc (.cells #[.int .u8 (k : Int)] 5)).alloc (.cells #[.int .i64 1, .bool true, .slice (some ⟨w.heap.size, 0, none⟩) 1 1] 59)) (fun b => b = w.heap.size) [.int .i64 1, .bool true, .slice (some ⟨w.heap.size, 0, none⟩) 1 1] (eldE k) ∧
      ((w.alloc (.cells #[.int .u8 (k : Int)] 5)).alloc (.cells #[.int .i64 1, .bool true, .slice (some ⟨w.heap.size, 0, none⟩) 1 1] 59)).heap[w.heap.size + 1]? = some (.cells #[.int .i64 1, .bool true, .slice (some ⟨w.heap.size, 0, none⟩) 1 1] 59 (0, 0)) := by
  have e1 := heap_alloc_new w (.cells #[.int .u8 (k : Int)] 5)
  have k1 : Keeps [] (w.alloc (.cells #[.int .u8 (k : Int)] 5)) ((w.alloc (.cells #[.int .u8 (k : Int)] 5)).alloc (.cells #[.int .i64 1, .bool true, .slice (some ⟨w.heap.size, 0, none⟩) 1 1] 59)) := (Keeps.refl _ _).alloc _
  have e2 := (k1.block w.heap.size (by simp) (by simp)).trans e1
  have e3 := heap_alloc_new (w.alloc (.cells #[.int .u8 (k : Int)] 5)) (.cells #[.int .i64 1, .bool true, .slice (some ⟨w.heap.size, 0, none⟩) 1 1] 59)
  rw [show (w.alloc (.cells #[.int .u8 (k : Int)] 5)).heap.size = w.heap.size + 1 by simp] at e3
  refine ⟨⟨.slice (some ⟨w.heap.size, 0, none⟩) 1 1, rfl, ?_, ?_⟩, e3⟩
  · have h1 := Reads.one1 e2 rfl
    have e : u8s (eldE k).data = [.int .u8 (k : Int)] := by
      show [Value.int .u8 ((UInt8.ofNat k).toNat : Int)] = _
      rw [show (UInt8.ofNat k).toNat = k by simp [UInt8.toNat_ofNat']; omega]
    rw [e]
    exact h1
  · intro _ b hb
    simpa [mem_ownB, Value.ownBlock, eq_comm] using hb

theorem ints_cell {w : World} {b : Nat} {l : List Int} {t : TypeId} (h : w.heap[b]? = some (.cells (ints l).toArray t (0, 0))) {i : Nat} (hi : i < l.length) : w.cell? ⟨b, i, none⟩ = some (.int .i64 (l.getD i 0)) := by
  refine (cell_of_block h i).trans ?_
  simp [ints, List.getD, hi]
theorem ints_store {w : World} {b : Nat} {l : List Int} {t : TypeId} (h : w.heap[b]? = some (.cells (ints l).toArray t (0, 0))) (i : Nat) (v : Int) : (w.setCell ⟨b, i, none⟩ (.int .i64 v)).heap[b]? = some (.cells (ints (l.set i v)).toArray t (0, 0)) := by
  have := heap_setCell_same w b i _ _ (.int .i64 v) h
  rw [this, ← ints_set]
  simp

theorem cNew_is (cf : ConfD) (id term vote base baseTerm : Int) (l : List Ent) (m : Nat) (hm : l.length = m) (a : Option Addr) (cap : Nat) (P : Nat → Prop) (w : World) (hl : ListAt entL w P (.slice a m cap) l) (hd : ∀ e ∈ l, e.data.length ≤ 1000000) :
    Calls Try.prog 14 #[confV cf, .int .i64 id, .int .i64 term, .int .i64 vote, .int .i64 base, .int .i64 baseTerm, .slice a m cap] w (NewPost cf id term vote base baseTerm l w) := by
  subst hm
  exact cNew_any cf id term vote base baseTerm l a cap P w hl hd

theorem cCommit_is' (w : World) (B n : Nat) (c : CoreD) (lv sv : Value) (h : CoreAt w B n c lv sv) (b : Int) (hb : c.commit = b) : Calls Try.prog 30 #[.pointer (some ⟨n, 0, none⟩)] w fun e w' => e = .returned (.int .i64 b) ∧ w' = w := by
  rw [← hb]
  exact cCommit_any w B n c lv sv h

set_option maxRecDepth 100000 in
set_option maxHeartbeats 12800000 in
theorem agrees_walk (nodes elder asks p : Int) (E N : Nat) (ms : List MsgD) (a1 : Option Addr) (c1 : Nat) (P : Nat → Prop) (w : World) (wn : (Lit.int .i64 nodes).wf = true) (we : (Lit.int .i64 elder).wf = true) (wa : (Lit.int .i64 asks).wf = true) (hp : 3 + placeOf nodes 3 = p) (hE : placeOf elder 5 = (E : Int)) (hN : placeOf asks 5 = (N : Int))
    (hm : ListAt msgL w P (.slice a1 ms.length c1) ms) (hmw : ∀ m ∈ ms, MsgW m) :
    Calls Try.prog 8 #[.int .i64 nodes, .int .i64 elder, .int .i64 asks, .slice a1 ms.length c1] w fun e w' => e = .returned (.bool true) ∧ Below w.heap.size w w' := by
  obtain ⟨it, hi0, hz0, hz1, hz2⟩ := info_parts Try.infoEnt
  have hb1 := placeOf_bd nodes 3 (by omega)
  have hb2 := placeOf_bd elder 5 (by omega)
  have hb3 := placeOf_bd asks 5 (by omega)
  have p3 : 3 ≤ p := by omega
  have p5 : p ≤ 5 := by omega
  have E4 : E ≤ 4 := by omega
  have N4 : N ≤ 4 := by omega
  have HP := hid hp
  have HE := hid hE
  have HN := hid hN
  have HM : Hid (ListAt msgL w (fun b => b < w.heap.size) (.slice a1 ms.length c1) ms) := hm.mono (fun b h _ => h)
  have HMW := hid hmw
  have e0 : (0 : Int) ≤ (E : Int) := Int.natCast_nonneg _
  have n0 : (0 : Int) ≤ (N : Int) := Int.natCast_nonneg _
  clear hp hE hN hm hmw hb1 hb2 hb3
  go_enter Try.func8, Try.ntmps8
  go_wp2_with fail
  refine (cfL_is p nodes _ wn HP.out).mono ?_
  rintro e w2 ⟨rfl, k2⟩
  have K2 : Hid (Keeps [] w w2) := k2
  clear k2
  go_wp2_with fail
  have HX : Hid (∃ w3 cb, w3 = w2.alloc (.cells #[.int .i64 p, .int .i64 2, .int .i64 2, .int .i64 8, .int .i64 40, .int .i64 3, .int .i64 9, .int .i64 200, .int .i64 9] 23) ∧ cb = w2.heap.size ∧ Keeps [] w w3 ∧ w3.heap[cb]? = some (.cells #[.int .i64 p, .int .i64 2, .int .i64 2, .int .i64 8, .int .i64 40, .int .i64 3, .int .i64 9, .int .i64 200, .int .i64 9] 23 (0, 0)) ∧ w.heap.size ≤ cb) := ⟨_, _, rfl, rfl, K2.out.alloc _, heap_alloc_new w2 _, K2.out.size⟩
  obtain ⟨w3, cb, hw3, hcb, k3, b3, hcw⟩ := HX.out
  rw [← hw3, ← hcb]
  have K3 := hid k3
  have HB3 := hid b3
  have hcb3 : cb < w3.heap.size := (Array.getElem?_eq_some_iff.1 b3).1
  clear hw3 hcb k3 b3 HX
  go_loopw [10, 11] (fun v i wr => ∃ (k : Nat) (a : Option Addr) (q : Nat), k ≤ E ∧ v = .slice a k q ∧ i = .int .i64 k ∧ Hid (FreshEnts w3 wr (.slice a k q) (eldD k) ∧ Keeps [] w3 wr)) (fun _ i _ => E - (intOf i).toNat)
  case atStart => exact ⟨0, none, 0, Nat.zero_le _, rfl, rfl, OwnAt.nil _ _ _ _, Keeps.refl [] w3⟩
  case round =>
    obtain ⟨k, a, q, hk, rfl, rfl, HW⟩ := hrel
    have i0 : (0 : Int) ≤ (k : Int) := Int.natCast_nonneg _
    by_cases hlt : k < E
    · have i1 : (k : Int) < (E : Int) := by omega
      go_wp2_with fail
      refine (place_is (E : Int) elder 5 _ (by omega) (by omega) we HE.out).mono ?_
      rintro e w4 ⟨rfl, rfl⟩
      have HEL := hid (eld_elem k w4 (by omega))
      have HOW : Hid (OwnAt entL 59 w4 w3.heap.size (fun b => w3.heap.size ≤ b ∧ b ∉ ownB (.slice a k q)) (.slice a k q) (eldD k)) := HW.out.1
      have HK1 := hid HW.out.2
      have HBB : Hid (∀ b, b = w4.heap.size → w3.heap.size ≤ b ∧ b ∉ ownB (.slice a k q)) := fun b hb => ⟨by have := HK1.out.size; omega, fun hb' => by have := (OwnAt.ge HOW.out b hb').2; omega⟩
      go_wp2_with (at_builtin; go_must (refine wpList_append_off (L := entL) (PB := fun b => b = w4.heap.size) _ (by rfl) _ _ _ (by rfl) w3.heap.size 59 it _ 40 Try.underlying35 hi0 hz0 hz1 hz2 rfl (R := fun b => w3.heap.size ≤ b) (.slice a k q) (by rfl) (eldD k) [eldE k] k (eldD_len k) [[.int .i64 1, .bool true, .slice (some ⟨w4.heap.size, 0, none⟩) 1 1]] (HOW.out.k (((Keeps.refl [] _).alloc _).alloc _)) (.slice _ _ _) (by rfl) 1 rfl (ElemsAt.one1 HEL.out.1) (Reads.one1 HEL.out.2 rfl) (by omega) (le_maxLen (by omega)) (Nat.le_trans HK1.out.size (((Keeps.refl [] _).alloc _).alloc _).size) (fun b _ hb => HBB.out b hb) ?_; intro a4 q4 w5 ho4 hk4 hv4))
      go_roundw
      case rel =>
        refine ⟨k + 1, a4, q4, by omega, rfl, by go_num, ?_, ?_⟩
        · rw [eldD_succ]
          exact ho4.out
        · refine (HK1.out.trans (((Keeps.refl [] w4).alloc _).alloc _) (fun _ _ h => h)).trans hk4.out (fun b hb hb' => ?_)
          have := (OwnAt.ge HOW.out b hb').1
          omega
      case measure => simp [intOf]; omega
    · have hkE : k = E := by omega
      have i1 : (E : Int) ≤ (k : Int) := by omega
      go_wp2_with fail
      refine (place_is (E : Int) elder 5 _ (by omega) (by omega) we HE.out).mono ?_
      rintro e w4 ⟨rfl, rfl⟩
      have HKE := hid hkE
      have HL4 : Hid (ListAt entL w4 (fun _ => True) (.slice a k q) (eldD k)) := OwnAt.list HW.out.1 (fun _ _ _ => trivial) (fun _ _ => trivial)
      clear hkE
      obtain ⟨k0, hk0⟩ : ∃ k0, k0 = k := ⟨_, rfl⟩
      subst hk0
      have HB4 := (HW.out.2.block cb hcb3 (by simp)).trans HB3.out
      obtain ⟨⟨z0, z1, z2, z3, z4, z5, z6, z7, z8⟩, _⟩ := blk9 HB4
      have Z4 : Hid (w4.cell? ⟨cb, 0, none⟩ = some (.int .i64 p)) := z0
      have K4 : Hid (Keeps [] w w4) := K3.out.trans HW.out.2 (fun _ _ h => h)
      have hB : cb < w4.heap.size := Nat.lt_of_lt_of_le hcb3 HW.out.2.size
      clear HB4
      go_wp2_with fail
      clear z0 z1 z2 z3 z4 z5 z6 z7 z8
      refine (cNew_is (cfL p) 1 1 0 0 0 (eldD k0) k0 (eldD_len k0) a q (fun _ => True) _ HL4.out (fun e he => by have := (eldD_term _ e he).2; omega)).mono ?_
      rintro e w5 h5
      rcases h5 with ⟨_, n, lv, sv, rfl, hc5, k5⟩ | ⟨h5, _⟩
      rotate_left 1
      · exact absurd h5 (by rw [eldNew_may ⟨p3, p5⟩ (by omega)]; simp)
      have KW5 : Hid (Keeps [] w w5) := K4.out.trans k5 (fun _ _ h => h)
      have HBW : Hid (w.heap.size ≤ w4.heap.size) := K4.out.size
      have C5 : Hid (CoreAt w5 w4.heap.size n (leadT p 1 (eldD k0) 0) lv sv) := hc5
      have Z5 : Hid (w5.cell? ⟨cb, 0, none⟩ = some (.int .i64 p)) := k5.cellSome Z4.out (by simp)
      clear k5 hc5
      go_wp2_with fail
      have HNB : Hid (∀ b ∈ n :: ownB lv, w4.heap.size ≤ b) := fun b hb => (C5.out.lt b hb).1
      have hcn : cb ≠ n := fun h => by have := HNB.out n (by simp); omega
      have HLN : Hid ((eldD k0).length ≤ 100) := by show _ ≤ _; rw [eldD_len]; omega
      go_loopw [14] (fun i wr => ∃ k : Nat, k ≤ 8 ∧ i = .int .i64 k ∧ Hid (CoreAt wr w4.heap.size n (leadT p 1 (eldD k0) k) lv sv ∧ Keeps [] w wr ∧ wr.cell? ⟨cb, 0, none⟩ = some (.int .i64 p))) (fun i _ => 8 - (intOf i).toNat)
      case atStart => exact ⟨0, by omega, rfl, C5.out, KW5.out, Z5.out⟩
      case round =>
        obtain ⟨k, hk, rfl, HW⟩ := hrel
        have i0 : (0 : Int) ≤ (k : Int) := Int.natCast_nonneg _
        have i6 : (k : Int) < 60 := by omega
        by_cases h7 : k ≤ 7
        · by_cases hlt : k < 7
          · go_wp2_with fail
            refine (cRole_is _ _ n _ lv sv HW.out.1 0 (by unfold leadT; rw [if_pos h7]; rfl)).mono ?_
            rintro e wr2 ⟨rfl, rfl⟩
            go_wp2_with fail
            refine (tick_wait _ _ n _ lv sv HW.out.1 (by unfold leadT; rw [if_pos h7]; show (0 : Int) ≠ 2; decide) (by unfold leadT; rw [if_pos h7]; show (0 : Int) ≤ (k : Int) ∧ (k : Int) ≤ _; omega) (by unfold leadT; rw [if_pos h7]; show (k : Int) + 1 < 8 + min ((1 - 1) * (2 + 6)) 40; omega)).mono ?_
            rintro e w6 ⟨rfl, hc, hk4⟩
            rw [leadT_succ hlt] at hc
            have W6 : Hid (CoreAt w6 w4.heap.size n (leadT p 1 (eldD k0) (k + 1)) lv sv ∧ Keeps [] w w6 ∧ w6.cell? ⟨cb, 0, none⟩ = some (.int .i64 p)) := ⟨hc, HW.out.2.1.trans hk4 (fun b hb hb' => by simp at hb'; subst hb'; have := HNB.out _ (List.mem_cons_self ..); have := HBW.out; omega), hk4.cellSome HW.out.2.2 (by simpa using hcn)⟩
            clear hc hk4
            go_wp2_with fail
            go_roundw
            case rel => exact ⟨k + 1, by omega, by go_num, W6.out⟩
            case measure => simp [intOf]; omega
          · have hk7 : k = 7 := by omega
            have HK7 := hid hk7
            clear hk7 hlt
            go_wp2_with fail
            refine (cRole_is _ _ n _ lv sv HW.out.1 0 (by unfold leadT; rw [if_pos h7]; rfl)).mono ?_
            rintro e wr2 ⟨rfl, rfl⟩
            go_wp2_with fail
            refine (tick_run _ _ n _ lv sv HW.out.1 (by unfold leadT; rw [if_pos h7]; show (0 : Int) ≠ 2; decide) (by unfold leadT; rw [if_pos h7]; show (0 : Int) ≤ (k : Int) ∧ (k : Int) ≤ _; omega) (by unfold leadT; rw [if_pos h7]; show 8 + min ((1 - 1) * (2 + 6)) 40 ≤ (k : Int) + 1; have := HK7.out; omega) (by unfold leadT; rw [if_pos h7]; show (1 : Int) < _; decide)).mono ?_
            rintro e w6 ⟨a, q, rfl, hc, _, hk4⟩
            have W6 : Hid (CoreAt w6 w4.heap.size n (leadT p 1 (eldD k0) (k + 1)) lv sv ∧ Keeps [] w w6 ∧ w6.cell? ⟨cb, 0, none⟩ = some (.int .i64 p)) := by
              refine ⟨?_, HW.out.2.1.trans hk4 (fun b hb hb' => by simp at hb'; subst hb'; have := HNB.out _ (List.mem_cons_self ..); have := HBW.out; omega), hk4.cellSome HW.out.2.2 (by simpa using hcn)⟩
              have e : leadT p 1 (eldD k0) (k + 1) = runD (leadT p 1 (eldD k0) k) := by
                rw [HK7.out]
                rfl
              rw [e]
              exact hc
            clear hc hk4
            go_wp2_with fail
            go_roundw
            case rel => exact ⟨k + 1, by omega, by go_num, W6.out⟩
            case measure => simp [intOf]; omega
        · have hk8 : k = 8 := by omega
          have hcx : leadT p 1 (eldD k0) k = leadV p 1 (eldD k0) 2 := by rw [leadV_two]; unfold leadT; rw [if_neg h7]
          have HC8 : Hid (CoreAt wr w4.heap.size n (leadV p 1 (eldD k0) 2) lv sv) := by
            show CoreAt _ _ _ _ _ _
            rw [← hcx]
            exact HW.out.1
          clear hk8 hcx
          go_wp2_with fail
          refine (cRole_is _ _ n _ lv sv HC8.out 1 (by rw [leadV_two]; rfl)).mono ?_
          rintro e wr2 ⟨rfl, rfl⟩
          go_wp2_with fail
          go_loopw [15] (fun iv wi => ∃ (i : Nat) (lv sv : Value), 2 ≤ i ∧ i ≤ p.toNat + 1 ∧ iv = .int .i64 i ∧ Hid (CoreAt wi w4.heap.size n (leadV p 1 (eldD k0) i) lv sv ∧ Keeps [] w wi ∧ wi.cell? ⟨cb, 0, none⟩ = some (.int .i64 p))) (fun iv _ => p.toNat + 1 - (intOf iv).toNat)
          case atStart => exact ⟨2, lv, sv, by omega, by omega, rfl, HC8.out, HW.out.2⟩
          case round =>
            obtain ⟨i, lv2, sv2, hi2, hi3, rfl, HV⟩ := hrel
            have j0 : (0 : Int) ≤ (i : Int) := Int.natCast_nonneg _
            have zc := HV.out.2.2
            by_cases hle : i ≤ p.toNat
            · have j1 : (i : Int) ≤ p := by omega
              go_wp2_with fail
              refine (cTerm_any _ _ n _ lv2 sv2 HV.out.1).mono ?_
              rintro e wr2 ⟨rfl, rfl⟩
              go_wp2_with fail
              refine (hear_but _ _ n _ lv2 sv2 (voteY i (leadV p 1 (eldD k0) i).term) none none 0 0 HV.out.1 (ListAt.nil _ _ _ _) (BytesAt.nil _ _ _ _) (by simp [voteY]) (by have := leadV_last (p := p) (t0 := 1) (l := eldD k0) i; have := HLN.out; omega) (fun _ h3 => by cases h3)).mono ?_
              rintro e w6 ⟨ra, rq, lv', sv', rfl, hc, _, hk4, hv⟩
              have W6 : Hid (CoreAt w6 w4.heap.size n (leadV p 1 (eldD k0) (i + 1)) lv' sv' ∧ Keeps [] w w6 ∧ w6.cell? ⟨cb, 0, none⟩ = some (.int .i64 p)) := by
                refine ⟨?_, HV.out.2.1.trans hk4 (fun b hb hb' => by have := (HV.out.1.lt b hb').1; have := HBW.out; omega), hk4.cellSome zc (fun hb' => by have := (HV.out.1.lt cb hb').1; omega)⟩
                rw [leadV_succ hi2]
                exact hc
              clear hc hk4 hv zc
              go_wp2_with fail
              go_roundw
              case rel => exact ⟨i + 1, lv', sv', by omega, by omega, by go_num, W6.out⟩
              case measure => simp [intOf]; omega
            · have hip : i = p.toNat + 1 := by omega
              have j1 : p < (i : Int) := by omega
              have HLED : Hid (Led p 1 (eldD k0) (leadV p 1 (eldD k0) i)) := by
                show Led _ _ _ _
                rw [hip]
                exact leadV_led ⟨p3, p5⟩ (by omega) (by have := HLN.out; omega)
              clear hip
              go_wp2_with fail
              refine (cRole_is _ _ n _ lv2 sv2 HV.out.1 2 HLED.out.role).mono ?_
              rintro e wr2 ⟨rfl, rfl⟩
              clear KW5 C5 Z5
              go_wp2_with fail
              have k00 : (0 : Int) ≤ (k0 : Int) := Int.natCast_nonneg _
              have w01 : IntKind.i64.wrap ((k0 : Int) + 1) = (k0 : Int) + 1 := IntWalk.i64_in _ (by omega)
              have HAG := hid (led_ag p3 (by have := HLED.out; exact this))
              refine (cLast_is _ _ n _ lv2 sv2 HV.out.1 ((k0 : Int) + 1) (by unfold lastD; rw [HLED.out.base, HLED.out.log]; simp [eldD_len])).mono ?_
              rintro e wr3 ⟨rfl, kl, rfl⟩
              have HA0 : Hid (CoreAt (wr2.drewN kl) w4.heap.size n (leadV p 1 (eldD k0) i) lv2 sv2 ∧ AgI p k0 (fun _ => False) (leadV p 1 (eldD k0) i) ∧ (leadV p 1 (eldD k0) i).matc = List.replicate 8 0 ∧ (leadV p 1 (eldD k0) i).l.length = k0 + 1 + 0 ∧ Keeps [] w (wr2.drewN kl) ∧ (wr2.drewN kl).cell? ⟨cb, 0, none⟩ = some (.int .i64 p)) :=
                ⟨HV.out.1.k (by (repeat (first | (with_reducible exact Keeps.refl _ _) | (with_reducible assumption) | ((with_reducible refine Keeps.setCell ?_ ?_ _); rotate_left 1; (· first | (refine .inl ?_; simp; done) | (refine .inr ?_; first | exact Nat.le_refl _ | (simp; done) | (simp; omega) | omega))) | (with_reducible refine Keeps.alloc ?_ _) | (with_reducible refine Keeps.drewN ?_ _) | (with_reducible refine Keeps.drew ?_)))), HAG.out, HLED.out.matc, by rw [HLED.out.log]; simp [eldD_len], HV.out.2.1.drewN _, HV.out.2.2⟩
              generalize leadV p 1 (eldD k0) i = c0 at HA0
              generalize wr2.drewN kl = w6 at HA0
              clear zc
              go_wp2_with fail
              go_loopw [16] (fun iv wi => ∃ (s : Nat) (lv sv : Value) (c : CoreD), s ≤ N ∧ iv = .int .i64 s ∧ Hid (CoreAt wi w4.heap.size n c lv sv ∧ AgI p k0 (fun _ => False) c ∧ c.matc = List.replicate 8 0 ∧ c.l.length = k0 + 1 + s ∧ Keeps [] w wi ∧ wi.cell? ⟨cb, 0, none⟩ = some (.int .i64 p))) (fun iv _ => N - (intOf iv).toNat)
              case atStart => exact ⟨0, lv2, sv2, c0, Nat.zero_le _, rfl, HA0.out⟩
              case round =>
                obtain ⟨s, lv3, sv3, c3, hs, rfl, HA⟩ := hrel
                have s0 : (0 : Int) ≤ (s : Int) := Int.natCast_nonneg _
                by_cases hlt : s < N
                · have s1 : (s : Int) < (N : Int) := by omega
                  have w02 : IntKind.i64.wrap ((k0 : Int) + 2) = (k0 : Int) + 2 := IntWalk.i64_in _ (by omega)
                  have w03 : IntKind.i64.wrap ((k0 : Int) + 2 + (s : Int)) = (k0 : Int) + 2 + (s : Int) := IntWalk.i64_in _ (by omega)
                  go_wp2_with fail
                  refine (place_is (N : Int) asks 5 _ (by omega) (by omega) wa HN.out).mono ?_
                  rintro e w7 ⟨rfl, rfl⟩
                  go_wp2_with fail
                  have HBY : Hid (BytesAt (w7.alloc (.cells #[.int .u8 9] 5)) (fun _ => True) (.slice (some ⟨w7.heap.size, 0, none⟩) 1 1) [9]) := ⟨Reads.one1 (heap_alloc_new w7 (.cells #[.int .u8 9] 5)) rfl, fun _ _ _ => trivial⟩
                  refine (ask_any _ _ n c3 lv3 sv3 [9] (some ⟨w7.heap.size, 0, none⟩) 1 _ (HA.out.1.k (by (repeat (first | (with_reducible exact Keeps.refl _ _) | (with_reducible assumption) | ((with_reducible refine Keeps.setCell ?_ ?_ _); rotate_left 1; (· first | (refine .inl ?_; simp; done) | (refine .inr ?_; first | exact Nat.le_refl _ | (simp; done) | (simp; omega) | omega))) | (with_reducible refine Keeps.alloc ?_ _) | (with_reducible refine Keeps.drewN ?_ _) | (with_reducible refine Keeps.drew ?_))))) HBY.out (by decide) (by unfold lastD; rw [HA.out.2.1.base, HA.out.2.2.2.1]; omega)).mono ?_
                  rw [askD_yes HA.out.2.1.role (by rw [HA.out.2.2.2.1]; omega)]
                  rintro e w8 ⟨a8, q8, lv8, sv8, rfl, hc8, _, hk8, _⟩
                  have hag := ask_ag p3 HA.out.2.1 (by rw [HA.out.2.2.2.1]; omega) HA.out.2.2.1 [9]
                  have HLA : lastD (askC c3 [9]) = (k0 : Int) + 2 + (s : Int) := by unfold lastD; rw [hag.1.base, hag.2.2, HA.out.2.2.2.1]; omega
                  have HA8 : Hid (CoreAt w8 w4.heap.size n (askC c3 [9]) lv8 sv8 ∧ AgI p k0 (fun _ => False) (askC c3 [9]) ∧ (askC c3 [9]).matc = List.replicate 8 0 ∧ (askC c3 [9]).l.length = k0 + 1 + (s + 1) ∧ Keeps [] w w8 ∧ w8.cell? ⟨cb, 0, none⟩ = some (.int .i64 p)) := by
                    refine ⟨hc8, hag.1, hag.2.1, by rw [hag.2.2, HA.out.2.2.2.1]; omega, (Keeps.trans HA.out.2.2.2.2.1 (by (repeat (first | (with_reducible exact Keeps.refl _ _) | (with_reducible assumption) | ((with_reducible refine Keeps.setCell ?_ ?_ _); rotate_left 1; (· first | (refine .inl ?_; simp; done) | (refine .inr ?_; first | exact Nat.le_refl _ | (simp; done) | (simp; omega) | omega))) | (with_reducible refine Keeps.alloc ?_ _) | (with_reducible refine Keeps.drewN ?_ _) | (with_reducible refine Keeps.drew ?_)))) (fun _ _ h => h)).trans hk8 (fun b hb hb' => by have := (HA.out.1.lt b hb').1; have := HBW.out; omega), ?_⟩
                    exact hk8.cellSome (Keeps.cellSome (F := []) (by (repeat (first | (with_reducible exact Keeps.refl _ _) | (with_reducible assumption) | ((with_reducible refine Keeps.setCell ?_ ?_ _); rotate_left 1; (· first | (refine .inl ?_; simp; done) | (refine .inr ?_; first | exact Nat.le_refl _ | (simp; done) | (simp; omega) | omega))) | (with_reducible refine Keeps.alloc ?_ _) | (with_reducible refine Keeps.drewN ?_ _) | (with_reducible refine Keeps.drew ?_)))) HA.out.2.2.2.2.2 (by simp)) (fun hb' => by have := (HA.out.1.lt cb hb').1; omega)
                  rw [HLA]
                  generalize (othersD (askC c3 [9]) (sendD (askC c3 [9]))).length = zl
                  clear hc8 hk8 hag HLA
                  go_wp2_with fail
                  go_roundw
                  case rel => exact ⟨s + 1, lv8, sv8, askC c3 [9], by omega, by go_num, HA8.out⟩
                  case measure => simp [intOf]; omega
                · have hsN : s = N := by omega
                  have s1 : (N : Int) ≤ (s : Int) := by omega
                  clear hsN
                  go_wp2_with fail
                  refine (place_is (N : Int) asks 5 _ (by omega) (by omega) wa HN.out).mono ?_
                  rintro e w7 ⟨rfl, rfl⟩
                  go_wp2_with fail
                  have HX9 : Hid (∃ w9 hb bn c4, w.heap.size ≤ hb ∧ cb < hb ∧ w9 = w7.alloc (.cells #[.int .i64 0, .int .i64 0, .int .i64 0, .int .i64 0, .int .i64 0, .int .i64 0, .int .i64 0, .int .i64 0] 70) ∧ hb = w7.heap.size ∧ bn hb ∧ CoreAt w9 w4.heap.size n c4 lv3 sv3 ∧ AgI p k0 bn c4 ∧ c4.l.length = k0 + 1 + s ∧ Keeps [] w w9 ∧ w9.cell? ⟨cb, 0, none⟩ = some (.int .i64 p) ∧ w9.heap[hb]? = some (.cells (ints c4.matc).toArray 70 (0, 0))) := by
                    have k9 : Keeps [] w7 (w7.alloc (.cells #[.int .i64 0, .int .i64 0, .int .i64 0, .int .i64 0, .int .i64 0, .int .i64 0, .int .i64 0, .int .i64 0] 70)) := (Keeps.refl _ _).alloc _
                    refine ⟨_, w7.heap.size, fun b => c3.ban b ∨ b = w7.heap.size, { c3 with ban := fun b => c3.ban b ∨ b = w7.heap.size }, HA.out.2.2.2.2.1.size, World.block_lt_of_cell? _ _ HA.out.2.2.2.2.2, rfl, rfl, .inr rfl, HA.out.1.banned k9 (fun b => b = w7.heap.size) (fun b hb => by subst hb; simp) (fun b hb => (HA.out.1.lt b hb).2), HA.out.2.1.banned, HA.out.2.2.2.1, HA.out.2.2.2.2.1.trans k9 (fun _ _ h => h), k9.cellSome HA.out.2.2.2.2.2 (by simp), ?_⟩
                    show _ = some (Obj.cells (ints c3.matc).toArray 70 (0, 0))
                    rw [HA.out.2.2.1]
                    exact heap_alloc_new w7 (Obj.cells #[.int .i64 0, .int .i64 0, .int .i64 0, .int .i64 0, .int .i64 0, .int .i64 0, .int .i64 0, .int .i64 0] 70)
                  obtain ⟨w9, hb, bn, c4, hold1, hold2, hw9, hhb, hbn, hc9, hag9, hl9, hk9, hz9, hh9⟩ := HX9.out
                  rw [← hw9, ← hhb]
                  obtain ⟨L, hL⟩ : ∃ L, k0 + 1 + s = L := ⟨_, rfl⟩
                  rw [hL] at hl9
                  have L9 : L ≤ 9 := by omega
                  have HKL : Hid (k0 + 1 ≤ L) := by show _ ≤ _; omega
                  have l0 : (0 : Int) ≤ (L : Int) := Int.natCast_nonneg _
                  have HBN := hid hbn
                  have HOLD : Hid (w.heap.size ≤ hb ∧ cb < hb) := ⟨hold1, hold2⟩
                  have HQ0 : Hid (CoreAt w9 w4.heap.size n c4 lv3 sv3 ∧ AgI p k0 bn c4 ∧ c4.l.length = L ∧ Keeps [] w w9 ∧ w9.cell? ⟨cb, 0, none⟩ = some (.int .i64 p) ∧ w9.heap[hb]? = some (.cells (ints c4.matc).toArray 70 (0, 0))) := ⟨hc9, hag9, hl9, hk9, hz9, hh9⟩
                  clear hold1 hold2 hw9 hhb hbn hc9 hag9 hl9 hk9 hz9 hh9 HX9 hL
                  go_loopw [21] (fun iv wi => ∃ (j : Nat) (lv sv : Value) (c : CoreD), j ≤ ms.length ∧ j ≤ 40 ∧ iv = .int .i64 j ∧ Hid (CoreAt wi w4.heap.size n c lv sv ∧ AgI p k0 bn c ∧ c.l.length = L ∧ Keeps [] w wi ∧ wi.cell? ⟨cb, 0, none⟩ = some (.int .i64 p) ∧ wi.heap[hb]? = some (.cells (ints c.matc).toArray 70 (0, 0)))) (fun iv _ => 40 - (intOf iv).toNat)
                  case atStart => exact ⟨0, lv3, sv3, c4, Nat.zero_le _, Nat.zero_le _, rfl, HQ0.out⟩
                  case round =>
                    obtain ⟨j, lv5, sv5, c5, hj, hj40, rfl, HQ⟩ := hrel
                    have j0' : (0 : Int) ≤ (j : Int) := Int.natCast_nonneg _
                    by_cases hlt1 : j < ms.length
                    · by_cases hlt2 : j < 40
                      · have i1' : (j : Int) < (ms.length : Int) := by omega
                        have i2' : (j : Int) < 40 := by omega
                        obtain ⟨m, he⟩ : ∃ m, ms[j]? = some m := ⟨ms[j], List.getElem?_eq_getElem hlt1⟩
                        obtain ⟨g, off, cg, ha, hcg, hcm, hgl, hgP⟩ := (HM.out.k HQ.out.2.2.2.1).addr (fun hn => by rw [hn] at hlt1; simp at hlt1)
                        simp at ha
                        obtain ⟨ha, hcc⟩ := ha
                        subst ha
                        subst hcc
                        obtain ⟨cs, ⟨ev, dv, rfl, _, _⟩, hcs⟩ := (HM.out.k HQ.out.2.2.2.1).get he
                        have y1 : wr.cell? ⟨g, off + j * 10 + 1, none⟩ = some (.int .i64 m.frm) := hcs 1 _ rfl
                        have y4 : wr.cell? ⟨g, off + j * 10 + 4, none⟩ = some (.int .i64 m.a) := hcs 4 _ rfl
                        have y7 : wr.cell? ⟨g, off + j * 10 + 7, none⟩ = some (.bool m.ok) := hcs 7 _ rfl
                        have WM : Hid (MsgW m) := HMW.out m (List.mem_of_getElem? he)
                        have GW : Hid (g < w.heap.size) := hgP
                        have zc := HQ.out.2.2.2.2.1
                        clear hcs he hcm hcg hgl hgP
                        obtain ⟨pm, hpm⟩ : ∃ pm, p - 1 = pm := ⟨_, rfl⟩
                        obtain ⟨r1, hr1⟩ : ∃ r, placeOf m.frm pm = r := ⟨_, rfl⟩
                        obtain ⟨aa, hr2⟩ : ∃ r, placeOf m.a ((L : Int) + 3) = r := ⟨_, rfl⟩
                        have q1 := placeOf_bd m.frm pm (by omega)
                        have q2 := placeOf_bd m.a ((L : Int) + 3) (by omega)
                        rw [hr1] at q1
                        rw [hr2] at q2
                        obtain ⟨f, hf⟩ : ∃ f, 2 + r1 = f := ⟨_, rfl⟩
                        have f2 : 2 ≤ f := by omega
                        have fp : f ≤ p := by omega
                        have f8 : f < 8 := by omega
                        have f0 : 0 ≤ f := by omega
                        have f8n : f.toNat < 8 := by omega
                        have aa0 : 0 ≤ aa := q2.1
                        have aa1 : aa ≤ (L : Int) + 2 := by omega
                        have w04 : IntKind.i64.wrap (p - 1) = pm := by rw [IntWalk.i64_in _ (by omega)]; exact hpm
                        have w05 : IntKind.i64.wrap (2 + r1) = f := by rw [IntWalk.i64_in _ (by omega)]; exact hf
                        have w06 : IntKind.i64.wrap ((L : Int) + 3) = (L : Int) + 3 := IntWalk.i64_in _ (by omega)
                        have HR1 := hid hr1
                        have HR2 := hid hr2
                        have HPM : Hid (2 ≤ pm ∧ pm ≤ 4) := by show _ ∧ _; omega
                        have HLL : Hid (lastD c5 = (L : Int)) := by show _ = _; unfold lastD; rw [HQ.out.2.1.base, HQ.out.2.2.1]; omega
                        have HLB : Hid (lastD c5 + 1 ≤ 2199023255552) := by show _ ≤ _; rw [HLL.out]; omega
                        have hag := ag_step HQ.out.2.1 (f := f) (a := aa) (ok := m.ok) ⟨f2, fp⟩ p5 ⟨aa0, by omega⟩
                        have HAG := hid hag
                        clear hr1 hr2 q1 q2 hf hpm hag
                        go_wp2_with fail
                        refine Plan.wp_region_plan (fun wx => wx.cell? ⟨g, off + j * 10 + 1, none⟩ = some (.int .i64 m.frm) ∧ wx.cell? ⟨cb, 0, none⟩ = some (.int .i64 p)) 8 [(true, 0), (true, 1), (true, 2), (true, 3), (true, 4), (true, 5), (true, 6), (true, 7)] (by kernel_rfl) (by as_aux_lemma => kernel_rfl) (by kernel_rfl) (fun _ _ _ _ _ h => h) ?_ (fun hS => ?_)
                        (· go_simp)
                        simp only [Plan.pick, List.append_eq, List.cons_append, List.nil_append, List.getElem?_cons_zero, List.getElem?_cons_succ, Option.getD_some, List.drop_succ_cons, List.drop_zero]
                        iterate 8 (first | (refine Plan.take (v := ?_) (a' := ?_) (Plan.want_all (by rfl)) ?_ ?_ ?_; rotate_left 2; (· (intro w' hS'; (try dsimp only at hS'); go_simp; try with_reducible rfl)); (· (simp only [Act.put, List.setIfInBounds_toArray, List.set_cons_zero, List.set_cons_succ]; try with_reducible rfl))) | (refine Plan.take (v := ?_) (a' := ?_) (Plan.want_yes (by rfl) (by rfl) (by rfl) (by rfl)) ?_ ?_ ?_; rotate_left 2; (· (intro w' hS'; (try dsimp only at hS'); go_simp; try with_reducible rfl)); (· (simp only [Act.put, List.setIfInBounds_toArray, List.set_cons_zero, List.set_cons_succ]; try with_reducible rfl))) | (refine Plan.pass (a' := ?_) (Plan.want_no (by rfl) (by rfl) (by rfl) (by rfl)) ?_ ?_; rotate_left 1; (· (simp only [Act.put, List.setIfInBounds_toArray, List.set_cons_zero, List.set_cons_succ]; try with_reducible rfl))) | (refine Plan.pass (a' := ?_) (Plan.want_un (by rfl) (by rfl) (by rfl) (by rfl)) ?_ ?_; rotate_left 1; (· (simp only [Act.put, List.setIfInBounds_toArray, List.set_cons_zero, List.set_cons_succ]; try with_reducible rfl))) | fail)
                        refine Plan.fin ?_
                        go_wp2_with fail
                        refine (place_is r1 m.frm pm _ (by have := HPM.out; omega) (by have := HPM.out; omega) WM.out.frm HR1.out).mono ?_
                        rintro e w10 ⟨rfl, rfl⟩
                        go_wp2_with fail
                        refine Plan.wp_region_plan (fun wx => wx.cell? ⟨g, off + j * 10 + 4, none⟩ = some (.int .i64 m.a)) 8 [(true, 0), (true, 1), (true, 2), (true, 3), (true, 4), (true, 5), (false, 6), (true, 7)] (by kernel_rfl) (by as_aux_lemma => kernel_rfl) (by kernel_rfl) (fun _ _ _ _ _ h => h) ?_ (fun hS => ?_)
                        (· go_simp)
                        simp only [Plan.pick, List.append_eq, List.cons_append, List.nil_append, List.getElem?_cons_zero, List.getElem?_cons_succ, Option.getD_some, List.drop_succ_cons, List.drop_zero]
                        iterate 6 (first | (refine Plan.take (v := ?_) (a' := ?_) (Plan.want_all (by rfl)) ?_ ?_ ?_; rotate_left 2; (· (intro w' hS'; (try dsimp only at hS'); go_simp; try with_reducible rfl)); (· (simp only [Act.put, List.setIfInBounds_toArray, List.set_cons_zero, List.set_cons_succ]; try with_reducible rfl))) | (refine Plan.take (v := ?_) (a' := ?_) (Plan.want_yes (by rfl) (by rfl) (by rfl) (by rfl)) ?_ ?_ ?_; rotate_left 2; (· (intro w' hS'; (try dsimp only at hS'); go_simp; try with_reducible rfl)); (· (simp only [Act.put, List.setIfInBounds_toArray, List.set_cons_zero, List.set_cons_succ]; try with_reducible rfl))) | (refine Plan.pass (a' := ?_) (Plan.want_no (by rfl) (by rfl) (by rfl) (by rfl)) ?_ ?_; rotate_left 1; (· (simp only [Act.put, List.setIfInBounds_toArray, List.set_cons_zero, List.set_cons_succ]; try with_reducible rfl))) | (refine Plan.pass (a' := ?_) (Plan.want_un (by rfl) (by rfl) (by rfl) (by rfl)) ?_ ?_; rotate_left 1; (· (simp only [Act.put, List.setIfInBounds_toArray, List.set_cons_zero, List.set_cons_succ]; try with_reducible rfl))) | fail)
                        refine Plan.step ?_
                        go_wp2_with fail
                        refine (cLast_is _ _ n c5 lv5 sv5 (HQ.out.1.k (by (repeat (first | (with_reducible exact Keeps.refl _ _) | (with_reducible assumption) | ((with_reducible refine Keeps.setCell ?_ ?_ _); rotate_left 1; (· first | (refine .inl ?_; simp; done) | (refine .inr ?_; first | exact Nat.le_refl _ | (simp; done) | (simp; omega) | omega))) | (with_reducible refine Keeps.alloc ?_ _) | (with_reducible refine Keeps.drewN ?_ _) | (with_reducible refine Keeps.drew ?_))))) (L : Int) HLL.out).mono ?_
                        rintro e w10 ⟨rfl, kq, rfl⟩
                        go_wp2_with fail
                        refine ⟨?_, ?_⟩
                        (· go_simp)
                        iterate 1 (first | (refine Plan.take (v := ?_) (a' := ?_) (Plan.want_all (by rfl)) ?_ ?_ ?_; rotate_left 2; (· (intro w' hS'; (try dsimp only at hS'); go_simp; try with_reducible rfl)); (· (simp only [Act.put, List.setIfInBounds_toArray, List.set_cons_zero, List.set_cons_succ]; try with_reducible rfl))) | (refine Plan.take (v := ?_) (a' := ?_) (Plan.want_yes (by rfl) (by rfl) (by rfl) (by rfl)) ?_ ?_ ?_; rotate_left 2; (· (intro w' hS'; (try dsimp only at hS'); go_simp; try with_reducible rfl)); (· (simp only [Act.put, List.setIfInBounds_toArray, List.set_cons_zero, List.set_cons_succ]; try with_reducible rfl))) | (refine Plan.pass (a' := ?_) (Plan.want_no (by rfl) (by rfl) (by rfl) (by rfl)) ?_ ?_; rotate_left 1; (· (simp only [Act.put, List.setIfInBounds_toArray, List.set_cons_zero, List.set_cons_succ]; try with_reducible rfl))) | (refine Plan.pass (a' := ?_) (Plan.want_un (by rfl) (by rfl) (by rfl) (by rfl)) ?_ ?_; rotate_left 1; (· (simp only [Act.put, List.setIfInBounds_toArray, List.set_cons_zero, List.set_cons_succ]; try with_reducible rfl))) | fail)
                        refine Plan.fin ?_
                        go_wp2_with fail
                        refine (place_is aa m.a ((L : Int) + 3) _ (by omega) (by omega) WM.out.a HR2.out).mono ?_
                        rintro e w10 ⟨rfl, rfl⟩
                        go_wp2_with fail
                        refine Plan.wp_region_plan (fun wx => wx.cell? ⟨g, off + j * 10 + 7, none⟩ = some (.bool m.ok)) 11 [(true, 0), (true, 1), (true, 2), (true, 4), (true, 5), (true, 6), (true, 7), (true, 8), (true, 9), (false, 3), (true, 10)] (by kernel_rfl) (by as_aux_lemma => kernel_rfl) (by kernel_rfl) (fun _ _ _ _ _ h => h) ?_ (fun hS => ?_)
                        (· go_simp)
                        simp only [Plan.pick, List.append_eq, List.cons_append, List.nil_append, List.getElem?_cons_zero, List.getElem?_cons_succ, Option.getD_some, List.drop_succ_cons, List.drop_zero]
                        iterate 9 (first | (refine Plan.take (v := ?_) (a' := ?_) (Plan.want_all (by rfl)) ?_ ?_ ?_; rotate_left 2; (· (intro w' hS'; (try dsimp only at hS'); go_simp; try with_reducible rfl)); (· (simp only [Act.put, List.setIfInBounds_toArray, List.set_cons_zero, List.set_cons_succ]; try with_reducible rfl))) | (refine Plan.take (v := ?_) (a' := ?_) (Plan.want_yes (by rfl) (by rfl) (by rfl) (by rfl)) ?_ ?_ ?_; rotate_left 2; (· (intro w' hS'; (try dsimp only at hS'); go_simp; try with_reducible rfl)); (· (simp only [Act.put, List.setIfInBounds_toArray, List.set_cons_zero, List.set_cons_succ]; try with_reducible rfl))) | (refine Plan.pass (a' := ?_) (Plan.want_no (by rfl) (by rfl) (by rfl) (by rfl)) ?_ ?_; rotate_left 1; (· (simp only [Act.put, List.setIfInBounds_toArray, List.set_cons_zero, List.set_cons_succ]; try with_reducible rfl))) | (refine Plan.pass (a' := ?_) (Plan.want_un (by rfl) (by rfl) (by rfl) (by rfl)) ?_ ?_; rotate_left 1; (· (simp only [Act.put, List.setIfInBounds_toArray, List.set_cons_zero, List.set_cons_succ]; try with_reducible rfl))) | fail)
                        refine Plan.step ?_
                        go_wp2_with fail
                        refine (cTerm_is _ _ n c5 lv5 sv5 (HQ.out.1.k (by (repeat (first | (with_reducible exact Keeps.refl _ _) | (with_reducible assumption) | ((with_reducible refine Keeps.setCell ?_ ?_ _); rotate_left 1; (· first | (refine .inl ?_; simp; done) | (refine .inr ?_; first | exact Nat.le_refl _ | (simp; done) | (simp; omega) | omega))) | (with_reducible refine Keeps.alloc ?_ _) | (with_reducible refine Keeps.drewN ?_ _) | (with_reducible refine Keeps.drew ?_))))) 2 HQ.out.2.1.term).mono ?_
                        rintro e w10 ⟨rfl, rfl⟩
                        go_wp2_with fail
                        refine ⟨?_, ?_⟩
                        (· go_simp)
                        iterate 1 (first | (refine Plan.take (v := ?_) (a' := ?_) (Plan.want_all (by rfl)) ?_ ?_ ?_; rotate_left 2; (· (intro w' hS'; (try dsimp only at hS'); go_simp; try with_reducible rfl)); (· (simp only [Act.put, List.setIfInBounds_toArray, List.set_cons_zero, List.set_cons_succ]; try with_reducible rfl))) | (refine Plan.take (v := ?_) (a' := ?_) (Plan.want_yes (by rfl) (by rfl) (by rfl) (by rfl)) ?_ ?_ ?_; rotate_left 2; (· (intro w' hS'; (try dsimp only at hS'); go_simp; try with_reducible rfl)); (· (simp only [Act.put, List.setIfInBounds_toArray, List.set_cons_zero, List.set_cons_succ]; try with_reducible rfl))) | (refine Plan.pass (a' := ?_) (Plan.want_no (by rfl) (by rfl) (by rfl) (by rfl)) ?_ ?_; rotate_left 1; (· (simp only [Act.put, List.setIfInBounds_toArray, List.set_cons_zero, List.set_cons_succ]; try with_reducible rfl))) | (refine Plan.pass (a' := ?_) (Plan.want_un (by rfl) (by rfl) (by rfl) (by rfl)) ?_ ?_; rotate_left 1; (· (simp only [Act.put, List.setIfInBounds_toArray, List.set_cons_zero, List.set_cons_succ]; try with_reducible rfl))) | fail)
                        refine Plan.fin ?_
                        refine wpl_fold (fun wx => Keeps [] wr wx) (by (repeat (first | (with_reducible exact Keeps.refl _ _) | (with_reducible assumption) | ((with_reducible refine Keeps.setCell ?_ ?_ _); rotate_left 1; (· first | (refine .inl ?_; simp; done) | (refine .inr ?_; first | exact Nat.le_refl _ | (simp; done) | (simp; omega) | omega))) | (with_reducible refine Keeps.alloc ?_ _) | (with_reducible refine Keeps.drewN ?_ _) | (with_reducible refine Keeps.drew ?_)))) ?_
                        intro w11 k11
                        have HQ11 : Hid (CoreAt w11 w4.heap.size n c5 lv5 sv5 ∧ Keeps [] w w11 ∧ w11.cell? ⟨cb, 0, none⟩ = some (.int .i64 p) ∧ w11.heap[hb]? = some (.cells (ints c5.matc).toArray 70 (0, 0)) ∧ w11.cell? ⟨g, off + j * 10 + 7, none⟩ = some (.bool m.ok)) :=
                          ⟨HQ.out.1.k k11, HQ.out.2.2.2.1.trans k11 (fun _ _ h => h), k11.cellSome zc (by simp), (k11.block hb (Array.getElem?_eq_some_iff.1 HQ.out.2.2.2.2.2).1 (by simp)).trans HQ.out.2.2.2.2.2, k11.cellSome y7 (by simp)⟩
                        clear k11 y1 y4 y7 zc
                        go_wp2_with fail
                        refine (hear_but w11 _ n c5 lv5 sv5 (appM f aa m.ok 2) none none 0 0 HQ11.out.1 (ListAt.nil _ _ _ _) (BytesAt.nil _ _ _ _) (by simp [appM]) HLB.out (fun _ h3 => by cases h3)).mono ?_
                        rintro e w12 ⟨ra, rq, lv6, sv6, rfl, hc12, _, hk12, _⟩
                        obtain ⟨c6, hc6⟩ : ∃ c6, (hearD c5 (appM f aa m.ok 2)).1 = c6 := ⟨_, rfl⟩
                        have HAG6 := HAG.out
                        rw [hc6] at hc12 HAG6
                        have hbn' : hb ∉ n :: ownB lv5 := fun h => by
                          have hx : c5.ban hb := by rw [HQ.out.2.1.ban]; exact HBN.out
                          rcases List.mem_cons.1 h with h | h
                          · exact HQ.out.1.free.1 (by rw [← h]; exact hx)
                          · exact HQ.out.1.free.2 hb h hx
                        have HQ12 : Hid (CoreAt w12 w4.heap.size n c6 lv6 sv6 ∧ AgI p k0 bn c6 ∧ c6.l.length = L ∧ Keeps [] w w12 ∧ w12.cell? ⟨cb, 0, none⟩ = some (.int .i64 p) ∧ w12.heap[hb]? = some (.cells (ints c5.matc).toArray 70 (0, 0)) ∧ c6.matc = agMat c5 f aa m.ok) :=
                          ⟨hc12, HAG6.1, by rw [HAG6.2.1, HQ.out.2.2.1], HQ11.out.2.1.trans hk12 (fun b hb hb' => by have := (HQ11.out.1.lt b hb').1; have := HBW.out; omega), hk12.cellSome HQ11.out.2.2.1 (fun hb' => by have := (HQ11.out.1.lt cb hb').1; omega), (hk12.block hb (Array.getElem?_eq_some_iff.1 HQ11.out.2.2.2.1).1 hbn').trans HQ11.out.2.2.2.1, HAG6.2.2⟩
                        have y7 := hk12.cellSome HQ11.out.2.2.2.2 (fun hb' => by have := (HQ11.out.1.lt g hb').1; have := HBW.out; have := GW.out; omega)
                        have HLL6 : Hid (lastD c6 = (L : Int)) := by show _ = _; unfold lastD; rw [HAG6.1.base, HAG6.2.1, HQ.out.2.2.1]; omega
                        generalize (hearD c5 (appM f aa m.ok 2)).2.length = zl
                        clear hc12 hk12 HAG HAG6 hc6 hbn'
                        have hfm : f.toNat < c5.matc.length := by rw [HQ.out.2.1.mlen]; exact f8n
                        have HL5 : Hid ((c5.l.length : Int) = (L : Int)) := by show _ = _; rw [HQ.out.2.2.1]
                        generalize m.ok = okv at y7 HQ12
                        rcases okv with _ | _
                        · have HR : Hid (CoreAt w12 w4.heap.size n c6 lv6 sv6 ∧ AgI p k0 bn c6 ∧ c6.l.length = L ∧ Keeps [] w w12 ∧ w12.cell? ⟨cb, 0, none⟩ = some (.int .i64 p) ∧ w12.heap[hb]? = some (.cells (ints c6.matc).toArray 70 (0, 0))) := by
                            obtain ⟨h1, h2, h3, h4, h5, h6, h7⟩ := HQ12.out
                            refine ⟨h1, h2, h3, h4, h5, ?_⟩
                            rw [h7]
                            unfold agMat
                            rw [if_neg (by simp)]
                            exact h6
                          clear HQ12 HQ11
                          go_wp2_with fail
                          clear y7
                          go_loopw [24, 25] (fun bv kv wi => ∃ (x : Nat) (bst : Int), 1 ≤ x ∧ x ≤ L + 1 ∧ kv = .int .i64 x ∧ bv = .int .i64 bst ∧ Hid (bst = bestTo c6 k0 (x - 1) ∧ Keeps [] w12 wi)) (fun _ kv _ => L + 1 - (intOf kv).toNat)
                          case atStart => exact ⟨1, 0, Nat.le_refl _, by omega, rfl, rfl, rfl, Keeps.refl [] _⟩
                          case round =>
                            obtain ⟨x, bst, x1, x2, rfl, rfl, HB⟩ := hrel
                            have x0 : (0 : Int) ≤ (x : Int) := Int.natCast_nonneg _
                            by_cases hxL : x ≤ L
                            · have x3 : (x : Int) ≤ (L : Int) := by omega
                              go_wp2_with fail
                              refine (cLast_is _ _ n c6 lv6 sv6 (HR.out.1.k HB.out.2) (L : Int) HLL6.out).mono ?_
                              rintro e w14 ⟨rfl, kx, rfl⟩
                              go_wp2_with fail
                              obtain ⟨w15, hw15, hk15⟩ : ∃ w15, w15 = wr.drewN kx ∧ Keeps [] w12 w15 := ⟨_, rfl, HB.out.2.drewN _⟩
                              rw [← hw15]
                              have K15 := hid hk15
                              have z15 : w15.cell? ⟨cb, 0, none⟩ = some (.int .i64 p) := hk15.cellSome HR.out.2.2.2.2.1 (by simp)
                              have HH15 : Hid (w15.heap[hb]? = some (.cells (ints c6.matc).toArray 70 (0, 0))) := (hk15.block hb (Array.getElem?_eq_some_iff.1 HR.out.2.2.2.2.2).1 (by simp)).trans HR.out.2.2.2.2.2
                              clear hw15 hk15
                              go_loopw [26, 27] (fun qv jv wj => ∃ (q : Int) (y : Nat), 2 ≤ y ∧ y ≤ p.toNat + 1 ∧ qv = .int .i64 q ∧ jv = .int .i64 (y : Int) ∧ w15 = wj ∧ Hid (q = haveD c6 (x : Int) (y - 1))) (fun _ jv _ => p.toNat + 1 - (intOf jv).toNat)
                              case atStart => exact ⟨1, 2, Nat.le_refl _, by omega, rfl, rfl, rfl, (have_one HR.out.2.1.id _).symm⟩
                              case round =>
                                obtain ⟨q, y, y2, y3, rfl, rfl, hw, HQY⟩ := hrel
                                subst hw
                                have y0 : (0 : Int) ≤ (y : Int) := Int.natCast_nonneg _
                                have yy : (y : Int).toNat = y := by omega
                                have hqb := have_bd c6 (x : Int) (y - 1)
                                rw [← HQY.out] at hqb
                                obtain ⟨qb1, qb2⟩ := hqb
                                have q9 : q ≤ 9 := by omega
                                by_cases hyp : y ≤ p.toNat
                                · have y4 : (y : Int) ≤ p := by omega
                                  have y8 : (y : Int) < 8 := by omega
                                  have y8n : y < 8 := by omega
                                  have hmy := ints_cell HH15.out (i := y) (by rw [HR.out.2.1.mlen]; exact y8n)
                                  obtain ⟨mv, hmv⟩ : ∃ v, c6.matc.getD y 0 = v := ⟨_, rfl⟩
                                  rw [hmv] at hmy
                                  have HSU : Hid (haveD c6 (x : Int) y = q + (if (x : Int) ≤ mv then 1 else 0)) := by
                                    show _ = _
                                    rw [have_succ HR.out.2.1.id _ y2, ← HQY.out, hmv]
                                  have w07 : IntKind.i64.wrap (q + 1) = q + 1 := IntWalk.i64_in _ (by omega)
                                  clear hmv
                                  by_cases hge : (x : Int) ≤ mv
                                  · have HN2 : Hid (haveD c6 (x : Int) y = q + 1) := by show _ = _; rw [HSU.out, if_pos hge]
                                    go_wp2_with fail
                                    go_roundw
                                    case rel => exact ⟨q + 1, y + 1, by omega, by omega, by go_num, by go_num, by first | exact True.intro | rfl, by show _ = haveD c6 (x : Int) (y + 1 - 1); rw [Nat.add_sub_cancel]; exact HN2.out.symm⟩
                                    case measure => simp [intOf]; omega
                                  · have HN2 : Hid (haveD c6 (x : Int) y = q) := by show _ = _; rw [HSU.out, if_neg hge]; omega
                                    have hge2 : mv < (x : Int) := by omega
                                    clear hge
                                    go_wp2_with fail
                                    go_roundw
                                    case rel => exact ⟨q, y + 1, by omega, by omega, rfl, by go_num, by first | exact True.intro | rfl, by show _ = haveD c6 (x : Int) (y + 1 - 1); rw [Nat.add_sub_cancel]; exact HN2.out.symm⟩
                                    case measure => simp [intOf]; omega
                                · have hyp2 : y = p.toNat + 1 := by omega
                                  have y4 : p < (y : Int) := by omega
                                  have HQP : Hid (q = haveD c6 (x : Int) p.toNat) := by show _ = _; rw [HQY.out, hyp2, Nat.add_sub_cancel]
                                  have hcn : c6.conf.nodes = p := by rw [HR.out.2.1.conf]; rfl
                                  have HSAT : Hid (satD c6 k0 x ↔ (k0 < x ∧ p < 2 * q)) := by
                                    show _ ↔ _
                                    unfold satD
                                    rw [hcn, ← HQP.out]
                                    constructor
                                    · rintro ⟨h1, h2⟩; exact ⟨h1, by omega⟩
                                    · rintro ⟨h1, h2⟩; exact ⟨h1, by omega⟩
                                  have w08 : IntKind.i64.wrap (2 * q) = 2 * q := IntWalk.i64_in _ (by omega)
                                  clear hyp2 hcn
                                  by_cases hm1 : p < 2 * q
                                  · by_cases hm2 : k0 < x
                                    · have hm3 : (k0 : Int) < (x : Int) := by omega
                                      have HBS : Hid (bestTo c6 k0 x = (x : Int)) := by show _ = _; rw [best_succ _ _ _ x1, if_pos (HSAT.out.2 ⟨hm2, hm1⟩)]
                                      go_wp2_with fail
                                      go_roundw
                                      case rel => exact ⟨x + 1, (x : Int), by omega, by omega, by go_num, rfl, by rw [Nat.add_sub_cancel]; exact HBS.out.symm, K15.out⟩
                                      case measure => simp [intOf]; omega
                                    · have hm3 : (x : Int) ≤ (k0 : Int) := by omega
                                      have HBS : Hid (bestTo c6 k0 x = bst) := by show _ = _; rw [best_succ _ _ _ x1, if_neg (fun h => hm2 (HSAT.out.1 h).1), HB.out.1]
                                      go_wp2_with fail
                                      go_roundw
                                      case rel => exact ⟨x + 1, bst, by omega, by omega, by go_num, rfl, by rw [Nat.add_sub_cancel]; exact HBS.out.symm, K15.out⟩
                                      case measure => simp [intOf]; omega
                                  · have hm3 : 2 * q ≤ p := by omega
                                    have HBS : Hid (bestTo c6 k0 x = bst) := by show _ = _; rw [best_succ _ _ _ x1, if_neg (fun h => hm1 (HSAT.out.1 h).2), HB.out.1]
                                    clear hm1
                                    go_wp2_with fail
                                    go_roundw
                                    case rel => exact ⟨x + 1, bst, by omega, by omega, by go_num, rfl, by rw [Nat.add_sub_cancel]; exact HBS.out.symm, K15.out⟩
                                    case measure => simp [intOf]; omega
                            · have x3 : (L : Int) < (x : Int) := by omega
                              have HBC : Hid (c6.commit = bst) := by
                                show _ = _
                                rw [HR.out.2.1.best, HB.out.1, HR.out.2.2.1, show x - 1 = L by omega]
                              go_wp2_with fail
                              refine (cLast_is _ _ n c6 lv6 sv6 (HR.out.1.k HB.out.2) (L : Int) HLL6.out).mono ?_
                              rintro e w14 ⟨rfl, kx, rfl⟩
                              go_wp2_with fail
                              refine (cCommit_is' _ _ n c6 lv6 sv6 (HR.out.1.k (HB.out.2.drewN _)) bst HBC.out).mono ?_
                              rintro e w15 ⟨rfl, rfl⟩
                              have HRN : Hid (CoreAt (wr.drewN kx) w4.heap.size n c6 lv6 sv6 ∧ AgI p k0 bn c6 ∧ c6.l.length = L ∧ Keeps [] w (wr.drewN kx) ∧ (wr.drewN kx).cell? ⟨cb, 0, none⟩ = some (.int .i64 p) ∧ (wr.drewN kx).heap[hb]? = some (.cells (ints c6.matc).toArray 70 (0, 0))) := by
                                have kk := HB.out.2.drewN kx
                                exact ⟨HR.out.1.k kk, HR.out.2.1, HR.out.2.2.1, HR.out.2.2.2.1.trans kk (fun _ _ h => h), kk.cellSome HR.out.2.2.2.2.1 (by simp), (kk.block hb (Array.getElem?_eq_some_iff.1 HR.out.2.2.2.2.2).1 (by simp)).trans HR.out.2.2.2.2.2⟩
                              go_wp2_with fail
                              go_roundw
                              case rel => exact ⟨j + 1, lv6, sv6, c6, by omega, by omega, by go_num, HRN.out⟩
                              case measure => simp [intOf]; omega
                        · by_cases hal : aa ≤ (L : Int)
                          · go_wp2_with fail
                            refine (cLast_is _ _ n c6 lv6 sv6 HQ12.out.1 (L : Int) HLL6.out).mono ?_
                            rintro e w13 ⟨rfl, kx, rfl⟩
                            have K13 : Hid (Keeps [] w12 (w12.drewN kx)) := (Keeps.refl [] w12).drewN kx
                            generalize w12.drewN kx = w13 at K13
                            have H13 : Hid (w13.heap[hb]? = some (.cells (ints c5.matc).toArray 70 (0, 0))) := (K13.out.block hb (Array.getElem?_eq_some_iff.1 HQ12.out.2.2.2.2.2.1).1 (by simp)).trans HQ12.out.2.2.2.2.2.1
                            have h13 := ints_cell H13.out hfm
                            have f13 : w13.frozen? ⟨hb, f.toNat, none⟩ = false := frozen_of_row _ _ _ _ _ H13.out
                            obtain ⟨hv, hhv⟩ : ∃ v, c5.matc.getD f.toNat 0 = v := ⟨_, rfl⟩
                            rw [hhv] at h13
                            obtain ⟨V, hV⟩ : ∃ V, max hv aa = V := ⟨_, rfl⟩
                            have HV := hid hV
                            have HX : Hid (∃ w16, w16 = w13.setCell ⟨hb, f.toNat, none⟩ (.int .i64 V) ∧ (CoreAt w16 w4.heap.size n c6 lv6 sv6 ∧ AgI p k0 bn c6 ∧ c6.l.length = L ∧ Keeps [] w w16 ∧ w16.cell? ⟨cb, 0, none⟩ = some (.int .i64 p) ∧ w16.heap[hb]? = some (.cells (ints c6.matc).toArray 70 (0, 0)))) := by
                              obtain ⟨h1, h2, h3, h4, h5, _, h7⟩ := HQ12.out
                              have k1 : Keeps [hb] w13 (w13.setCell ⟨hb, f.toNat, none⟩ (.int .i64 V)) := (Keeps.refl _ _).setCell (.inl (by simp)) _
                              have hc13 := h1.k K13.out
                              have hbc : c6.ban hb := by rw [h2.ban]; exact HBN.out
                              refine ⟨_, rfl, hc13.keepB k1 (by simp; intro hx; exact h1.free.1 (by rw [hx]; exact hbc)) (fun b hb1 hb2 => by simp at hb2; rw [hb2] at hb1; exact h1.free.2 _ hb1 hbc) (fun b hb2 => by simp at hb2; rw [hb2]; exact .inr (.inl hbc)), h2, h3, ?_, ?_, ?_⟩
                              · exact (h4.trans K13.out (fun _ _ h => h)).trans k1 (fun b hb1 hb2 => by
                                  simp at hb2
                                  have hh := (Array.getElem?_eq_some_iff.1 HQ.out.2.2.2.2.2).1
                                  have := HOLD.out
                                  omega)
                              · refine k1.cellSome (K13.out.cellSome h5 (by simp)) ?_
                                simp
                                intro hx
                                have := HOLD.out
                                omega
                              · rw [h7]
                                unfold agMat
                                rw [if_pos ⟨rfl, by rw [HL5.out]; exact hal⟩, hhv, hV]
                                exact ints_store H13.out _ _
                            obtain ⟨w16, hw16, hr16⟩ := HX.out
                            have HR := hid hr16
                            have HW16 := hid hw16
                            clear HX hr16 hw16 hhv hV HQ12 HQ11
                            go_wp2_with fail
                            all_goals
                              first
                                | rw [show w13.setCell ⟨hb, f.toNat, none⟩ (.int .i64 aa) = w16 by have := HV.out; rw [HW16.out, show V = aa by omega]]
                                | rw [show w13.setCell ⟨hb, f.toNat, none⟩ (.int .i64 hv) = w16 by have := HV.out; rw [HW16.out, show V = hv by omega]]
                              clear y7 h13 f13
                              go_loopw [24, 25] (fun bv kv wi => ∃ (x : Nat) (bst : Int), 1 ≤ x ∧ x ≤ L + 1 ∧ kv = .int .i64 x ∧ bv = .int .i64 bst ∧ Hid (bst = bestTo c6 k0 (x - 1) ∧ Keeps [] w16 wi)) (fun _ kv _ => L + 1 - (intOf kv).toNat)
                              case atStart => exact ⟨1, 0, Nat.le_refl _, by omega, rfl, rfl, rfl, Keeps.refl [] _⟩
                              case round =>
                                obtain ⟨x, bst, x1, x2, rfl, rfl, HB⟩ := hrel
                                have x0 : (0 : Int) ≤ (x : Int) := Int.natCast_nonneg _
                                by_cases hxL : x ≤ L
                                · have x3 : (x : Int) ≤ (L : Int) := by omega
                                  go_wp2_with fail
                                  refine (cLast_is _ _ n c6 lv6 sv6 (HR.out.1.k HB.out.2) (L : Int) HLL6.out).mono ?_
                                  rintro e w14 ⟨rfl, kx, rfl⟩
                                  go_wp2_with fail
                                  obtain ⟨w15, hw15, hk15⟩ : ∃ w15, w15 = wr.drewN kx ∧ Keeps [] w16 w15 := ⟨_, rfl, HB.out.2.drewN _⟩
                                  rw [← hw15]
                                  have K15 := hid hk15
                                  have z15 : w15.cell? ⟨cb, 0, none⟩ = some (.int .i64 p) := hk15.cellSome HR.out.2.2.2.2.1 (by simp)
                                  have HH15 : Hid (w15.heap[hb]? = some (.cells (ints c6.matc).toArray 70 (0, 0))) := (hk15.block hb (Array.getElem?_eq_some_iff.1 HR.out.2.2.2.2.2).1 (by simp)).trans HR.out.2.2.2.2.2
                                  clear hw15 hk15
                                  go_loopw [26, 27] (fun qv jv wj => ∃ (q : Int) (y : Nat), 2 ≤ y ∧ y ≤ p.toNat + 1 ∧ qv = .int .i64 q ∧ jv = .int .i64 (y : Int) ∧ w15 = wj ∧ Hid (q = haveD c6 (x : Int) (y - 1))) (fun _ jv _ => p.toNat + 1 - (intOf jv).toNat)
                                  case atStart => exact ⟨1, 2, Nat.le_refl _, by omega, rfl, rfl, rfl, (have_one HR.out.2.1.id _).symm⟩
                                  case round =>
                                    obtain ⟨q, y, y2, y3, rfl, rfl, hw, HQY⟩ := hrel
                                    subst hw
                                    have y0 : (0 : Int) ≤ (y : Int) := Int.natCast_nonneg _
                                    have yy : (y : Int).toNat = y := by omega
                                    have hqb := have_bd c6 (x : Int) (y - 1)
                                    rw [← HQY.out] at hqb
                                    obtain ⟨qb1, qb2⟩ := hqb
                                    have q9 : q ≤ 9 := by omega
                                    by_cases hyp : y ≤ p.toNat
                                    · have y4 : (y : Int) ≤ p := by omega
                                      have y8 : (y : Int) < 8 := by omega
                                      have y8n : y < 8 := by omega
                                      have hmy := ints_cell HH15.out (i := y) (by rw [HR.out.2.1.mlen]; exact y8n)
                                      obtain ⟨mv, hmv⟩ : ∃ v, c6.matc.getD y 0 = v := ⟨_, rfl⟩
                                      rw [hmv] at hmy
                                      have HSU : Hid (haveD c6 (x : Int) y = q + (if (x : Int) ≤ mv then 1 else 0)) := by
                                        show _ = _
                                        rw [have_succ HR.out.2.1.id _ y2, ← HQY.out, hmv]
                                      have w07 : IntKind.i64.wrap (q + 1) = q + 1 := IntWalk.i64_in _ (by omega)
                                      clear hmv
                                      by_cases hge : (x : Int) ≤ mv
                                      · have HN2 : Hid (haveD c6 (x : Int) y = q + 1) := by show _ = _; rw [HSU.out, if_pos hge]
                                        go_wp2_with fail
                                        go_roundw
                                        case rel => exact ⟨q + 1, y + 1, by omega, by omega, by go_num, by go_num, by first | exact True.intro | rfl, by show _ = haveD c6 (x : Int) (y + 1 - 1); rw [Nat.add_sub_cancel]; exact HN2.out.symm⟩
                                        case measure => simp [intOf]; omega
                                      · have HN2 : Hid (haveD c6 (x : Int) y = q) := by show _ = _; rw [HSU.out, if_neg hge]; omega
                                        have hge2 : mv < (x : Int) := by omega
                                        clear hge
                                        go_wp2_with fail
                                        go_roundw
                                        case rel => exact ⟨q, y + 1, by omega, by omega, rfl, by go_num, by first | exact True.intro | rfl, by show _ = haveD c6 (x : Int) (y + 1 - 1); rw [Nat.add_sub_cancel]; exact HN2.out.symm⟩
                                        case measure => simp [intOf]; omega
                                    · have hyp2 : y = p.toNat + 1 := by omega
                                      have y4 : p < (y : Int) := by omega
                                      have HQP : Hid (q = haveD c6 (x : Int) p.toNat) := by show _ = _; rw [HQY.out, hyp2, Nat.add_sub_cancel]
                                      have hcn : c6.conf.nodes = p := by rw [HR.out.2.1.conf]; rfl
                                      have HSAT : Hid (satD c6 k0 x ↔ (k0 < x ∧ p < 2 * q)) := by
                                        show _ ↔ _
                                        unfold satD
                                        rw [hcn, ← HQP.out]
                                        constructor
                                        · rintro ⟨h1, h2⟩; exact ⟨h1, by omega⟩
                                        · rintro ⟨h1, h2⟩; exact ⟨h1, by omega⟩
                                      have w08 : IntKind.i64.wrap (2 * q) = 2 * q := IntWalk.i64_in _ (by omega)
                                      clear hyp2 hcn
                                      by_cases hm1 : p < 2 * q
                                      · by_cases hm2 : k0 < x
                                        · have hm3 : (k0 : Int) < (x : Int) := by omega
                                          have HBS : Hid (bestTo c6 k0 x = (x : Int)) := by show _ = _; rw [best_succ _ _ _ x1, if_pos (HSAT.out.2 ⟨hm2, hm1⟩)]
                                          go_wp2_with fail
                                          go_roundw
                                          case rel => exact ⟨x + 1, (x : Int), by omega, by omega, by go_num, rfl, by rw [Nat.add_sub_cancel]; exact HBS.out.symm, K15.out⟩
                                          case measure => simp [intOf]; omega
                                        · have hm3 : (x : Int) ≤ (k0 : Int) := by omega
                                          have HBS : Hid (bestTo c6 k0 x = bst) := by show _ = _; rw [best_succ _ _ _ x1, if_neg (fun h => hm2 (HSAT.out.1 h).1), HB.out.1]
                                          go_wp2_with fail
                                          go_roundw
                                          case rel => exact ⟨x + 1, bst, by omega, by omega, by go_num, rfl, by rw [Nat.add_sub_cancel]; exact HBS.out.symm, K15.out⟩
                                          case measure => simp [intOf]; omega
                                      · have hm3 : 2 * q ≤ p := by omega
                                        have HBS : Hid (bestTo c6 k0 x = bst) := by show _ = _; rw [best_succ _ _ _ x1, if_neg (fun h => hm1 (HSAT.out.1 h).2), HB.out.1]
                                        clear hm1
                                        go_wp2_with fail
                                        go_roundw
                                        case rel => exact ⟨x + 1, bst, by omega, by omega, by go_num, rfl, by rw [Nat.add_sub_cancel]; exact HBS.out.symm, K15.out⟩
                                        case measure => simp [intOf]; omega
                                · have x3 : (L : Int) < (x : Int) := by omega
                                  have HBC : Hid (c6.commit = bst) := by
                                    show _ = _
                                    rw [HR.out.2.1.best, HB.out.1, HR.out.2.2.1, show x - 1 = L by omega]
                                  go_wp2_with fail
                                  refine (cLast_is _ _ n c6 lv6 sv6 (HR.out.1.k HB.out.2) (L : Int) HLL6.out).mono ?_
                                  rintro e w14 ⟨rfl, kx, rfl⟩
                                  go_wp2_with fail
                                  refine (cCommit_is' _ _ n c6 lv6 sv6 (HR.out.1.k (HB.out.2.drewN _)) bst HBC.out).mono ?_
                                  rintro e w15 ⟨rfl, rfl⟩
                                  have HRN : Hid (CoreAt (wr.drewN kx) w4.heap.size n c6 lv6 sv6 ∧ AgI p k0 bn c6 ∧ c6.l.length = L ∧ Keeps [] w (wr.drewN kx) ∧ (wr.drewN kx).cell? ⟨cb, 0, none⟩ = some (.int .i64 p) ∧ (wr.drewN kx).heap[hb]? = some (.cells (ints c6.matc).toArray 70 (0, 0))) := by
                                    have kk := HB.out.2.drewN kx
                                    exact ⟨HR.out.1.k kk, HR.out.2.1, HR.out.2.2.1, HR.out.2.2.2.1.trans kk (fun _ _ h => h), kk.cellSome HR.out.2.2.2.2.1 (by simp), (kk.block hb (Array.getElem?_eq_some_iff.1 HR.out.2.2.2.2.2).1 (by simp)).trans HR.out.2.2.2.2.2⟩
                                  go_wp2_with fail
                                  go_roundw
                                  case rel => exact ⟨j + 1, lv6, sv6, c6, by omega, by omega, by go_num, HRN.out⟩
                                  case measure => simp [intOf]; omega
                          · have hal2 : (L : Int) < aa := by omega
                            go_wp2_with fail
                            refine (cLast_is _ _ n c6 lv6 sv6 HQ12.out.1 (L : Int) HLL6.out).mono ?_
                            rintro e w13 ⟨rfl, kx, rfl⟩
                            have K13 : Hid (Keeps [] w12 (w12.drewN kx)) := (Keeps.refl [] w12).drewN kx
                            generalize w12.drewN kx = w16 at K13
                            have HR : Hid (CoreAt w16 w4.heap.size n c6 lv6 sv6 ∧ AgI p k0 bn c6 ∧ c6.l.length = L ∧ Keeps [] w w16 ∧ w16.cell? ⟨cb, 0, none⟩ = some (.int .i64 p) ∧ w16.heap[hb]? = some (.cells (ints c6.matc).toArray 70 (0, 0))) := by
                              obtain ⟨h1, h2, h3, h4, h5, h6, h7⟩ := HQ12.out
                              refine ⟨h1.k K13.out, h2, h3, h4.trans K13.out (fun _ _ h => h), K13.out.cellSome h5 (by simp), ?_⟩
                              rw [h7]
                              unfold agMat
                              rw [if_neg (by rw [HL5.out]; rintro ⟨_, h⟩; omega)]
                              exact (K13.out.block hb (Array.getElem?_eq_some_iff.1 h6).1 (by simp)).trans h6
                            clear HQ12 HQ11 hal
                            go_wp2_with fail
                            clear y7
                            go_loopw [24, 25] (fun bv kv wi => ∃ (x : Nat) (bst : Int), 1 ≤ x ∧ x ≤ L + 1 ∧ kv = .int .i64 x ∧ bv = .int .i64 bst ∧ Hid (bst = bestTo c6 k0 (x - 1) ∧ Keeps [] w16 wi)) (fun _ kv _ => L + 1 - (intOf kv).toNat)
                            case atStart => exact ⟨1, 0, Nat.le_refl _, by omega, rfl, rfl, rfl, Keeps.refl [] _⟩
                            case round =>
                              obtain ⟨x, bst, x1, x2, rfl, rfl, HB⟩ := hrel
                              have x0 : (0 : Int) ≤ (x : Int) := Int.natCast_nonneg _
                              by_cases hxL : x ≤ L
                              · have x3 : (x : Int) ≤ (L : Int) := by omega
                                go_wp2_with fail
                                refine (cLast_is _ _ n c6 lv6 sv6 (HR.out.1.k HB.out.2) (L : Int) HLL6.out).mono ?_
                                rintro e w14 ⟨rfl, kx, rfl⟩
                                go_wp2_with fail
                                obtain ⟨w15, hw15, hk15⟩ : ∃ w15, w15 = wr.drewN kx ∧ Keeps [] w16 w15 := ⟨_, rfl, HB.out.2.drewN _⟩
                                rw [← hw15]
                                have K15 := hid hk15
                                have z15 : w15.cell? ⟨cb, 0, none⟩ = some (.int .i64 p) := hk15.cellSome HR.out.2.2.2.2.1 (by simp)
                                have HH15 : Hid (w15.heap[hb]? = some (.cells (ints c6.matc).toArray 70 (0, 0))) := (hk15.block hb (Array.getElem?_eq_some_iff.1 HR.out.2.2.2.2.2).1 (by simp)).trans HR.out.2.2.2.2.2
                                clear hw15 hk15
                                go_loopw [26, 27] (fun qv jv wj => ∃ (q : Int) (y : Nat), 2 ≤ y ∧ y ≤ p.toNat + 1 ∧ qv = .int .i64 q ∧ jv = .int .i64 (y : Int) ∧ w15 = wj ∧ Hid (q = haveD c6 (x : Int) (y - 1))) (fun _ jv _ => p.toNat + 1 - (intOf jv).toNat)
                                case atStart => exact ⟨1, 2, Nat.le_refl _, by omega, rfl, rfl, rfl, (have_one HR.out.2.1.id _).symm⟩
                                case round =>
                                  obtain ⟨q, y, y2, y3, rfl, rfl, hw, HQY⟩ := hrel
                                  subst hw
                                  have y0 : (0 : Int) ≤ (y : Int) := Int.natCast_nonneg _
                                  have yy : (y : Int).toNat = y := by omega
                                  have hqb := have_bd c6 (x : Int) (y - 1)
                                  rw [← HQY.out] at hqb
                                  obtain ⟨qb1, qb2⟩ := hqb
                                  have q9 : q ≤ 9 := by omega
                                  by_cases hyp : y ≤ p.toNat
                                  · have y4 : (y : Int) ≤ p := by omega
                                    have y8 : (y : Int) < 8 := by omega
                                    have y8n : y < 8 := by omega
                                    have hmy := ints_cell HH15.out (i := y) (by rw [HR.out.2.1.mlen]; exact y8n)
                                    obtain ⟨mv, hmv⟩ : ∃ v, c6.matc.getD y 0 = v := ⟨_, rfl⟩
                                    rw [hmv] at hmy
                                    have HSU : Hid (haveD c6 (x : Int) y = q + (if (x : Int) ≤ mv then 1 else 0)) := by
                                      show _ = _
                                      rw [have_succ HR.out.2.1.id _ y2, ← HQY.out, hmv]
                                    have w07 : IntKind.i64.wrap (q + 1) = q + 1 := IntWalk.i64_in _ (by omega)
                                    clear hmv
                                    by_cases hge : (x : Int) ≤ mv
                                    · have HN2 : Hid (haveD c6 (x : Int) y = q + 1) := by show _ = _; rw [HSU.out, if_pos hge]
                                      go_wp2_with fail
                                      go_roundw
                                      case rel => exact ⟨q + 1, y + 1, by omega, by omega, by go_num, by go_num, by first | exact True.intro | rfl, by show _ = haveD c6 (x : Int) (y + 1 - 1); rw [Nat.add_sub_cancel]; exact HN2.out.symm⟩
                                      case measure => simp [intOf]; omega
                                    · have HN2 : Hid (haveD c6 (x : Int) y = q) := by show _ = _; rw [HSU.out, if_neg hge]; omega
                                      have hge2 : mv < (x : Int) := by omega
                                      clear hge
                                      go_wp2_with fail
                                      go_roundw
                                      case rel => exact ⟨q, y + 1, by omega, by omega, rfl, by go_num, by first | exact True.intro | rfl, by show _ = haveD c6 (x : Int) (y + 1 - 1); rw [Nat.add_sub_cancel]; exact HN2.out.symm⟩
                                      case measure => simp [intOf]; omega
                                  · have hyp2 : y = p.toNat + 1 := by omega
                                    have y4 : p < (y : Int) := by omega
                                    have HQP : Hid (q = haveD c6 (x : Int) p.toNat) := by show _ = _; rw [HQY.out, hyp2, Nat.add_sub_cancel]
                                    have hcn : c6.conf.nodes = p := by rw [HR.out.2.1.conf]; rfl
                                    have HSAT : Hid (satD c6 k0 x ↔ (k0 < x ∧ p < 2 * q)) := by
                                      show _ ↔ _
                                      unfold satD
                                      rw [hcn, ← HQP.out]
                                      constructor
                                      · rintro ⟨h1, h2⟩; exact ⟨h1, by omega⟩
                                      · rintro ⟨h1, h2⟩; exact ⟨h1, by omega⟩
                                    have w08 : IntKind.i64.wrap (2 * q) = 2 * q := IntWalk.i64_in _ (by omega)
                                    clear hyp2 hcn
                                    by_cases hm1 : p < 2 * q
                                    · by_cases hm2 : k0 < x
                                      · have hm3 : (k0 : Int) < (x : Int) := by omega
                                        have HBS : Hid (bestTo c6 k0 x = (x : Int)) := by show _ = _; rw [best_succ _ _ _ x1, if_pos (HSAT.out.2 ⟨hm2, hm1⟩)]
                                        go_wp2_with fail
                                        go_roundw
                                        case rel => exact ⟨x + 1, (x : Int), by omega, by omega, by go_num, rfl, by rw [Nat.add_sub_cancel]; exact HBS.out.symm, K15.out⟩
                                        case measure => simp [intOf]; omega
                                      · have hm3 : (x : Int) ≤ (k0 : Int) := by omega
                                        have HBS : Hid (bestTo c6 k0 x = bst) := by show _ = _; rw [best_succ _ _ _ x1, if_neg (fun h => hm2 (HSAT.out.1 h).1), HB.out.1]
                                        go_wp2_with fail
                                        go_roundw
                                        case rel => exact ⟨x + 1, bst, by omega, by omega, by go_num, rfl, by rw [Nat.add_sub_cancel]; exact HBS.out.symm, K15.out⟩
                                        case measure => simp [intOf]; omega
                                    · have hm3 : 2 * q ≤ p := by omega
                                      have HBS : Hid (bestTo c6 k0 x = bst) := by show _ = _; rw [best_succ _ _ _ x1, if_neg (fun h => hm1 (HSAT.out.1 h).2), HB.out.1]
                                      clear hm1
                                      go_wp2_with fail
                                      go_roundw
                                      case rel => exact ⟨x + 1, bst, by omega, by omega, by go_num, rfl, by rw [Nat.add_sub_cancel]; exact HBS.out.symm, K15.out⟩
                                      case measure => simp [intOf]; omega
                              · have x3 : (L : Int) < (x : Int) := by omega
                                have HBC : Hid (c6.commit = bst) := by
                                  show _ = _
                                  rw [HR.out.2.1.best, HB.out.1, HR.out.2.2.1, show x - 1 = L by omega]
                                go_wp2_with fail
                                refine (cLast_is _ _ n c6 lv6 sv6 (HR.out.1.k HB.out.2) (L : Int) HLL6.out).mono ?_
                                rintro e w14 ⟨rfl, kx, rfl⟩
                                go_wp2_with fail
                                refine (cCommit_is' _ _ n c6 lv6 sv6 (HR.out.1.k (HB.out.2.drewN _)) bst HBC.out).mono ?_
                                rintro e w15 ⟨rfl, rfl⟩
                                have HRN : Hid (CoreAt (wr.drewN kx) w4.heap.size n c6 lv6 sv6 ∧ AgI p k0 bn c6 ∧ c6.l.length = L ∧ Keeps [] w (wr.drewN kx) ∧ (wr.drewN kx).cell? ⟨cb, 0, none⟩ = some (.int .i64 p) ∧ (wr.drewN kx).heap[hb]? = some (.cells (ints c6.matc).toArray 70 (0, 0))) := by
                                  have kk := HB.out.2.drewN kx
                                  exact ⟨HR.out.1.k kk, HR.out.2.1, HR.out.2.2.1, HR.out.2.2.2.1.trans kk (fun _ _ h => h), kk.cellSome HR.out.2.2.2.2.1 (by simp), (kk.block hb (Array.getElem?_eq_some_iff.1 HR.out.2.2.2.2.2).1 (by simp)).trans HR.out.2.2.2.2.2⟩
                                go_wp2_with fail
                                go_roundw
                                case rel => exact ⟨j + 1, lv6, sv6, c6, by omega, by omega, by go_num, HRN.out⟩
                                case measure => simp [intOf]; omega
                      · have i1' : (j : Int) < (ms.length : Int) := by omega
                        have i2' : (40 : Int) ≤ (j : Int) := by omega
                        go_wp2_with fail
                        refine (cAwake_any _).mono ?_
                        rintro e w10 ⟨rfl, k10⟩
                        have K10 : Hid (Keeps [] w w10) := HQ.out.2.2.2.1.trans k10 (fun _ _ h => h)
                        clear k10
                        go_wp2_with fail
                        go_ret
                        exact ⟨rfl, K10.out.below (Nat.le_refl _) (fun _ h => by cases h)⟩
                    · have i1' : (ms.length : Int) ≤ (j : Int) := by omega
                      go_wp2_with fail
                      refine (cAwake_any _).mono ?_
                      rintro e w10 ⟨rfl, k10⟩
                      have K10 : Hid (Keeps [] w w10) := HQ.out.2.2.2.1.trans k10 (fun _ _ h => h)
                      clear k10
                      go_wp2_with fail
                      go_ret
                      exact ⟨rfl, K10.out.below (Nat.le_refl _) (fun _ h => by cases h)⟩

end Go.Proofs.Ytpppoajnbhipeaa
