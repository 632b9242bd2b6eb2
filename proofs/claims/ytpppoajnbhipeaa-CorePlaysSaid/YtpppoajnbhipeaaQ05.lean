/- Joined of CoreO, CoreS, CoreI, CoreX. -/
import Derived.Test.YtpppoajnbhipeaaQ04
import Derived.Test.YtpppoajnbhipeaaQ01

/- New of a core, the good way. (Printed by gen_new.py.) -/
namespace Go.Proofs.Ytpppoajnbhipeaa
open Go Go.RowKit

theorem mayNew_take {cf : ConfD} {id term vote base baseTerm : Int} {l l' : List Ent} (h : headD cf id term vote base baseTerm l.length = true) (hl : l'.length ≤ l.length) (ha : ∀ e ∈ l', inD e.term 1 1099511627776 = true) : mayNewD cf id term vote base baseTerm l' = true := by
  rw [mayNew_head]
  simp only [Bool.and_eq_true, List.all_eq_true]
  refine ⟨?_, ha⟩
  simp only [headD, Bool.and_eq_true, decide_eq_true_eq] at h ⊢
  exact ⟨h.1, by omega⟩

def NewYes (cf : ConfD) (id term vote base baseTerm : Int) (l : List Ent) (w : World) (e : Ending) (w' : World) : Prop :=
  ∃ n lv sv, e = .returned (.tuple #[.pointer (some ⟨n, 0, none⟩), .int .i64 0]) ∧ CoreAt w' w.heap.size n (newD cf id term vote base baseTerm l) lv sv ∧ Keeps [] w w'
def NewPost (cf : ConfD) (id term vote base baseTerm : Int) (l : List Ent) (w : World) (e : Ending) (w' : World) : Prop :=
  (mayNewD cf id term vote base baseTerm l = true ∧ NewYes cf id term vote base baseTerm l w e w') ∨ (mayNewD cf id term vote base baseTerm l = false ∧ NewNo w e w')

set_option maxRecDepth 100000 in
set_option maxHeartbeats 3200000 in
theorem cNew_body (cf : ConfD) (id term vote base baseTerm : Int) (l : List Ent) (a : Option Addr) (cap : Nat) (P : Nat → Prop) (w : World) (hl : ListAt entL w P (.slice a l.length cap) l) (hd : ∀ e ∈ l, e.data.length ≤ 1000000) (h : headD cf id term vote base baseTerm l.length = true) :
    Calls Try.prog 14 #[confV cf, .int .i64 id, .int .i64 term, .int .i64 vote, .int .i64 base, .int .i64 baseTerm, .slice a l.length cap] w (NewPost cf id term vote base baseTerm l w) := by
  obtain ⟨it, hi0, hz0, hz1, hz2⟩ := info_parts Try.infoEnt
  have HH := hid h
  have HLA := hid hl
  have HDA := hid hd
  simp only [headD, Bool.and_eq_true, decide_eq_true_eq] at h
  obtain ⟨⟨⟨⟨⟨⟨h0, h1⟩, h2⟩, h3⟩, h4⟩, h5⟩, h6⟩ := h
  have hm := (ConfD.may_iff cf).1 h0
  have F0 := hid h0
  have F1 := hid h1
  have F2 := hid h2
  have F3 := hid h3
  have F4 := hid h4
  have F5 := hid h5
  have hl5 : (l.length : Int) ≤ 5096 := by omega
  simp only [inD, Bool.and_eq_true, decide_eq_true_eq] at h1 h4
  have b1 : 1 ≤ id := h1.1
  have b2 : id ≤ 7 := by omega
  have b3 : 1 ≤ cf.heart := hm.2.2.1.1
  have b4 : cf.heart ≤ 100 := hm.2.2.1.2
  have p1 : 0 ≤ (id - 1) * (cf.heart + 6) := Int.mul_nonneg (by omega) (by omega)
  have p2 : (id - 1) * (cf.heart + 6) ≤ 6 * 106 := Int.mul_le_mul (by omega) (by omega) (by omega) (by omega)
  have HB : Hid (∀ (w1 : World) d, d = min ((id - 1) * (cf.heart + 6)) cf.range → w.heap.size ≤ w1.heap.size → ∃ cs, cs = #[.int .i64 cf.nodes, .int .i64 cf.clients, .int .i64 cf.heart, .int .i64 cf.lo, .int .i64 cf.range, .int .i64 cf.sessions, .int .i64 cf.snap, .int .i64 cf.room, .int .i64 cf.retry, .int .i64 id, .int .i64 term, .int .i64 vote, .int .i64 0, .int .i64 0, .int .i64 base, .int .i64 base, .int .i64 baseTerm, .slice none 0 0, .slice none 0 0, .int .i64 d, .int .i64 0,
      .bool false, .bool false, .bool false, .bool false, .bool false, .bool false, .bool false, .bool false, .int .i64 0, .int .i64 0, .int .i64 0, .int .i64 0, .int .i64 0, .int .i64 0, .int .i64 0, .int .i64 0, .int .i64 0, .int .i64 0, .int .i64 0, .int .i64 0, .int .i64 0, .int .i64 0, .int .i64 0, .int .i64 0, .bool false, .int .i64 0, .bool false] ∧
      CoreAt (w1.alloc (.cells cs 89)) w.heap.size w1.heap.size (newD cf id term vote base baseTerm []) (.slice none 0 0) (.slice none 0 0)) := fun w1 d hd hz => by
    refine ⟨_, rfl, { blk := ?_, own := OwnAt.nil _ _ _ _, snap := BytesAt.nil _ _ _ _, apart := by simp [mem_ownB, Value.ownBlock], base := hz, old := fun _ h => h.elim, free := ⟨fun h => h, fun _ _ h => h⟩, ok := newD_ok (mayNew_take HH.out (Nat.zero_le _) (by simp)) (by simp) }⟩
    subst hd
    exact heap_alloc_new _ _
  clear hl hd h0 h1 h2 h3 h4 h5 h6 hm
  rcases (show (id - 1) * (cf.heart + 6) ≤ cf.range ∨ cf.range < (id - 1) * (cf.heart + 6) by omega) with hmin | hmin
  all_goals
    unfold confV
    go_enter Try.func14, Try.ntmps14
    go_wp2_with fail
    refine (cMay_is true cf _ F0.out).mono ?_
    rintro e w1 ⟨rfl, k1⟩
    have K1 : Hid (Keeps [] w w1) := (((Keeps.refl [] w).alloc _).trans k1 (fun _ _ h => h))
    obtain ⟨⟨c0, c1, c2, c3, c4, c5, c6, c7, c8⟩, f1⟩ := blk9 ((k1.block w.heap.size (by simp) (by simp)).trans (heap_alloc_new w _))
    clear k1
    go_wp2_with fail
    refine (cin_is true _ _ _ _ F1.out).mono ?_
    rintro e w' ⟨rfl, hw'⟩
    subst hw'
    go_wp2_with fail
    refine (cin_is true _ _ _ _ F2.out).mono ?_
    rintro e w' ⟨rfl, hw'⟩
    subst hw'
    go_wp2_with fail
    refine (cin_is true _ _ _ _ F3.out).mono ?_
    rintro e w' ⟨rfl, hw'⟩
    subst hw'
    go_wp2_with fail
    refine (cin_is true _ _ _ _ F4.out).mono ?_
    rintro e w' ⟨rfl, hw'⟩
    subst hw'
    go_wp2_with fail
    refine (cin_is true _ _ _ _ F5.out).mono ?_
    rintro e w' ⟨rfl, hw'⟩
    subst hw'
    have hlen : (l.length : Int) ≤ 5096 := hl5
    go_wp2_with fail
    go_loopw [76] (fun i wr => ∃ k : Nat, k ≤ l.length ∧ i = .int .i64 k ∧ Hid (∃ lv sv, CoreAt wr w.heap.size w'.heap.size (newD cf id term vote base baseTerm (l.take k)) lv sv ∧ (∃ q c, lv = .slice q k c) ∧ Keeps [] w wr ∧ ∀ e ∈ l.take k, inD e.term 1 1099511627776 = true)) (fun i _ => l.length - (intOf i).toNat)
    case atStart =>
      obtain ⟨cs, hcs, hC⟩ := HB.out w' _ rfl K1.out.size
      rw [hcs] at hC
      first
        | (rw [show min ((id - 1) * (cf.heart + 6)) cf.range = (id - 1) * (cf.heart + 6) by omega] at hC; exact ⟨0, Nat.zero_le _, rfl, .slice none 0 0, .slice none 0 0, hC, ⟨_, _, rfl⟩, K1.out.alloc _, by simp⟩)
        | (rw [show min ((id - 1) * (cf.heart + 6)) cf.range = cf.range by omega] at hC; exact ⟨0, Nat.zero_le _, rfl, .slice none 0 0, .slice none 0 0, hC, ⟨_, _, rfl⟩, K1.out.alloc _, by simp⟩)
    case round =>
      obtain ⟨k, hk, rfl, HW⟩ := hrel
      obtain ⟨lv, sv, hc, ⟨q, cq, hlv⟩, hkk, hal⟩ := HW.out
      subst hlv
      clear HW
      have HC := hid hc
      have HK := hid hkk
      have HAL := hid hal
      have x17 : wr.cell? ⟨w'.heap.size, 17, none⟩ = some (.slice q k cq) := hc.blk.cell 17
      clear hc hkk hal
      by_cases hlt : k < l.length
      · have i0 : (0 : Int) ≤ (k : Int) := Int.natCast_nonneg _
        have i1 : (k : Int) < (l.length : Int) := by omega
        obtain ⟨e, he⟩ : ∃ e, l[k]? = some e := ⟨l[k], List.getElem?_eq_getElem hlt⟩
        obtain ⟨g, off, cg, ha, hcg, hcm, hgl, hgP⟩ := (HLA.out.k HK.out).addr (fun hn => by rw [hn] at hlt; simp at hlt)
        simp at ha
        obtain ⟨ha, hcc⟩ := ha
        subst ha
        subst hcc
        obtain ⟨cs, ⟨v, rfl, hbv⟩, hcs⟩ := (HLA.out.k HK.out).get he
        have y0 : wr.cell? ⟨g, off + k * 3, none⟩ = some (.int .i64 e.term) := hcs 0 _ rfl
        have y1 : wr.cell? ⟨g, off + k * 3 + 1, none⟩ = some (.bool e.cmd) := hcs 1 _ rfl
        have y2 : wr.cell? ⟨g, off + k * 3 + 2, none⟩ = some v := hcs 2 _ rfl
        obtain ⟨va, vc, rfl⟩ := hbv.form
        have HBV := hid hbv.1
        have HDL : Hid (e.data.length ≤ 1000000) := HDA.out e (List.mem_of_getElem? he)
        have HE := hid he
        clear hcs hbv he hcm hcg
        rcases hq : inD e.term 1 1099511627776 with _ | _
        · have HF : Hid (mayNewD cf id term vote base baseTerm l = false) := by
            show _ = _
            rw [mayNew_head, HH.out]
            simp only [Bool.true_and, List.all_eq_false]
            exact ⟨e, List.mem_of_getElem? HE.out, by simp [hq]⟩
          have HQ := hid hq
          clear hq
          go_wp2_with fail
          refine (cin_is false _ _ _ _ HQ.out).mono ?_
          rintro z w3 ⟨rfl, hw3⟩
          subst hw3
          go_wp2_with fail
          go_ret2
          exact .inr ⟨HF.out, rfl, HK.out.alloc _⟩
        · have HQ := hid hq
          clear hq
          have HT : Hid (l.take (k + 1) = l.take k ++ [e]) := by
            show _ = _
            rw [List.take_add_one, HE.out]
            rfl
          have HTL : Hid ((l.take k).length = k) := by show _ = _; simp; omega
          have HA2 : Hid (∀ e ∈ l.take (k + 1), inD e.term 1 1099511627776 = true) := by
            show ∀ _, _
            rw [HT.out]
            intro x hx
            rcases List.mem_append.1 hx with hx | hx
            · exact HAL.out x hx
            · simp at hx; subst hx; exact HQ.out
          have HOK : Hid (CoreOk (newD cf id term vote base baseTerm (l.take (k + 1)))) := newD_ok (mayNew_take HH.out (by simp; omega) HA2.out) (fun x hx => HDA.out x (List.mem_of_mem_take hx))
          have hle : e.data.length ≤ 1000000 := HDL.out
          have hk5 : k ≤ 5096 := by omega
          have HZW : Hid (w'.heap.size < wr.heap.size) := HC.out.blk.lt
          go_wp2_with fail
          refine (cin_is true _ _ _ _ HQ.out).mono ?_
          rintro z w3 ⟨rfl, hw3⟩
          have HW3 := hid hw3
          have x17' : w3.cell? ⟨w'.heap.size, 17, none⟩ = some (.slice q k cq) := by rw [hw3, World.cell?_alloc_lt _ _ _ HZW.out]; exact x17
          have z0 : w3.cell? ⟨wr.heap.size, 0, none⟩ = some (.int .i64 e.term) := by rw [hw3]; simp
          have z1 : w3.cell? ⟨wr.heap.size, 1, none⟩ = some (.bool e.cmd) := by rw [hw3]; simp
          have z2 : w3.cell? ⟨wr.heap.size, 2, none⟩ = some (.slice va e.data.length vc) := by rw [hw3]; simp
          have K3 : Hid (Keeps [] wr w3) := by rw [hw3]; exact (Keeps.refl [] wr).alloc _
          clear hw3
          go_wp2_with fail
          refine Plan.wp_region_plan (fun wx => wx.cell? ⟨w'.heap.size, 17, none⟩ = some (.slice q k cq) ∧ wx.cell? ⟨wr.heap.size, 0, none⟩ = some (.int .i64 e.term) ∧ wx.cell? ⟨wr.heap.size, 1, none⟩ = some (.bool e.cmd) ∧ wx.cell? ⟨wr.heap.size, 2, none⟩ = some (.slice va e.data.length vc)) 9 [(true, 0), (true, 1), (true, 2), (true, 3), (true, 4), (true, 5), (false, 6), (false, 7), (false, 8)] (by kernel_rfl) (by as_aux_lemma => kernel_rfl) (by kernel_rfl) (fun _ _ _ _ _ h => h) ?_ (fun hS => ?_)
          (· exact ⟨x17', z0, z1, z2⟩)
          simp only [Plan.pick, List.append_eq, List.cons_append, List.nil_append, Plan.g1, Plan.g2, Option.getD_some, List.drop_succ_cons, List.drop_zero]
          repeat (first | (refine Plan.take (v := ?_) (a' := ?_) (by rfl) ?_ ?_ ?_; rotate_left 2; (· (intro w' hS'; (try dsimp only at hS'); go_simp; try with_reducible rfl)); (· (simp only [Act.put, List.setIfInBounds_toArray, List.set_cons_zero, List.set_cons_succ]; try with_reducible rfl))) | (refine Plan.pass (a' := ?_) (by rfl) ?_ ?_; rotate_left 1; (· (simp only [Act.put, List.setIfInBounds_toArray, List.set_cons_zero, List.set_cons_succ]; try with_reducible rfl))))
          refine Plan.step ?_
          go_wp2_with fail
          refine (own_any e _ _ (by exact HBV.out.keeps (F := []) K3.out.drew (fun _ _ h => by cases h)) (by omega)).mono ?_
          rintro z w4 ⟨a4, q4, rfl, ho4, hk4⟩
          unfold entV
          have K4 : Hid (Keeps [] wr w4) := K3.out.drew.trans hk4 (fun _ _ h => h)
          have HEL : Hid (∀ wx, Keeps [] w4 wx → entL.at_ wx (fun b => w3.heap.size ≤ b) [.int .i64 e.term, .bool e.cmd, .slice a4 e.data.length q4] e) := ent_elem ho4 (fun b hb => hb)
          have a17 := hk4.cellSome x17' (by simp)
          have b0 := hk4.cellSome z0 (by simp)
          have b1 := hk4.cellSome z1 (by simp)
          have b2 := hk4.cellSome z2 (by simp)
          have HOW : Hid (OwnAt entL 59 w4 w.heap.size (fun b => b ≠ w'.heap.size ∧ b ∉ ownB (.slice q k cq)) (.slice q k cq) (l.take k)) := (OwnAt.k HC.out.own K4.out).mono (fun _ _ h => h.1)
          have HBB : Hid (∀ b, w3.heap.size ≤ b → b ≠ w'.heap.size ∧ b ∉ ownB (.slice q k cq)) := fun b hb => by
            have z3 := K3.out.size
            refine ⟨by have := HZW.out; omega, fun hb' => ?_⟩
            have := (HC.out.own.ge b hb').2
            omega
          have HZ4 : Hid (w.heap.size ≤ w4.heap.size) := Nat.le_trans HK.out.size K4.out.size
          clear ho4 hk4
          go_wp2_with fail
          refine ⟨⟨a17, b0, b1, b2⟩, ?_⟩
          refine Plan.step ?_
          go_wp2_with fail
          refine ⟨⟨((Keeps.refl [] w4).alloc _).cellSome a17 (by simp), ((Keeps.refl [] w4).alloc _).cellSome b0 (by simp), ((Keeps.refl [] w4).alloc _).cellSome b1 (by simp), ((Keeps.refl [] w4).alloc _).cellSome b2 (by simp)⟩, ?_⟩
          refine Plan.step ?_
          go_wp2_with (at_builtin; go_must (refine wpList_append_off (L := entL) (PB := fun b => w3.heap.size ≤ b) _ (by rfl) _ _ _ (by rfl) w.heap.size 59 it _ 40 Try.underlying35 hi0 hz0 hz1 hz2 rfl (R := fun b => b ≠ w'.heap.size) (.slice q k cq) (by rfl) (l.take k) [e] k HTL.out [[.int .i64 e.term, .bool e.cmd, .slice a4 e.data.length q4]] (HOW.out.k ((Keeps.refl [] _).alloc _)) (.slice _ _ _) (by rfl) 1 rfl (ElemsAt.one1 (HEL.out _ ((Keeps.refl [] _).alloc _))) (Reads.one1 (heap_alloc_new _ _) rfl) (by omega) (le_maxLen (by omega)) (by exact Nat.le_trans HZ4.out ((Keeps.refl [] _).alloc _).size) (fun b _ hb => HBB.out b hb) ?_; intro a5 q5 w5 ho5 hk5 hv5))
          have hap : w'.heap.size ∉ ownB (.slice q k cq) := HC.out.apart
          have hap2 : wr.heap.size ∉ ownB (.slice q k cq) := fun hb => by have := (HC.out.own.ge _ hb).2; omega
          have e17 := hk5.out.cellSome (((Keeps.refl [] w4).alloc _).cellSome a17 (by simp)) hap
          have e0 := hk5.out.cellSome (((Keeps.refl [] w4).alloc _).cellSome b0 (by simp)) hap2
          have e1 := hk5.out.cellSome (((Keeps.refl [] w4).alloc _).cellSome b1 (by simp)) hap2
          have e2 := hk5.out.cellSome (((Keeps.refl [] w4).alloc _).cellSome b2 (by simp)) hap2
          have hfz : w5.frozen? ⟨w'.heap.size, 17, none⟩ = false := by
            have h1 := (K4.out.alloc (.cells #[.int .i64 e.term, .bool e.cmd, .slice a4 e.data.length q4] 59))
            exact (hk5.out.frozen (a := ⟨w'.heap.size, 17, none⟩) (Nat.lt_of_lt_of_le HZW.out h1.size) hap).trans ((h1.frozen (a := ⟨w'.heap.size, 17, none⟩) HZW.out (by simp)).trans (HC.out.blk.free 17))
          refine ⟨⟨e17, e0, e1, e2⟩, ?_⟩
          refine Plan.fin ?_
          have HG := hid (HC.out.grow (K4.out.alloc (.cells #[.int .i64 e.term, .bool e.cmd, .slice a4 e.data.length q4] 59)) (l' := l.take (k + 1)) (by rw [HT.out]; exact ho5.out.mono (fun _ _ h => ⟨⟨h.1, fun h => h⟩, h.2⟩)) hk5.out hv5.out rfl HOK.out)
          clear e0 e1 e2 a17 b0 b1 b2 z0 z1 z2 x17' x17
          go_wp2_with fail
          go_roundw
          case rel => exact ⟨k + 1, by omega, by go_num, _, sv, HG.out.1, ⟨_, _, rfl⟩, HK.out.trans HG.out.2 (fun b hb hb' => by have := (HC.out.lt b hb').1; omega), HA2.out⟩
          case measure => simp [intOf]; omega
      · have hkl : k = l.length := by omega
        subst hkl
        rw [List.take_length] at HC HAL
        have HT : Hid (mayNewD cf id term vote base baseTerm l = true) := mayNew_take HH.out (Nat.le_refl _) HAL.out
        go_wp2_with fail
        go_ret2
        exact .inl ⟨HT.out, _, _, sv, rfl, HC.out, HK.out⟩

end Go.Proofs.Ytpppoajnbhipeaa

/- From and New of the document's core. -/
namespace Go.Proofs.Ytpppoajnbhipeaa
open Go Go.RowKit

def RFromPost (l : List Ent) (P : Nat → Prop) (w : World) (e : Ending) (w' : World) : Prop := ∃ a k, e = .returned (.slice a l.length k) ∧ ListAt entL w' (fun b => P b ∨ w.heap.size ≤ b) (.slice a l.length k) l ∧ Keeps [] w w'
theorem RFromPost.nil {l : List Ent} {P : Nat → Prop} {w w' : World} (hl : l = []) (k : Keeps [] w w') : RFromPost l P w (.returned (.slice none 0 0)) w' := by
  subst hl
  exact ⟨none, 0, rfl, ListAt.nil _ _ _ _, k⟩
/-- A copy of a list: a row of its own, the elements' blocks the same. -/
theorem ListAt.copied {w w1 w' : World} {P : Nat → Prop} {v : Value} {l : List Ent} {css : List (List Value)} {n : Nat} (h : ElemsAt entL w P css l) (hn : n = l.length) (ho : w'.ownsRow w1.heap.size 59 3 v n css.flatten) (hz : w.heap.size ≤ w1.heap.size) (k : Keeps [] w w') : ListAt entL w' (fun b => P b ∨ w.heap.size ≤ b) v l := by
  subst hn
  exact ⟨css, (h.keep k (fun _ _ h => by cases h)).mono (fun b _ h => .inl h), Reads.ofOwn ho, fun _ b hb => .inr (Nat.le_trans hz (ownB_ge ho b hb).1)⟩

section
variable (w : World) (B n : Nat) (c : CoreD) (P : Nat → Prop) (lv sv : Value) (h : RefAt w B n c P lv sv)
include h

set_option maxRecDepth 100000 in
set_option maxHeartbeats 1600000 in
theorem rFrom_any (i : Int) (b1 : -4611686018427387904 ≤ i) (b2 : i ≤ 4611686018427387904) : Calls Try.prog 49 #[.pointer (some ⟨n, 0, none⟩), .int .i64 i] w (RFromPost (fromD c i) P w) := by
  obtain ⟨it, hi0, hz0, hz1, hz2⟩ := info_parts Try.infoEnt
  have h1 : w.cell? ⟨n, 15, none⟩ = some (.int .i64 c.base) := h.blk.cell 15
  have HL : Hid (Calls Try.prog 48 #[.pointer (some ⟨n, 0, none⟩)] w fun e w' => e = .returned (.int .i64 (lastD c)) ∧ ∃ k, w' = w.drewN k) := rLast_any _ B n c P lv sv h
  have o1 := h.ok.base.1
  have o2 := h.ok.last
  have o3 := h.ok.len
  obtain ⟨s, hs⟩ : ∃ s : Nat, max i (c.base + 1) = c.base + 1 + s := ⟨(max i (c.base + 1) - c.base - 1).toNat, by omega⟩
  have HF := hid (fromD_at hs)
  by_cases hgt : lastD c < c.base + 1 + s
  · have HE : Hid (fromD c i = []) := by
      show _ = _
      rw [HF.out]
      exact List.drop_eq_nil_of_le (by unfold lastD at hgt; omega)
    clear h
    rcases (show (i ≤ c.base ∧ lastD c < c.base + 1) ∨ (c.base < i ∧ lastD c < i) by omega) with ⟨hm, hg⟩ | ⟨hm, hg⟩
    all_goals
      clear hs hgt
      go_enter Try.func49, Try.ntmps49
      go_wp2_with (go_at_call 48; go_must (refine HL.out.mono ?_; rintro e w' ⟨rfl, kd, rfl⟩))
      all_goals
        go_ret
        exact RFromPost.nil HE.out ((Keeps.refl _ _).drewN _)
  · have hsl : s < c.l.length := by unfold lastD at hgt; omega
    obtain ⟨e0, he0⟩ : ∃ e, c.l[s]? = some e := ⟨c.l[s], List.getElem?_eq_getElem hsl⟩
    obtain ⟨g, off, cap, _, _, hf, hcl, hcm, ec, _⟩ := h.log.ent he0
    have hgl : g < w.heap.size := World.block_lt_of_cell? _ _ ec
    have h2 : w.cell? ⟨n, 18, none⟩ = some (.slice (some ⟨g, off, none⟩) c.l.length cap) := (h.blk.cell 18).trans (by rw [hf]; rfl)
    have HP : Hid (ListAt entL w P (.slice (some ⟨g, off + s * 3, none⟩) (c.l.length - s) (cap - s)) (c.l.drop s)) := by
      have h3 := h.log
      rw [hf] at h3
      have := h3.piece s (c.l.length - s) (cap - s) (some ⟨g, off + s * 3, none⟩) (by omega) (by omega) (by omega) (fun _ => rfl)
      rwa [List.take_of_length_le (by simp)] at this
    obtain ⟨css, hel, hrd, _⟩ := HP.out
    have HEL := hid hel
    have HLN : Hid ((c.l.drop s).length = c.l.length - s) := by show _ = _; simp
    rw [HLN.out] at hrd
    have HRD := hid hrd
    clear HP hel hrd
    have HON : Hid (∀ u ∈ css.flatten, u.oneCell' = true) := HEL.out.one
    have s0 : (0 : Int) ≤ (s : Int) := Int.natCast_nonneg _
    have s1 : (s : Int) ≤ (c.l.length : Int) := by omega
    have s2 : (s : Int) ≤ (cap : Int) := by omega
    have sc : ¬ cap = s := by omega
    have sc1 : s ≤ cap := by omega
    have sc2 : s ≤ c.l.length := by omega
    have hc63 : (cap : Int) ≤ 9223372036854775807 := by unfold maxLen at hcm; omega
    clear h hf he0 ec hcm
    obtain ⟨x, hx⟩ : ∃ x, x = c.base + 1 + (s : Int) := ⟨_, rfl⟩
    have w1 : IntKind.i64.wrap (x - c.base) = x - c.base := IntWalk.i64_in _ (by omega)
    have w2 : IntKind.i64.wrap (x - c.base - 1) = (s : Int) := by rw [IntWalk.i64_in _ (by omega)]; omega
    have hle : x ≤ lastD c := by omega
    rcases (show (i ≤ c.base ∧ c.base + 1 = x) ∨ (c.base < i ∧ i = x) by omega) with ⟨hm1, hm2⟩ | ⟨hm1, hm2⟩
    rotate_left 1
    subst hm2
    all_goals
      clear hs hgt hx
      go_enter Try.func49, Try.ntmps49
      go_wp2_with (go_at_call 48; go_must (refine HL.out.mono ?_; rintro e w' ⟨rfl, kd, rfl⟩))
      refine Plan.wp_region_plan (fun w' => w'.cell? ⟨n, 15, none⟩ = some (.int .i64 c.base) ∧ w'.cell? ⟨n, 18, none⟩ = some (.slice (some ⟨g, off, none⟩) c.l.length cap)) 14 [(true, 0), (true, 1), (true, 2), (true, 3), (true, 4), (true, 5), (true, 6), (true, 7), (true, 8), (true, 9), (true, 10), (true, 11), (false, 12), (true, 13)] (by kernel_rfl) (by as_aux_lemma => kernel_rfl) (by kernel_rfl) (fun _ _ _ _ _ h => h) ?_ (fun hS => ?_)
      (· exact ⟨h1, h2⟩)
      simp only [Plan.pick, List.append_eq, List.cons_append, List.nil_append, Plan.g1, Plan.g2, Option.getD_some, List.drop_succ_cons, List.drop_zero]
      repeat (first | (refine Plan.take (v := ?_) (a' := ?_) (by rfl) ?_ ?_ ?_; rotate_left 2; (· (intro w' hS'; (try dsimp only at hS'); go_simp; try with_reducible rfl)); (· (simp only [Act.put, List.setIfInBounds_toArray, List.set_cons_zero, List.set_cons_succ]; try with_reducible rfl))) | (refine Plan.pass (a' := ?_) (by rfl) ?_ ?_; rotate_left 1; (· (simp only [Act.put, List.setIfInBounds_toArray, List.set_cons_zero, List.set_cons_succ]; try with_reducible rfl))))
      clear w1 w2
      refine Plan.step ?_
      go_wp2_with (at_builtin; go_must (refine wpList_append_copy _ rfl (.tmp 31) 35 rfl 59 it _ 3 40 Try.underlying35 hi0 hz0 hz1 hz2 rfl (by decide) (.slice (some ⟨g, off + s * 3, none⟩) (c.l.length - s) (cap - s)) (c.l.length - s) css.flatten rfl (by exact HRD.out) HON.out (by omega) (le_maxLen (by omega)) ?_; intro v' wz g1 g2; obtain ⟨a, q, hv⟩ := len_form g1; subst hv; have HO := hid g1; have HK := hid ((Keeps.refl [] w).grown g2 rfl rfl rfl rfl (fun _ h => by cases h)); clear g1 g2))
      refine ⟨⟨HK.out.cellSome h1 (by simp), HK.out.cellSome h2 (by simp)⟩, ?_⟩
      repeat (first | (refine Plan.take (v := ?_) (a' := ?_) (by rfl) ?_ ?_ ?_; rotate_left 2; (· (intro w' hS'; (try dsimp only at hS'); go_simp; try with_reducible rfl)); (· (simp only [Act.put, List.setIfInBounds_toArray, List.set_cons_zero, List.set_cons_succ]; try with_reducible rfl))) | (refine Plan.pass (a' := ?_) (by rfl) ?_ ?_; rotate_left 1; (· (simp only [Act.put, List.setIfInBounds_toArray, List.set_cons_zero, List.set_cons_succ]; try with_reducible rfl))))
      refine Plan.fin ?_
      go_wp2_with fail
      go_ret
      refine ⟨a, q, ?_, ?_, HK.out⟩
      (· rw [HF.out, HLN.out]; rfl)
      (· have := ListAt.copied HEL.out HLN.out.symm HO.out (Nat.le_refl _) HK.out
         rw [HF.out, HLN.out]
         exact this)
end

end Go.Proofs.Ytpppoajnbhipeaa

/- WHAT A CORE DOES WITH A MESSAGE, with a command, with a snapshot, in plain words: no memory, no program. -/
namespace Go.Proofs.Ytpppoajnbhipeaa
open Go Go.RowKit

/-! Messages. -/
def wrongHead (c : CoreD) (m : MsgD) : Bool :=
  !inD m.kind 1 5 || m.to != c.id || !inD m.frm 1 c.conf.nodes || m.frm == c.id || !inD m.term 1 1099511627776 || !inD m.a 0 1099511627776 || !inD m.b 0 1099511627776 || !inD m.c 0 1099511627776 || decide (8 < m.entries.length)
def wrongD (c : CoreD) (m : MsgD) : Bool := wrongHead c m || m.entries.any fun e => !inD e.term 1 m.term
def answerD (c : CoreD) (m : MsgD) (ok : Bool) (a : Int) : List MsgD := [saysD c { msg0 with kind := 4, ok := ok, a := a } m.frm]
def stepD (c : CoreD) (m : MsgD) : CoreD := if c.term < m.term then { risesD c m.term 0 with role := 0, leader := 0 } else c
def lastTerm (c : CoreD) : Int := (atD c (lastD c)).1
def askedOk (c : CoreD) (m : MsgD) : Bool :=
  m.term == c.term && (c.vote == 0 || c.vote == m.frm) && c.role == 0 && (decide (lastTerm c < m.b) || m.b == lastTerm c && decide (lastD c ≤ m.a))
def askedC (c : CoreD) (m : MsgD) : CoreD := if askedOk c m then { risesD c c.term m.frm with patience := 0 } else c
def askedD (c : CoreD) (m : MsgD) : CoreD × List MsgD := (askedC c m, [saysD (askedC c m) { msg0 with kind := 2, ok := askedOk c m } m.frm])
def lead0 (c : CoreD) : CoreD := { c with role := 2, leader := c.id, patience := 0, matc := List.replicate 8 0, next := List.replicate 8 (lastD c + 1) }
def leadD (c : CoreD) : CoreD := if c.l.length < 5096 then putD (lead0 c) { term := c.term, cmd := false, data := [] } else lead0 c
def votedC (c : CoreD) (m : MsgD) : CoreD := { c with votes := c.votes.set m.frm.toNat true }
def votedD (c : CoreD) (m : MsgD) : CoreD × List MsgD :=
  if m.term ≠ c.term ∨ c.role ≠ 1 ∨ m.ok = false then (c, [])
  else if ((votedC c m).votes.count true : Int) ≤ c.conf.nodes / 2 then (votedC c m, [])
  else (leadD (votedC c m), othersD (leadD (votedC c m)) (sendD (leadD (votedC c m))))
/-- How many have an index (but itself): the nodes up to k. -/
def haveD (c : CoreD) (i : Int) : Nat → Int
  | 0 => 1
  | k + 1 => haveD c i k + (if ((k + 1 : Nat) : Int) ≠ c.id ∧ i ≤ c.matc.getD (k + 1) 0 then 1 else 0)
def agreesTo (c : CoreD) : Nat → Int
  | 0 => c.commit
  | k + 1 => if (atD c (c.commit + (k + 1 : Nat))).1 = c.term ∧ c.conf.nodes / 2 < haveD c (c.commit + (k + 1 : Nat)) c.conf.nodes.toNat then c.commit + (k + 1 : Nat) else agreesTo c k
def agreesD (c : CoreD) : CoreD := { c with commit := agreesTo c (lastD c - c.commit).toNat }
def appNo (c : CoreD) (m : MsgD) : CoreD :=
  { c with next := c.next.set m.frm.toNat (max (c.matc.getD m.frm.toNat 0 + 1) (if m.a < c.next.getD m.frm.toNat 0 - 1 - 1 then m.a + 1 else c.next.getD m.frm.toNat 0 - 1)) }
def appYes0 (c : CoreD) (m : MsgD) : CoreD := { c with matc := c.matc.set m.frm.toNat (max (c.matc.getD m.frm.toNat 0) m.a) }
def appYes (c : CoreD) (m : MsgD) : CoreD := { appYes0 c m with next := c.next.set m.frm.toNat (max (c.next.getD m.frm.toNat 0) ((appYes0 c m).matc.getD m.frm.toNat 0 + 1)) }
def appendedD (c : CoreD) (m : MsgD) : CoreD × List MsgD :=
  if m.term ≠ c.term ∨ c.role ≠ 2 ∨ (m.ok = true ∧ lastD c < m.a) then (c, [])
  else if m.ok = false then (appNo c m, [sendD (appNo c m) m.frm])
  else (agreesD (appYes c m), [])
/-- Entries behind an index: from the first on that is another one, they take the place of what stands there; none: they may not. -/
def putsD (c : CoreD) (a : Int) : List Ent → Option CoreD
  | [] => some c
  | e :: r =>
    if (atD c (a + 1)).2 = true ∧ (atD c (a + 1)).1 = e.term then putsD c (a + 1) r
    else if a + 1 ≤ c.commit ∨ 5096 < a - c.base + (r.length + 1) then none
    else some ((e :: r).foldl putD { c with l := c.l.take (a - c.base).toNat })
def fitD (c : CoreD) (a b : Int) (passed : Bool) : Bool := (atD c a).2 && (passed || (atD c a).1 == b)
def appendAt (c : CoreD) (m : MsgD) (a : Int) (l : List Ent) (passed : Bool) : CoreD × List MsgD :=
  if fitD c a m.b passed then
    match putsD c a l with
    | none => (c, [])
    | some c' => ({ c' with commit := max c.commit (min m.c (a + l.length)) }, answerD c m true (a + l.length))
  else (c, answerD c m false (max c.commit (min (lastD c) (a - 1))))
def appendD (c : CoreD) (m : MsgD) : CoreD × List MsgD :=
  if c.base ≤ m.a then appendAt c m m.a m.entries false
  else if c.base - m.a < m.entries.length then appendAt c m c.base (m.entries.drop (c.base - m.a).toNat) true
  else (c, answerD c m true c.base)
def standsD (c : CoreD) (i : Int) (data : List UInt8) : CoreD := { c with l := c.l.drop (i - c.base).toNat, base := i, baseTerm := (atD c i).1, snap := data }
def takesD (c : CoreD) (m : MsgD) : CoreD × List MsgD :=
  if m.a ≤ c.commit then (c, answerD c m true c.commit)
  else ({ (if (atD c m.a).2 = true ∧ (atD c m.a).1 = m.b then standsD c m.a m.data else { c with l := [], base := m.a, baseTerm := m.b, snap := m.data }) with commit := m.a, tsnap := true }, answerD c m true m.a)
def followD (c : CoreD) (m : MsgD) : CoreD := { c with role := 0, leader := m.frm, patience := 0 }
def snapNo (m : MsgD) : Bool := m.kind == 5 && (!inD m.a 1 549755813888 || !inD m.b 1 m.term)
def heardD (c : CoreD) (m : MsgD) : CoreD × List MsgD :=
  if m.kind = 1 then askedD c m
  else if m.kind = 2 then votedD c m
  else if m.kind = 4 then appendedD c m
  else if m.term < c.term then (c, answerD c m false (lastD c))
  else if c.role = 2 ∨ snapNo m = true then (c, [])
  else if m.kind = 5 then takesD (followD c m) m
  else appendD (followD c m) m
def hearD (c : CoreD) (m : MsgD) : CoreD × List MsgD := if wrongD c m then (c, []) else heardD (stepD c m) m

/-! The other calls. -/
def askC (c : CoreD) (data : List UInt8) : CoreD := putD c { term := c.term, cmd := true, data := data }
def askD (c : CoreD) (data : List UInt8) : CoreD × Int × List MsgD × Int :=
  if c.role ≠ 2 then (c, 0, [], 24)
  else if 4096 ≤ c.l.length then (c, 0, [], 2)
  else (askC c data, lastD (askC c data), othersD (askC c data) (sendD (askC c data)), 0)
def compactD (c : CoreD) (i : Int) (data : List UInt8) : CoreD × Int := if i ≤ c.base ∨ c.commit < i then (c, 1) else (standsD c i data, 0)
def changesD (c : CoreD) : CoreD × Bool × Int × Bool := ({ c with hard := false, frm := 0, tsnap := false }, c.hard, (if 0 < c.frm then max c.frm (c.base + 1) else c.frm), c.tsnap)

theorem wrongHead_no {c : CoreD} {m : MsgD} (h : wrongHead c m = false) : (1 ≤ m.kind ∧ m.kind ≤ 5) ∧ m.to = c.id ∧ (1 ≤ m.frm ∧ m.frm ≤ c.conf.nodes) ∧ m.frm ≠ c.id ∧ (1 ≤ m.term ∧ m.term ≤ 1099511627776) ∧ (0 ≤ m.a ∧ m.a ≤ 1099511627776) ∧ (0 ≤ m.b ∧ m.b ≤ 1099511627776) ∧ (0 ≤ m.c ∧ m.c ≤ 1099511627776) ∧ m.entries.length ≤ 8 := by
  simp only [wrongHead, inD, Bool.or_eq_false_iff, Bool.not_eq_false', Bool.and_eq_true, decide_eq_true_eq, bne_eq_false_iff_eq, beq_eq_false_iff_ne, decide_eq_false_iff_not] at h
  obtain ⟨⟨⟨⟨⟨⟨⟨⟨h1, h2⟩, h3⟩, h4⟩, h5⟩, h6⟩, h7⟩, h8⟩, h9⟩ := h
  exact ⟨h1, h2, h3, h4, h5, h6, h7, h8, by omega⟩

end Go.Proofs.Ytpppoajnbhipeaa

/- What a core says; Draw; rises. -/
namespace Go.Proofs.Ytpppoajnbhipeaa
open Go Go.RowKit

set_option maxRecDepth 100000 in
set_option maxHeartbeats 1600000 in
theorem says_any (w : World) (n : Nat) (id term : Int) (k f t0 tm a b c to : Int) (ok : Bool) (ea da : Option Addr) (el ec dl dc : Nat) (h9 : w.cell? ⟨n, 9, none⟩ = some (.int .i64 id)) (h10 : w.cell? ⟨n, 10, none⟩ = some (.int .i64 term)) (hlt : n < w.heap.size) :
    Calls Try.prog 65 #[.pointer (some ⟨n, 0, none⟩), .agg #[.int .i64 k, .int .i64 f, .int .i64 t0, .int .i64 tm, .int .i64 a, .int .i64 b, .int .i64 c, .bool ok, .slice ea el ec, .slice da dl dc], .int .i64 to] w fun x w' =>
      x = .returned (.agg #[.int .i64 k, .int .i64 id, .int .i64 to, .int .i64 term, .int .i64 a, .int .i64 b, .int .i64 c, .bool ok, .slice ea el ec, .slice da dl dc]) ∧ Keeps [] w w' := by
  go_enter Try.func65, Try.ntmps65
  go_wp2_with fail
  refine Plan.wp_region_plan (fun wx => wx.cell? ⟨n, 9, none⟩ = some (.int .i64 id) ∧ wx.cell? ⟨n, 10, none⟩ = some (.int .i64 term)) 13 [(true, 0), (true, 1), (true, 2), (true, 3), (true, 4), (true, 5), (true, 6), (true, 7), (true, 8), (true, 9), (false, 10), (true, 11), (false, 12)] (by kernel_rfl) (by as_aux_lemma => kernel_rfl) (by kernel_rfl) (fun _ _ _ _ _ h => h) ?_ (fun hS => ?_)
  (· go_simp)
  simp only [Plan.pick, List.getElem?_cons_zero, List.getElem?_cons_succ, Option.getD_some, List.drop_succ_cons, List.drop_zero]
  iterate 10 (first | refine Plan.tA ?_ | refine Plan.tY ?_ | refine Plan.pN ?_ | refine Plan.pU ?_ | fail)
  refine Plan.step ?_
  go_wp2_with fail
  refine ⟨?_, ?_⟩
  (· go_simp)
  iterate 1 (first | refine Plan.tA ?_ | refine Plan.tY ?_ | refine Plan.pN ?_ | refine Plan.pU ?_ | fail)
  refine Plan.step ?_
  go_wp2_with fail
  refine ⟨?_, ?_⟩
  (· go_simp)
  refine Plan.fin ?_
  go_wp2_with fail
  refine bodyPost_ret (v := .agg #[.int .i64 k, .int .i64 id, .int .i64 to, .int .i64 term, .int .i64 a, .int .i64 b, .int .i64 c, .bool ok, .slice ea el ec, .slice da dl dc]) (by simp [results, Try.results65, go_sem]) rfl ⟨rfl, ?_⟩
  exact Keeps.K

/-- A block's cells are no other block's. -/
theorem cDraw_bd (c : CoreD) (v : Int) (h : CoreOk c) : CoreOk (drawD c v) := by
  have hm := (ConfD.may_iff c.conf).1 h.may
  exact { may := h.may, id := h.id, term := h.term, base := h.base, baseTerm := h.baseTerm, len := h.len, last := h.last, commit := h.commit, draw := ⟨by show 0 ≤ max _ _; omega, by show max _ _ ≤ _; omega⟩, votes := h.votes, next := h.next, matc := h.matc, nexts := h.nexts, matcs := h.matcs, ents := h.ents, frm := h.frm, data := h.data, snap := h.snap }

set_option maxHeartbeats 800000 in
theorem cDraw_any (w : World) (B n : Nat) (c : CoreD) (lv sv : Value) (v : Int) (h : CoreAt w B n c lv sv) :
    Calls Try.prog 40 #[.pointer (some ⟨n, 0, none⟩), .int .i64 v] w fun e w' => e = .returned (.tuple #[]) ∧ CoreAt w' B n (drawD c v) lv sv ∧ Keeps [n] w w' := by
  have h4 : w.cell? ⟨n, 4, none⟩ = some (.int .i64 c.conf.range) := h.blk.cell 4
  have h19 : w.cell? ⟨n, 19, none⟩ = some (.int .i64 c.draw) := h.blk.cell 19
  have f19 : w.frozen? ⟨n, 19, none⟩ = false := h.blk.free 19
  have H := hid h
  clear h
  go_enter Try.func40, Try.ntmps40
  have HD : Hid (∀ u, u = max 0 (min v c.conf.range) → CoreAt (w.setCell ⟨n, 19, none⟩ (.int .i64 u)) B n (drawD c v) lv sv ∧ Keeps [n] w (w.setCell ⟨n, 19, none⟩ (.int .i64 u))) := fun u hu => by
    have k : Keeps [n] w (w.setCell ⟨n, 19, none⟩ (.int .i64 u)) := (Keeps.refl _ _).setCell (.inl (by simp)) _
    subst hu
    exact ⟨H.out.wrote k (H.out.blk.set 19 _ rfl) rfl rfl (cDraw_bd c v H.out.ok), k⟩
  go_wp2_with fail
  all_goals
    refine bodyPost_end (v := .tuple #[]) ?_ rfl ⟨rfl, HD.out _ ?_⟩
    (· simp [results, Try.results40, go_sem])
    omega

theorem bools_set (l : List Bool) (i : Nat) (b : Bool) : (bools l).set i (.bool b) = bools (l.set i b) := by simp [bools, List.map_set]
theorem ints_set (l : List Int) (i : Nat) (b : Int) : (ints l).set i (.int .i64 b) = ints (l.set i b) := by simp [ints, List.map_set]
/-- The last cells of a core. -/
theorem tail_get (c : CoreD) (hv : c.votes.length = 8) (hn : c.next.length = 8) (hm : c.matc.length = 8) : (tailCells c)[24]? = some (.bool c.hard) ∧ (tailCells c)[25]? = some (.int .i64 c.frm) ∧ (tailCells c)[26]? = some (.bool c.tsnap) := by
  unfold tailCells bools ints
  refine ⟨?_, ?_, ?_⟩ <;>
  · rw [List.getElem?_append_right (by simp; omega), List.getElem?_append_right (by simp; omega), List.getElem?_append_right (by simp; omega)]
    simp [hv, hn, hm]
theorem tail_hard (c : CoreD) (hv : c.votes.length = 8) (hn : c.next.length = 8) (hm : c.matc.length = 8) (b : Bool) : (tailCells c).set 24 (.bool b) = tailCells { c with hard := b } := by
  unfold tailCells bools ints
  rw [List.set_append_right _ _ (by simp; omega), List.set_append_right _ _ (by simp; omega), List.set_append_right _ _ (by simp; omega)]
  simp [hv, hn, hm]
theorem tail_frm (c : CoreD) (hv : c.votes.length = 8) (hn : c.next.length = 8) (hm : c.matc.length = 8) (b : Int) : (tailCells c).set 25 (.int .i64 b) = tailCells { c with frm := b } := by
  unfold tailCells bools ints
  rw [List.set_append_right _ _ (by simp; omega), List.set_append_right _ _ (by simp; omega), List.set_append_right _ _ (by simp; omega)]
  simp [hv, hn, hm]
theorem tail_tsnap (c : CoreD) (hv : c.votes.length = 8) (hn : c.next.length = 8) (hm : c.matc.length = 8) (b : Bool) : (tailCells c).set 26 (.bool b) = tailCells { c with tsnap := b } := by
  unfold tailCells bools ints
  rw [List.set_append_right _ _ (by simp; omega), List.set_append_right _ _ (by simp; omega), List.set_append_right _ _ (by simp; omega)]
  simp [hv, hn, hm]
theorem tail_votes (c : CoreD) (hv : c.votes.length = 8) (i : Nat) (hi : i < 8) (b : Bool) : (tailCells c).set i (.bool b) = tailCells { c with votes := c.votes.set i b } := by
  unfold tailCells
  rw [List.set_append_left _ _ (by simp [bools]; omega), bools_set]
theorem tail_next (c : CoreD) (hv : c.votes.length = 8) (hn : c.next.length = 8) (i : Nat) (hi : i < 8) (b : Int) : (tailCells c).set (8 + i) (.int .i64 b) = tailCells { c with next := c.next.set i b } := by
  unfold tailCells
  rw [List.set_append_right _ _ (by simp [bools]; omega), List.set_append_left _ _ (by simp [bools, ints]; omega), show 8 + i - (bools c.votes).length = i by simp [bools]; omega, ints_set]
theorem tail_matc (c : CoreD) (hv : c.votes.length = 8) (hn : c.next.length = 8) (hm : c.matc.length = 8) (i : Nat) (hi : i < 8) (b : Int) : (tailCells c).set (16 + i) (.int .i64 b) = tailCells { c with matc := c.matc.set i b } := by
  unfold tailCells
  rw [List.set_append_right _ _ (by simp [bools]; omega), List.set_append_right _ _ (by simp [bools, ints]; omega), List.set_append_left _ _ (by simp [bools, ints]; omega), show 16 + i - (bools c.votes).length - (ints c.next).length = i by simp [bools, ints]; omega, ints_set]
theorem set21 (c : CoreD) (lv sv v : Value) (i : Nat) : (coreCells c lv sv).set (21 + i) v =
  .int .i64 c.conf.nodes :: .int .i64 c.conf.clients :: .int .i64 c.conf.heart :: .int .i64 c.conf.lo :: .int .i64 c.conf.range :: .int .i64 c.conf.sessions :: .int .i64 c.conf.snap :: .int .i64 c.conf.room :: .int .i64 c.conf.retry ::
  .int .i64 c.id :: .int .i64 c.term :: .int .i64 c.vote :: .int .i64 c.role :: .int .i64 c.leader :: .int .i64 c.commit :: .int .i64 c.base :: .int .i64 c.baseTerm :: lv :: sv :: .int .i64 c.draw :: .int .i64 c.patience :: (tailCells c).set i v := by
  unfold coreCells
  rw [show 21 + i = i + 21 by omega]
  rfl
theorem get21 (c : CoreD) (lv sv : Value) (i : Nat) : (coreCells c lv sv)[21 + i]? = (tailCells c)[i]? := by
  unfold coreCells
  rw [show 21 + i = i + 21 by omega]
  rfl

theorem risesD_ok {c : CoreD} {t v : Int} (h : CoreOk c) (ht : 0 ≤ t ∧ t ≤ 1099511627776) : CoreOk (risesD c t v) :=
  { may := h.may, id := h.id, term := ht, base := h.base, baseTerm := h.baseTerm, len := h.len, last := h.last, commit := h.commit, draw := h.draw, votes := h.votes, next := h.next, matc := h.matc, nexts := h.nexts, matcs := h.matcs, ents := h.ents, frm := h.frm, data := h.data, snap := h.snap }

set_option maxRecDepth 100000 in
set_option maxHeartbeats 1600000 in
theorem rises_any (w : World) (B n : Nat) (c : CoreD) (lv sv : Value) (t v : Int) (h : CoreAt w B n c lv sv) (ht : 0 ≤ t ∧ t ≤ 1099511627776) :
    Calls Try.prog 53 #[.pointer (some ⟨n, 0, none⟩), .int .i64 t, .int .i64 v] w fun e w' => e = .returned (.tuple #[]) ∧ CoreAt w' B n (risesD c t v) lv sv ∧ Keeps [n] w w' := by
  obtain ⟨t24, _, _⟩ := tail_get c h.ok.votes h.ok.next h.ok.matc
  have h10 : w.cell? ⟨n, 10, none⟩ = some (.int .i64 c.term) := h.blk.cell 10
  have h11 : w.cell? ⟨n, 11, none⟩ = some (.int .i64 c.vote) := h.blk.cell 11
  have h45 : w.cell? ⟨n, 45, none⟩ = some (.bool c.hard) := (h.blk.cell 45).trans ((get21 c lv sv 24).trans t24)
  have f10 : w.frozen? ⟨n, 10, none⟩ = false := h.blk.free 10
  have f11 : w.frozen? ⟨n, 11, none⟩ = false := h.blk.free 11
  have f45 : w.frozen? ⟨n, 45, none⟩ = false := h.blk.free 45
  have HD : Hid (∀ b, b = (c.hard || t != c.term || v != c.vote) → CoreAt (((w.setCell ⟨n, 45, none⟩ (.bool b)).setCell ⟨n, 10, none⟩ (.int .i64 t)).setCell ⟨n, 11, none⟩ (.int .i64 v)) B n (risesD c t v) lv sv ∧ Keeps [n] w (((w.setCell ⟨n, 45, none⟩ (.bool b)).setCell ⟨n, 10, none⟩ (.int .i64 t)).setCell ⟨n, 11, none⟩ (.int .i64 v))) := fun b hb => by
    have k : Keeps [n] w (((w.setCell ⟨n, 45, none⟩ (.bool b)).setCell ⟨n, 10, none⟩ (.int .i64 t)).setCell ⟨n, 11, none⟩ (.int .i64 v)) := (((Keeps.refl _ _).setCell (.inl (by simp)) _).setCell (.inl (by simp)) _).setCell (.inl (by simp)) _
    have b1 : CoreBlk (w.setCell ⟨n, 45, none⟩ (.bool b)) n { c with hard := b } lv sv := h.blk.set 45 _ (by rw [show 45 = 21 + 24 from rfl, set21, tail_hard c h.ok.votes h.ok.next h.ok.matc]; rfl)
    have b2 : CoreBlk ((w.setCell ⟨n, 45, none⟩ (.bool b)).setCell ⟨n, 10, none⟩ (.int .i64 t)) n { c with hard := b, term := t } lv sv := b1.set 10 _ rfl
    have b3 : CoreBlk (((w.setCell ⟨n, 45, none⟩ (.bool b)).setCell ⟨n, 10, none⟩ (.int .i64 t)).setCell ⟨n, 11, none⟩ (.int .i64 v)) n { c with hard := b, term := t, vote := v } lv sv := b2.set 11 _ rfl
    subst hb
    exact ⟨h.wrote k b3 rfl rfl (risesD_ok h.ok ht), k⟩
  clear h t24
  rcases hh : c.hard with _ | _
  · rw [hh] at h45 HD
    by_cases g1 : t = c.term
    · subst g1
      by_cases g2 : v = c.vote
      · subst g2
        clear hh
        go_enter Try.func53, Try.ntmps53
        go_wp2
        exact bodyPost_end (by simp [results, Try.results53, go_sem]) rfl ⟨rfl, HD.out _ (by simp)⟩
      · clear hh
        have g3 : (v != c.vote) = true := by simpa using g2
        have HD' := hid (HD.out true (by simp [g2]))
        go_enter Try.func53, Try.ntmps53
        go_wp2
        exact bodyPost_end (by simp [results, Try.results53, go_sem]) rfl ⟨rfl, HD'.out⟩
    · clear hh
      have g3 : (t != c.term) = true := by simpa using g1
      have HD' := hid (HD.out true (by simp [g1]))
      go_enter Try.func53, Try.ntmps53
      go_wp2
      exact bodyPost_end (by simp [results, Try.results53, go_sem]) rfl ⟨rfl, HD'.out⟩
  · rw [hh] at h45 HD
    clear hh
    have HD' := hid (HD.out true (by simp))
    go_enter Try.func53, Try.ntmps53
    go_wp2
    exact bodyPost_end (by simp [results, Try.results53, go_sem]) rfl ⟨rfl, HD'.out⟩

end Go.Proofs.Ytpppoajnbhipeaa
