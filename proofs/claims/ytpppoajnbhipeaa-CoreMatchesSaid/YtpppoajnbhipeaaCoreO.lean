/- New of a core, the good way. (Printed by gen_new.py.) -/
import Derived.Test.YtpppoajnbhipeaaCoreN
namespace Go.Proofs.Ytpppoajnbhipeaa
open Go Go.RowKit

theorem mayNew_take {cf : ConfD} {id term vote base baseTerm : Int} {l l' : List Ent} (h : headD cf id term vote base baseTerm l.length = true) (hl : l'.length ≤ l.length) (ha : ∀ e ∈ l', inD e.term 1 1099511627776 = true) : mayNewD cf id term vote base baseTerm l' = true := by
  rw [mayNew_head]
  simp only [Bool.and_eq_true, List.all_eq_true]
  refine ⟨?_, ha⟩
  simp only [headD, Bool.and_eq_true, decide_eq_true_eq] at h ⊢
  exact ⟨h.1, by omega⟩

def NewYes (cf : ConfD) (id term vote base baseTerm : Int) (l : List Ent) (w : World) (e : Ending) (w' : World) : Prop :=
  ∃ n lv sv, e = .returned (.tuple #[.pointer (some ⟨n, 0, none⟩), .int .i64 0]) ∧ CoreAt w' w.heap.size n (newD cf id term vote base baseTerm l) lv sv ∧ Keeps [] w w'
def NewPost (cf : ConfD) (id term vote base baseTerm : Int) (l : List Ent) (w : World) (e : Ending) (w' : World) : Prop :=
  (mayNewD cf id term vote base baseTerm l = true ∧ NewYes cf id term vote base baseTerm l w e w') ∨ (mayNewD cf id term vote base baseTerm l = false ∧ NewNo w e w')

set_option maxRecDepth 100000 in
set_option maxHeartbeats 3200000 in
theorem cNew_body (cf : ConfD) (id term vote base baseTerm : Int) (l : List Ent) (a : Option Addr) (cap : Nat) (P : Nat → Prop) (w : World) (hl : ListAt entL w P (.slice a l.length cap) l) (hd : ∀ e ∈ l, e.data.length ≤ 1000000) (h : headD cf id term vote base baseTerm l.length = true) :
    Calls Try.prog 14 #[confV cf, .int .i64 id, .int .i64 term, .int .i64 vote, .int .i64 base, .int .i64 baseTerm, .slice a l.length cap] w (NewPost cf id term vote base baseTerm l w) := by
  obtain ⟨it, hi0, hz0, hz1, hz2⟩ := info_parts Try.infoEnt
  have HH := hid h
  have HLA := hid hl
  have HDA := hid hd
  simp only [headD, Bool.and_eq_true, decide_eq_true_eq] at h
  obtain ⟨⟨⟨⟨⟨⟨h0, h1⟩, h2⟩, h3⟩, h4⟩, h5⟩, h6⟩ := h
  have hm := (ConfD.may_iff cf).1 h0
  have F0 := hid h0
  have F1 := hid h1
  have F2 := hid h2
  have F3 := hid h3
  have F4 := hid h4
  have F5 := hid h5
  have hl5 : (l.length : Int) ≤ 5096 := by omega
  simp only [inD, Bool.and_eq_true, decide_eq_true_eq] at h1 h4
  have b1 : 1 ≤ id := h1.1
  have b2 : id ≤ 7 := by omega
  have b3 : 1 ≤ cf.heart := hm.2.2.1.1
  have b4 : cf.heart ≤ 100 := hm.2.2.1.2
  have p1 : 0 ≤ (id - 1) * (cf.heart + 6) := Int.mul_nonneg (by omega) (by omega)
  have p2 : (id - 1) * (cf.heart + 6) ≤ 6 * 106 := Int.mul_le_mul (by omega) (by omega) (by omega) (by omega)
  have HB : Hid (∀ (w1 : World) d, d = min ((id - 1) * (cf.heart + 6)) cf.range → w.heap.size ≤ w1.heap.size → ∃ cs, cs = #[.int .i64 cf.nodes, .int .i64 cf.clients, .int .i64 cf.heart, .int .i64 cf.lo, .int .i64 cf.range, .int .i64 cf.sessions, .int .i64 cf.snap, .int .i64 cf.room, .int .i64 cf.retry, .int .i64 id, .int .i64 term, .int .i64 vote, .int .i64 0, .int .i64 0, .int .i64 base, .int .i64 base, .int .i64 baseTerm, .slice none 0 0, .slice none 0 0, .int .i64 d, .int .i64 0,
      .bool false, .bool false, .bool false, .bool false, .bool false, .bool false, .bool false, .bool false, .int .i64 0, .int .i64 0, .int .i64 0, .int .i64 0, .int .i64 0, .int .i64 0, .int .i64 0, .int .i64 0, .int .i64 0, .int .i64 0, .int .i64 0, .int .i64 0, .int .i64 0, .int .i64 0, .int .i64 0, .int .i64 0, .bool false, .int .i64 0, .bool false] ∧
      CoreAt (w1.alloc (.cells cs 89)) w.heap.size w1.heap.size (newD cf id term vote base baseTerm []) (.slice none 0 0) (.slice none 0 0)) := fun w1 d hd hz => by
    refine ⟨_, rfl, { blk := ?_, own := OwnAt.nil _ _ _ _, snap := BytesAt.nil _ _ _ _, apart := by simp [mem_ownB, Value.ownBlock], base := hz, old := fun _ h => h.elim, free := ⟨fun h => h, fun _ _ h => h⟩, ok := newD_ok (mayNew_take HH.out (Nat.zero_le _) (by simp)) (by simp) }⟩
    subst hd
    exact heap_alloc_new _ _
  clear hl hd h0 h1 h2 h3 h4 h5 h6 hm
  rcases (show (id - 1) * (cf.heart + 6) ≤ cf.range ∨ cf.range < (id - 1) * (cf.heart + 6) by omega) with hmin | hmin
  all_goals
    unfold confV
    go_enter Try.func14, Try.ntmps14
    go_wp2_with fail
    refine (cMay_is true cf _ F0.out).mono ?_
    rintro e w1 ⟨rfl, k1⟩
    have K1 : Hid (Keeps [] w w1) := (((Keeps.refl [] w).alloc _).trans k1 (fun _ _ h => h))
    obtain ⟨⟨c0, c1, c2, c3, c4, c5, c6, c7, c8⟩, f1⟩ := blk9 ((k1.block w.heap.size (by simp) (by simp)).trans (heap_alloc_new w _))
    clear k1
    go_wp2_with fail
    refine (cin_is true _ _ _ _ F1.out).mono ?_
    rintro e w' ⟨rfl, hw'⟩
    subst hw'
    go_wp2_with fail
    refine (cin_is true _ _ _ _ F2.out).mono ?_
    rintro e w' ⟨rfl, hw'⟩
    subst hw'
    go_wp2_with fail
    refine (cin_is true _ _ _ _ F3.out).mono ?_
    rintro e w' ⟨rfl, hw'⟩
    subst hw'
    go_wp2_with fail
    refine (cin_is true _ _ _ _ F4.out).mono ?_
    rintro e w' ⟨rfl, hw'⟩
    subst hw'
    go_wp2_with fail
    refine (cin_is true _ _ _ _ F5.out).mono ?_
    rintro e w' ⟨rfl, hw'⟩
    subst hw'
    have hlen : (l.length : Int) ≤ 5096 := hl5
    go_wp2_with fail
    go_loopw [76] (fun i wr => ∃ k : Nat, k ≤ l.length ∧ i = .int .i64 k ∧ Hid (∃ lv sv, CoreAt wr w.heap.size w'.heap.size (newD cf id term vote base baseTerm (l.take k)) lv sv ∧ (∃ q c, lv = .slice q k c) ∧ Keeps [] w wr ∧ ∀ e ∈ l.take k, inD e.term 1 1099511627776 = true)) (fun i _ => l.length - (intOf i).toNat)
    case atStart =>
      obtain ⟨cs, hcs, hC⟩ := HB.out w' _ rfl K1.out.size
      rw [hcs] at hC
      first
        | (rw [show min ((id - 1) * (cf.heart + 6)) cf.range = (id - 1) * (cf.heart + 6) by omega] at hC; exact ⟨0, Nat.zero_le _, rfl, .slice none 0 0, .slice none 0 0, hC, ⟨_, _, rfl⟩, K1.out.alloc _, by simp⟩)
        | (rw [show min ((id - 1) * (cf.heart + 6)) cf.range = cf.range by omega] at hC; exact ⟨0, Nat.zero_le _, rfl, .slice none 0 0, .slice none 0 0, hC, ⟨_, _, rfl⟩, K1.out.alloc _, by simp⟩)
    case round =>
      obtain ⟨k, hk, rfl, HW⟩ := hrel
      obtain ⟨lv, sv, hc, ⟨q, cq, hlv⟩, hkk, hal⟩ := HW.out
      subst hlv
      clear HW
      have HC := hid hc
      have HK := hid hkk
      have HAL := hid hal
      have x17 : wr.cell? ⟨w'.heap.size, 17, none⟩ = some (.slice q k cq) := hc.blk.cell 17
      clear hc hkk hal
      by_cases hlt : k < l.length
      · have i0 : (0 : Int) ≤ (k : Int) := Int.natCast_nonneg _
        have i1 : (k : Int) < (l.length : Int) := by omega
        obtain ⟨e, he⟩ : ∃ e, l[k]? = some e := ⟨l[k], List.getElem?_eq_getElem hlt⟩
        obtain ⟨g, off, cg, ha, hcg, hcm, hgl, hgP⟩ := (HLA.out.k HK.out).addr (fun hn => by rw [hn] at hlt; simp at hlt)
        simp at ha
        obtain ⟨ha, hcc⟩ := ha
        subst ha
        subst hcc
        obtain ⟨cs, ⟨v, rfl, hbv⟩, hcs⟩ := (HLA.out.k HK.out).get he
        have y0 : wr.cell? ⟨g, off + k * 3, none⟩ = some (.int .i64 e.term) := hcs 0 _ rfl
        have y1 : wr.cell? ⟨g, off + k * 3 + 1, none⟩ = some (.bool e.cmd) := hcs 1 _ rfl
        have y2 : wr.cell? ⟨g, off + k * 3 + 2, none⟩ = some v := hcs 2 _ rfl
        obtain ⟨va, vc, rfl⟩ := hbv.form
        have HBV := hid hbv.1
        have HDL : Hid (e.data.length ≤ 1000000) := HDA.out e (List.mem_of_getElem? he)
        have HE := hid he
        clear hcs hbv he hcm hcg
        rcases hq : inD e.term 1 1099511627776 with _ | _
        · have HF : Hid (mayNewD cf id term vote base baseTerm l = false) := by
            show _ = _
            rw [mayNew_head, HH.out]
            simp only [Bool.true_and, List.all_eq_false]
            exact ⟨e, List.mem_of_getElem? HE.out, by simp [hq]⟩
          have HQ := hid hq
          clear hq
          go_wp2_with fail
          refine (cin_is false _ _ _ _ HQ.out).mono ?_
          rintro z w3 ⟨rfl, hw3⟩
          subst hw3
          go_wp2_with fail
          go_ret2
          exact .inr ⟨HF.out, rfl, HK.out.alloc _⟩
        · have HQ := hid hq
          clear hq
          have HT : Hid (l.take (k + 1) = l.take k ++ [e]) := by
            show _ = _
            rw [List.take_add_one, HE.out]
            rfl
          have HTL : Hid ((l.take k).length = k) := by show _ = _; simp; omega
          have HA2 : Hid (∀ e ∈ l.take (k + 1), inD e.term 1 1099511627776 = true) := by
            show ∀ _, _
            rw [HT.out]
            intro x hx
            rcases List.mem_append.1 hx with hx | hx
            · exact HAL.out x hx
            · simp at hx; subst hx; exact HQ.out
          have HOK : Hid (CoreOk (newD cf id term vote base baseTerm (l.take (k + 1)))) := newD_ok (mayNew_take HH.out (by simp; omega) HA2.out) (fun x hx => HDA.out x (List.mem_of_mem_take hx))
          have hle : e.data.length ≤ 1000000 := HDL.out
          have hk5 : k ≤ 5096 := by omega
          have HZW : Hid (w'.heap.size < wr.heap.size) := HC.out.blk.lt
          go_wp2_with fail
          refine (cin_is true _ _ _ _ HQ.out).mono ?_
          rintro z w3 ⟨rfl, hw3⟩
          have HW3 := hid hw3
          have x17' : w3.cell? ⟨w'.heap.size, 17, none⟩ = some (.slice q k cq) := by rw [hw3, World.cell?_alloc_lt _ _ _ HZW.out]; exact x17
          have z0 : w3.cell? ⟨wr.heap.size, 0, none⟩ = some (.int .i64 e.term) := by rw [hw3]; simp
          have z1 : w3.cell? ⟨wr.heap.size, 1, none⟩ = some (.bool e.cmd) := by rw [hw3]; simp
          have z2 : w3.cell? ⟨wr.heap.size, 2, none⟩ = some (.slice va e.data.length vc) := by rw [hw3]; simp
          have K3 : Hid (Keeps [] wr w3) := by rw [hw3]; exact (Keeps.refl [] wr).alloc _
          clear hw3
          go_wp2_with fail
          refine Plan.wp_region_plan (fun wx => wx.cell? ⟨w'.heap.size, 17, none⟩ = some (.slice q k cq) ∧ wx.cell? ⟨wr.heap.size, 0, none⟩ = some (.int .i64 e.term) ∧ wx.cell? ⟨wr.heap.size, 1, none⟩ = some (.bool e.cmd) ∧ wx.cell? ⟨wr.heap.size, 2, none⟩ = some (.slice va e.data.length vc)) 9 [(true, 0), (true, 1), (true, 2), (true, 3), (true, 4), (true, 5), (false, 6), (false, 7), (false, 8)] (by kernel_rfl) (by as_aux_lemma => kernel_rfl) (by kernel_rfl) (fun _ _ _ _ _ h => h) ?_ (fun hS => ?_)
          (· exact ⟨x17', z0, z1, z2⟩)
          simp only [Plan.pick, List.append_eq, List.cons_append, List.nil_append, List.getElem?_cons_zero, List.getElem?_cons_succ, Option.getD_some, List.drop_succ_cons, List.drop_zero]
          repeat (first | (refine Plan.take (v := ?_) (a' := ?_) (by rfl) ?_ ?_ ?_; rotate_left 2; (· (intro w' hS'; (try dsimp only at hS'); go_simp; try with_reducible rfl)); (· (simp only [Act.put, List.setIfInBounds_toArray, List.set_cons_zero, List.set_cons_succ]; try with_reducible rfl))) | (refine Plan.pass (a' := ?_) (by rfl) ?_ ?_; rotate_left 1; (· (simp only [Act.put, List.setIfInBounds_toArray, List.set_cons_zero, List.set_cons_succ]; try with_reducible rfl))))
          refine Plan.step ?_
          go_wp2_with fail
          refine (own_any e _ _ (by exact HBV.out.keeps (F := []) K3.out.drew (fun _ _ h => by cases h)) (by omega)).mono ?_
          rintro z w4 ⟨a4, q4, rfl, ho4, hk4⟩
          unfold entV
          have K4 : Hid (Keeps [] wr w4) := K3.out.drew.trans hk4 (fun _ _ h => h)
          have HEL : Hid (∀ wx, Keeps [] w4 wx → entL.at_ wx (fun b => w3.heap.size ≤ b) [.int .i64 e.term, .bool e.cmd, .slice a4 e.data.length q4] e) := ent_elem ho4 (fun b hb => hb)
          have a17 := hk4.cellSome x17' (by simp)
          have b0 := hk4.cellSome z0 (by simp)
          have b1 := hk4.cellSome z1 (by simp)
          have b2 := hk4.cellSome z2 (by simp)
          have HOW : Hid (OwnAt entL 59 w4 w.heap.size (fun b => b ≠ w'.heap.size ∧ b ∉ ownB (.slice q k cq)) (.slice q k cq) (l.take k)) := (OwnAt.k HC.out.own K4.out).mono (fun _ _ h => h.1)
          have HBB : Hid (∀ b, w3.heap.size ≤ b → b ≠ w'.heap.size ∧ b ∉ ownB (.slice q k cq)) := fun b hb => by
            have z3 := K3.out.size
            refine ⟨by have := HZW.out; omega, fun hb' => ?_⟩
            have := (HC.out.own.ge b hb').2
            omega
          have HZ4 : Hid (w.heap.size ≤ w4.heap.size) := Nat.le_trans HK.out.size K4.out.size
          clear ho4 hk4
          go_wp2_with fail
          refine ⟨⟨a17, b0, b1, b2⟩, ?_⟩
          refine Plan.step ?_
          go_wp2_with fail
          refine ⟨⟨((Keeps.refl [] w4).alloc _).cellSome a17 (by simp), ((Keeps.refl [] w4).alloc _).cellSome b0 (by simp), ((Keeps.refl [] w4).alloc _).cellSome b1 (by simp), ((Keeps.refl [] w4).alloc _).cellSome b2 (by simp)⟩, ?_⟩
          refine Plan.step ?_
          go_wp2_with (at_builtin; go_must (refine wpList_append_off (L := entL) (PB := fun b => w3.heap.size ≤ b) _ (by rfl) _ _ _ (by rfl) w.heap.size 59 it _ 40 Try.underlying35 hi0 hz0 hz1 hz2 rfl (R := fun b => b ≠ w'.heap.size) (.slice q k cq) (by rfl) (l.take k) [e] k HTL.out [[.int .i64 e.term, .bool e.cmd, .slice a4 e.data.length q4]] (HOW.out.k ((Keeps.refl [] _).alloc _)) (.slice _ _ _) (by rfl) 1 rfl (ElemsAt.one1 (HEL.out _ ((Keeps.refl [] _).alloc _))) (Reads.one1 (heap_alloc_new _ _) rfl) (by omega) (le_maxLen (by omega)) (by exact Nat.le_trans HZ4.out ((Keeps.refl [] _).alloc _).size) (fun b _ hb => HBB.out b hb) ?_; intro a5 q5 w5 ho5 hk5 hv5))
          have hap : w'.heap.size ∉ ownB (.slice q k cq) := HC.out.apart
          have hap2 : wr.heap.size ∉ ownB (.slice q k cq) := fun hb => by have := (HC.out.own.ge _ hb).2; omega
          have e17 := hk5.out.cellSome (((Keeps.refl [] w4).alloc _).cellSome a17 (by simp)) hap
          have e0 := hk5.out.cellSome (((Keeps.refl [] w4).alloc _).cellSome b0 (by simp)) hap2
          have e1 := hk5.out.cellSome (((Keeps.refl [] w4).alloc _).cellSome b1 (by simp)) hap2
          have e2 := hk5.out.cellSome (((Keeps.refl [] w4).alloc _).cellSome b2 (by simp)) hap2
          have hfz : w5.frozen? ⟨w'.heap.size, 17, none⟩ = false := by
            have h1 := (K4.out.alloc (.cells #[.int .i64 e.term, .bool e.cmd, .slice a4 e.data.length q4] 59))
            exact (hk5.out.frozen (a := ⟨w'.heap.size, 17, none⟩) (Nat.lt_of_lt_of_le HZW.out h1.size) hap).trans ((h1.frozen (a := ⟨w'.heap.size, 17, none⟩) HZW.out (by simp)).trans (HC.out.blk.free 17))
          refine ⟨⟨e17, e0, e1, e2⟩, ?_⟩
          refine Plan.fin ?_
          have HG := hid (HC.out.grow (K4.out.alloc (.cells #[.int .i64 e.term, .bool e.cmd, .slice a4 e.data.length q4] 59)) (l' := l.take (k + 1)) (by rw [HT.out]; exact ho5.out.mono (fun _ _ h => ⟨⟨h.1, fun h => h⟩, h.2⟩)) hk5.out hv5.out rfl HOK.out)
          clear e0 e1 e2 a17 b0 b1 b2 z0 z1 z2 x17' x17
          go_wp2_with fail
          go_roundw
          case rel => exact ⟨k + 1, by omega, by go_num, _, sv, HG.out.1, ⟨_, _, rfl⟩, HK.out.trans HG.out.2 (fun b hb hb' => by have := (HC.out.lt b hb').1; omega), HA2.out⟩
          case measure => simp [intOf]; omega
      · have hkl : k = l.length := by omega
        subst hkl
        rw [List.take_length] at HC HAL
        have HT : Hid (mayNewD cf id term vote base baseTerm l = true) := mayNew_take HH.out (Nat.le_refl _) HAL.out
        go_wp2_with fail
        go_ret2
        exact .inl ⟨HT.out, _, _, sv, rfl, HC.out, HK.out⟩

end Go.Proofs.Ytpppoajnbhipeaa
