/- Joined of CoNew, CoreI, CoBan. -/
import Derived.Test.YtgjiahilbmeaeaaGreatDoorQ03
import Derived.Test.YtgjiahilbmeaeaaGreatDoorQ01
set_option maxRecDepth 100000
set_option maxHeartbeats 3200000
set_option linter.unusedSimpArgs false
set_option linter.unusedVariables false
/- New of a core that reads nothing old; other blocks banned. (Lines of MatA.) -/
namespace Go.Proofs.YtgjiahilbmeaeaaGreatDoor
open Go Go.RowKit
def withBan (f : Nat → Prop) (c : CoreD) : CoreD := { c with ban := f }
def banB (B : Nat) (c : CoreD) : CoreD := withBan (fun b => b < B) c
theorem withBan_ok {f : Nat → Prop} {c : CoreD} (h : CoreOk c) : CoreOk (withBan f c) :=
 { may := h.may, id := h.id, term := h.term, base := h.base, baseTerm := h.baseTerm, len := h.len, last := h.last, commit := h.commit, draw := h.draw, votes := h.votes, next := h.next, matc := h.matc, nexts := h.nexts, matcs := h.matcs, ents := h.ents, frm := h.frm, data := h.data, snap := h.snap }
theorem banB_ok {B : Nat} {c : CoreD} (h : CoreOk c) : CoreOk (banB B c) := withBan_ok h
def NewYesB (cf : ConfD) (id term vote base baseTerm : Int) (l : List Ent) (w : World) (e : Ending) (w' : World) : Prop :=
 ∃ n lv sv, e = .returned (.tuple #[.pointer (some ⟨n, 0, none⟩), .int .i64 0]) ∧ CoreAt w' w.heap.size n (banB w.heap.size (newD cf id term vote base baseTerm l)) lv sv ∧ Keeps [] w w'
def NewPostB (cf : ConfD) (id term vote base baseTerm : Int) (l : List Ent) (w : World) (e : Ending) (w' : World) : Prop :=
 (mayNewD cf id term vote base baseTerm l = true ∧ NewYesB cf id term vote base baseTerm l w e w') ∨ (mayNewD cf id term vote base baseTerm l = false ∧ NewNo w e w')
theorem cNewB_body (cf : ConfD) (id term vote base baseTerm : Int) (l : List Ent) (a : Option Addr) (cap : Nat) (P : Nat → Prop) (w : World) (hl : ListAt entL w P (.slice a l.length cap) l) (hd : ∀ e ∈ l, e.data.length ≤ 1000000) (h : headD cf id term vote base baseTerm l.length = true) :
 Calls Tryz.prog 37 #[confV cf, .int .i64 id, .int .i64 term, .int .i64 vote, .int .i64 base, .int .i64 baseTerm, .slice a l.length cap] w (NewPostB cf id term vote base baseTerm l w) := by
 obtain ⟨it, hi0, hz0, hz1, hz2⟩ := info_parts Tryz.infoEnt
 have HH := hid h
 have HLA := hid hl
 have HDA := hid hd
 simp only [headD, Bool.and_eq_true, decide_eq_true_eq] at h
 obtain ⟨⟨⟨⟨⟨⟨h0, h1⟩, h2⟩, h3⟩, h4⟩, h5⟩, h6⟩ := h
 have hm := (ConfD.may_iff cf).1 h0
 have F0 := hid h0
 have F1 := hid h1
 have F2 := hid h2
 have F3 := hid h3
 have F4 := hid h4
 have F5 := hid h5
 have hl5 : (l.length : Int) ≤ 5096 := by omega
 simp only [inD, Bool.and_eq_true, decide_eq_true_eq] at h1 h4
 have b1 : 1 ≤ id := h1.1
 have b2 : id ≤ 7 := by omega
 have b3 : 1 ≤ cf.heart := hm.2.2.1.1
 have b4 : cf.heart ≤ 100 := hm.2.2.1.2
 have p1 : 0 ≤ (id - 1) * (cf.heart + 6) := Int.mul_nonneg (by omega) (by omega)
 have p2 : (id - 1) * (cf.heart + 6) ≤ 6 * 106 := Int.mul_le_mul (by omega) (by omega) (by omega) (by omega)
 have HB : Hid (∀ (w1 : World) d, d = min ((id - 1) * (cf.heart + 6)) cf.range → w.heap.size ≤ w1.heap.size → ∃ cs, cs = #[.int .i64 cf.nodes, .int .i64 cf.clients, .int .i64 cf.heart, .int .i64 cf.lo, .int .i64 cf.range, .int .i64 cf.sessions, .int .i64 cf.snap, .int .i64 cf.room, .int .i64 cf.retry, .int .i64 id, .int .i64 term, .int .i64 vote, .int .i64 0, .int .i64 0, .int .i64 base, .int .i64 base, .int .i64 baseTerm, .slice none 0 0, .slice none 0 0, .int .i64 d, .int .i64 0,
  .bool false, .bool false, .bool false, .bool false, .bool false, .bool false, .bool false, .bool false, .int .i64 0, .int .i64 0, .int .i64 0, .int .i64 0, .int .i64 0, .int .i64 0, .int .i64 0, .int .i64 0, .int .i64 0, .int .i64 0, .int .i64 0, .int .i64 0, .int .i64 0, .int .i64 0, .int .i64 0, .int .i64 0, .bool false, .int .i64 0, .bool false] ∧
  CoreAt (w1.alloc (.cells cs 141)) w.heap.size w1.heap.size (banB w.heap.size (newD cf id term vote base baseTerm [])) (.slice none 0 0) (.slice none 0 0)) := fun w1 d hd hz => by
  refine ⟨_, rfl, { blk := ?_, own := OwnAt.nil _ _ _ _, snap := BytesAt.nil _ _ _ _, apart := by simp [mem_ownB, Value.ownBlock], base := hz, old := fun b h => by have h : b < w.heap.size := h; simp; omega, free := ⟨fun h => by have h : w1.heap.size < w.heap.size := h; omega, fun b hb _ => by simp [mem_ownB, Value.ownBlock] at hb⟩, ok := banB_ok (newD_ok (mayNew_take HH.out (Nat.zero_le _) (by simp)) (by simp)) }⟩
  subst hd
  exact heap_alloc_new _ _
 clear hl hd h0 h1 h2 h3 h4 h5 h6 hm
 rcases (show (id - 1) * (cf.heart + 6) ≤ cf.range ∨ cf.range < (id - 1) * (cf.heart + 6) by omega) with hmin | hmin
 all_goals
  unfold confV
  go_enter Tryz.func37, Tryz.ntmps37
  go_wp2_with fail
  refine (cMay_is true cf _ F0.out).mono ?_
  rintro e w1 ⟨rfl, k1⟩
  have K1 : Hid (Keeps [] w w1) := (((Keeps.refl [] w).alloc _).trans k1 (fun _ _ h => h))
  obtain ⟨⟨c0, c1, c2, c3, c4, c5, c6, c7, c8⟩, f1⟩ := blk9 ((k1.block w.heap.size (by simp) (by simp)).trans (heap_alloc_new w _))
  clear k1
  go_wp2_with fail
  refine (cin_is true _ _ _ _ F1.out).mono ?_
  rintro e w' ⟨rfl, hw'⟩
  subst hw'
  go_wp2_with fail
  refine (cin_is true _ _ _ _ F2.out).mono ?_
  rintro e w' ⟨rfl, hw'⟩
  subst hw'
  go_wp2_with fail
  refine (cin_is true _ _ _ _ F3.out).mono ?_
  rintro e w' ⟨rfl, hw'⟩
  subst hw'
  go_wp2_with fail
  refine (cin_is true _ _ _ _ F4.out).mono ?_
  rintro e w' ⟨rfl, hw'⟩
  subst hw'
  go_wp2_with fail
  refine (cin_is true _ _ _ _ F5.out).mono ?_
  rintro e w' ⟨rfl, hw'⟩
  subst hw'
  have hlen : (l.length : Int) ≤ 5096 := hl5
  go_wp2_with fail
  go_loopw [76] (fun i wr => ∃ k : Nat, k ≤ l.length ∧ i = .int .i64 k ∧ Hid (∃ lv sv, CoreAt wr w.heap.size w'.heap.size (banB w.heap.size (newD cf id term vote base baseTerm (l.take k))) lv sv ∧ (∃ q c, lv = .slice q k c) ∧ Keeps [] w wr ∧ ∀ e ∈ l.take k, inD e.term 1 1099511627776 = true)) (fun i _ => l.length - (intOf i).toNat)
  case atStart =>
   obtain ⟨cs, hcs, hC⟩ := HB.out w' _ rfl K1.out.size
   rw [hcs] at hC
   first
    | (rw [show min ((id - 1) * (cf.heart + 6)) cf.range = (id - 1) * (cf.heart + 6) by omega] at hC; exact ⟨0, Nat.zero_le _, rfl, .slice none 0 0, .slice none 0 0, hC, ⟨_, _, rfl⟩, K1.out.alloc _, by simp⟩)
    | (rw [show min ((id - 1) * (cf.heart + 6)) cf.range = cf.range by omega] at hC; exact ⟨0, Nat.zero_le _, rfl, .slice none 0 0, .slice none 0 0, hC, ⟨_, _, rfl⟩, K1.out.alloc _, by simp⟩)
  case round =>
   obtain ⟨k, hk, rfl, HW⟩ := hrel
   obtain ⟨lv, sv, hc, ⟨q, cq, hlv⟩, hkk, hal⟩ := HW.out
   subst hlv
   clear HW
   have HC := hid hc
   have HK := hid hkk
   have HAL := hid hal
   have x17 : wr.cell? ⟨w'.heap.size, 17, none⟩ = some (.slice q k cq) := hc.blk.cell 17
   clear hc hkk hal
   by_cases hlt : k < l.length
   ·have i0 : (0 : Int) ≤ (k : Int) := Int.natCast_nonneg _
    have i1 : (k : Int) < (l.length : Int) := by omega
    obtain ⟨e, he⟩ : ∃ e, l[k]? = some e := ⟨l[k], List.getElem?_eq_getElem hlt⟩
    obtain ⟨g, off, cg, ha, hcg, hcm, hgl, hgP⟩ := (HLA.out.k HK.out).addr (fun hn => by rw [hn] at hlt; simp at hlt)
    simp at ha
    obtain ⟨ha, hcc⟩ := ha
    subst ha
    subst hcc
    obtain ⟨cs, ⟨v, rfl, hbv⟩, hcs⟩ := (HLA.out.k HK.out).get he
    have y0 : wr.cell? ⟨g, off + k * 3, none⟩ = some (.int .i64 e.term) := hcs 0 _ rfl
    have y1 : wr.cell? ⟨g, off + k * 3 + 1, none⟩ = some (.bool e.cmd) := hcs 1 _ rfl
    have y2 : wr.cell? ⟨g, off + k * 3 + 2, none⟩ = some v := hcs 2 _ rfl
    obtain ⟨va, vc, rfl⟩ := hbv.form
    have HBV := hid hbv.1
    have HDL : Hid (e.data.length ≤ 1000000) := HDA.out e (List.mem_of_getElem? he)
    have HE := hid he
    clear hcs hbv he hcm hcg
    rcases hq : inD e.term 1 1099511627776 with _ | _
    ·have HF : Hid (mayNewD cf id term vote base baseTerm l = false) := by
      show _ = _
      rw [mayNew_head, HH.out]
      simp only [Bool.true_and, List.all_eq_false]
      exact ⟨e, List.mem_of_getElem? HE.out, by simp [hq]⟩
     have HQ := hid hq
     clear hq
     go_wp2_with fail
     refine (cin_is false _ _ _ _ HQ.out).mono ?_
     rintro z w3 ⟨rfl, hw3⟩
     subst hw3
     go_wp2_with fail
     go_ret2
     exact .inr ⟨HF.out, rfl, HK.out.alloc _⟩
    ·have HQ := hid hq
     clear hq
     have HT : Hid (l.take (k + 1) = l.take k ++ [e]) := by
      show _ = _
      rw [List.take_add_one, HE.out]
      rfl
     have HTL : Hid ((l.take k).length = k) := by show _ = _; simp; omega
     have HA2 : Hid (∀ e ∈ l.take (k + 1), inD e.term 1 1099511627776 = true) := by
      show ∀ _, _
      rw [HT.out]
      intro x hx
      rcases List.mem_append.1 hx with hx | hx
      ·exact HAL.out x hx
      ·simp at hx; subst hx; exact HQ.out
     have HOK : Hid (CoreOk (banB w.heap.size (newD cf id term vote base baseTerm (l.take (k + 1))))) := banB_ok (newD_ok (mayNew_take HH.out (by simp; omega) HA2.out) (fun x hx => HDA.out x (List.mem_of_mem_take hx)))
     have hle : e.data.length ≤ 1000000 := HDL.out
     have hk5 : k ≤ 5096 := by omega
     have HZW : Hid (w'.heap.size < wr.heap.size) := HC.out.blk.lt
     go_wp2_with fail
     refine (cin_is true _ _ _ _ HQ.out).mono ?_
     rintro z w3 ⟨rfl, hw3⟩
     have HW3 := hid hw3
     have x17' : w3.cell? ⟨w'.heap.size, 17, none⟩ = some (.slice q k cq) := by rw [hw3, World.cell?_alloc_lt _ _ _ HZW.out]; exact x17
     have z0 : w3.cell? ⟨wr.heap.size, 0, none⟩ = some (.int .i64 e.term) := by rw [hw3]; simp
     have z1 : w3.cell? ⟨wr.heap.size, 1, none⟩ = some (.bool e.cmd) := by rw [hw3]; simp
     have z2 : w3.cell? ⟨wr.heap.size, 2, none⟩ = some (.slice va e.data.length vc) := by rw [hw3]; simp
     have K3 : Hid (Keeps [] wr w3) := by rw [hw3]; exact (Keeps.refl [] wr).alloc _
     clear hw3
     go_wp2_with fail
     refine Plan.wp_region_plan (fun wx => wx.cell? ⟨w'.heap.size, 17, none⟩ = some (.slice q k cq) ∧ wx.cell? ⟨wr.heap.size, 0, none⟩ = some (.int .i64 e.term) ∧ wx.cell? ⟨wr.heap.size, 1, none⟩ = some (.bool e.cmd) ∧ wx.cell? ⟨wr.heap.size, 2, none⟩ = some (.slice va e.data.length vc)) 9 [(true, 0), (true, 1), (true, 2), (true, 3), (true, 4), (true, 5), (false, 6), (false, 7), (false, 8)] (by kernel_rfl) (by as_aux_lemma => kernel_rfl) (by kernel_rfl) (fun _ _ _ _ _ h => h) ?_ (fun hS => ?_)
     (·exact ⟨x17', z0, z1, z2⟩)
     simp only [Plan.pick, List.append_eq, List.cons_append, List.nil_append, Plan.g1, Plan.g2, Option.getD_some, List.drop_succ_cons, List.drop_zero]
     repeat (first | (refine Plan.take (v := ?_) (a' := ?_) (by rfl) ?_ ?_ ?_; rotate_left 2; (· (intro w' hS'; (try dsimp only at hS'); go_simp; try with_reducible rfl)); (· (simp only [Act.put, List.setIfInBounds_toArray, List.set_cons_zero, List.set_cons_succ]; try with_reducible rfl))) | (refine Plan.pass (a' := ?_) (by rfl) ?_ ?_; rotate_left 1; (· (simp only [Act.put, List.setIfInBounds_toArray, List.set_cons_zero, List.set_cons_succ]; try with_reducible rfl))))
     refine Plan.step ?_
     go_wp2_with fail
     refine (own_any e _ _ (by exact HBV.out.keeps (F := []) K3.out.drew (fun _ _ h => by cases h)) (by omega)).mono ?_
     rintro z w4 ⟨a4, q4, rfl, ho4, hk4⟩
     unfold entV
     have K4 : Hid (Keeps [] wr w4) := K3.out.drew.trans hk4 (fun _ _ h => h)
     have HEL : Hid (∀ wx, Keeps [] w4 wx → entL.at_ wx (fun b => w3.heap.size ≤ b) [.int .i64 e.term, .bool e.cmd, .slice a4 e.data.length q4] e) := ent_elem ho4 (fun b hb => hb)
     have a17 := hk4.cellSome x17' (by simp)
     have b0 := hk4.cellSome z0 (by simp)
     have b1 := hk4.cellSome z1 (by simp)
     have b2 := hk4.cellSome z2 (by simp)
     have HOW : Hid (OwnAt entL 179 w4 w.heap.size (fun b => (b ≠ w'.heap.size ∧ ¬ b < w.heap.size) ∧ b ∉ ownB (.slice q k cq)) (.slice q k cq) (l.take k)) := (OwnAt.k HC.out.own K4.out).mono (fun _ _ h => ⟨⟨h.1.1, h.2⟩, h.1.2⟩)
     have HBB : Hid (∀ b, w3.heap.size ≤ b → (b ≠ w'.heap.size ∧ ¬ b < w.heap.size) ∧ b ∉ ownB (.slice q k cq)) := fun b hb => by
      have z3 := K3.out.size
      have z4 := HK.out.size
      refine ⟨⟨by have := HZW.out; omega, by omega⟩, fun hb' => ?_⟩
      have := (HC.out.own.ge b hb').2
      omega
     have HZ4 : Hid (w.heap.size ≤ w4.heap.size) := Nat.le_trans HK.out.size K4.out.size
     clear ho4 hk4
     go_wp2_with fail
     refine ⟨⟨a17, b0, b1, b2⟩, ?_⟩
     refine Plan.step ?_
     go_wp2_with fail
     refine ⟨⟨((Keeps.refl [] w4).alloc _).cellSome a17 (by simp), ((Keeps.refl [] w4).alloc _).cellSome b0 (by simp), ((Keeps.refl [] w4).alloc _).cellSome b1 (by simp), ((Keeps.refl [] w4).alloc _).cellSome b2 (by simp)⟩, ?_⟩
     refine Plan.step ?_
     go_wp2_with (at_builtin; go_must (refine wpList_append_off (L := entL) (PB := fun b => w3.heap.size ≤ b) _ (by rfl) _ _ _ (by rfl) w.heap.size 179 it _ 40 Tryz.underlying28 hi0 hz0 hz1 hz2 rfl (R := fun b => b ≠ w'.heap.size ∧ ¬ b < w.heap.size) (.slice q k cq) (by rfl) (l.take k) [e] k HTL.out [[.int .i64 e.term, .bool e.cmd, .slice a4 e.data.length q4]] (HOW.out.k ((Keeps.refl [] _).alloc _)) (.slice _ _ _) (by rfl) 1 rfl (ElemsAt.one1 (HEL.out _ ((Keeps.refl [] _).alloc _))) (Reads.one1 (heap_alloc_new _ _) rfl) (by omega) (le_maxLen (by omega)) (by exact Nat.le_trans HZ4.out ((Keeps.refl [] _).alloc _).size) (fun b _ hb => HBB.out b hb) ?_; intro a5 q5 w5 ho5 hk5 hv5))
     have hap : w'.heap.size ∉ ownB (.slice q k cq) := HC.out.apart
     have hap2 : wr.heap.size ∉ ownB (.slice q k cq) := fun hb => by have := (HC.out.own.ge _ hb).2; omega
     have e17 := hk5.out.cellSome (((Keeps.refl [] w4).alloc _).cellSome a17 (by simp)) hap
     have e0 := hk5.out.cellSome (((Keeps.refl [] w4).alloc _).cellSome b0 (by simp)) hap2
     have e1 := hk5.out.cellSome (((Keeps.refl [] w4).alloc _).cellSome b1 (by simp)) hap2
     have e2 := hk5.out.cellSome (((Keeps.refl [] w4).alloc _).cellSome b2 (by simp)) hap2
     have hfz : w5.frozen? ⟨w'.heap.size, 17, none⟩ = false := by
      have h1 := (K4.out.alloc (.cells #[.int .i64 e.term, .bool e.cmd, .slice a4 e.data.length q4] 179))
      exact (hk5.out.frozen (a := ⟨w'.heap.size, 17, none⟩) (Nat.lt_of_lt_of_le HZW.out h1.size) hap).trans ((h1.frozen (a := ⟨w'.heap.size, 17, none⟩) HZW.out (by simp)).trans (HC.out.blk.free 17))
     refine ⟨⟨e17, e0, e1, e2⟩, ?_⟩
     refine Plan.fin ?_
     have HG := hid (HC.out.grow (K4.out.alloc (.cells #[.int .i64 e.term, .bool e.cmd, .slice a4 e.data.length q4] 179)) (l' := l.take (k + 1)) (by rw [HT.out]; exact ho5.out) hk5.out hv5.out rfl HOK.out)
     clear e0 e1 e2 a17 b0 b1 b2 z0 z1 z2 x17' x17
     go_wp2_with fail
     go_roundw
     case rel => exact ⟨k + 1, by omega, by go_num, _, sv, HG.out.1, ⟨_, _, rfl⟩, HK.out.trans HG.out.2 (fun b hb hb' => by have := (HC.out.lt b hb').1; omega), HA2.out⟩
     case measure => simp [intOf]; omega
   ·have hkl : k = l.length := by omega
    subst hkl
    rw [List.take_length] at HC HAL
    have HT : Hid (mayNewD cf id term vote base baseTerm l = true) := mayNew_take HH.out (Nat.le_refl _) HAL.out
    go_wp2_with fail
    go_ret2
    exact .inl ⟨HT.out, _, _, sv, rfl, HC.out, HK.out⟩
theorem cNewB_any (cf : ConfD) (id term vote base baseTerm : Int) (l : List Ent) (a : Option Addr) (cap : Nat) (P : Nat → Prop) (w : World) (hl : ListAt entL w P (.slice a l.length cap) l) (hd : ∀ e ∈ l, e.data.length ≤ 1000000) :
 Calls Tryz.prog 37 #[confV cf, .int .i64 id, .int .i64 term, .int .i64 vote, .int .i64 base, .int .i64 baseTerm, .slice a l.length cap] w (NewPostB cf id term vote base baseTerm l w) := by
 rcases h : headD cf id term vote base baseTerm l.length with _ | _
 ·exact (cNew_head cf id term vote base baseTerm l a cap w h).mono fun e w' hx => .inr ⟨by rw [mayNew_head, h]; rfl, hx⟩
 ·exact cNewB_body cf id term vote base baseTerm l a cap P w hl hd h
theorem CoreAt.banMore {w w' : World} {B n : Nat} {c : CoreD} {lv sv : Value} {G : List Nat} (h : CoreAt w B n c lv sv) (k : Keeps G w w') (hG : ∀ b ∈ G, c.ban b) : CoreAt w' B n (withBan (fun b => c.ban b ∨ (w.heap.size ≤ b ∧ b < w'.heap.size)) c) lv sv := by
 have nb : ∀ b, b < w.heap.size → ¬ c.ban b → ¬ (c.ban b ∨ (w.heap.size ≤ b ∧ b < w'.heap.size)) := fun b h1 h2 h3 => by
  rcases h3 with h3 | h3
  ·exact h2 h3
  ·omega
 have hn : n ∉ G := fun hb => h.free.1 (hG n hb)
 have hv : ∀ b ∈ ownB lv, b ∉ G := fun b hb hb' => h.free.2 b hb (hG b hb')
 exact { blk := h.blk.keep k hn, own := ((h.own.mono (P' := fun b => Off n lv b ∧ ¬ (c.ban b ∨ (w.heap.size ≤ b ∧ b < w'.heap.size))) (fun b h1 h2 => ⟨h2.1, nb b h1 h2.2⟩)).keep k hv (fun b hb hb' => hb.2 (.inl (hG b hb')))), snap := ((h.snap.mono (P' := fun b => Off n lv b ∧ ¬ (c.ban b ∨ (w.heap.size ≤ b ∧ b < w'.heap.size))) (fun b h1 h2 => ⟨h2.1, nb b h1 h2.2⟩)).keep k (fun b hb hb' => hb.2 (.inl (hG b hb')))), apart := h.apart, base := h.base,
         old := fun b hb => by
          rcases hb with hb | hb
          ·exact Nat.lt_of_lt_of_le (h.old b hb) k.size
          ·exact hb.2
         free := ⟨nb n (h.lt n (by simp)).2 h.free.1, fun b hb => nb b (h.lt b (List.mem_cons_of_mem _ hb)).2 (h.free.2 b hb)⟩
         ok := withBan_ok h.ok }
def wrongHead (c : CoreD) (m : MsgD) : Bool :=
 !inD m.kind 1 5 || m.«to» != c.id || !inD m.frm 1 c.conf.nodes || m.frm == c.id || !inD m.term 1 1099511627776 || !inD m.a 0 1099511627776 || !inD m.b 0 1099511627776 || !inD m.c 0 1099511627776 || decide (8 < m.entries.length)
def wrongD (c : CoreD) (m : MsgD) : Bool := wrongHead c m || m.entries.any fun e => !inD e.term 1 m.term
def answerD (c : CoreD) (m : MsgD) (ok : Bool) (a : Int) : List MsgD := [saysD c { msg0 with kind := 4, ok := ok, a := a } m.frm]
def stepD (c : CoreD) (m : MsgD) : CoreD := if c.term < m.term then { risesD c m.term 0 with role := 0, leader := 0 } else c
def lastTerm (c : CoreD) : Int := (atD c (lastD c)).1
def askedOk (c : CoreD) (m : MsgD) : Bool :=
 m.term == c.term && (c.vote == 0 || c.vote == m.frm) && c.role == 0 && (decide (lastTerm c < m.b) || m.b == lastTerm c && decide (lastD c ≤ m.a))
def askedC (c : CoreD) (m : MsgD) : CoreD := if askedOk c m then { risesD c c.term m.frm with patience := 0 } else c
def askedD (c : CoreD) (m : MsgD) : CoreD × List MsgD := (askedC c m, [saysD (askedC c m) { msg0 with kind := 2, ok := askedOk c m } m.frm])
def lead0 (c : CoreD) : CoreD := { c with role := 2, leader := c.id, patience := 0, matc := List.replicate 8 0, next := List.replicate 8 (lastD c + 1) }
def leadD (c : CoreD) : CoreD := if c.l.length < 5096 then putD (lead0 c) { term := c.term, cmd := false, data := [] } else lead0 c
def votedC (c : CoreD) (m : MsgD) : CoreD := { c with votes := c.votes.set m.frm.toNat true }
def votedD (c : CoreD) (m : MsgD) : CoreD × List MsgD :=
 if m.term ≠ c.term ∨ c.role ≠ 1 ∨ m.ok = false then (c, [])
 else if ((votedC c m).votes.count true : Int) ≤ c.conf.nodes / 2 then (votedC c m, [])
 else (leadD (votedC c m), othersD (leadD (votedC c m)) (sendD (leadD (votedC c m))))
def haveD (c : CoreD) (i : Int) : Nat → Int
 | 0 => 1
 | k + 1 => haveD c i k + (if ((k + 1 : Nat) : Int) ≠ c.id ∧ i ≤ c.matc.getD (k + 1) 0 then 1 else 0)
def agreesTo (c : CoreD) : Nat → Int
 | 0 => c.commit
 | k + 1 => if (atD c (c.commit + (k + 1 : Nat))).1 = c.term ∧ c.conf.nodes / 2 < haveD c (c.commit + (k + 1 : Nat)) c.conf.nodes.toNat then c.commit + (k + 1 : Nat) else agreesTo c k
def agreesD (c : CoreD) : CoreD := { c with commit := agreesTo c (lastD c - c.commit).toNat }
def appNo (c : CoreD) (m : MsgD) : CoreD :=
 { c with next := c.next.set m.frm.toNat (max (c.matc.getD m.frm.toNat 0 + 1) (if m.a < c.next.getD m.frm.toNat 0 - 1 - 1 then m.a + 1 else c.next.getD m.frm.toNat 0 - 1)) }
def appYes0 (c : CoreD) (m : MsgD) : CoreD := { c with matc := c.matc.set m.frm.toNat (max (c.matc.getD m.frm.toNat 0) m.a) }
def appYes (c : CoreD) (m : MsgD) : CoreD := { appYes0 c m with next := c.next.set m.frm.toNat (max (c.next.getD m.frm.toNat 0) ((appYes0 c m).matc.getD m.frm.toNat 0 + 1)) }
def appendedD (c : CoreD) (m : MsgD) : CoreD × List MsgD :=
 if m.term ≠ c.term ∨ c.role ≠ 2 ∨ (m.ok = true ∧ lastD c < m.a) then (c, [])
 else if m.ok = false then (appNo c m, [sendD (appNo c m) m.frm])
 else (agreesD (appYes c m), [])
def putsD (c : CoreD) (a : Int) : List Ent → Option CoreD
 | [] => some c
 | e :: r =>
   if (atD c (a + 1)).2 = true ∧ (atD c (a + 1)).1 = e.term then putsD c (a + 1) r
   else if a + 1 ≤ c.commit ∨ 5096 < a - c.base + (r.length + 1) then none
   else some ((e :: r).foldl putD { c with l := c.l.take (a - c.base).toNat })
def fitD (c : CoreD) (a b : Int) (passed : Bool) : Bool := (atD c a).2 && (passed || (atD c a).1 == b)
def appendAt (c : CoreD) (m : MsgD) (a : Int) (l : List Ent) (passed : Bool) : CoreD × List MsgD :=
 if fitD c a m.b passed then
  match putsD c a l with
  | none => (c, [])
  | some c' => ({ c' with commit := max c.commit (min m.c (a + l.length)) }, answerD c m true (a + l.length))
 else (c, answerD c m false (max c.commit (min (lastD c) (a - 1))))
def appendD (c : CoreD) (m : MsgD) : CoreD × List MsgD :=
 if c.base ≤ m.a then appendAt c m m.a m.entries false
 else if c.base - m.a < m.entries.length then appendAt c m c.base (m.entries.drop (c.base - m.a).toNat) true
 else (c, answerD c m true c.base)
def standsD (c : CoreD) (i : Int) (data : List UInt8) : CoreD := { c with l := c.l.drop (i - c.base).toNat, base := i, baseTerm := (atD c i).1, snap := data }
def takesD (c : CoreD) (m : MsgD) : CoreD × List MsgD :=
 if m.a ≤ c.commit then (c, answerD c m true c.commit)
 else ({ (if (atD c m.a).2 = true ∧ (atD c m.a).1 = m.b then standsD c m.a m.data else { c with l := [], base := m.a, baseTerm := m.b, snap := m.data }) with commit := m.a, tsnap := true }, answerD c m true m.a)
def followD (c : CoreD) (m : MsgD) : CoreD := { c with role := 0, leader := m.frm, patience := 0 }
def snapNo (m : MsgD) : Bool := m.kind == 5 && (!inD m.a 1 549755813888 || !inD m.b 1 m.term)
def heardD (c : CoreD) (m : MsgD) : CoreD × List MsgD :=
 if m.kind = 1 then askedD c m
 else if m.kind = 2 then votedD c m
 else if m.kind = 4 then appendedD c m
 else if m.term < c.term then (c, answerD c m false (lastD c))
 else if c.role = 2 ∨ snapNo m = true then (c, [])
 else if m.kind = 5 then takesD (followD c m) m
 else appendD (followD c m) m
def hearD (c : CoreD) (m : MsgD) : CoreD × List MsgD := if wrongD c m then (c, []) else heardD (stepD c m) m
def changesD (c : CoreD) : CoreD × Bool × Int × Bool := ({ c with hard := false, frm := 0, tsnap := false }, c.hard, (if 0 < c.frm then max c.frm (c.base + 1) else c.frm), c.tsnap)
theorem wrongHead_no {c : CoreD} {m : MsgD} (h : wrongHead c m = false) : (1 ≤ m.kind ∧ m.kind ≤ 5) ∧ m.«to» = c.id ∧ (1 ≤ m.frm ∧ m.frm ≤ c.conf.nodes) ∧ m.frm ≠ c.id ∧ (1 ≤ m.term ∧ m.term ≤ 1099511627776) ∧ (0 ≤ m.a ∧ m.a ≤ 1099511627776) ∧ (0 ≤ m.b ∧ m.b ≤ 1099511627776) ∧ (0 ≤ m.c ∧ m.c ≤ 1099511627776) ∧ m.entries.length ≤ 8 := by
 simp only [wrongHead, inD, Bool.or_eq_false_iff, Bool.not_eq_false', Bool.and_eq_true, decide_eq_true_eq, bne_eq_false_iff_eq, beq_eq_false_iff_ne, decide_eq_false_iff_not] at h
 obtain ⟨⟨⟨⟨⟨⟨⟨⟨h1, h2⟩, h3⟩, h4⟩, h5⟩, h6⟩, h7⟩, h8⟩, h9⟩ := h
 exact ⟨h1, h2, h3, h4, h5, h6, h7, h8, by omega⟩
def reban (X : Nat → Prop) (c : CoreD) : CoreD := { c with ban := X }
def reban2 (X : Nat → Prop) (r : CoreD × List MsgD) : CoreD × List MsgD := (reban X r.1, r.2)
section
variable (X : Nat → Prop) (c : CoreD) (m : MsgD)
theorem stepD_reban : stepD (reban X c) m = reban X (stepD c m) := by
 unfold stepD
 rw [apply_ite (reban X)]
 rfl
theorem askedC_reban : askedC (reban X c) m = reban X (askedC c m) := by
 unfold askedC
 rw [apply_ite (reban X)]
 rfl
theorem askedD_reban : askedD (reban X c) m = reban2 X (askedD c m) := by
 unfold askedD
 rw [askedC_reban]
 rfl
theorem lead_reban : leadD (reban X c) = reban X (leadD c) := by
 unfold leadD
 rw [apply_ite (reban X)]
 rfl
theorem votedD_reban : votedD (reban X c) m = reban2 X (votedD c m) := by
 unfold votedD
 rw [apply_ite (reban2 X), apply_ite (reban2 X)]
 have h : leadD (votedC (reban X c) m) = reban X (leadD (votedC c m)) := lead_reban X (votedC c m)
 rw [h]
 rfl
theorem haveD_reban (i : Int) : ∀ k, haveD (reban X c) i k = haveD c i k
 | 0 => rfl
 | k + 1 => by
   unfold haveD
   rw [haveD_reban i k]
   rfl
theorem agreesTo_reban : ∀ k, agreesTo (reban X c) k = agreesTo c k
 | 0 => rfl
 | k + 1 => by
   unfold agreesTo
   rw [agreesTo_reban k, haveD_reban]
   rfl
theorem agreesD_reban : agreesD (reban X c) = reban X (agreesD c) := by
 unfold agreesD
 rw [agreesTo_reban]
 rfl
theorem appendedD_reban : appendedD (reban X c) m = reban2 X (appendedD c m) := by
 unfold appendedD
 rw [apply_ite (reban2 X), apply_ite (reban2 X)]
 have h : agreesD (appYes (reban X c) m) = reban X (agreesD (appYes c m)) := agreesD_reban X (appYes c m)
 rw [h]
 rfl
end
theorem foldl_reban (X : Nat → Prop) : ∀ (l : List Ent) (c : CoreD), l.foldl putD (reban X c) = reban X (l.foldl putD c)
 | [], _ => rfl
 | e :: r, c => foldl_reban X r (putD c e)
theorem putsD_reban (X : Nat → Prop) (c : CoreD) : ∀ (l : List Ent) (a : Int), putsD (reban X c) a l = (putsD c a l).map (reban X)
 | [], _ => rfl
 | e :: r, a => by
   unfold putsD
   rw [putsD_reban X c r (a + 1), apply_ite (Option.map (reban X)), apply_ite (Option.map (reban X))]
   have h := foldl_reban X (e :: r) { c with l := c.l.take (a - c.base).toNat }
   show (if _ then _ else if _ then _ else some ((e :: r).foldl putD (reban X { c with l := c.l.take (a - c.base).toNat }))) = _
   rw [h]
   rfl
section
variable (X : Nat → Prop) (c : CoreD) (m : MsgD)
theorem appendAt_reban (a : Int) (l : List Ent) (p : Bool) : appendAt (reban X c) m a l p = reban2 X (appendAt c m a l p) := by
 unfold appendAt
 rw [apply_ite (reban2 X), putsD_reban]
 cases putsD c a l <;> rfl
theorem appendD_reban : appendD (reban X c) m = reban2 X (appendD c m) := by
 unfold appendD
 rw [apply_ite (reban2 X), apply_ite (reban2 X), appendAt_reban, appendAt_reban]
 rfl
theorem takesD_reban : takesD (reban X c) m = reban2 X (takesD c m) := by
 unfold takesD
 rw [apply_ite (reban2 X)]
 have h : (if (atD c m.a).2 = true ∧ (atD c m.a).1 = m.b then standsD (reban X c) m.a m.data else { reban X c with l := [], base := m.a, baseTerm := m.b, snap := m.data }) = reban X (if (atD c m.a).2 = true ∧ (atD c m.a).1 = m.b then standsD c m.a m.data else { c with l := [], base := m.a, baseTerm := m.b, snap := m.data }) := by
  rw [apply_ite (reban X)]
  rfl
 show (if _ then _ else ({ (if (atD c m.a).2 = true ∧ (atD c m.a).1 = m.b then standsD (reban X c) m.a m.data else { reban X c with l := [], base := m.a, baseTerm := m.b, snap := m.data }) with commit := m.a, tsnap := true }, _)) = _
 rw [h]
 rfl
theorem heardD_reban : heardD (reban X c) m = reban2 X (heardD c m) := by
 unfold heardD
 simp only [apply_ite (reban2 X)]
 have h1 := takesD_reban X (followD c m) m
 have h2 := appendD_reban X (followD c m) m
 rw [askedD_reban, votedD_reban, appendedD_reban, show followD (reban X c) m = reban X (followD c m) from rfl, h1, h2]
 rfl
theorem hearD_reban : hearD (reban X c) m = reban2 X (hearD c m) := by
 unfold hearD
 rw [apply_ite (reban2 X), stepD_reban, heardD_reban]
 rfl
theorem CoreOk.reban {c : CoreD} (h : CoreOk c) : CoreOk (reban X c) :=
 { may := h.may, id := h.id, term := h.term, base := h.base, baseTerm := h.baseTerm, len := h.len, last := h.last, commit := h.commit, draw := h.draw, votes := h.votes, next := h.next, matc := h.matc, nexts := h.nexts, matcs := h.matcs, ents := h.ents, frm := h.frm, data := h.data, snap := h.snap }
end
def who (c : CoreD) : ConfD × Int := (c.conf, c.id)
theorem stepD_who (c : CoreD) (m : MsgD) : who (stepD c m) = who c := by
 unfold stepD
 split <;> rfl
theorem lead_who (c : CoreD) : who (leadD c) = who c := by
 unfold leadD
 split <;> rfl
theorem askedD_who (c : CoreD) (m : MsgD) : who (askedD c m).1 = who c := by
 show who (askedC c m) = _
 unfold askedC
 split <;> rfl
theorem votedD_who (c : CoreD) (m : MsgD) : who (votedD c m).1 = who c := by
 unfold votedD
 split
 ·rfl
 ·split
  ·rfl
  ·exact lead_who _
theorem appendedD_who (c : CoreD) (m : MsgD) : who (appendedD c m).1 = who c := by
 unfold appendedD
 split
 ·rfl
 ·split <;> rfl
theorem foldl_who : ∀ (l : List Ent) (c : CoreD), who (l.foldl putD c) = who c
 | [], _ => rfl
 | e :: r, c => foldl_who r (putD c e)
theorem putsD_who (c : CoreD) : ∀ (l : List Ent) (a : Int) (c' : CoreD), putsD c a l = some c' → who c' = who c
 | [], _, c', h => by
   unfold putsD at h
   rw [← Option.some.inj h]
 | e :: r, a, c', h => by
   unfold putsD at h
   split at h
   ·exact putsD_who c r (a + 1) c' h
   ·split at h
    ·cases h
    ·rw [← Option.some.inj h]
     exact foldl_who (e :: r) _
theorem appendAt_who (c : CoreD) (m : MsgD) (a : Int) (l : List Ent) (p : Bool) : who (appendAt c m a l p).1 = who c := by
 unfold appendAt
 split
 ·split
  ·rfl
  ·rename_i c' h
   exact putsD_who c l a c' h
 ·rfl
theorem appendD_who (c : CoreD) (m : MsgD) : who (appendD c m).1 = who c := by
 unfold appendD
 split
 ·exact appendAt_who _ _ _ _ _
 ·split
  ·exact appendAt_who _ _ _ _ _
  ·rfl
theorem takesD_who (c : CoreD) (m : MsgD) : who (takesD c m).1 = who c := by
 unfold takesD
 split
 ·rfl
 ·show who (if _ then _ else _) = _
  split <;> rfl
theorem heardD_who (c : CoreD) (m : MsgD) : who (heardD c m).1 = who c := by
 unfold heardD
 split
 ·exact askedD_who _ _
 ·split
  ·exact votedD_who _ _
  ·split
   ·exact appendedD_who _ _
   ·split
    ·rfl
    ·split
     ·rfl
     ·split
      ·exact takesD_who _ _
      ·exact appendD_who _ _
theorem hearD_who (c : CoreD) (m : MsgD) : (hearD c m).1.conf = c.conf ∧ (hearD c m).1.id = c.id := by
 have h : who (hearD c m).1 = who c := by
  unfold hearD
  split
  ·rfl
  ·exact (heardD_who _ _).trans (stepD_who c m)
 exact ⟨congrArg Prod.fst h, congrArg Prod.snd h⟩
end Go.Proofs.YtgjiahilbmeaeaaGreatDoor