/- New of the document's core, the good way; both, whole. (Printed by gen_new.py.) -/
import Derived.Test.YtpppoajnbhipeaaCoreS
namespace Go.Proofs.Ytpppoajnbhipeaa
open Go Go.RowKit

def RNewYes (cf : ConfD) (id term vote base baseTerm : Int) (l : List Ent) (P : Nat → Prop) (w : World) (e : Ending) (w' : World) : Prop :=
  ∃ n lv sv, e = .returned (.tuple #[.pointer (some ⟨n, 0, none⟩), .int .i64 0]) ∧ RefAt w' w.heap.size n (newD cf id term vote base baseTerm l) (fun b => (P b ∧ b < w.heap.size) ∨ (w.heap.size ≤ b ∧ b ≠ n)) lv sv ∧ Keeps [] w w'
def RNewPost (cf : ConfD) (id term vote base baseTerm : Int) (l : List Ent) (P : Nat → Prop) (w : World) (e : Ending) (w' : World) : Prop :=
  (mayNewD cf id term vote base baseTerm l = true ∧ RNewYes cf id term vote base baseTerm l P w e w') ∨ (mayNewD cf id term vote base baseTerm l = false ∧ NewNo w e w')

set_option maxRecDepth 100000 in
set_option maxHeartbeats 3200000 in
theorem rNew_body (cf : ConfD) (id term vote base baseTerm : Int) (l : List Ent) (a : Option Addr) (cap : Nat) (P : Nat → Prop) (w : World) (hl : ListAt entL w P (.slice a l.length cap) l) (hd : ∀ e ∈ l, e.data.length ≤ 1000000) (h : headD cf id term vote base baseTerm l.length = true) :
    Calls Try.prog 15 #[confV cf, .int .i64 id, .int .i64 term, .int .i64 vote, .int .i64 base, .int .i64 baseTerm, .slice a l.length cap] w (RNewPost cf id term vote base baseTerm l P w) := by
  obtain ⟨it, hi0, hz0, hz1, hz2⟩ := info_parts Try.infoEnt
  have HH := hid h
  have HLA : Hid (ListAt entL w (fun b => P b ∧ b < w.heap.size) (.slice a l.length cap) l) := hl.mono (fun b h1 h2 => ⟨h2, h1⟩)
  have HDA := hid hd
  simp only [headD, Bool.and_eq_true, decide_eq_true_eq] at h
  obtain ⟨⟨⟨⟨⟨⟨h0, h1⟩, h2⟩, h3⟩, h4⟩, h5⟩, h6⟩ := h
  have hm := (ConfD.may_iff cf).1 h0
  have F0 := hid h0
  have F1 := hid h1
  have F2 := hid h2
  have F5 := hid h3
  have F3 := hid h4
  have F4 := hid h5
  have hl5 : (l.length : Int) ≤ 5096 := by omega
  simp only [inD, Bool.and_eq_true, decide_eq_true_eq] at h1 h4
  have b1 : 1 ≤ id := h1.1
  have b2 : id ≤ 7 := by omega
  have b3 : 1 ≤ cf.heart := hm.2.2.1.1
  have b4 : cf.heart ≤ 100 := hm.2.2.1.2
  have p1 : 0 ≤ (id - 1) * (cf.heart + 6) := Int.mul_nonneg (by omega) (by omega)
  have p2 : (id - 1) * (cf.heart + 6) ≤ 6 * 106 := Int.mul_le_mul (by omega) (by omega) (by omega) (by omega)
  have HB : Hid (∀ (w1 : World) d lv, d = min ((id - 1) * (cf.heart + 6)) cf.range → ∃ cs, cs = #[.int .i64 cf.nodes, .int .i64 cf.clients, .int .i64 cf.heart, .int .i64 cf.lo, .int .i64 cf.range, .int .i64 cf.sessions, .int .i64 cf.snap, .int .i64 cf.room, .int .i64 cf.retry, .int .i64 id, .int .i64 term, .int .i64 vote, .int .i64 0, .int .i64 0, .int .i64 base, .int .i64 base, .int .i64 baseTerm, .slice none 0 0, lv, .int .i64 0, .int .i64 d,
      .bool false, .bool false, .bool false, .bool false, .bool false, .bool false, .bool false, .bool false, .int .i64 0, .int .i64 0, .int .i64 0, .int .i64 0, .int .i64 0, .int .i64 0, .int .i64 0, .int .i64 0, .int .i64 0, .int .i64 0, .int .i64 0, .int .i64 0, .int .i64 0, .int .i64 0, .int .i64 0, .int .i64 0, .bool false, .bool false, .int .i64 0] ∧
      RefBlk (w1.alloc (.cells cs 92)) w1.heap.size (newD cf id term vote base baseTerm l) lv (.slice none 0 0)) := fun w1 d lv hd => by
    refine ⟨_, rfl, ?_⟩
    subst hd
    exact heap_alloc_new _ _
  clear hl hd h0 h1 h2 h3 h4 h5 h6 hm
  rcases (show (id - 1) * (cf.heart + 6) ≤ cf.range ∨ cf.range < (id - 1) * (cf.heart + 6) by omega) with hmin | hmin
  all_goals
    unfold confV
    go_enter Try.func15, Try.ntmps15
    go_wp2_with fail
    refine (rMay_is true cf _ F0.out).mono ?_
    rintro e w1 ⟨rfl, k1⟩
    have K1 : Hid (Keeps [] w w1) := (((Keeps.refl [] w).alloc _).trans k1 (fun _ _ h => h))
    obtain ⟨⟨c0, c1, c2, c3, c4, c5, c6, c7, c8⟩, f1⟩ := blk9 ((k1.block w.heap.size (by simp) (by simp)).trans (heap_alloc_new w _))
    clear k1
    go_wp2_with fail
    refine (rin_is true _ _ _ _ F1.out).mono ?_
    rintro e w' ⟨rfl, hw'⟩
    subst hw'
    go_wp2_with fail
    refine (rin_is true _ _ _ _ F2.out).mono ?_
    rintro e w' ⟨rfl, hw'⟩
    subst hw'
    go_wp2_with fail
    refine (rin_is true _ _ _ _ F3.out).mono ?_
    rintro e w' ⟨rfl, hw'⟩
    subst hw'
    go_wp2_with fail
    refine (rin_is true _ _ _ _ F4.out).mono ?_
    rintro e w' ⟨rfl, hw'⟩
    subst hw'
    go_wp2_with fail
    refine (rin_is true _ _ _ _ F5.out).mono ?_
    rintro e w' ⟨rfl, hw'⟩
    subst hw'
    have hlen : (l.length : Int) ≤ 5096 := hl5
    go_wp2_with fail
    go_loopw [16] (fun i wr => ∃ k : Nat, k ≤ l.length ∧ i = .int .i64 k ∧ wr = w' ∧ Hid (∀ e ∈ l.take k, inD e.term 1 1099511627776 = true)) (fun i _ => l.length - (intOf i).toNat)
    case atStart => exact ⟨0, Nat.zero_le _, rfl, rfl, by show ∀ _, _; simp⟩
    case round =>
      obtain ⟨k, hk, rfl, rfl, HAL⟩ := hrel
      by_cases hlt : k < l.length
      · have i0 : (0 : Int) ≤ (k : Int) := Int.natCast_nonneg _
        have i1 : (k : Int) < (l.length : Int) := by omega
        obtain ⟨e, he⟩ : ∃ e, l[k]? = some e := ⟨l[k], List.getElem?_eq_getElem hlt⟩
        obtain ⟨g, off, cg, av, cv, ha, _, _, y0, _⟩ := (HLA.out.k K1.out).ent he
        simp at ha
        obtain ⟨ha, hcc⟩ := ha
        subst ha
        subst hcc
        have HE := hid he
        clear he
        rcases hq : inD e.term 1 1099511627776 with _ | _
        · have HF : Hid (mayNewD cf id term vote base baseTerm l = false) := by
            show _ = _
            rw [mayNew_head, HH.out]
            simp only [Bool.true_and, List.all_eq_false]
            exact ⟨e, List.mem_of_getElem? HE.out, by simp [hq]⟩
          have HQ := hid hq
          clear hq
          go_wp2_with fail
          refine (rin_is false _ _ _ _ HQ.out).mono ?_
          rintro z w3 ⟨rfl, hw3⟩
          subst hw3
          go_wp2_with fail
          go_ret2
          exact .inr ⟨HF.out, rfl, K1.out⟩
        · have HQ := hid hq
          clear hq
          have HA2 : Hid (∀ e ∈ l.take (k + 1), inD e.term 1 1099511627776 = true) := by
            show ∀ _, _
            rw [List.take_add_one, HE.out]
            intro x hx
            rcases List.mem_append.1 hx with hx | hx
            · exact HAL.out x hx
            · simp at hx; subst hx; exact HQ.out
          go_wp2_with fail
          refine (rin_is true _ _ _ _ HQ.out).mono ?_
          rintro z w3 ⟨rfl, hw3⟩
          subst hw3
          go_wp2_with fail
          go_roundw
          case rel => exact ⟨k + 1, by omega, by go_num, by first | rfl | trivial, HA2.out⟩
          case measure => simp [intOf]; omega
      · have hkl : k = l.length := by omega
        have HT : Hid (mayNewD cf id term vote base baseTerm l = true) := by
          have := HAL.out
          rw [hkl, List.take_length] at this
          exact mayNew_take HH.out (Nat.le_refl _) this
        have i1 : (l.length : Int) ≤ (k : Int) := by omega
        clear hkl
        obtain ⟨css, hel, hrd, _⟩ := HLA.out.k K1.out
        have HEL := hid hel
        have HRD := hid hrd
        clear hel hrd
        have q1 : IntKind.i64.wrap (id - 1) = id - 1 := IntWalk.i64_in _ (by omega)
        have q2 : IntKind.i64.wrap (cf.heart + 6) = cf.heart + 6 := IntWalk.i64_in _ (by omega)
        have q3 : IntKind.i64.wrap ((id - 1) * (cf.heart + 6)) = (id - 1) * (cf.heart + 6) := IntWalk.i64_in _ (by omega)
        go_wp2_with fail
        refine Plan.wp_region_plan (fun wx => wx.cell? ⟨w.heap.size, 0, none⟩ = some (.int .i64 cf.nodes) ∧ wx.cell? ⟨w.heap.size, 1, none⟩ = some (.int .i64 cf.clients) ∧ wx.cell? ⟨w.heap.size, 2, none⟩ = some (.int .i64 cf.heart) ∧ wx.cell? ⟨w.heap.size, 3, none⟩ = some (.int .i64 cf.lo) ∧ wx.cell? ⟨w.heap.size, 4, none⟩ = some (.int .i64 cf.range) ∧ wx.cell? ⟨w.heap.size, 5, none⟩ = some (.int .i64 cf.sessions) ∧ wx.cell? ⟨w.heap.size, 6, none⟩ = some (.int .i64 cf.snap) ∧ wx.cell? ⟨w.heap.size, 7, none⟩ = some (.int .i64 cf.room) ∧ wx.cell? ⟨w.heap.size, 8, none⟩ = some (.int .i64 cf.retry)) 18 [(true, 0), (true, 1), (true, 2), (true, 3), (true, 4), (true, 5), (true, 6), (true, 7), (true, 8), (true, 9), (true, 10), (true, 11), (true, 12), (true, 13), (true, 14), (true, 15), (true, 16), (false, 17)] (by kernel_rfl) (by as_aux_lemma => kernel_rfl) (by kernel_rfl) (fun _ _ _ _ _ h => h) ?_ (fun hS => ?_)
        (· exact ⟨c0, c1, c2, c3, c4, c5, c6, c7, c8⟩)
        simp only [Plan.pick, List.append_eq, List.cons_append, List.nil_append, List.getElem?_cons_zero, List.getElem?_cons_succ, Option.getD_some, List.drop_succ_cons, List.drop_zero]
        repeat (first | (refine Plan.take (v := ?_) (a' := ?_) (by rfl) ?_ ?_ ?_; rotate_left 2; (· (intro w' hS'; (try dsimp only at hS'); go_simp; try with_reducible rfl)); (· (simp only [Act.put, List.setIfInBounds_toArray, List.set_cons_zero, List.set_cons_succ]; try with_reducible rfl))) | (refine Plan.pass (a' := ?_) (by rfl) ?_ ?_; rotate_left 1; (· (simp only [Act.put, List.setIfInBounds_toArray, List.set_cons_zero, List.set_cons_succ]; try with_reducible rfl))))
        refine Plan.step ?_
        go_wp2_with (at_builtin; go_must (refine wpList_append_copy _ rfl (.tmp 83) 35 rfl 59 it _ 3 40 Try.underlying35 hi0 hz0 hz1 hz2 rfl (by decide) (.slice a l.length cap) l.length css.flatten rfl (by exact HRD.out) HEL.out.one (by omega) (le_maxLen (by omega)) ?_; intro v' wz g1 g2; obtain ⟨qa, qc, hv⟩ := len_form g1; subst hv; have HO := hid g1; have HK := hid ((Keeps.refl [] wr).grown g2 rfl rfl rfl rfl (fun _ h => by cases h)); clear g1 g2))
        have d0 := HK.out.cellSome c0 (by simp)
        have d1 := HK.out.cellSome c1 (by simp)
        have d2 := HK.out.cellSome c2 (by simp)
        have d3 := HK.out.cellSome c3 (by simp)
        have d4 := HK.out.cellSome c4 (by simp)
        have d5 := HK.out.cellSome c5 (by simp)
        have d6 := HK.out.cellSome c6 (by simp)
        have d7 := HK.out.cellSome c7 (by simp)
        have d8 := HK.out.cellSome c8 (by simp)
        refine ⟨⟨d0, d1, d2, d3, d4, d5, d6, d7, d8⟩, ?_⟩
        refine Plan.fin ?_
        clear q1 q2 q3
        go_wp2_with fail
        go_ret2
        have KW : Keeps [] w wz := K1.out.trans HK.out (fun _ _ h => h)
        have hwz : w.heap.size ≤ wz.heap.size := KW.size
        obtain ⟨cs, hcs, hC⟩ := HB.out wz _ (.slice qa l.length qc) rfl
        have hlog : ∀ o, ListAt entL (wz.alloc o) (fun b => (P b ∧ b < w.heap.size) ∨ (w.heap.size ≤ b ∧ b ≠ wz.heap.size)) (.slice qa l.length qc) l := fun o =>
          ((ListAt.copied HEL.out rfl HO.out (Nat.le_refl _) HK.out).mono (fun b h1 h2 => h2.imp (fun h => h) (fun h3 => ⟨Nat.le_trans K1.out.size h3, by omega⟩))).k ((Keeps.refl [] _).alloc _)
        have hok : CoreOk (newD cf id term vote base baseTerm l) := newD_ok HT.out HDA.out
        rw [hcs] at hC
        first
          | (rw [show min ((id - 1) * (cf.heart + 6)) cf.range = (id - 1) * (cf.heart + 6) by omega] at hC; exact .inl ⟨HT.out, wz.heap.size, .slice qa l.length qc, .slice none 0 0, rfl, { blk := hC, log := hlog _, snap := BytesAt.nil _ _ _ _, apart := by simp; omega, base := hwz, ok := hok }, KW.alloc _⟩)
          | (rw [show min ((id - 1) * (cf.heart + 6)) cf.range = cf.range by omega] at hC; exact .inl ⟨HT.out, wz.heap.size, .slice qa l.length qc, .slice none 0 0, rfl, { blk := hC, log := hlog _, snap := BytesAt.nil _ _ _ _, apart := by simp; omega, base := hwz, ok := hok }, KW.alloc _⟩)

theorem cNew_any (cf : ConfD) (id term vote base baseTerm : Int) (l : List Ent) (a : Option Addr) (cap : Nat) (P : Nat → Prop) (w : World) (hl : ListAt entL w P (.slice a l.length cap) l) (hd : ∀ e ∈ l, e.data.length ≤ 1000000) :
    Calls Try.prog 14 #[confV cf, .int .i64 id, .int .i64 term, .int .i64 vote, .int .i64 base, .int .i64 baseTerm, .slice a l.length cap] w (NewPost cf id term vote base baseTerm l w) := by
  rcases h : headD cf id term vote base baseTerm l.length with _ | _
  · exact (cNew_head cf id term vote base baseTerm l a cap w h).mono fun e w' hx => .inr ⟨by rw [mayNew_head, h]; rfl, hx⟩
  · exact cNew_body cf id term vote base baseTerm l a cap P w hl hd h
theorem rNew_any (cf : ConfD) (id term vote base baseTerm : Int) (l : List Ent) (a : Option Addr) (cap : Nat) (P : Nat → Prop) (w : World) (hl : ListAt entL w P (.slice a l.length cap) l) (hd : ∀ e ∈ l, e.data.length ≤ 1000000) :
    Calls Try.prog 15 #[confV cf, .int .i64 id, .int .i64 term, .int .i64 vote, .int .i64 base, .int .i64 baseTerm, .slice a l.length cap] w (RNewPost cf id term vote base baseTerm l P w) := by
  rcases h : headD cf id term vote base baseTerm l.length with _ | _
  · exact (rNew_head cf id term vote base baseTerm l a cap w h).mono fun e w' hx => .inr ⟨by rw [mayNew_head, h]; rfl, hx⟩
  · exact rNew_body cf id term vote base baseTerm l a cap P w hl hd h

end Go.Proofs.Ytpppoajnbhipeaa
