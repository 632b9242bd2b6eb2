/- Joined of NoE, NoF, NoG, NtI. -/
import Derived.Test.YtgjiahilbmeaeaaGreatDoorR16
import Derived.Test.YtgjiahilbmeaeaaGreatDoorR02
import Derived.Deep.CutRange
import Derived.Deep.CutBlock
import Derived.Maps.RangeWalk
import Derived.Test.YtgjiahilbmeaeaaGreatDoorR14
import Derived.Test.YtgjiahilbmeaeaaGreatDoorR05
set_option maxRecDepth 100000
set_option maxHeartbeats 8000000
set_option linter.unusedSimpArgs false
set_option linter.unusedVariables false
/- A node writes what was turned, where there is nothing «to» apply. -/
namespace Go.Proofs.YtgjiahilbmeaeaaGreatDoor
open Go Go.RowKit
theorem results_write {fn : Func} (hr : fn.results = #[.cell 4 31]) {tmps : Array Value} {W : World} {b : Nat} {v : Value} (h4 : tmps.getD 4 undef = .pointer (some ⟨b, 0, none⟩)) (h : W.cell? ⟨b, 0, none⟩ = some v) : (results fn tmps).run Tryz.prog W = .ok v W := by
 rw [Array.getD_eq_getD_getElem?] at h4
 simp [results, hr, h4, go_sem, h]
theorem write1_idle (a b : Value) (w : World) :
 CallsD Tryz.prog 40 #[a, b] .returning w fun e u' w' => e = .returned (.tuple #[]) ∧ u' = .returning ∧ w' = w := by
 refine callsD_of_wpS Tryz.func40 rfl fun c₀ cs hu => ?_
 apply wpS_seq
 apply wpS_region
 simp [wpOpsS, go_sem, recoverD, hu, Tryz.ntmps40, Exit.thenS]
 rw [show (#[a, b] ++ ((Array.replicate 17 undef).setIfInBounds 3 .nilIface).setIfInBounds 0 .nilIface : Array Value) = #[a, b, .nilIface, undef, undef, .nilIface, undef, undef, undef, undef, undef, undef, undef, undef, undef, undef, undef, undef, undef] from by kernel_rfl]
 refine wpS_of_wp ?_
 go_wp2_with fail
 refine ⟨rfl, .returning, by cases c₀; simp_all, _, ?_, rfl, rfl, rfl⟩
 simp [results, Tryz.results40, go_sem]
def bodyPostN (P : Program) (fn : Func) (R : Ending → World → Prop) : Exit → Act → World → Prop
 | .normal, a, w | .ret, a, w => Leaves P fn a.tmps R a.defers .returning w
 | .panic _, _, _ => False
 | .outgrown, _, w => R .outgrown w
 | _, _, _ => False
theorem calls_of_wp_n {P : Program} {f : FuncId} {fn : Func} {c : Code} {args : Array Value} {w : World} {R : Ending → World → Prop} (hf : P.funcs[f]? = some fn) (hb : fn.body = some c)
 (h : c.wp P (bodyPostN P fn R) { tmps := args ++ Array.replicate (fn.ntmps - args.size) undef, defers := [] } w) : Calls P f args w R := by
 refine calls_of_wp_defers hf hb (wp_mono h ?_)
 intro e a w h
 cases e with
 | normal => exact h
 | exit id => exact h.elim
 | goto l => exact h.elim
 | ret => exact h
 | panic ch => exact h.elim
 | outgrown => exact h
theorem old_alloc {w : World} {o o2 : Obj} {b : Nat} (h : w.heap[b]? = some o) : (w.alloc o2).heap[b]? = some o := (Below.heap_alloc _ _ _ (Array.getElem?_eq_some_iff.1 h).1).trans h
theorem noRow_fresh (p : NoP) (nd : NodeD) (fv v : Value) : (noRow p nd fv).setIfInBounds 16 v = noRow p { nd with fresh := [] } v := rfl
theorem NodeIn.freshNil {w : World} {p : NoP} {nb : Nat} {nd : NodeD} {lv sv fv : Value} (h : NodeIn w p nb nd lv sv fv) : NodeIn (w.setCell ⟨nb, 16, none⟩ (.slice none 0 0)) p nb { nd with fresh := [] } lv sv (.slice none 0 0) := by
 refine h.ownStep ((Keeps.refl _ _).setCell (.inl (by simp)) _) ?_ rfl
 have := heap_setCell_same w nb 16 _ _ (.slice none 0 0) h.blk
 rw [noRow_fresh] at this
 exact this
theorem numKeyed : Go.Maps.Keyed Tryz.prog 3 := Go.Maps.int_keyed Tryz.underlying3
theorem wpList_next_none {ops : Array Oper} {rest : List Oper} {o : Oper} {a : Act} {Q : Exit → Act → World → Prop} (w : World) (hg : o.guard = none) (it : Operand) (hop : o.op = Op.next it false) (b r n : Nat) (D : DataW Value) (left : Lit → Bool)
 (hit : a.eval it = .pointer (some ⟨r, 0, none⟩)) (h : w.ranges Tryz.prog 3 heldR b r n D left 0) (hDone : wpList Tryz.prog ops Q rest (a.put o.dst (.tuple #[.bool false])) w) : wpList Tryz.prog ops Q (o :: rest) a w :=
 wpList_next_ranges w hg it hop 3 numKeyed heldR (fun x : Int => .int .i64 x) (fun v : Value => v) (fun key kl hkey => by
  obtain ⟨x, hx, _⟩ := Go.Maps.keyOf_int_inv Tryz.underlying3 hkey
  exact ⟨x, hx⟩) (fun v y _ => ⟨v, rfl⟩) b r n D left 0 hit h (fun _ _ => hDone) (fun x c kl y w' cnt' _ _ _ _ _ hc => absurd hc (by omega))
theorem writeN_cases {nd nd' : NodeD} (h : writeN nd = some nd') : (changesD nd.core).2.2.2 = false ∧ saveN { nd with core := (changesD nd.core).1, fresh := [] } (changesD nd.core).2.1 (changesD nd.core).2.2.1 = some nd' ∧ nd'.notes = [] ∧ nd'.core.commit ≤ nd'.ap ∧ nd'.ap - nd'.core.base < nd'.conf.snap := by
 unfold writeN at h
 split at h
 ·cases h
 ·rename_i h1
  split at h
  ·cases h
  ·rename_i n hs
   split at h
   ·rename_i hc
    cases h
    exact ⟨by simpa using h1, hs, by simpa using hc.1, hc.2⟩
   ·cases h
theorem saveN_cases {nd nd' : NodeD} {hard : Bool} {frm : Int} (h : saveN nd hard frm = some nd') : frm = 0 ∧ ((hard = false ∧ nd' = nd) ∨ (hard = true ∧ (inW nd.core.term 1099511627776 = true ∧ inW nd.core.vote 7 = true ∧ diskOkB nd.disk = true ∧ nd.wn ≤ 99999999) ∧ ∃ d1 d2, dappend nd.disk (walN nd.wn) (frameD (recordP 1 [nd.core.term, nd.core.vote])) = (d1, 0) ∧ diskOkB d1 = true ∧ dsync d1 (walN nd.wn) = (d2, 0) ∧ nd' = { nd with disk := d2 })) := by
 unfold saveN at h
 split at h
 ·cases h
 ·rename_i h0
  refine ⟨by simpa using h0, ?_⟩
  split at h
  ·rename_i h1
   cases h
   exact .inl ⟨h1, rfl⟩
  ·rename_i h1
   split at h
   ·cases h
   ·rename_i h2
    split at h
    ·cases h
    ·rename_i h3
     split at h
     ·cases h
     ·rename_i h4
      split at h
      ·cases h
      ·rename_i h5
       cases h
       simp only [Bool.not_eq_false, Bool.and_eq_true, decide_eq_true_eq] at h2
       simp only [ne_eq, Decidable.not_not] at h3 h5
       refine .inr ⟨by simpa using h1, ⟨h2.1, h2.2.1, h2.2.2.1, h2.2.2.2⟩, _, _, Prod.ext rfl h3, by simpa using h4, Prod.ext rfl h5, rfl⟩
theorem noWrite_any (w : World) (p : NoP) (nb : Nat) (nd nd' : NodeD) (lv sv fv : Value) (h : NodeIn w p nb nd lv sv fv) (hw : writeN nd = some nd') (a : Option Addr) (n q : Nat) :
 Calls Tryz.prog 16 #[.pointer (some ⟨nb, 0, none⟩), .slice a n q] w fun e w' => e = .returned (.slice a n q) ∧ NoStep w p lv nb nd' w' := by
 have x13 : w.cell? ⟨nb, 13, none⟩ = some (.pointer (some ⟨p.cb, 0, none⟩)) := cell_of_block h.blk 13
 have x16 : w.cell? ⟨nb, 16, none⟩ = some fv := cell_of_block h.blk 16
 have fz : ∀ i, w.frozen? ⟨nb, i, none⟩ = false := fun i => frozen_of_row w nb i _ _ h.blk
 have hlt : nb < w.heap.size := (Array.getElem?_eq_some_iff.1 h.blk).1
 have hne : nb ≠ w.heap.size := by omega
 have hne1 : nb ≠ w.heap.size + 1 := by omega
 have hmf : ∀ (fn : Fn) (first cap : Array Value) (w : World), (Instr.makeFunc fn first cap).run Tryz.prog w = .ok (.func fn first cap) w := fun _ _ _ _ => rfl
 have H := hid h
 have HW := hid hw
 clear h hw
 refine calls_of_wp_n Tryz.func16 rfl ?_
 simp only [Tryz.ntmps16, List.size_toArray, List.length_cons, List.length_nil, Nat.reduceAdd, Nat.reduceSub, Array.replicate_succ, Array.replicate_zero, List.push_toArray, List.append_toArray, List.nil_append, List.cons_append]
 go_wp2_with fail
 have H0 : Hid (NodeIn (((w.setCell ⟨nb, 16, none⟩ (.slice none 0 0)).alloc (.cells #[.pointer (some ⟨nb, 0, none⟩)] 23)).alloc (.cells #[.slice none 0 0] 31)) p nb { nd with fresh := [] } lv sv (.slice none 0 0)) := H.out.freshNil.k (by exact Keeps.K)
 have KA : Hid (Keeps [nb] w (((w.setCell ⟨nb, 16, none⟩ (.slice none 0 0)).alloc (.cells #[.pointer (some ⟨nb, 0, none⟩)] 23)).alloc (.cells #[.slice none 0 0] 31))) := ((((Keeps.refl _ _).setCell (.inl (by simp)) _).alloc _).alloc _)
 have hb0 := heap_alloc_new (w.setCell ⟨nb, 16, none⟩ (.slice none 0 0)) (.cells #[.pointer (some ⟨nb, 0, none⟩)] 23)
 have hb1 := heap_alloc_new ((w.setCell ⟨nb, 16, none⟩ (.slice none 0 0)).alloc (.cells #[.pointer (some ⟨nb, 0, none⟩)] 23)) (.cells #[.slice none 0 0] 31)
 have hb0' := old_alloc (o2 := .cells #[.slice none 0 0] 31) hb0
 obtain ⟨wA, hwA⟩ : ∃ x, x = (((w.setCell ⟨nb, 16, none⟩ (.slice none 0 0)).alloc (.cells #[.pointer (some ⟨nb, 0, none⟩)] 23)).alloc (.cells #[.slice none 0 0] 31)) := ⟨_, rfl⟩
 rw [← hwA] at H0 KA hb0' hb1 ⊢
 simp only [World.size_alloc, World.size_setCell] at hb0' hb1
 have hsz : wA.heap.size = w.heap.size + 2 := by rw [hwA]; simp
 have HSZ := hid hsz
 have HB0 := hid hb0'
 have HB1 := hid hb1
 have HC := hid (coChanges_any wA p.B _ p.cb nd.core lv sv H0.out.core)
 clear hb0 hb0' hb1 hwA hsz x13 x16 fz
 refine HC.out.mono ?_
 rintro e w1 ⟨rfl, hc1, hk1⟩
 have H1 := hid (NoStep.core H0.out hc1 (hk1.mono fun x _ hm => by simp at hm; simp [hm]) (fun _ h => .inl h) H0.out.conf H0.out.same)
 obtain ⟨e1, e2, e3, e4, e5⟩ := writeN_cases HW.out
 obtain ⟨e6, e7⟩ := saveN_cases e2
 rw [e6, e1]
 have HE := hid (And.intro e3 (And.intro e4 e5))
 have HS := hid e7
 have HW0 : Hid (w.heap.size < wA.heap.size) := by have := HSZ.out; show _ < _; omega
 have hB0 := H1.out.blk H0.out (H.out.new0 (Nat.le_refl _)) HB0.out
 have hB1 := H1.out.blk H0.out (H.out.new0 (by omega)) HB1.out
 have x2 : w1.cell? ⟨w.heap.size, 0, none⟩ = some (.pointer (some ⟨nb, 0, none⟩)) := cell_of_block hB0 0
 obtain ⟨hd, hhd⟩ : ∃ b, (changesD nd.core).2.1 = b := ⟨_, rfl⟩
 rw [hhd] at HS ⊢
 clear e1 e2 e3 e4 e5 e6 e7 hc1 hk1 HC hhd hB0 hB1 hne hne1
 go_upto_block 0 with fail
 have HA2 := heap_alloc_new w1 (.cells #[.bool hd, .int .i64 0, .bool false] 105)
 have H2 := hid (H1.out.k (w2 := w1.alloc (.cells #[.bool hd, .int .i64 0, .bool false] 105)) (by exact Keeps.K))
 obtain ⟨wB, hwB⟩ : ∃ x, x = w1.alloc (.cells #[.bool hd, .int .i64 0, .bool false] 105) := ⟨_, rfl⟩
 rw [← hwB] at HA2 H2 ⊢
 have x2 : wB.cell? ⟨w.heap.size, 0, none⟩ = some (.pointer (some ⟨nb, 0, none⟩)) := cell_of_block (H2.out.blk H0.out (H.out.new0 (Nat.le_refl _)) HB0.out) 0
 have a0 : wB.cell? ⟨w1.heap.size, 0, none⟩ = some (.bool hd) := cell_of_block HA2 0
 have a1 : wB.cell? ⟨w1.heap.size, 1, none⟩ = some (.int .i64 0) := cell_of_block HA2 1
 have a2 : wB.cell? ⟨w1.heap.size, 2, none⟩ = some (.bool false) := cell_of_block HA2 2
 clear HA2 hwB H1
 go_cut [] from 6 to 74 (fun wx => Hid (NoStep wA p lv nb nd' wx))
 case first =>
  rcases HS.out with ⟨h1, h2⟩ | ⟨h1, h2, d1, d2, h3, h4, h5, h6⟩
  ·subst h1
   go_wp2_with fail
   go_meet
   case rel =>
    show NoStep _ _ _ _ _ _
    rw [h2]
    exact H2.out
  ·subst h1
   obtain ⟨col1, lv1, sv1, fv1, hn1, hx1⟩ := id H2.out
   have HX1 := hid hx1
   have x12 : wB.cell? ⟨nb, 12, none⟩ = some (.pointer (some ⟨p.wb, 0, none⟩)) := cell_of_block hn1.blk 12
   have x13 : wB.cell? ⟨nb, 13, none⟩ = some (.pointer (some ⟨p.cb, 0, none⟩)) := cell_of_block hn1.blk 13
   have HCT : Hid (∀ wx, Keeps [] wB wx → Calls Tryz.prog 23 #[.pointer (some ⟨p.cb, 0, none⟩)] wx fun e w' => e = .returned (.int .i64 (changesD nd.core).1.term) ∧ w' = wx) := fun wx k => by
    have h1 := cTerm_any wx p.B p.cb _ lv1 sv1 (hn1.core.k k).1
    exact h1
   have HCV : Hid (∀ wx, Keeps [] wB wx → Calls Tryz.prog 47 #[.pointer (some ⟨p.cb, 0, none⟩)] wx fun e w' => e = .returned (.int .i64 (changesD nd.core).1.vote) ∧ w' = wx) := fun wx k => by
    have h1 := cVote_any wx p.B p.cb _ lv1 sv1 (hn1.core.k k).1
    exact h1
   have HSV : Hid (∀ wx, Keeps [] wB wx → Calls Tryz.prog 46 #[.pointer (some ⟨p.wb, 0, none⟩), .bool true, .int .i64 (changesD nd.core).1.term, .int .i64 (changesD nd.core).1.vote, .int .i64 0, .slice none 0 0] wx fun e w' => e = .returned (.int .i64 0) ∧ NoStep wB { p with col := col1 } lv1 nb nd' w') := fun wx k => by
    have hnx := hn1.k k
    refine (wlSave_hard wx _ p.db nd.wn 1000000 p.wb nd.disk _ _ nd.wbase nd.wlast none 0 hnx.disk (by decide) h2.2.2.2 hnx.wal (fun e => by have := hnx.cw; rw [this] at e; cases e) (of_decide_eq_true h2.1) (of_decide_eq_true h2.2.1) d1 d2 (diskOk_of h2.2.2.1) (diskOk_of h4) h3 h5).mono ?_
    rintro e w' ⟨he, F', hd', hF', hk', hw'⟩
    refine ⟨he, ?_⟩
    have hst := NoStep.wal (n' := nd.wn) (b' := nd.wbase) (l' := nd.wlast) hnx hd' hF' (hk'.mono fun x _ hx => .inl hx) hw'
    rw [h6]
    exact NoStep.pre k hst
   obtain ⟨tm, htm⟩ : ∃ t, (changesD nd.core).1.term = t := ⟨_, rfl⟩
   obtain ⟨vt, hvt⟩ : ∃ t, (changesD nd.core).1.vote = t := ⟨_, rfl⟩
   rw [htm] at HCT HSV
   rw [hvt] at HCV HSV
   clear h2 h3 h4 h5 h6 hx1 hn1 htm hvt
   go_wp2_with fail
   refine Plan.wp_region_plan (fun wx => wx.cell? ⟨w.heap.size, 0, none⟩ = some (.pointer (some ⟨nb, 0, none⟩)) ∧ wx.cell? ⟨w1.heap.size, 0, none⟩ = some (.bool true) ∧ wx.cell? ⟨w1.heap.size, 1, none⟩ = some (.int .i64 0) ∧ wx.cell? ⟨nb, 12, none⟩ = some (.pointer (some ⟨p.wb, 0, none⟩)) ∧ wx.cell? ⟨nb, 13, none⟩ = some (.pointer (some ⟨p.cb, 0, none⟩))) 19 [(true, 0), (true, 1), (true, 2), (true, 3), (true, 4), (true, 5), (true, 6), (true, 7), (true, 8), (true, 9), (true, 11), (true, 12), (true, 13), (true, 14), (true, 16), (true, 17), (true, 18), (false, 10), (false, 15)] (by kernel_rfl) (by as_aux_lemma => kernel_rfl) (by kernel_rfl) (fun _ _ _ _ _ h => h) ?_ (fun hS => ?_)
   (·go_simp)
   simp only [Plan.pick, List.append_eq, List.cons_append, List.nil_append, Plan.g1, Plan.g2, Option.getD_some, List.drop_succ_cons, List.drop_zero]
   iterate 17 (first | refine Plan.tA ?_ | refine Plan.tY ?_ | refine Plan.pN ?_ | refine Plan.pU ?_ | fail)
   refine Plan.step ?_
   go_wp2_with fail
   refine (HCT.out _ (by exact Keeps.K)).mono ?_
   rintro e w3 ⟨rfl, hw⟩
   rw [hw]
   clear hw
   go_wp2_with fail
   refine ⟨⟨by go_simp, by go_simp, by go_simp, by go_simp, by go_simp⟩, ?_⟩
   refine Plan.step ?_
   go_wp2_with fail
   refine (HCV.out _ (by exact Keeps.K)).mono ?_
   rintro e w3 ⟨rfl, hw⟩
   rw [hw]
   clear hw
   go_wp2_with fail
   refine ⟨⟨by go_simp, by go_simp, by go_simp, by go_simp, by go_simp⟩, ?_⟩
   refine Plan.fin ?_
   clear hS
   go_wp2_with fail
   refine (HSV.out _ (by exact Keeps.K)).mono ?_
   rintro e w4 ⟨rfl, hs4⟩
   have HS4 := hid hs4
   clear hs4 x2 a0 a1 a2 x12 x13
   go_wp2_with fail
   refine (noFails_ok _).mono ?_
   rintro e w5 ⟨rfl, hw⟩
   rw [hw]
   clear hw
   go_wp2_with fail
   go_meet
   case rel =>
    exact NoStep.comp HX1.out.1 HX1.out.2.1 HX1.out.2.2 HS4.out
 case rest =>
  obtain ⟨col2, lv2, sv2, fv2, hn2, hx2⟩ := id hcut.out
  have HX2 := hid hx2
  have HN2 := hid hn2
  have y2 : wc.cell? ⟨w.heap.size, 0, none⟩ = some (.pointer (some ⟨nb, 0, none⟩)) := cell_of_block (NoStep.blk hcut.out H0.out (H.out.new0 (Nat.le_refl _)) HB0.out) 0
  have hx4 := NoStep.blk hcut.out H0.out (H.out.new0 (by omega)) HB1.out
  have HX4 := hid hx4
  have x13 : wc.cell? ⟨nb, 13, none⟩ = some (.pointer (some ⟨p.cb, 0, none⟩)) := cell_of_block hn2.blk 13
  have x14 : wc.cell? ⟨nb, 14, none⟩ = some (.pointer (some ⟨p.mb, 0, none⟩)) := cell_of_block hn2.blk 14
  have x15 : wc.cell? ⟨nb, 15, none⟩ = some (.map (some p.tb)) := cell_of_block hn2.blk 15
  have x7 : wc.cell? ⟨nb, 7, none⟩ = some (.int .i64 nd'.conf.snap) := cell_of_block hn2.blk 7
  have HCB : Hid (∀ wx, Keeps [] wc wx → Calls Tryz.prog 48 #[.pointer (some ⟨p.cb, 0, none⟩)] wx fun e w' => e = .returned (.tuple #[.int .i64 nd'.core.base, .int .i64 nd'.core.baseTerm]) ∧ ∃ k, w' = wx.drewN k) := fun wx k => by
   have h1 := cBase_any wx p.B p.cb _ lv2 sv2 (hn2.core.k k).1
   exact h1
  have HCC : Hid (∀ wx, Keeps [] wc wx → Calls Tryz.prog 49 #[.pointer (some ⟨p.cb, 0, none⟩)] wx fun e w' => e = .returned (.int .i64 nd'.core.commit) ∧ w' = wx) := fun wx k => by
   have h1 := cCommit_any wx p.B p.cb _ lv2 sv2 (hn2.core.k k).1
   exact h1
  have HCA : Hid (∀ wx, Keeps [] wc wx → Calls Tryz.prog 20 #[.pointer (some ⟨p.mb, 0, none⟩)] wx fun e w' => e = .returned (.int .i64 nd'.ap) ∧ w' = wx) := fun wx k => maApplied_any wx p.mb p.sb _ _ (hn2.k k).mach
  have hnt := hn2.notes
  have HNT : Hid (∀ wx, Keeps [] wc wx → wx.ownsMap Tryz.prog 3 heldR p.tb 0 (imV [])) := fun wx k => by
   have h1 := hnt.keep k (by simp)
   unfold NotesAt at h1
   rw [HE.out.1] at h1
   exact h1
  have hlc : nb < wc.heap.size := (Array.getElem?_eq_some_iff.1 hn2.blk).1
  have hl4 : w.heap.size + 1 < wc.heap.size := (Array.getElem?_eq_some_iff.1 hx4).1
  have hbd : -4611686018427387904 ≤ nd'.ap - nd'.core.base ∧ nd'.ap - nd'.core.base ≤ 4611686018427387904 := by
   have h1 := hn2.apB
   have h2 := hn2.core.ok.base
   have h3 := hn2.core.ok.commit
   have h4 := hn2.core.ok.last
   omega
  have hwr : IntKind.i64.wrap (nd'.ap - nd'.core.base) = nd'.ap - nd'.core.base := by rw [IntKind.wrap_i64]; omega
  have q2 : (nd'.conf.snap ≤ nd'.ap - nd'.core.base) = False := eq_false (by have := HE.out.2.2; omega)
  have HQ2 := hid (And.intro hwr q2)
  clear hn2 hx2 hx4 hnt hcut x2 a0 a1 a2 hbd hwr q2
  go_wp2_with fail
  refine (HCB.out _ (Keeps.refl _ _)).mono ?_
  rintro e w3 ⟨rfl, k3, hw3⟩
  have K3 : Hid (Keeps [] wc w3) := by rw [hw3]; show Keeps _ _ _; exact Keeps.K
  rw [hw3]
  clear hw3
  go_wp2_with (at_range; refine wpList_range_own _ rfl _ _ rfl _ _ numKeyed Tryz.underlying52 heldR p.tb 0 _ rfl (HNT.out _ (by exact Keeps.K)) ?_; intro w5 hrg5 hg5 hs5)
  have k5 : Keeps [] wc w5 := Keeps.trans (F := []) (G := []) (by exact Keeps.K) (Keeps.ofGrown hg5 (fun k hk => by cases hk)) (fun _ _ h => h)
  have K5 := hid k5
  have z2 := k5.cellSome y2 (by simp)
  have z7 := k5.cellSome x7 (by simp)
  have z13 := k5.cellSome x13 (by simp)
  have z14 := k5.cellSome x14 (by simp)
  have z4 := (k5.block _ (Array.getElem?_eq_some_iff.1 HX4.out).1 (by simp)).trans HX4.out
  have HZ4 := hid z4
  have hcnt : Maps.size (imV []) = 0 := rfl
  rw [hcnt] at hrg5
  have HR5 := hid hrg5
  clear hrg5 hg5 hs5 hcnt k5 z4 y2 x7 x13 x14 x15
  go_frame
  refine wp_loop_rounds 1 ?_
  rw [rounds_succ]
  go_wp2_with (at_next; refine wpList_next_none _ rfl _ rfl p.tb _ 0 _ _ rfl HR5.out ?_)
  clear HR5
  have q1 : (nd'.ap < nd'.core.commit) = False := eq_false (by have := HE.out.2.1; omega)
  refine wp_loop_rounds 1 ?_
  rw [rounds_succ]
  go_wp2_with fail
  refine Plan.wp_region_plan (fun wx => wx.cell? ⟨w.heap.size, 0, none⟩ = some (.pointer (some ⟨nb, 0, none⟩)) ∧ wx.cell? ⟨nb, 13, none⟩ = some (.pointer (some ⟨p.cb, 0, none⟩)) ∧ wx.cell? ⟨nb, 14, none⟩ = some (.pointer (some ⟨p.mb, 0, none⟩))) 9 [(true, 0), (true, 1), (true, 2), (true, 3), (true, 5), (true, 6), (true, 7), (true, 8), (false, 4)] (by kernel_rfl) (by as_aux_lemma => kernel_rfl) (by kernel_rfl) (fun _ _ _ _ _ h => h) ?_ (fun hS => ?_)
  (·go_simp)
  simp only [Plan.pick, List.append_eq, List.cons_append, List.nil_append, Plan.g1, Plan.g2, Option.getD_some, List.drop_succ_cons, List.drop_zero]
  iterate 8 (first | refine Plan.tA ?_ | refine Plan.tY ?_ | refine Plan.pN ?_ | refine Plan.pU ?_ | fail)
  refine Plan.step ?_
  go_wp2_with fail
  refine (HCA.out _ (K5.out.trans (by exact Keeps.K) (fun _ _ h => h))).mono ?_
  rintro e w6 ⟨rfl, hw⟩
  rw [hw]
  clear hw
  go_wp2_with fail
  refine ⟨⟨by go_simp, by go_simp, by go_simp⟩, ?_⟩
  refine Plan.fin ?_
  clear hS
  go_wp2_with fail
  refine (HCC.out _ (K5.out.trans (by exact Keeps.K) (fun _ _ h => h))).mono ?_
  rintro e w7 ⟨rfl, hw⟩
  rw [hw]
  clear hw
  go_wp2_with fail
  have hwr := HQ2.out.1
  have q2 := HQ2.out.2
  refine Plan.wp_region_plan (fun wx => wx.cell? ⟨w.heap.size, 0, none⟩ = some (.pointer (some ⟨nb, 0, none⟩)) ∧ wx.cell? ⟨nb, 7, none⟩ = some (.int .i64 nd'.conf.snap) ∧ wx.cell? ⟨nb, 14, none⟩ = some (.pointer (some ⟨p.mb, 0, none⟩))) 12 [(true, 0), (true, 1), (true, 2), (true, 3), (true, 5), (true, 7), (true, 8), (true, 9), (true, 10), (true, 11), (false, 4), (true, 6)] (by kernel_rfl) (by as_aux_lemma => kernel_rfl) (by kernel_rfl) (fun _ _ _ _ _ h => h) ?_ (fun hS => ?_)
  (·go_simp)
  simp only [Plan.pick, List.append_eq, List.cons_append, List.nil_append, Plan.g1, Plan.g2, Option.getD_some, List.drop_succ_cons, List.drop_zero]
  iterate 10 (first | refine Plan.tA ?_ | refine Plan.tY ?_ | refine Plan.pN ?_ | refine Plan.pU ?_ | fail)
  refine Plan.step ?_
  go_wp2_with fail
  refine (HCA.out _ (K5.out.trans (by exact Keeps.K) (fun _ _ h => h))).mono ?_
  rintro e w6 ⟨rfl, hw⟩
  rw [hw]
  clear hw
  go_wp2_with fail
  refine ⟨⟨by go_simp, by go_simp, by go_simp⟩, ?_⟩
  iterate 1 (first | refine Plan.tA ?_ | refine Plan.tY ?_ | refine Plan.pN ?_ | refine Plan.pU ?_ | fail)
  refine Plan.fin ?_
  clear hS
  have z4 : w5.cell? ⟨w.heap.size + 1, 0, none⟩ = some (.slice none 0 0) := cell_of_block HZ4.out 0
  have f4 : w5.frozen? ⟨w.heap.size + 1, 0, none⟩ = false := frozen_of_row _ _ 0 _ _ HZ4.out
  have l4 : w.heap.size + 1 < w5.heap.size := (Array.getElem?_eq_some_iff.1 HZ4.out).1
  go_wp2_with fail
  have hblk := heap_setCell_same w5.drew.drew (w.heap.size + 1) 0 _ _ (.slice a n q) HZ4.out
  refine leaves_cons (f := 40) (args := #[.pointer (some ⟨w.heap.size, 0, none⟩), .pointer (some ⟨w.heap.size + 1, 0, none⟩)]) (by simp) (by simp [go_sem]) ?_
  refine (write1_idle _ _ _).mono ?_
  rintro e u' w'' ⟨rfl, rfl, rfl⟩
  show Leaves _ _ _ _ [] (settle _) _
  unfold settle
  refine ⟨_, results_write rfl rfl (cell_of_block hblk 0), rfl, ?_⟩
  have ks : Keeps [w.heap.size + 1] wc ((w5.setCell ⟨w.heap.size + 1, 0, none⟩ (.slice a n q)).drew.drew) := (K5.out.mono (fun _ _ h => by cases h)).trans (F := [w.heap.size + 1]) (G := [w.heap.size + 1]) (by exact Keeps.K) (fun _ _ h => h)
  have hc0 : col2 (w.heap.size + 1) = 0 := Classical.byContradiction fun e => by
   rcases HX2.out.2.2 _ e with h | h
   ·have := (H.out.lt _ h).2; omega
   ·have := HSZ.out; omega
  have hkw : KeepsP (p.wr lv) w wc := (KeepsP.of KA.out (fun x hx => by simp at hx; rw [hx]; exact Or.inl H.out.cn)).trans HX2.out.1 (fun _ _ h => h)
  have hle : w.heap.size ≤ wA.heap.size := by have := HSZ.out; omega
  exact ⟨col2, lv2, sv2, fv2, HN2.out.keep (KeepsP.of ks (F := fun b => b = w.heap.size + 1) (fun x hx => by simpa using hx)) (fun b hb => by rw [hb]; exact hc0), hkw.trans (KeepsP.of ks (F := fun b => b = w.heap.size + 1) (fun x hx => by simpa using hx)) (fun x hx h => by omega), fun b hb => (HX2.out.2.1 b hb).imp id (fun h => Nat.le_trans hle h), fun b hb => (HX2.out.2.2 b hb).imp id (fun h => Nat.le_trans hle h)⟩
def GetC (w : World) (da : Option Addr) (dc : Nat) (data : List UInt8) : Prop :=
 ∀ wx, Keeps [] w wx → Calls Tryz.prog 53 #[.slice da data.length dc] wx fun e w' => e = .returned (.tuple #[cmdV (getC data).1, .bool (getC data).2]) ∧ Keeps [] wx w'
def AskC (w : World) (p : NoP) (nd : NodeD) (lv sv : Value) (da : Option Addr) (dc : Nat) (data : List UInt8) : Prop :=
 nd.core.role ≠ 2 → ∀ wx, Keeps [] w wx → Calls Tryz.prog 54 #[.pointer (some ⟨p.cb, 0, none⟩), .slice da data.length dc] wx fun e w' =>
  ∃ a q lv' sv', e = .returned (.tuple #[.int .i64 0, .slice a 0 q, .int .i64 24]) ∧ CoreIn w' p.B (grow (fun b => p.col b = 5) wx w') p.cb nd.core lv' sv' ∧ Keeps (p.cb :: ownB lv) wx w' ∧ ∀ b ∈ ownB lv', b ∈ ownB lv ∨ wx.heap.size ≤ b
theorem noAsk_of (w : World) (p : NoP) (nb : Nat) (nd : NodeD) (lv sv fv : Value) (h : NodeIn w p nb nd lv sv fv) (m : MsgD) (r : NodeD × List MsgD) (hr : askN nd m = some r) (ev : Value) (hev : ∃ a n c, ev = .slice a n c) (da : Option Addr) (dc : Nat) (hgc : GetC w da dc m.data) (hac : AskC w p nd lv sv da dc m.data) :
 Calls Tryz.prog 17 #[.pointer (some ⟨nb, 0, none⟩), msgV m ev (.slice da m.data.length dc)] w (NoPost w p lv nb r) := by
 have x11 : w.cell? ⟨nb, 11, none⟩ = some (.int .i64 nd.id) := cell_of_block h.blk 11
 have x13 : w.cell? ⟨nb, 13, none⟩ = some (.pointer (some ⟨p.cb, 0, none⟩)) := cell_of_block h.blk 13
 have hlt : nb < w.heap.size := (Array.getElem?_eq_some_iff.1 h.blk).1
 have hne : nb ≠ w.heap.size := by omega
 have HG := hid hgc
 have H := hid h
 have HR := hid hr
 have HAC := hid hac
 unfold GetC at HG
 obtain ⟨ea, en, ec, rfl⟩ := hev
 obtain ⟨⟨ck, cs, cq, cf, cv, ⟨v1, v2, v3⟩⟩, hc⟩ : ∃ c, (getC m.data).1 = c := ⟨_, rfl⟩
 obtain ⟨ok, hok⟩ : ∃ b, (getC m.data).2 = b := ⟨_, rfl⟩
 have HOK := hid hok
 rw [hc, hok] at HG
 unfold msgV
 unfold cmdV at HG
 clear h hr hgc hac hc hok
 go_enter Tryz.func17, Tryz.ntmps17
 go_wp2_with fail
 refine (HG.out _ (by exact Keeps.K)).mono ?_
 rintro e w1 ⟨rfl, hk1⟩
 have K1 : Hid (Keeps [] w w1) := Keeps.trans (F := []) (G := []) (by exact Keeps.K) hk1 (fun _ _ h => h)
 have hb0 := heap_alloc_new w (.cells #[.int .i64 m.kind, .int .i64 m.frm, .int .i64 m.«to», .int .i64 m.term, .int .i64 m.a, .int .i64 m.b, .int .i64 m.c, .bool m.ok, .slice ea en ec, .slice da m.data.length dc] 30)
 have hb1 := (hk1.block w.heap.size (by simp) (by simp)).trans hb0
 have HB1 := hid hb1
 have b1 : w1.cell? ⟨w.heap.size, 1, none⟩ = some (.int .i64 m.frm) := cell_of_block hb1 1
 have b2 : w1.cell? ⟨w.heap.size, 2, none⟩ = some (.int .i64 m.«to») := cell_of_block hb1 2
 have y11 := K1.out.cellSome x11 (by simp)
 have hz1 : w.heap.size < w1.heap.size := (Array.getElem?_eq_some_iff.1 hb1).1
 have hz2 : w.heap.size ≠ w1.heap.size := by omega
 have hz4 : nb < w1.heap.size := by omega
 have hz3 : nb ≠ w1.heap.size := by omega
 clear hk1 hb0 hb1 x11
 have HNO : Hid (((getC m.data).2 = false ∨ m.frm < 101 ∨ 999 < m.frm ∨ m.«to» ≠ nd.id) → r = (nd, [])) := fun hx => by
  have h1 := HR.out
  unfold askN at h1
  rw [if_pos hx] at h1
  exact (Option.some.inj h1).symm
 rcases ok with _ | _
 ·go_wp2_with fail
  go_quiet (fail)
  go_wp2_with fail
  go_ret
  rw [HNO.out (.inl HOK.out)]
  exact NoPost.silent ((NoStep.refl H.out).k (by have := K1.out; exact Keeps.K))
 ·by_cases f1 : m.frm < 101
  ·go_wp2_with fail
   go_quiet (fail)
   go_wp2_with fail
   go_ret
   rw [HNO.out (.inr (.inl f1))]
   exact NoPost.silent ((NoStep.refl H.out).k (by have := K1.out; exact Keeps.K))
  ·by_cases f2 : 999 < m.frm
   ·have g1 : (m.frm < 101) = False := eq_false f1
    go_wp2_with fail
    go_quiet (fail)
    go_wp2_with fail
    go_ret
    rw [HNO.out (.inr (.inr (.inl f2)))]
    exact NoPost.silent ((NoStep.refl H.out).k (by have := K1.out; exact Keeps.K))
   ·have g1 : (m.frm < 101) = False := eq_false f1
    have g2 : (999 < m.frm) = False := eq_false f2
    rcases g3 : (m.«to» != nd.id) with _ | _
    ·have F3 := hid (show m.«to» = nd.id by simpa using g3)
     have HC : Hid (nd.core.role ≠ 2 ∧ r = (nd, [toldD nd m.frm m.c false nd.core.leader []])) := by
      have h1 := HR.out
      unfold askN at h1
      rw [if_neg (by rw [HOK.out]; have := F3.out; simp; omega)] at h1
      split at h1
      ·rename_i h2
       exact ⟨h2, (Option.some.inj h1).symm⟩
      ·cases h1
     clear f1 f2
     go_wp2_with fail
     go_quiet (fail)
     go_wp2_with fail
     have HA : Hid (∀ wx, Keeps [] w wx → Calls Tryz.prog 54 #[.pointer (some ⟨p.cb, 0, none⟩), .slice da m.data.length dc] wx fun e w' => ∃ a q, e = .returned (.tuple #[.int .i64 0, .slice a 0 q, .int .i64 24]) ∧ NoStep wx p lv nb nd w') := fun wx k => by
      have hnx := H.out.k k
      refine (HAC.out HC.out.1 wx k).mono ?_
      rintro e w' ⟨a, q, lv', sv', he, hc, hk, hv⟩
      exact ⟨a, q, he, NoStep.core hnx hc hk hv hnx.conf hnx.same⟩
     obtain ⟨wB, hwB⟩ : ∃ x, x = w1.alloc (.cells #[.int .i64 ck, .int .i64 cs, .int .i64 cq, .string cf, .int .i64 cv, .int .i64 v1, .int .i64 v2, .string v3] 63) := ⟨_, rfl⟩
     have K1B : Hid (Keeps [] w1 wB) := by rw [hwB]; exact (Keeps.refl _ _).alloc _
     have KB : Hid (Keeps [] w wB) := K1.out.trans K1B.out (fun _ _ h => h)
     rw [← hwB]
     clear hwB b1 b2 y11 g1 g2 g3 hz1 hz2 hz3 hz4
     have hb9 := KB.out.size
     have HBB := hid ((K1B.out.block w.heap.size (Array.getElem?_eq_some_iff.1 HB1.out).1 (by simp)).trans HB1.out)
     have b9 : wB.cell? ⟨w.heap.size, 9, none⟩ = some (.slice da m.data.length dc) := cell_of_block HBB.out 9
     have y13 := KB.out.cellSome x13 (by simp)
     refine Plan.wp_region_plan (fun wx => wx.cell? ⟨w.heap.size, 9, none⟩ = some (.slice da m.data.length dc) ∧ wx.cell? ⟨nb, 13, none⟩ = some (.pointer (some ⟨p.cb, 0, none⟩))) 14 [(true, 0), (true, 1), (true, 2), (true, 3), (true, 4), (true, 5), (false, 6), (true, 7), (true, 8), (true, 9), (true, 10), (true, 11), (true, 12), (true, 13)] (by kernel_rfl) (by as_aux_lemma => kernel_rfl) (by kernel_rfl) (fun _ _ _ _ _ h => h) ?_ (fun hS => ?_)
     (·go_simp)
     simp only [Plan.pick, List.append_eq, List.cons_append, List.nil_append, Plan.g1, Plan.g2, Option.getD_some, List.drop_succ_cons, List.drop_zero]
     iterate 6 (first | refine Plan.tA ?_ | refine Plan.tY ?_ | refine Plan.pN ?_ | refine Plan.pU ?_ | fail)
     refine Plan.step ?_
     go_wp2_with fail
     refine (HA.out _ (KB.out.trans (by exact Keeps.K) (fun _ _ h => h))).mono ?_
     rintro e w2 ⟨a2, q2, rfl, hs2⟩
     have kq : Keeps [] wB ((wB.drewN nq).drew) := by exact Keeps.K
     have HS2 : Hid (NoStep wB p lv nb nd w2) := NoStep.pre kq hs2
     have hHB := H.out.k KB.out
     have hb2 := NoStep.blk HS2.out hHB (H.out.new0 (Nat.le_refl _)) HBB.out
     obtain ⟨col2, lv2, sv2, fv2, hn2, hx2⟩ := id HS2.out
     have c1 : w2.cell? ⟨w.heap.size, 1, none⟩ = some (.int .i64 m.frm) := cell_of_block hb2 1
     have c6 : w2.cell? ⟨w.heap.size, 6, none⟩ = some (.int .i64 m.c) := cell_of_block hb2 6
     have c9 : w2.cell? ⟨w.heap.size, 9, none⟩ = some (.slice da m.data.length dc) := cell_of_block hb2 9
     have c13 : w2.cell? ⟨nb, 13, none⟩ = some (.pointer (some ⟨p.cb, 0, none⟩)) := cell_of_block hn2.blk 13
     have HCL : Hid (∀ wx, Keeps [] w2 wx → Calls Tryz.prog 22 #[.pointer (some ⟨p.cb, 0, none⟩)] wx fun e w' => e = .returned (.int .i64 nd.core.leader) ∧ w' = wx) := fun wx k => by
      have h1 := cLeader_any wx p.B p.cb _ lv2 sv2 (hn2.core.k k).1
      exact h1
     have HTD : Hid (∀ wx, Keeps [] w2 wx → Calls Tryz.prog 55 #[.pointer (some ⟨nb, 0, none⟩), .int .i64 m.frm, .int .i64 m.c, .bool false, .int .i64 nd.core.leader, .slice none 0 0] wx fun e w' => e = .returned (.agg #[.int .i64 7, .int .i64 nd.id, .int .i64 m.frm, .int .i64 nd.core.term, .int .i64 nd.core.leader, .int .i64 0, .int .i64 m.c, .bool false, .slice none 0 0, .slice none 0 0]) ∧ Keeps [] wx w') := fun wx k => by
      have h1 := noTold_any wx _ nb nd lv2 sv2 fv2 (hn2.k k) m.frm m.c nd.core.leader false none 0 0
      exact h1
     clear hn2 hx2 hb2 hHB hs2 kq
     go_wp2_with fail
     refine ⟨⟨by go_simp, by go_simp⟩, ?_⟩
     iterate 7 (first | refine Plan.tA ?_ | refine Plan.tY ?_ | refine Plan.pN ?_ | refine Plan.pU ?_ | fail)
     refine Plan.fin ?_
     clear hS b9 y13
     go_wp2_with fail
     refine Plan.wp_region_plan (fun wx => wx.cell? ⟨w.heap.size, 1, none⟩ = some (.int .i64 m.frm) ∧ wx.cell? ⟨w.heap.size, 6, none⟩ = some (.int .i64 m.c) ∧ wx.cell? ⟨nb, 13, none⟩ = some (.pointer (some ⟨p.cb, 0, none⟩))) 10 [(true, 0), (true, 1), (true, 2), (true, 3), (true, 4), (true, 5), (true, 6), (true, 7), (true, 8), (false, 9)] (by kernel_rfl) (by as_aux_lemma => kernel_rfl) (by kernel_rfl) (fun _ _ _ _ _ h => h) ?_ (fun hS => ?_)
     (·go_simp)
     simp only [Plan.pick, List.append_eq, List.cons_append, List.nil_append, Plan.g1, Plan.g2, Option.getD_some, List.drop_succ_cons, List.drop_zero]
     iterate 9 (first | refine Plan.tA ?_ | refine Plan.tY ?_ | refine Plan.pN ?_ | refine Plan.pU ?_ | fail)
     refine Plan.step ?_
     go_wp2_with fail
     refine (HCL.out _ (by exact Keeps.K)).mono ?_
     rintro e w3 ⟨rfl, hw⟩
     rw [hw]
     clear hw
     go_wp2_with fail
     refine ⟨⟨by go_simp, by go_simp, by go_simp⟩, ?_⟩
     refine Plan.fin ?_
     clear hS
     go_wp2_with fail
     refine (HTD.out _ (by exact Keeps.K)).mono ?_
     rintro e w4 ⟨rfl, hk4⟩
     have K4 : Hid (Keeps [] w2 w4) := Keeps.trans (F := []) (G := []) (by exact Keeps.K) hk4 (fun _ _ h => h)
     clear hk4
     go_wp2_with fail
     go_ret
     rw [HC.out.2]
     refine NoPost.fresh (NoStep.pre KB.out HS2.out) (msgs_one (m := toldD nd m.frm m.c false nd.core.leader []) K4.out (ListAt.nil _ _ _ _) (BytesAt.nil _ _ _ _))
    ·have F3 := hid (show m.«to» ≠ nd.id by simpa using g3)
     go_wp2_with fail
     go_quiet (fail)
     go_wp2_with fail
     go_ret
     rw [HNO.out (.inr (.inr (.inr F3.out)))]
     exact NoPost.silent ((NoStep.refl H.out).k (by have := K1.out; exact Keeps.K))
theorem NoStep.freshNil {w : World} {p : NoP} {nb : Nat} {nd : NodeD} {lv sv fv : Value} (h : NodeIn w p nb nd lv sv fv) : NoStep w p lv nb { nd with fresh := [] } (w.setCell ⟨nb, 16, none⟩ (.slice none 0 0)) :=
 ⟨p.col, lv, sv, _, h.freshNil, KeepsP.of ((Keeps.refl _ _).setCell (F := [nb]) (.inl (by simp)) _) (fun x hx => by simp at hx; rw [hx]; exact .inl h.cn), fun _ h => .inl h, fun _ h => .inl h⟩
theorem hearN_down {nd : NodeD} {m : MsgD} (h : nd.down = true) : hearN nd m = some ({ nd with fresh := [] }, []) := by
 unfold hearN
 rw [if_pos h]
theorem hearN_ask {nd : NodeD} {m : MsgD} {r : NodeD × List MsgD} (h : nd.down = false) (hk : m.kind = 6) (hr : hearN nd m = some r) : ∃ r1 n2, askN nd m = some r1 ∧ writeN r1.1 = some n2 ∧ r = (n2, r1.2) := by
 unfold hearN at hr
 rw [if_neg (by simp [h]), if_pos hk] at hr
 split at hr
 ·cases hr
 ·rename_i r1 hr1
  cases hw : writeN r1.1 with
  | none => rw [hw] at hr; cases hr
  | some n2 =>
    rw [hw] at hr
    simp only [Option.map_some, Option.some.injEq] at hr
    exact ⟨r1, n2, hr1, hw, hr.symm⟩
theorem hearN_core {nd : NodeD} {m : MsgD} {r : NodeD × List MsgD} (h : nd.down = false) (hk : m.kind ≠ 6) (hr : hearN nd m = some r) : m.kind ≠ 5 ∧ ∃ n2, writeN { nd with core := (hearD nd.core m).1 } = some n2 ∧ r = (n2, (hearD nd.core m).2) := by
 unfold hearN at hr
 rw [if_neg (by simp [h]), if_neg hk] at hr
 split at hr
 ·cases hr
 ·rename_i h5
  refine ⟨h5, ?_⟩
  cases hw : writeN { nd with core := (hearD nd.core m).1 } with
  | none => rw [hw] at hr; cases hr
  | some n2 =>
    rw [hw] at hr
    simp only [Option.map_some, Option.some.injEq] at hr
    exact ⟨n2, rfl, hr.symm⟩
theorem noHear_of (w : World) (p : NoP) (nb : Nat) (nd : NodeD) (lv sv fv : Value) (h : NodeIn w p nb nd lv sv fv) (m : MsgD) (r : NodeD × List MsgD) (hr : hearN nd m = some r) (ea da : Option Addr) (ec dc : Nat)
 (hA : m.kind = 6 → ∀ r1, askN nd m = some r1 → ∀ wx, Keeps [] w wx → Calls Tryz.prog 17 #[.pointer (some ⟨nb, 0, none⟩), msgV m (.slice ea m.entries.length ec) (.slice da m.data.length dc)] wx (NoPost wx p lv nb r1))
 (hH : m.kind ≠ 6 → ∀ wx, Keeps [] w wx → Calls Tryz.prog 21 #[.pointer (some ⟨p.cb, 0, none⟩), msgV m (.slice ea m.entries.length ec) (.slice da m.data.length dc)] wx (CoPost p.B (fun b => p.col b = 5) p.cb lv (hearD nd.core m) wx)) :
 Calls Tryz.prog 7 #[.pointer (some ⟨nb, 0, none⟩), msgV m (.slice ea m.entries.length ec) (.slice da m.data.length dc)] w (NoPost w p lv nb r) := by
 have x13 : w.cell? ⟨nb, 13, none⟩ = some (.pointer (some ⟨p.cb, 0, none⟩)) := cell_of_block h.blk 13
 have x16 : w.cell? ⟨nb, 16, none⟩ = some fv := cell_of_block h.blk 16
 have x17 : w.cell? ⟨nb, 17, none⟩ = some (.bool nd.down) := cell_of_block h.blk 17
 have fz : ∀ i, w.frozen? ⟨nb, i, none⟩ = false := fun i => frozen_of_row w nb i _ _ h.blk
 have hlt : nb < w.heap.size := (Array.getElem?_eq_some_iff.1 h.blk).1
 have hne : nb ≠ w.heap.size := by omega
 have H := hid h
 have HR := hid hr
 have HAA := hid hA
 have HHH := hid hH
 clear h hr hA hH
 cases hdn : nd.down with
 | true =>
   have HDN := hid hdn
   rw [hdn] at x17
   clear hdn
   unfold msgV
   go_enter Tryz.func7, Tryz.ntmps7
   go_wp2_with fail
   go_ret
   have h1 := HR.out
   rw [hearN_down HDN.out] at h1
   rw [← Option.some.inj h1]
   exact NoPost.silent ((NoStep.freshNil H.out).k (by exact Keeps.K))
 | false =>
   have HDN := hid hdn
   rw [hdn] at x17
   clear hdn
   cases g6 : (m.kind == 6) with
   | true =>
     have F6 := hid (show m.kind = 6 by simpa using g6)
     obtain ⟨r1, n2, e1, e2, e3⟩ := hearN_ask HDN.out F6.out HR.out
     have HA := hid (HAA.out F6.out r1 e1)
     have HE := hid (And.intro e2 e3)
     unfold msgV at HA ⊢
     clear e1 e2 e3
     go_enter Tryz.func7, Tryz.ntmps7
     go_wp2_with fail
     refine (HA.out _ (by exact Keeps.K)).mono ?_
     rintro e w1 hp1
     have hp1' := NoPost.pre (w := w) (by exact Keeps.K) hp1
     clear hp1 x13 x16 x17 fz
     obtain ⟨a1, q1, col1, lv1, sv1, fv1, rfl, hn1, hx1⟩ := hp1'
     have HX := hid hx1
     have HW := hid (noWrite_any w1 _ nb r1.1 n2 lv1 sv1 fv1 hn1 HE.out.1 a1 r1.2.length q1)
     clear hx1 hn1
     go_wp2_with fail
     refine HW.out.mono ?_
     rintro e w2 ⟨rfl, hs2⟩
     have HS2 := hid hs2
     clear hs2
     go_wp2_with fail
     go_ret
     rw [HE.out.2]
     exact NoPost.comp HX.out.1 HX.out.2.1 HX.out.2.2.1 HX.out.2.2.2 HS2.out
   | false =>
     have F6 := hid (show m.kind ≠ 6 by simpa using g6)
     obtain ⟨h5, n2, e2, e3⟩ := hearN_core HDN.out F6.out HR.out
     have g5 : (m.kind == 5) = false := by simpa using h5
     have HH := hid (HHH.out F6.out)
     have HE := hid (And.intro e2 e3)
     unfold msgV at HH ⊢
     clear e2 e3 h5
     go_enter Tryz.func7, Tryz.ntmps7
     go_wp2_with fail
     have hbx := heap_alloc_new w (.cells #[.int .i64 m.kind, .int .i64 m.frm, .int .i64 m.«to», .int .i64 m.term, .int .i64 m.a, .int .i64 m.b, .int .i64 m.c, .bool m.ok, .slice ea m.entries.length ec, .slice da m.data.length dc] 30)
     have KA : Hid (Keeps [] w (w.alloc (.cells #[.int .i64 m.kind, .int .i64 m.frm, .int .i64 m.«to», .int .i64 m.term, .int .i64 m.a, .int .i64 m.b, .int .i64 m.c, .bool m.ok, .slice ea m.entries.length ec, .slice da m.data.length dc] 30))) := (Keeps.refl _ _).alloc _
     obtain ⟨wA, hwA⟩ : ∃ x, x = w.alloc (.cells #[.int .i64 m.kind, .int .i64 m.frm, .int .i64 m.«to», .int .i64 m.term, .int .i64 m.a, .int .i64 m.b, .int .i64 m.c, .bool m.ok, .slice ea m.entries.length ec, .slice da m.data.length dc] 30) := ⟨_, rfl⟩
     rw [← hwA] at hbx KA ⊢
     have y13 := KA.out.cellSome x13 (by simp)
     have hcs : ∀ b ∈ p.cb :: ownB lv, b < w.heap.size := fun b hb => (H.out.lt b (by rw [H.out.core.mem b hb]; decide)).2
     have HBX := hid hbx
     have HCS := hid hcs
     have b0 := cell_of_block hbx 0
     have b1 := cell_of_block hbx 1
     have b2 := cell_of_block hbx 2
     have b3 := cell_of_block hbx 3
     have b4 := cell_of_block hbx 4
     have b5 := cell_of_block hbx 5
     have b6 := cell_of_block hbx 6
     have b7 := cell_of_block hbx 7
     have b8 := cell_of_block hbx 8
     have b9 := cell_of_block hbx 9
     simp only [List.getElem?_toArray, List.getElem?_cons_zero, List.getElem?_cons_succ] at b0 b1 b2 b3 b4 b5 b6 b7 b8 b9
     clear hwA hbx hcs x13 x16 x17 fz
     refine Plan.wp_region_plan (fun wx => (wx.cell? ⟨w.heap.size, 0, none⟩ = some (.int .i64 m.kind) ∧ wx.cell? ⟨w.heap.size, 1, none⟩ = some (.int .i64 m.frm) ∧ wx.cell? ⟨w.heap.size, 2, none⟩ = some (.int .i64 m.to) ∧ wx.cell? ⟨w.heap.size, 3, none⟩ = some (.int .i64 m.term) ∧ wx.cell? ⟨w.heap.size, 4, none⟩ = some (.int .i64 m.a) ∧ wx.cell? ⟨w.heap.size, 5, none⟩ = some (.int .i64 m.b) ∧ wx.cell? ⟨w.heap.size, 6, none⟩ = some (.int .i64 m.c) ∧ wx.cell? ⟨w.heap.size, 7, none⟩ = some (.bool m.ok) ∧ wx.cell? ⟨w.heap.size, 8, none⟩ = some (.slice ea m.entries.length ec) ∧ wx.cell? ⟨w.heap.size, 9, none⟩ = some (.slice da m.data.length dc)) ∧ wx.cell? ⟨nb, 13, none⟩ = some (.pointer (some ⟨p.cb, 0, none⟩))) 7 [(true, 0), (true, 1), (true, 2), (true, 3), (true, 4), (true, 5), (false, 6)] (by kernel_rfl) (by as_aux_lemma => kernel_rfl) (by kernel_rfl) (fun _ _ _ _ _ h => h) ?_ (fun hS => ?_)
     (·exact ⟨⟨by go_simp, by go_simp, by go_simp, by go_simp, by go_simp, by go_simp, by go_simp, by go_simp, by go_simp, by go_simp⟩, by go_simp⟩)
     simp only [Plan.pick, List.append_eq, List.cons_append, List.nil_append, Plan.g1, Plan.g2, Option.getD_some, List.drop_succ_cons, List.drop_zero]
     iterate 6 (first | refine Plan.tA ?_ | refine Plan.tY ?_ | refine Plan.pN ?_ | refine Plan.pU ?_ | fail)
     refine Plan.step ?_
     go_wp2_with fail
     refine (HH.out _ (KA.out.trans (by exact Keeps.K) (fun _ _ h => h))).mono ?_
     intro e w1 hp1
     have hwho := hearD_who nd.core m
     have hkx : Keeps (p.cb :: ownB lv) wA w1 := by
      obtain ⟨_, _, _, _, -, -, -, hk, -⟩ := hp1
      exact Keeps.trans (F := p.cb :: ownB lv) (G := p.cb :: ownB lv) (by exact Keeps.K) hk (fun _ _ h => h)
     have hp1' := NoPost.pre (w := w) (KA.out.trans (by exact Keeps.K) (fun _ _ h => h)) (NoPost.core (H.out.k (KA.out.trans (by exact Keeps.K) (fun _ _ h => h))) hp1 (hwho.1.trans H.out.conf) (hwho.2.trans H.out.same))
     clear hp1 hwho
     obtain ⟨a1, q1, col1, lv1, sv1, fv1, rfl, hn1, hx1⟩ := hp1'
     have HX := hid hx1
     have HW := hid (noWrite_any w1 _ nb { nd with core := (hearD nd.core m).1 } n2 lv1 sv1 fv1 hn1 HE.out.1 a1 (hearD nd.core m).2.length q1)
     have hni : w.heap.size ∉ p.cb :: ownB lv := fun hm => Nat.lt_irrefl _ (HCS.out _ hm)
     have d13 : w1.cell? ⟨nb, 13, none⟩ = some (.pointer (some ⟨p.cb, 0, none⟩)) := cell_of_block hn1.blk 13
     have HKX := hid (And.intro hkx hni)
     clear hx1 hn1 hni hkx
     go_wp2_with fail
     refine ⟨⟨⟨HKX.out.1.cellSome b0 HKX.out.2, HKX.out.1.cellSome b1 HKX.out.2, HKX.out.1.cellSome b2 HKX.out.2, HKX.out.1.cellSome b3 HKX.out.2, HKX.out.1.cellSome b4 HKX.out.2, HKX.out.1.cellSome b5 HKX.out.2, HKX.out.1.cellSome b6 HKX.out.2, HKX.out.1.cellSome b7 HKX.out.2, HKX.out.1.cellSome b8 HKX.out.2, HKX.out.1.cellSome b9 HKX.out.2⟩, d13⟩, ?_⟩
     refine Plan.fin ?_
     clear hS
     clear b0 b1 b2 b3 b4 b5 b6 b7 b8 b9 d13 y13
     go_wp2_with fail
     refine HW.out.mono ?_
     rintro e w2 ⟨rfl, hs2⟩
     have HS2 := hid hs2
     clear hs2
     go_wp2_with fail
     go_ret
     rw [HE.out.2]
     exact NoPost.comp HX.out.1 HX.out.2.1 HX.out.2.2.1 HX.out.2.2.2 HS2.out
theorem cmCheck_1 (w : World) : Calls Tryz.prog 123 #[cmdV ⟨1, 0, 0, ⟨#[]⟩, 0, ⟨0, 0, ⟨#[]⟩⟩⟩] w fun e w' => e = .returned (.bool true) ∧ Keeps [] w w' := by
 unfold cmdV
 dsimp only
 go_enter Tryz.func123, Tryz.ntmps123
 go_wp2_with fail
 all_goals
  go_ret
  exact ⟨rfl, by exact Keeps.K⟩
theorem cmCheck_n (w : World) : Calls Tryz.prog 123 #[cmdV ⟨-1, 1, -2, ⟨#[]⟩, 0, ⟨0, 0, ⟨#[]⟩⟩⟩] w fun e w' => e = .returned (.bool false) ∧ Keeps [] w w' := by
 unfold cmdV
 dsimp only
 go_enter Tryz.func123, Tryz.ntmps123
 go_wp2_with fail
 all_goals
  go_ret
  exact ⟨rfl, by exact Keeps.K⟩
theorem cmGet_1 (v0 : Value) (w : World) (hr : Reads w 1 v0 1 (u8s [2])) :
 Calls Tryz.prog 53 #[v0] w fun e w' => e = .returned (.tuple #[cmdV (getC [2]).1, .bool (getC [2]).2]) ∧ Keeps [] w w' := by
 have HR := hid hr
 have HG : Hid (getC [2] = (⟨1, 0, 0, ⟨#[]⟩, 0, ⟨0, 0, ⟨#[]⟩⟩⟩, true)) := by
  show _ = _
  kernel_rfl
 rw [HG.out]
 clear hr HG
 go_enter Tryz.func53, Tryz.ntmps53
 go_wp2_with fail
 refine (wNew_any v0 [2] _ (Reads.k0 HR.out (by exact Keeps.K)) (by decide)).mono ?_
 rintro e w1 ⟨n, a, q, rfl, hn, hrd, hk, hown⟩
 have K1 : Hid (Keeps [] w w1) := Keeps.trans (G := []) (by exact Keeps.K) hk (fun _ _ h => h)
 have HRD := hid hrd
 have HOWN := hid hown
 have HRES : Hid (w1.heap[w.heap.size]? = some (.cells #[.int .i64 0, .int .i64 0, .int .i64 0, .string ⟨#[]⟩, .int .i64 0, .int .i64 0, .int .i64 0, .string ⟨#[]⟩] 63 (0, 0))) := (hk.block _ (by simp) (by simp)).trans (heap_alloc_new _ _)
 have hn' : w.heap.size + 1 ≤ n := by simpa using hn
 clear hk hrd hown hn
 go_wp2_with fail
 have HI := rdInt_any n a q [2] 0 false _ (HRD.out.k (by exact Keeps.K))
 rw [show rdD [2] 0 false = (1, 1, false) by kernel_rfl] at HI
 refine HI.mono ?_
 clear HI
 rintro e w2 ⟨rfl, hrd, hk⟩
 dsimp only at hrd ⊢
 have hn2 : n < w2.heap.size := hrd.lt
 have HRES2 : Hid (w2.heap[w.heap.size]? = some (.cells #[.int .i64 0, .int .i64 0, .int .i64 0, .string ⟨#[]⟩, .int .i64 0, .int .i64 0, .int .i64 0, .string ⟨#[]⟩] 63 (0, 0))) := (hk.block _ (Array.getElem?_eq_some_iff.1 HRES.out).1 (by simp; omega)).trans HRES.out
 have K2 : Hid (Keeps [] w w2) := K1.out.trans hk (fun x hx hx' => by simp at hx'; omega)
 obtain ⟨m, hm⟩ : ∃ m, w2.heap.size = m := ⟨_, rfl⟩
 have HM := hid hm
 have HS0 : Hid (∀ wx, Keeps [] w2 wx → wx.heap[m]? = some (.cells #[.int .i64 1, .int .i64 0, .int .i64 0, .string ⟨#[]⟩, .int .i64 0, .int .i64 0, .int .i64 0, .string ⟨#[]⟩] 63 (0, 0)) → GetSt m n a q [2] w wx ⟨1, 0, 0, ⟨#[]⟩, 0, ⟨0, 0, ⟨#[]⟩⟩⟩ 1 false) := fun wx g hrow =>
  ⟨hrow, (g.block _ (Array.getElem?_eq_some_iff.1 HRES2.out).1 (by simp)).trans HRES2.out, hrd.k g, K2.out.trans g (fun _ _ h => h), by omega, by omega, fun x hx => by have h1 := HOWN.out x hx; have h2 := hk.size; simp at h1; omega⟩
 clear hk hrd
 go_wp2_with fail
 have HSa : Hid (GetSt m n a q [2] w (w2.alloc (.cells #[.int .i64 1, .int .i64 0, .int .i64 0, .string ⟨#[]⟩, .int .i64 0, .int .i64 0, .int .i64 0, .string ⟨#[]⟩] 63)) ⟨1, 0, 0, ⟨#[]⟩, 0, ⟨0, 0, ⟨#[]⟩⟩⟩ 1 false) := HS0.out _ (by exact Keeps.K) (by rw [← HM.out]; exact heap_alloc_new _ _)
 have HN := wEnd_any n a q [2] 1 false _ (HSa.out.rd.k (by exact Keeps.K))
 rw [show (!false && 1 == ([2] : List UInt8).length) = true from rfl] at HN
 refine HN.mono ?_
 clear HN
 rintro e w5 ⟨rfl, hk⟩
 have HS5 := hid (HSa.out.k (Keeps.trans (G := []) (by exact Keeps.K) hk (fun _ _ h => h)))
 clear hk
 obtain ⟨⟨x0, x1, x2, x3, x4, x5, x6, x7⟩, f0⟩ := blk8 HS5.out.row
 obtain ⟨⟨y0, y1, y2, y3, y4, y5, y6, y7⟩, g0⟩ := blk8 HS5.out.res
 have hmn : w.heap.size ≠ m := by have := HS5.out.apart; omega
 go_wp2_with fail
 refine (cmCheck_1 w5).mono ?_
 rintro e w6 ⟨rfl, hk⟩
 have HS6 := hid (HS5.out.k hk)
 clear hk x0 x1 x2 x3 x4 x5 x6 x7 f0 y0 y1 y2 y3 y4 y5 y6 y7 g0
 obtain ⟨⟨x0, x1, x2, x3, x4, x5, x6, x7⟩, f0⟩ := blk8 HS6.out.row
 obtain ⟨⟨y0, y1, y2, y3, y4, y5, y6, y7⟩, g0⟩ := blk8 HS6.out.res
 go_wp2_with fail
 refine bodyPost_ret (v := .tuple #[cmdV ⟨1, 0, 0, ⟨#[]⟩, 0, ⟨0, 0, ⟨#[]⟩⟩⟩, .bool true]) (by simp [results, Tryz.results53, go_sem, cmdV, zeroC, y0, y1, y2, y3, y4, y5, y6, y7]) rfl ?_
 exact ⟨rfl, HS6.out.keeps.trans (G := [w.heap.size]) (by exact Keeps.K) (fun x hx hx' => by simp at hx'; omega)⟩
theorem cmGet_n (v0 : Value) (w : World) (hr : Reads w 1 v0 3 (u8s [1, 2, 3])) :
 Calls Tryz.prog 53 #[v0] w fun e w' => e = .returned (.tuple #[cmdV (getC [1, 2, 3]).1, .bool (getC [1, 2, 3]).2]) ∧ Keeps [] w w' := by
 have HR := hid hr
 have HG : Hid (getC [1, 2, 3] = (zeroC, false)) := by
  show _ = _
  kernel_rfl
 rw [HG.out]
 clear hr HG
 go_enter Tryz.func53, Tryz.ntmps53
 go_wp2_with fail
 refine (wNew_any v0 [1, 2, 3] _ (Reads.k0 HR.out (by exact Keeps.K)) (by decide)).mono ?_
 rintro e w1 ⟨n, a, q, rfl, hn, hrd, hk, hown⟩
 have K1 : Hid (Keeps [] w w1) := Keeps.trans (G := []) (by exact Keeps.K) hk (fun _ _ h => h)
 have HRD := hid hrd
 have HOWN := hid hown
 have HRES : Hid (w1.heap[w.heap.size]? = some (.cells #[.int .i64 0, .int .i64 0, .int .i64 0, .string ⟨#[]⟩, .int .i64 0, .int .i64 0, .int .i64 0, .string ⟨#[]⟩] 63 (0, 0))) := (hk.block _ (by simp) (by simp)).trans (heap_alloc_new _ _)
 have hn' : w.heap.size + 1 ≤ n := by simpa using hn
 clear hk hrd hown hn
 go_wp2_with fail
 have HI := rdInt_any n a q [1, 2, 3] 0 false _ (HRD.out.k (by exact Keeps.K))
 rw [show rdD [1, 2, 3] 0 false = ((-1), 1, false) by kernel_rfl] at HI
 refine HI.mono ?_
 clear HI
 rintro e w2 ⟨rfl, hrd, hk⟩
 dsimp only at hrd ⊢
 have hn2 : n < w2.heap.size := hrd.lt
 have HRES2 : Hid (w2.heap[w.heap.size]? = some (.cells #[.int .i64 0, .int .i64 0, .int .i64 0, .string ⟨#[]⟩, .int .i64 0, .int .i64 0, .int .i64 0, .string ⟨#[]⟩] 63 (0, 0))) := (hk.block _ (Array.getElem?_eq_some_iff.1 HRES.out).1 (by simp; omega)).trans HRES.out
 have K2 : Hid (Keeps [] w w2) := K1.out.trans hk (fun x hx hx' => by simp at hx'; omega)
 obtain ⟨m, hm⟩ : ∃ m, w2.heap.size = m := ⟨_, rfl⟩
 have HM := hid hm
 have HS0 : Hid (∀ wx, Keeps [] w2 wx → wx.heap[m]? = some (.cells #[.int .i64 (-1), .int .i64 0, .int .i64 0, .string ⟨#[]⟩, .int .i64 0, .int .i64 0, .int .i64 0, .string ⟨#[]⟩] 63 (0, 0)) → GetSt m n a q [1, 2, 3] w wx ⟨(-1), 0, 0, ⟨#[]⟩, 0, ⟨0, 0, ⟨#[]⟩⟩⟩ 1 false) := fun wx g hrow =>
  ⟨hrow, (g.block _ (Array.getElem?_eq_some_iff.1 HRES2.out).1 (by simp)).trans HRES2.out, hrd.k g, K2.out.trans g (fun _ _ h => h), by omega, by omega, fun x hx => by have h1 := HOWN.out x hx; have h2 := hk.size; simp at h1; omega⟩
 clear hk hrd
 go_wp2_with fail
 have HSa : Hid (GetSt m n a q [1, 2, 3] w (w2.alloc (.cells #[.int .i64 (-1), .int .i64 0, .int .i64 0, .string ⟨#[]⟩, .int .i64 0, .int .i64 0, .int .i64 0, .string ⟨#[]⟩] 63)) ⟨(-1), 0, 0, ⟨#[]⟩, 0, ⟨0, 0, ⟨#[]⟩⟩⟩ 1 false) := HS0.out _ (by exact Keeps.K) (by rw [← HM.out]; exact heap_alloc_new _ _)
 have HI := rdInt_any n a q [1, 2, 3] 1 false _ (HSa.out.rd.k (by exact Keeps.K))
 rw [show rdD [1, 2, 3] 1 false = (1, 2, false) by kernel_rfl] at HI
 refine HI.mono ?_
 clear HI
 rintro e wi0 ⟨rfl, hrd, hk⟩
 dsimp only at hrd ⊢
 have HSr0 := hid (HSa.out.step (Keeps.trans (G := [n]) (by exact Keeps.K) hk (fun _ _ h => h)) hrd)
 clear hrd hk
 obtain ⟨⟨x0, x1, x2, x3, x4, x5, x6, x7⟩, f0⟩ := blk8 HSr0.out.row
 go_wp2_with fail
 have HSs0 : Hid (GetSt m n a q [1, 2, 3] w (wi0.setCell ⟨m, 1, none⟩ (.int .i64 1)) ⟨(-1), 1, 0, ⟨#[]⟩, 0, ⟨0, 0, ⟨#[]⟩⟩⟩ 2 false) := HSr0.out.set (by exact Keeps.K) (heap_setCell_same _ m 1 _ _ _ (HSr0.out.row))
 clear x0 x1 x2 x3 x4 x5 x6 x7 f0
 have HI := rdInt_any n a q [1, 2, 3] 2 false _ (HSs0.out.rd.k (by exact Keeps.K))
 rw [show rdD [1, 2, 3] 2 false = ((-2), 3, false) by kernel_rfl] at HI
 refine HI.mono ?_
 clear HI
 rintro e wi1 ⟨rfl, hrd, hk⟩
 dsimp only at hrd ⊢
 have HSr1 := hid (HSs0.out.step (Keeps.trans (G := [n]) (by exact Keeps.K) hk (fun _ _ h => h)) hrd)
 clear hrd hk
 obtain ⟨⟨x0, x1, x2, x3, x4, x5, x6, x7⟩, f0⟩ := blk8 HSr1.out.row
 go_wp2_with fail
 have HSs1 : Hid (GetSt m n a q [1, 2, 3] w (wi1.setCell ⟨m, 2, none⟩ (.int .i64 (-2))) ⟨(-1), 1, (-2), ⟨#[]⟩, 0, ⟨0, 0, ⟨#[]⟩⟩⟩ 3 false) := HSr1.out.set (by exact Keeps.K) (heap_setCell_same _ m 2 _ _ _ (HSr1.out.row))
 clear x0 x1 x2 x3 x4 x5 x6 x7 f0
 have HN := wEnd_any n a q [1, 2, 3] 3 false _ (HSs1.out.rd.k (by exact Keeps.K))
 rw [show (!false && 3 == ([1, 2, 3] : List UInt8).length) = true from rfl] at HN
 refine HN.mono ?_
 clear HN
 rintro e w5 ⟨rfl, hk⟩
 have HS5 := hid (HSs1.out.k (Keeps.trans (G := []) (by exact Keeps.K) hk (fun _ _ h => h)))
 clear hk
 obtain ⟨⟨x0, x1, x2, x3, x4, x5, x6, x7⟩, f0⟩ := blk8 HS5.out.row
 obtain ⟨⟨y0, y1, y2, y3, y4, y5, y6, y7⟩, g0⟩ := blk8 HS5.out.res
 have hmn : w.heap.size ≠ m := by have := HS5.out.apart; omega
 go_wp2_with fail
 refine (cmCheck_n w5).mono ?_
 rintro e w6 ⟨rfl, hk⟩
 have HS6 := hid (HS5.out.k hk)
 clear hk x0 x1 x2 x3 x4 x5 x6 x7 f0 y0 y1 y2 y3 y4 y5 y6 y7 g0
 obtain ⟨⟨x0, x1, x2, x3, x4, x5, x6, x7⟩, f0⟩ := blk8 HS6.out.row
 obtain ⟨⟨y0, y1, y2, y3, y4, y5, y6, y7⟩, g0⟩ := blk8 HS6.out.res
 go_wp2_with fail
 refine bodyPost_ret (v := .tuple #[cmdV zeroC, .bool false]) (by simp [results, Tryz.results53, go_sem, cmdV, zeroC, y0, y1, y2, y3, y4, y5, y6, y7]) rfl ?_
 exact ⟨rfl, HS6.out.keeps.trans (G := [w.heap.size]) (by exact Keeps.K) (fun x hx hx' => by simp at hx'; omega)⟩
theorem getC_of {w : World} {P : Nat → Prop} {da : Option Addr} {dc : Nat} {data : List UInt8} (hd : BytesAt w P (.slice da data.length dc) data) (hs : data = [2] ∨ data = [1, 2, 3]) : GetC w da dc data := fun wx k => by
 have hr := (hd.k k).1
 rcases hs with rfl | rfl
 ·exact cmGet_1 _ wx hr
 ·exact cmGet_n _ wx hr
theorem r14Put_1 (w : World) : Calls Tryz.prog 26 #[cmdV ⟨1, 0, 0, ⟨#[]⟩, 0, ⟨0, 0, ⟨#[]⟩⟩⟩] w (PutPost [] [2] w) := by
 unfold cmdV
 dsimp only
 go_enter Tryz.func26, Tryz.ntmps26
 go_wp2_with fail
 obtain ⟨wA, hwA⟩ : ∃ wA, w.alloc (.cells #[.int .i64 1, .int .i64 0, .int .i64 0, .string ⟨#[]⟩, .int .i64 0, .int .i64 0, .int .i64 0, .string ⟨#[]⟩] 63) = wA := ⟨_, rfl⟩
 have KA : Hid (Keeps [] w wA) := by rw [← hwA]; exact Keeps.K
 have HA : Hid (wA.heap[w.heap.size]? = some (.cells #[.int .i64 1, .int .i64 0, .int .i64 0, .string ⟨#[]⟩, .int .i64 0, .int .i64 0, .int .i64 0, .string ⟨#[]⟩] 63 (0, 0))) := by rw [← hwA]; exact heap_alloc_new _ _
 rw [hwA]
 clear hwA
 refine (r3Int_pos 1 ⟨by decide, by decide⟩ (by decide) wA).mono ?_
 intro e w1 hp
 obtain ⟨a1, q1, rfl, h1, h2⟩ := hp
 rw [List.nil_append, show intL 1 = [2] by kernel_rfl] at h1
 rw [List.nil_append, show intL 1 = [2] by kernel_rfl]
 have O1 := hid h1
 have KD1 := hid h2
 obtain ⟨⟨x0, x1, x2, x3, x4, x5, x6, x7⟩, f0⟩ := blk8 ((h2.block _ (Array.getElem?_eq_some_iff.1 HA.out).1 (by simp)).trans HA.out)
 clear h1 h2
 go_wp2_with fail
 go_ret
 exact PutPost.is rfl (ownsRow_base O1.out KA.out.size) (KA.out.trans KD1.out (fun _ _ h => h))
end Go.Proofs.YtgjiahilbmeaeaaGreatDoor