/- Joined of EvE, PpA, PpB, PpC. -/
import Derived.Test.YtgjiahilbmeaeaaGreatDoorEvD
set_option maxRecDepth 100000
set_option maxHeartbeats 8000000
set_option linter.unusedSimpArgs false
set_option linter.unusedVariables false
/- Eval: what a whole expression comes «to», where inputs are blank. -/
namespace Go.Proofs.YtgjiahilbmeaeaaGreatDoor
open Go Go.RowKit
theorem evEval_ok (e : ExprD) (v : ValD) (cs : List Value) (P : Nat → Prop) (a1 a2 : Option Addr) (c1 c2 n1 n2 : Nat) (names : List ByteArray) (vals : List ValD) (w : World) (hT : Tabs w) (hE : Errs w) (hat : ExprAt w P e cs) (hok : exprOk e = true) (hn1 : names.length = n1) (hn2 : vals.length = n2) (hr1 : Reads w 1 (.slice a1 n1 c1) n1 (names.map Value.string)) (hr2 : ListAt valL w (fun _ => True) (.slice a2 n2 c2) vals) (hv : ∀ v ∈ vals, checkD v = true ∧ v.s.size ≤ 1000000) (hl1 : n1 ≤ 1000) (hl2 : n2 ≤ 1000) (h : evalQ e names vals = some v) :
 Calls Tryz.prog 221 #[.agg cs.toArray, .slice a1 n1 c1, .slice a2 n2 c2] w fun x w' => x = .returned (valV v) ∧ Keeps [] w w' := by
 have HC := hid (fun wx (k : Keeps [] w wx) => paCheck_ok e cs P wx (hT.k k) (hE.k k) (ExprAt.keep k (fun _ _ => by simp) hat) hok)
 have HV := hid (fun wb wx (k : Keeps [] w wx) (hw : wx.heap[wb]? = some (.cells #[.slice a1 n1 c1, .slice a2 n2 c2] 353 (0, 0))) => evalR_ok names vals hv e v cs P wb wx (hT.k k) ⟨a1, c1, a2, c2, by rw [hn1, hn2]; exact hw, by rw [hn1]; exact hr1.keeps k (fun _ _ h => by cases h), by rw [hn2]; exact hr2.k k, hv, by omega, by omega⟩ (ExprAt.keep k (fun _ _ => by simp) hat) (okE.of hok) h)
 have HU := hid (fun wx (k : Keeps [] w wx) => unbox_box (evalQ_ok names vals hv e v h).1 wx (hT.k k) (evalQ_ok names vals hv e v h).2)
 obtain ⟨o, nn, s, ks⟩ := e
 obtain ⟨a, c, rfl, _⟩ := ExprAt.parts hat
 clear hat hok hn1 hn2 hr1 hr2 hT hE hv h
 go_enter Tryz.func221, Tryz.ntmps221
 go_wp2_with fail
 have k0 : Keeps [] w ((w.alloc (.cells #[.int .i64 o, .int .i64 nn, .string s, .slice a ks.length c] 76)).alloc (.cells #[.int .i64 0, .int .i64 0, .string ⟨#[]⟩] 61)) := by exact Keeps.K
 refine (HC.out _ k0).mono ?_
 rintro _ w1 ⟨rfl, hk1⟩
 have K1 := hid (k0.trans hk1 (fun _ _ h => h))
 have HB0 := hid ((hk1.block w.heap.size (by simp; omega) (by simp)).trans (new2 w _ _ 0 rfl))
 have HB1 := hid ((hk1.block (w.heap.size + 1) (by simp) (by simp)).trans (new2K w _ _))
 obtain ⟨_, x0, x1, x2, x3, _⟩ := zexpr HB0.out
 clear hk1 k0
 go_wp2_with fail
 refine (HV.out _ _ (K1.out.trans (G := []) (by exact Keeps.K) (fun _ _ h => h)) (heap_alloc_new w1 _)).mono ?_
 rintro _ w2 ⟨rfl, hk2⟩
 have K2 : Hid (Keeps [] w1 w2) := Keeps.trans (F := []) (G := []) (by exact Keeps.K) hk2 (fun _ _ h => h)
 clear hk2 x0 x1 x2 x3
 go_wp2_with fail
 refine (HU.out _ (K1.out.trans K2.out (fun _ _ h => h))).mono ?_
 rintro _ w3 ⟨rfl, hk3⟩
 have K3 : Hid (Keeps [] w1 w3) := K2.out.trans hk3 (fun _ _ h => h)
 have HB3 := hid ((K3.out.block (w.heap.size + 1) (Array.getElem?_eq_some_iff.1 HB1.out).1 (by simp)).trans HB1.out)
 have HB4 : Hid ((w3.alloc (.cells #[.int .i64 v.kind, .int .i64 v.n, .string v.s] 61)).heap[w.heap.size + 1]? = some (.cells #[.int .i64 0, .int .i64 0, .string ⟨#[]⟩] 61 (0, 0))) := alloc_old HB3.out
 have K4 : Hid (Keeps [] w (w3.alloc (.cells #[.int .i64 v.kind, .int .i64 v.n, .string v.s] 61))) := (K1.out.trans K3.out (fun _ _ h => h)).alloc _
 obtain ⟨⟨y0, y1, y2⟩, f⟩ := blk3 HB4.out
 have f0 := f 0
 have f1 := f 1
 have f2 := f 2
 unfold valV
 clear hk3 f
 go_wp2_with fail
 obtain ⟨w4, hw4⟩ : ∃ w4, w3.alloc (.cells #[.int .i64 v.kind, .int .i64 v.n, .string v.s] 61) = w4 := ⟨_, rfl⟩
 rw [hw4] at HB4 K4 ⊢
 have h5 := heap_setCell_same _ (w.heap.size + 1) 2 _ _ (.string v.s) (heap_setCell_same _ (w.heap.size + 1) 1 _ _ (.int .i64 v.n) (heap_setCell_same _ (w.heap.size + 1) 0 _ _ (.int .i64 v.kind) HB4.out))
 simp only [List.setIfInBounds_toArray, List.set_cons_zero, List.set_cons_succ] at h5
 refine bodyPost_ret (results_cell_row rfl _ _ (w.heap.size + 1) 61 _ (0, 0) _ rfl h5 Tryz.underlying61 rfl (by kernel_rfl)) rfl ⟨rfl, ?_⟩
 exact ((K4.out.setCell (.inr (by show _ ≤ w.heap.size + 1; omega)) _).setCell (.inr (by show _ ≤ w.heap.size + 1; omega)) _).setCell (.inr (by show _ ≤ w.heap.size + 1; omega)) _
theorem Tryz.infoVal3 : (Tryz.prog.info? 61).map (fun i => (i.zero, i.size, i.bytes)) = some (some (.agg #[.int .i64 0, .int .i64 0, .string ⟨#[]⟩]), 3, 32) := by kernel_rfl
theorem plListV_ok (w : World) (P : Nat → Prop) (l : List ValD) (v : Value) (n : Nat) (hn : l.length = n) (hr : ListAt valL w P v l) (h : n ≤ 100000) : Calls Tryz.prog 179 #[v] w fun e w' => ∃ a q, e = .returned (.slice a n q) ∧ OwnAt valL 61 w' w.heap.size P (.slice a n q) l ∧ Keeps [] w w' := by
 subst hn
 obtain ⟨it, hi0, hz0, hz1, hz2⟩ := info_parts Tryz.infoVal3
 obtain ⟨a0, c0, rfl⟩ := hr.form
 obtain ⟨css, he, hr, _⟩ := hr
 have HE := hid he
 have HR := hid hr
 have HO := hid he.one
 clear he hr
 go_enter Tryz.func179, Tryz.ntmps179
 go_wp2_with (at_builtin; refine wpList_append_copy _ rfl (.tmp 3) 125 rfl 61 it _ 3 32 Tryz.underlying125 hi0 hz0 hz1 hz2 rfl (by decide) (.slice a0 l.length c0) l.length css.flatten rfl HR.out HO.out (by omega) (le_maxLen (by omega)) ?_)
 intro v' w' h1 h2
 obtain ⟨a, c, hv⟩ := len_form h1
 subst hv
 have H1 := hid h1
 have K := hid ((Keeps.refl [] w).grown h2 rfl rfl rfl rfl (fun _ h => by cases h))
 clear h1 h2
 go_wp2
 go_ret
 exact ⟨a, c, rfl, ⟨css, HE.out.keep K.out (fun _ _ h => by cases h), H1.out⟩, K.out⟩
theorem seNew_ok (n : Int) (w : World) (hn : -9223372036854775808 ≤ n ∧ n ≤ 9223372036854775807) : Calls Tryz.prog 58 #[.int .i64 n] w fun e w' => ∃ b, e = .returned (ptrV b) ∧ w.heap.size ≤ b ∧ Keeps [] w w' := by
 have hmm := @run_makeMap Tryz.prog
 go_enter Tryz.func58, Tryz.ntmps58
 go_wp2_with fail
 all_goals
  go_ret
  exact ⟨_, rfl, by simp, by exact Keeps.K⟩
theorem made3 (a b c : Value) : ∀ n : Nat, (madeCells #[a, b, c] (n * 3)).toList = (List.replicate n [a, b, c]).flatten
 | 0 => by simp [madeCells]
 | n + 1 => by
   have ih := made3 a b c n
   unfold madeCells at ih ⊢
   rw [show (n + 1) * 3 = n * 3 + 1 + 1 + 1 by omega]
   simp only [Array.toList_map, Array.toList_range, List.range_succ, List.map_append, List.map_cons, List.map_nil] at ih ⊢
   rw [ih, List.replicate_succ', List.flatten_append]
   have e0 : (n * 3) % 3 = 0 := by omega
   have e1 : (n * 3 + 1) % 3 = 1 := by omega
   have e2 : (n * 3 + 1 + 1) % 3 = 2 := by omega
   simp [e0, e1, e2, List.append_assoc]
theorem makeVals (n : Nat) (hn : n ≤ 1000) (w : World) : (Instr.makeSlice 125 (.int .i64 (n : Int)) (.int .i64 (n : Int))).run Tryz.prog w = .ok (.slice (some ⟨w.heap.size, 0, none⟩) n n) (w.alloc (.cells ((List.replicate n (valC val0)).flatten).toArray 61)) := by
 obtain ⟨i, hi, hz, hsize, hby⟩ := info_parts Tryz.infoVal3
 have hr := run_make (P := Tryz.prog) w 125 61 i _ Tryz.underlying125 hi hz .i64 .i64 n n (by omega) (Int.le_refl _) (by rw [hby]; omega) (by omega)
 simp only [Int.toNat_natCast, hsize] at hr
 rw [hr]
 have e : madeCells (Value.agg #[.int .i64 0, .int .i64 0, .string ⟨#[]⟩]).cells (n * 3) = ((List.replicate n (valC val0)).flatten).toArray := by
  refine Array.ext' ?_
  have := made3 (.int .i64 0) (.int .i64 0) (.string ⟨#[]⟩) n
  simpa [valC, val0, Value.cells] using this
 rw [e]
theorem elems_vals (w : World) (P : Nat → Prop) (l : List ValD) : ElemsAt valL w P (l.map valC) l := ⟨by simp, fun i cs a h1 h2 => by
 rw [List.getElem?_map, h2] at h1
 exact (by simpa using h1.symm : cs = valC a)⟩
theorem elems_eq {w : World} {P : Nat → Prop} {css : List (List Value)} {l : List ValD} (h : ElemsAt valL w P css l) : css = l.map valC := by
 apply List.ext_getElem?
 intro i
 rw [List.getElem?_map]
 cases hl : l[i]? with
 | none => rw [List.getElem?_eq_none (by rw [h.1]; exact List.getElem?_eq_none_iff.1 hl)]; rfl
 | some a =>
   obtain ⟨cs, hc⟩ : ∃ cs, css[i]? = some cs := ⟨_, List.getElem?_eq_getElem (by rw [h.1]; exact (List.getElem?_eq_some_iff.1 hl).1)⟩
   have h2 : cs = valC a := h.2 i cs a hc hl
   rw [hc, h2]
   rfl
theorem vals_len (l : List ValD) : ((l.map valC).flatten).length = l.length * 3 := by
 rw [flatten_length (n := 3) (fun c hc => by obtain ⟨v, _, rfl⟩ := List.mem_map.1 hc; rfl)]
 simp
def ValsAt (w : World) (g : Nat) (l : List ValD) : Prop := w.heap[g]? = some (.cells ((l.map valC).flatten).toArray 61 (0, 0))
theorem ppFull_ok (w : World) (F : Nat → Prop) (sb : Nat) (d : SchD) (P : Nat → Prop) (a : Option Addr) (c n : Nat) (vals : List ValD) (h : ScAt w F sb d) (hn : d.l.length = n) (hv : vals.length = n) (hl : ListAt valL w P (.slice a n c) vals) (h1 : 1 ≤ n) (h2 : n ≤ 1000) :
 Calls Tryz.prog 181 #[ptrV sb, .slice a n c] w fun e w' => ∃ g, e = .returned (.slice (some ⟨g, 0, none⟩) n n) ∧ w.heap.size ≤ g ∧ ValsAt w' g vals ∧ Keeps [] w w' := by
 have HL := hid (scLen_ok w F sb d h)
 rw [hn] at HL
 have hmk := makeVals n h2
 obtain ⟨i0, hi0, hz0, hz1, hz2⟩ := info_parts Tryz.infoVal3
 obtain ⟨g0, off, c', hv2, hnc, _, hg0, _⟩ := hl.addr (by intro e; rw [e] at hv; simp at hv; omega)
 simp only [Value.slice.injEq] at hv2
 obtain ⟨rfl, -, rfl⟩ := hv2
 obtain ⟨css, he, hr, _⟩ := hl
 rw [elems_eq he] at hr
 have HR := hid hr
 have HV := hid hv
 clear h he hr hv hn
 unfold ptrV at HL ⊢
 go_enter Tryz.func181, Tryz.ntmps181
 go_wp2_with fail
 refine HL.out.mono ?_
 rintro _ w1 ⟨rfl, hk1⟩
 have K1 := hid hk1
 have HB : Hid ((w1.alloc (.cells ((List.replicate n (valC val0)).flatten).toArray 61)).heap[w1.heap.size]? = some (.cells ((List.replicate n (valC val0)).flatten).toArray 61 (0, 0))) := heap_alloc_new w1 _
 have hrl : ((List.replicate n (valC val0)).flatten).length = n * 3 := by
  rw [flatten_length (n := 3) (fun c hc => by rw [(List.mem_replicate.1 hc).2]; rfl)]
  simp
 have HRL := hid hrl
 have KA : Hid (Keeps [] w (w1.alloc (.cells ((List.replicate n (valC val0)).flatten).toArray 61))) := hk1.alloc _
 clear hk1 hrl
 go_wp2_with (show wpList _ _ _ (⟨some 11, _, _, _, _, _⟩ :: _) _ _; go_must (refine wpList_copy_rows _ (by rfl) _ _ 125 (by rfl) 61 i0 3 Tryz.underlying125 hi0 hz1 _ _ n n n _ (by rfl) (by rfl) w1.heap.size 0 _ 61 HB.out ((vals.map valC).flatten) (by rw [vals_len, HV.out]; simp) (fun _ => ⟨rfl, _, rfl, fun j v hj => ?_⟩) (by rw [vals_len, HV.out]; simp [HRL.out]) (elems_vals w (fun _ => True) vals).one (by decide) ?_))
 ·rw [Addr.add_mid]
  rcases HR.out.2 with ⟨h0, _⟩ | ⟨_, b, o, c2, e, _, _, _, hx⟩
  ·have := HV.out
   omega
  ·simp only [Value.slice.injEq, Option.some.injEq, Addr.mk.injEq, true_and, and_true] at e
   obtain ⟨⟨rfl, rfl⟩, _⟩ := e
   exact KA.out.cellSome (hx j v hj) (by simp)
 ·intro w4 hb4 hk4
  have hlay : lay ((List.replicate n (valC val0)).flatten) 0 ((vals.map valC).flatten) = (vals.map valC).flatten := by
   unfold lay
   rw [List.take_zero, List.nil_append, Nat.zero_add, List.drop_of_length_le (by rw [HRL.out, vals_len, HV.out]; exact Nat.le_refl _), List.append_nil]
  have hb := hb4.out
  rw [hlay] at hb
  have HBB := hid hb
  have K4 : Hid (Keeps [] w w4) := KA.out.trans (Keeps.ofGrown (F := [w1.heap.size]) hk4.out (fun k hk => by simp at hk; simp [hk])) (fun b hb hm => by simp at hm; have := K1.out.size; omega)
  clear hb4 hk4 hb hlay
  go_wp2_with fail
  go_ret
  exact ⟨w1.heap.size, rfl, K1.out.size, HBB.out, K4.out⟩
theorem ppWork_ok (w : World) (F : Nat → Prop) (sb i : Nat) (d : SchD) (x : SfdD) (e : ExprD) (a : Option Addr) (c n : Nat) (vals : List ValD) (v : ValD) (hT : Tabs w) (hE : Errs w) (h : ScAt w F sb d) (hx : d.l[i]? = some x) (he : x.formula = some e) (hok : exprOk e = true) (hn : d.l.length = n) (hn2 : vals.length = n) (hl : ListAt valL w (fun _ => True) (.slice a n c) vals) (hv : ∀ v ∈ vals, checkD v = true ∧ v.s.size ≤ 1000000) (h1000 : n ≤ 1000)
 (hq : evalQ e (d.l.map fun x => str x.f.name) vals = some v) :
 Calls Tryz.prog 183 #[ptrV sb, .int .i64 (i : Int), .slice a n c] w fun y w' => y = .returned (valV v) ∧ Keeps [] w w' := by
 have HF := hid (fun wx (k : Keeps [] w wx) => scFormula_ok wx F sb i d x e (h.k k) hx (by omega) he (okE.of hok))
 have HN := hid (fun wx (k : Keeps [] w wx) => scNames_ok wx F sb d (h.k k) (by omega))
 rw [hn] at HN
 have HE := hid (fun wx (k : Keeps [] w wx) cs P a1 c1 (hat : ExprAt wx P e cs) (hr : Reads wx 1 (.slice a1 n c1) n ((d.l.map fun x => str x.f.name).map Value.string)) => evEval_ok e v cs P a1 a c1 c n n _ vals wx (hT.k k) (hE.k k) hat hok (by simp [hn]) hn2 hr (hl.k k) hv h1000 h1000 hq)
 clear h hx he hok hn hn2 hl hv hq hT hE
 unfold ptrV at HF HN ⊢
 go_enter Tryz.func183, Tryz.ntmps183
 go_wp2_with fail
 have k0 : Keeps [] w (w.alloc (.cells #[.int .i64 0, .int .i64 0, .string ⟨#[]⟩] 61)) := by exact Keeps.K
 refine (HF.out _ k0).mono ?_
 rintro _ w1 ⟨cs, rfl, hx1, hk1⟩
 have HB1 := hid ((hk1.block w.heap.size (by simp) (by simp)).trans (heap_alloc_new w _))
 have K1 := hid (k0.trans hk1 (fun _ _ h => h))
 obtain ⟨o, nn, s, ks⟩ := e
 obtain ⟨a9, c9, rfl, _⟩ := ExprAt.parts hx1
 have HX1 := hid hx1
 clear hx1 hk1 k0
 have HB2 : Hid ((w1.alloc (.cells #[.int .i64 o, .int .i64 nn, .string s, .slice a9 ks.length c9] 76)).heap[w1.heap.size]? = some (.cells #[.int .i64 o, .int .i64 nn, .string s, .slice a9 ks.length c9] 76 (0, 0))) := heap_alloc_new w1 _
 have K2 : Hid (Keeps [] w1 (w1.alloc (.cells #[.int .i64 o, .int .i64 nn, .string s, .slice a9 ks.length c9] 76))) := by show Keeps _ _ _; exact Keeps.K
 obtain ⟨_, y0, y1, y2, y3, _⟩ := zexpr HB2.out
 go_wp2_with fail
 refine Plan.wp_region_plan (fun wx => wx.cell? ⟨w1.heap.size, 0, none⟩ = some (.int .i64 o) ∧ wx.cell? ⟨w1.heap.size, 1, none⟩ = some (.int .i64 nn) ∧ wx.cell? ⟨w1.heap.size, 2, none⟩ = some (.string s) ∧ wx.cell? ⟨w1.heap.size, 3, none⟩ = some (.slice a9 ks.length c9)) 4 [(true, 0), (true, 1), (true, 3), (false, 2)] (by kernel_rfl) (by as_aux_lemma => kernel_rfl) (by kernel_rfl) (fun _ _ _ _ _ h => h) ?_ (fun hS => ?_)
 ·exact ⟨y0, y1, y2, y3⟩
 simp only [Plan.pick, List.append_eq, List.cons_append, List.nil_append, Plan.g1, Plan.g2, Option.getD_some, List.drop_succ_cons, List.drop_zero]
 iterate 3 (first | refine Plan.tA ?_ | refine Plan.tY ?_ | refine Plan.pN ?_ | refine Plan.pU ?_ | fail)
 refine Plan.step ?_
 go_wp2_with fail
 refine (HN.out _ ((K1.out.trans K2.out (fun _ _ h => h)).trans (G := []) (by exact Keeps.K) (fun _ _ h => h))).mono ?_
 rintro _ w3 ⟨a3, c3, rfl, ho3, hk3⟩
 have K3 : Hid (Keeps [] w1 w3) := (K2.out.trans (G := []) (by exact Keeps.K) (fun _ _ h => h)).trans hk3 (fun _ _ h => h)
 have HO3 := hid ho3
 have HB3 := hid ((K3.out.block w.heap.size (Array.getElem?_eq_some_iff.1 HB1.out).1 (by simp)).trans HB1.out)
 have hb4 := (hk3.block w1.heap.size (by simp) (by simp)).trans HB2.out
 obtain ⟨_, z0, z1, z2, z3, _⟩ := zexpr hb4
 have hr3 : Reads w3 1 (.slice a3 n c3) n ((d.l.map fun x => str x.f.name).map Value.string) := by
  rw [List.map_map]
  exact Reads.ofOwn ho3
 have HR3 := hid hr3
 clear ho3 hk3 hb4 hr3 y0 y1 y2 y3
 go_wp2_with fail
 refine ⟨⟨z0, z1, z2, z3⟩, ?_⟩
 refine Plan.fin ?_
 clear hS
 go_wp2_with fail
 refine (HE.out _ (K1.out.trans K3.out (fun _ _ h => h)) _ _ a3 c3 (ExprAt.keep K3.out (fun _ _ => by simp) HX1.out) HR3.out).mono ?_
 rintro _ w5 ⟨rfl, hk5⟩
 have K5 := hid ((K1.out.trans K3.out (fun _ _ h => h)).trans hk5 (fun _ _ h => h))
 have HB5 := hid ((hk5.block w.heap.size (Array.getElem?_eq_some_iff.1 HB3.out).1 (by simp)).trans HB3.out)
 obtain ⟨⟨x0, x1, x2⟩, f⟩ := blk3 HB5.out
 have f0 := f 0
 have f1 := f 1
 have f2 := f 2
 unfold valV
 clear hk5 f z0 z1 z2 z3
 go_wp2_with fail
 have h5 := heap_setCell_same _ w.heap.size 2 _ _ (.string v.s) (heap_setCell_same _ w.heap.size 1 _ _ (.int .i64 v.n) (heap_setCell_same _ w.heap.size 0 _ _ (.int .i64 v.kind) HB5.out))
 simp only [List.setIfInBounds_toArray, List.set_cons_zero, List.set_cons_succ] at h5
 refine bodyPost_ret (results_cell_row rfl _ _ w.heap.size 61 _ (0, 0) _ rfl h5 Tryz.underlying61 rfl (by kernel_rfl)) rfl ⟨rfl, ?_⟩
 exact ((K5.out.setCell (.inr (Nat.le_refl _)) _).setCell (.inr (Nat.le_refl _)) _).setCell (.inr (Nat.le_refl _)) _
end Go.Proofs.YtgjiahilbmeaeaaGreatDoor