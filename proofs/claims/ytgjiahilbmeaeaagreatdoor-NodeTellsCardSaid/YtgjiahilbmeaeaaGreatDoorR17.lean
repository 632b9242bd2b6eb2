/- Joined of ScH, ScI. -/
import Derived.Test.YtgjiahilbmeaeaaGreatDoorScG
import Derived.Deep.MidRow
import Derived.Deep.WholeRow
set_option maxRecDepth 100000
set_option maxHeartbeats 8000000
set_option linter.unusedSimpArgs false
set_option linter.unusedVariables false
/- A form asked: how many fields, a field, its order, its names. -/
namespace Go.Proofs.YtgjiahilbmeaeaaGreatDoor
open Go Go.RowKit
theorem ScAt.field {w : World} {F : Nat → Prop} {sb : Nat} {d : SchD} (h : ScAt w F sb d) {i : Nat} {x : SfdD} (hx : d.l[i]? = some x) : ∃ g off c ov bm cs, w.heap[sb]? = some (.cells #[.slice (some ⟨g, off, none⟩) d.l.length c, .map (some bm), ov] 68 (0, 0)) ∧ d.l.length ≤ c ∧ SfAt w F cs x ∧ (sb < w.heap.size ∧ g < w.heap.size) ∧ ∀ (j : Nat) u, cs[j]? = some u → w.cell? ⟨g, off + i * 21 + j, none⟩ = some u := by
 obtain ⟨lv, ov, bm, h1, h2, h3, h4, h5, h6, h7⟩ := h
 obtain ⟨g, off, c, rfl, hc, _, hg, _⟩ := h4.addr (by intro e; rw [e] at hx; simp at hx)
 obtain ⟨cs, hs, hcell⟩ := h4.get hx
 exact ⟨g, off, c, ov, bm, cs, h1, hc, hs, ⟨(Array.getElem?_eq_some_iff.1 h1).1, hg⟩, hcell⟩
theorem SfAt.head {w : World} {P : Nat → Prop} {cs : List Value} {x : SfdD} (h : SfAt w P cs x) : cs[0]? = some (.string (str x.f.name)) ∧ cs[1]? = some (.int .i64 x.f.typ) ∧ cs[2]? = some (.string (str x.f.formula)) ∧ cs[3]? = some (.string (str x.f.rule)) ∧ cs[4]? = some (.string (str x.f.shown)) ∧ cs.length = 21 := by
 have hl := sfL.len (cs := cs) (a := x) h
 obtain ⟨c1, c2, c3, nv, h1, h2, h3, h4, h5, rfl⟩ := h
 exact ⟨rfl, rfl, rfl, rfl, rfl, hl⟩
theorem SfAt.expr {w : World} {P : Nat → Prop} {cs : List Value} {x : SfdD} {e : ExprD} (h : SfAt w P cs x) (he : x.formula = some e) : ∃ v0 v1 v2 v3, ExprAt w P e [v0, v1, v2, v3] ∧ cs[5]? = some v0 ∧ cs[6]? = some v1 ∧ cs[7]? = some v2 ∧ cs[8]? = some v3 := by
 obtain ⟨c1, c2, c3, nv, h1, h2, h3, h4, h5, rfl⟩ := h
 obtain ⟨x0, x1, x2, x3, rfl⟩ := list4 h1.len
 rw [he] at h1
 exact ⟨x0, x1, x2, x3, h1, rfl, rfl, rfl, rfl⟩
theorem scLen_ok (w : World) (F : Nat → Prop) (sb : Nat) (d : SchD) (h : ScAt w F sb d) : Calls Tryz.prog 130 #[ptrV sb] w fun e w' => e = .returned (.int .i64 d.l.length) ∧ Keeps [] w w' := by
 obtain ⟨lv, ov, bm, h1, h2, h3, h4, h5, h6, h7⟩ := h
 obtain ⟨a, c, rfl⟩ := h4.form
 have x0 : w.cell? ⟨sb, 0, none⟩ = some (.slice a d.l.length c) := cell_of_block h1 0
 clear h1 h4 h5 h6 h7
 unfold ptrV
 go_enter Tryz.func130, Tryz.ntmps130
 go_wp2_with fail
 go_ret
 exact ⟨rfl, by exact Keeps.K⟩
theorem scField_ok (w : World) (F : Nat → Prop) (sb i : Nat) (d : SchD) (x : SfdD) (h : ScAt w F sb d) (hx : d.l[i]? = some x) (h24 : d.l.length ≤ 1000) : Calls Tryz.prog 176 #[ptrV sb, .int .i64 (i : Int)] w fun e w' => e = .returned (.tuple #[.agg (fldC x.f).toArray, .bool true]) ∧ Keeps [] w w' := by
 obtain ⟨g, off, c, ov, bm, cs, h1, h2, h3, hsz, h4⟩ := h.field hx
 have hi := (List.getElem?_eq_some_iff.1 hx).1
 obtain ⟨c0, c1, c2, c3, c4, _⟩ := h3.head
 have d0 : w.cell? ⟨g, off + i * 21, none⟩ = some (.string (str x.f.name)) := h4 0 _ c0
 have d1 : w.cell? ⟨g, off + i * 21 + 1, none⟩ = some (.int .i64 x.f.typ) := h4 1 _ c1
 have d2 : w.cell? ⟨g, off + i * 21 + 2, none⟩ = some (.string (str x.f.formula)) := h4 2 _ c2
 have d3 : w.cell? ⟨g, off + i * 21 + 3, none⟩ = some (.string (str x.f.rule)) := h4 3 _ c3
 have d4 : w.cell? ⟨g, off + i * 21 + 4, none⟩ = some (.string (str x.f.shown)) := h4 4 _ c4
 obtain ⟨n, hn⟩ : ∃ n, d.l.length = n := ⟨_, rfl⟩
 rw [hn] at h1 h2 hi h24
 have x0 : w.cell? ⟨sb, 0, none⟩ = some (.slice (some ⟨g, off, none⟩) n c) := cell_of_block h1 0
 have i0 : (0 : Int) ≤ (i : Int) := Int.natCast_nonneg _
 have i1 : (i : Int) < (n : Int) := by omega
 have i2 : ¬ (i : Int) < 0 := by omega
 have i3 : ¬ (n : Int) ≤ (i : Int) := by omega
 have KA : Keeps [] w (w.alloc (.cells #[.string ⟨#[]⟩, .int .i64 0, .string ⟨#[]⟩, .string ⟨#[]⟩, .string ⟨#[]⟩] 71)) := by exact Keeps.K
 have x0 := KA.cellSome x0 (by simp)
 have d0 := KA.cellSome d0 (by simp)
 have d1 := KA.cellSome d1 (by simp)
 have d2 := KA.cellSome d2 (by simp)
 have d3 := KA.cellSome d3 (by simp)
 have d4 := KA.cellSome d4 (by simp)
 clear KA h h1 h3 h4 hx hsz c0 c1 c2 c3 c4 hn
 unfold ptrV
 go_enter Tryz.func176, Tryz.ntmps176
 go_wp2_with fail
 exact bodyPost_ret (results_cell_tmp rfl _ _ w.heap.size 71 _ (0, 0) _ _ rfl rfl (heap_alloc_new _ _) Tryz.underlying71 rfl (by kernel_rfl)) rfl ⟨rfl, by exact Keeps.K⟩
theorem scInput_ok (w : World) (F : Nat → Prop) (sb i : Nat) (d : SchD) (x : SfdD) (h : ScAt w F sb d) (hx : d.l[i]? = some x) (h24 : d.l.length ≤ 1000) : Calls Tryz.prog 178 #[ptrV sb, .int .i64 (i : Int)] w fun e w' => e = .returned (.bool x.formula.isNone) ∧ Keeps [] w w' := by
 obtain ⟨g, off, c, ov, bm, cs, h1, h2, h3, hsz, h4⟩ := h.field hx
 have hi := (List.getElem?_eq_some_iff.1 hx).1
 have d0 : w.cell? ⟨g, off + i * 21 + 17, none⟩ = some (.bool x.formula.isSome) := h4 17 _ h3.tail
 obtain ⟨n, hn⟩ : ∃ n, d.l.length = n := ⟨_, rfl⟩
 rw [hn] at h1 h2 hi h24
 have x0 : w.cell? ⟨sb, 0, none⟩ = some (.slice (some ⟨g, off, none⟩) n c) := cell_of_block h1 0
 have i0 : (0 : Int) ≤ (i : Int) := Int.natCast_nonneg _
 have i1 : (i : Int) < (n : Int) := by omega
 clear h h1 h3 h4 hx hn hsz
 unfold ptrV
 go_enter Tryz.func178, Tryz.ntmps178
 go_wp2_with fail
 go_ret
 exact ⟨rfl, by exact Keeps.K⟩
theorem plListI_ok (w : World) (l : List Nat) (v : Value) (n : Nat) (hn : l.length = n) (hr : Reads w 1 v n (natC l)) (h : n ≤ 100000) : Calls Tryz.prog 180 #[v] w fun e w' => ∃ a q, e = .returned (.slice a n q) ∧ w'.ownsRow w.heap.size 3 1 (.slice a n q) n (natC l) ∧ Keeps [] w w' := by
 obtain ⟨it, hi0, hz0, hz1, hz2⟩ := info_parts Tryz.infoIn8
 obtain ⟨a0, c0, rfl⟩ := hr.form
 have HR := hid hr
 clear hr
 go_enter Tryz.func180, Tryz.ntmps180
 go_wp2_with (at_builtin; refine wpList_append_copy _ rfl (.tmp 3) 66 rfl 3 it _ 1 8 Tryz.underlying66 hi0 hz0 hz1 hz2 rfl (by decide) (.slice a0 n c0) n (natC l) rfl HR.out (natC_one _) (by omega) (le_maxLen (by omega)) ?_)
 intro v' w' h1 h2
 obtain ⟨a, c, hv⟩ := len_form h1
 subst hv
 have H1 := hid h1
 have K := hid ((Keeps.refl [] w).grown h2 rfl rfl rfl rfl (fun _ h => by cases h))
 clear h1 h2
 go_wp2
 go_ret
 exact ⟨a, c, rfl, H1.out, K.out⟩
theorem scOrder_ok (w : World) (F : Nat → Prop) (sb : Nat) (d : SchD) (h : ScAt w F sb d) (hn : d.order.length ≤ 1000) : Calls Tryz.prog 182 #[ptrV sb] w fun e w' => ∃ a q, e = .returned (.slice a d.order.length q) ∧ w'.ownsRow w.heap.size 3 1 (.slice a d.order.length q) d.order.length (natC d.order) ∧ Keeps [] w w' := by
 obtain ⟨lv, ov, bm, h1, h2, h3, h4, h5, h6, h7⟩ := h
 have x0 : w.cell? ⟨sb, 2, none⟩ = some ov := cell_of_block h1 2
 obtain ⟨a0, c0, rfl⟩ := h6.form
 have HC := hid (plListI_ok w d.order _ d.order.length rfl h6 (by omega))
 clear h1 h4 h5 h6 h7
 unfold ptrV
 go_enter Tryz.func182, Tryz.ntmps182
 go_wp2_with fail
 refine HC.out.mono ?_
 rintro e w' ⟨a, q, rfl, ho, hk⟩
 have HO := hid (And.intro ho hk)
 clear ho hk
 go_wp2_with fail
 go_ret
 exact ⟨a, q, rfl, HO.out.1, HO.out.2⟩
theorem wpList_store_new {ops : Array Oper} {rest : List Oper} {op : Oper} {a : Act} {Q : Exit → Act → World → Prop} (hgd : op.guard = none) (ty : TypeId) (x y : Operand) (ho : op.op = .store ty x y) (w : World) (c cells : Array Value)
 (hx : a.eval x = .pointer (some ⟨w.heap.size, 0, none⟩)) (hy : a.eval y = .agg cells) (hi : (Tryz.prog.info? ty).map (·.size) = some cells.size) (hz : c.size = cells.size) (h1 : cells.all (·.oneCell') = true)
 (h : wpList Tryz.prog ops Q rest (a.put op.dst undef) (w.alloc (.cells cells ty))) : wpList Tryz.prog ops Q (op :: rest) a (w.alloc (.cells c ty)) := by
 refine wpList_plain hgd fun K hK => ?_
 unfold Oper.wp execOp
 simp only [ho, hx, hy, Sem.run_bind, Sem.run_pure, Result.andThen_ok, run_storeAt_new w ty c cells hi hz h1]
 exact hK _ _ h
def OwnEnd (w : World) (e : ExprD) (x : Ending) (w' : World) : Prop := ∃ cs, x = .returned (.agg cs.toArray) ∧ ExprAt w' (fun b => w.heap.size ≤ b) e cs ∧ Keeps [] w w'
theorem paOwn_ok : ∀ (e : ExprD) (cs : List Value) (P : Nat → Prop) (w : World), ExprAt w P e cs → okE e →
 Calls Tryz.prog 278 #[.agg cs.toArray] w (OwnEnd w e)
 | .mk o n s ks, cs, P, w, hat, hok => by
   have IH : ∀ k ∈ ks, ∀ (cs : List Value) (P : Nat → Prop) (w : World), ExprAt w P k cs → okE k → Calls Tryz.prog 278 #[.agg cs.toArray] w (OwnEnd w k) := fun k hk => paOwn_ok k
   obtain ⟨it, hi0, hz0, hz1, hz2⟩ := info_parts Tryz.infoExpr
   obtain ⟨a, c, rfl, hls⟩ := hat.parts
   have HIH := hid IH
   have HLS := hid hls
   have HKS : Hid (ks.length ≤ 1000) := Nat.le_trans hok.parts.2.2 (by decide)
   have HOK := hid hok.parts.2.1
   have hkl : ks.length ≤ 1000 := HKS.out
   have k00 : (0 : Int) ≤ (ks.length : Int) := Int.natCast_nonneg _
   clear IH hls hat hok
   go_enter Tryz.func278, Tryz.ntmps278
   go_wp2_with fail
   obtain ⟨w0, hw0⟩ : ∃ w0, (w.alloc (.cells #[.int .i64 o, .int .i64 n, .string s, .slice a ks.length c] 76)).alloc (.cells #[.int .i64 0, .int .i64 0, .string ⟨#[]⟩, .slice none 0 0] 76) = w0 := ⟨_, rfl⟩
   have K0 : Hid (Keeps [] w w0) := by rw [← hw0]; show Keeps _ _ _; exact Keeps.K
   have HB0 : Hid (w0.heap[w.heap.size]? = some (.cells #[.int .i64 o, .int .i64 n, .string s, .slice a ks.length c] 76 (0, 0))) := by rw [← hw0]; exact new2 w _ _ 0 rfl
   have HB1 : Hid (w0.heap[w.heap.size + 1]? = some (.cells #[.int .i64 0, .int .i64 0, .string ⟨#[]⟩, .slice none 0 0] 76 (0, 0))) := by rw [← hw0]; exact new2K w _ _
   have HZ0 : Hid (w0.heap.size = w.heap.size + 2) := by rw [← hw0]; show _ = _; simp
   rw [hw0]
   clear hw0
   go_loopw [3, 9] (fun lv iv wr => ∃ (j : Nat) (av : Option Addr) (cv : Nat), lv = .slice av j cv ∧ iv = .int .i64 (j : Int) ∧ j ≤ ks.length ∧ Hid (OwnAt exprL 76 wr w0.heap.size (fun b => w0.heap.size ≤ b ∧ b ∉ ownB (.slice av j cv)) (.slice av j cv) (ks.take j) ∧ Keeps [] w0 wr)) (fun _ iv _ => ks.length - (intOf iv).toNat)
   case atStart => exact ⟨0, none, 0, rfl, rfl, Nat.zero_le _, OwnAt.nil _ _ _ _, Keeps.refl _ _⟩
   case round =>
    obtain ⟨j, av, cv, rfl, rfl, hj, hW⟩ := hrel
    have HW := hid hW.out
    clear hW
    have j0 : (0 : Int) ≤ (j : Int) := Int.natCast_nonneg _
    by_cases hlt : j < ks.length
    ·have i1 : (j : Int) < (ks.length : Int) := by omega
     obtain ⟨k0, hk0⟩ : ∃ k0, ks[j]? = some k0 := ⟨_, List.getElem?_eq_getElem hlt⟩
     have kw := K0.out.trans HW.out.2 (fun _ _ h => h)
     have hkr := HLS.out.k kw
     obtain ⟨g, off, c', hv, hnc, _, _, _⟩ := hkr.addr (by intro e; subst e; simp at hlt)
     simp only [Value.slice.injEq] at hv
     obtain ⟨rfl, -, rfl⟩ := hv
     obtain ⟨cs, hcs, hcell⟩ := hkr.get hk0
     have hcs : ExprAt wr P k0 cs := hcs
     have hcalls := fun wx (k : Keeps [] wr wx) => HIH.out k0 (List.mem_of_getElem? hk0) cs P wx (ExprAt.keep k (fun _ _ => by simp) hcs) (HOK.out k0 (List.mem_of_getElem? hk0))
     have HT : Hid (ks.take (j + 1) = ks.take j ++ [k0]) := by show _ = _; rw [List.take_add_one, hk0]; rfl
     have HTL : Hid ((ks.take j).length = j) := by show _ = _; simp; omega
     obtain ⟨o0, n0, s0, l0⟩ := k0
     obtain ⟨a9, c9, rfl, _⟩ := ExprAt.parts hcs
     have y0 : wr.cell? ⟨g, off + j * 4, none⟩ = some (.int .i64 o0) := by simpa [exprL] using hcell 0 _ rfl
     have y1 : wr.cell? ⟨g, off + j * 4 + 1, none⟩ = some (.int .i64 n0) := by simpa [exprL] using hcell 1 _ rfl
     have y2 : wr.cell? ⟨g, off + j * 4 + 2, none⟩ = some (.string s0) := by simpa [exprL] using hcell 2 _ rfl
     have y3 : wr.cell? ⟨g, off + j * 4 + 3, none⟩ = some (.slice a9 l0.length c9) := by simpa [exprL] using hcell 3 _ rfl
     have HC := hid hcalls
     have HLT := hid hlt
     clear hcs hcell hcalls hkr hk0 hnc hlt kw
     go_wp2_with fail
     have K1 : Hid (Keeps [] wr (wr.alloc (.cells #[.int .i64 o0, .int .i64 n0, .string s0, .slice a9 l0.length c9] 76))) := by show Keeps _ _ _; exact Keeps.K
     refine (HC.out _ K1.out).mono ?_
     rintro e w6 ⟨cs6, rfl, hx6, hk6⟩
     obtain ⟨a6, c6, rfl, _⟩ := ExprAt.parts hx6
     have K6 : Hid (Keeps [] wr w6) := K1.out.trans hk6 (fun _ _ h => h)
     have KA : Hid (Keeps [] w6 (w6.alloc (.cells #[.int .i64 o0, .int .i64 n0, .string s0, .slice a6 l0.length c6] 76))) := by show Keeps _ _ _; exact Keeps.K
     have HX6 := hid (ExprAt.keep KA.out (fun _ _ => by simp) hx6)
     have HOW := hid ((HW.out.1.k K6.out).k KA.out)
     have HGE := hid (OwnAt.ge HW.out.1)
     clear hx6 hk6
     go_wp2_with (at_builtin; go_must (refine wpList_append_off (L := exprL) (PB := fun b => wr.heap.size + 1 ≤ b) _ (by rfl) _ _ _ (by rfl) w0.heap.size 76 it _ 56 Tryz.underlying74 hi0 hz0 hz1 hz2 rfl (R := fun b => w0.heap.size ≤ b) (.slice av j cv) (by rfl) (ks.take j) [.mk o0 n0 s0 l0] j HTL.out [[.int .i64 o0, .int .i64 n0, .string s0, .slice a6 l0.length c6]] HOW.out (.slice _ _ _) (by rfl) 1 rfl (ElemsAt.one1 (ExprAt.mono (fun b _ hb => by simpa using hb) HX6.out)) (Reads.one1 (heap_alloc_new _ _) rfl) (by omega) (le_maxLen (by omega)) (Nat.le_trans HW.out.2.size (Nat.le_trans K6.out.size KA.out.size)) (fun b _ hb => ⟨by have := HW.out.2.size; omega, fun hm => by have := (HGE.out b hm).2; omega⟩) ?_; intro a4 q4 w4 ho4 hk4 hv4))
     have hlt := HLT.out
     refine ⟨⟨j + 1, a4, q4, rfl, rfl, by omega, by rw [HT.out]; exact ho4.out, ?_⟩, by simp [intOf]; omega⟩
     exact ((HW.out.2.trans K6.out (fun _ _ h => h)).trans KA.out (fun _ _ h => h)).trans hk4.out (fun b hb hm => by have := (HGE.out b hm).1; omega)
    ·obtain rfl : j = ks.length := by omega
     have b0 := (HW.out.2.block w.heap.size (by rw [HZ0.out]; omega) (by simp)).trans HB0.out
     have b1 := (HW.out.2.block (w.heap.size + 1) (by rw [HZ0.out]; omega) (by simp)).trans HB1.out
     obtain ⟨_, x0, x1, x2, x3, f0, f1, f2, f3⟩ := zexpr b0
     obtain ⟨_, y0, y1, y2, y3, g0, g1, g2, g3⟩ := zexpr b1
     have HBB := hid (And.intro b0 b1)
     clear b0 b1
     go_wp2_with fail
     have kS : Keeps [w.heap.size] wr (wr.setCell ⟨w.heap.size, 3, none⟩ (.slice av ks.length cv)) := (Keeps.refl _ _).setCell (.inl (by simp)) _
     have b1 := (kS.block (w.heap.size + 1) (Array.getElem?_eq_some_iff.1 HBB.out.2).1 (by simp)).trans HBB.out.2
     have h4 := set4 b1 (.int .i64 o) (.int .i64 n) (.string s) (.slice av ks.length cv)
     refine bodyPost_ret (results_expr Tryz.results278 rfl h4) rfl ?_
     have kZ : Keeps [w.heap.size, w.heap.size + 1] wr (sets4 (wr.setCell ⟨w.heap.size, 3, none⟩ (.slice av ks.length cv)) (w.heap.size + 1) (.int .i64 o) (.int .i64 n) (.string s) (.slice av ks.length cv)) := (kS.mono (fun _ _ h => by simp at h; simp [h])).trans (sets4_keeps _ _ _ _ _ _) (fun _ _ h => by simp at h; simp [h])
     have hz := HZ0.out
     have hls := (HW.out.1.list (P' := fun b => w0.heap.size ≤ b) (fun b _ hb => hb.1) (fun b hb => (OwnAt.ge HW.out.1 b hb).1)).keep kZ (fun b hb hm => by simp at hm; omega)
     rw [List.take_length] at hls
     exact ⟨[.int .i64 o, .int .i64 n, .string s, .slice av ks.length cv], rfl, ExprAt.of (hls.mono (fun b _ hb => by omega)), (K0.out.trans HW.out.2 (fun _ _ h => h)).trans kZ (fun b hb hm => by simp at hm; omega)⟩
termination_by e => e
decreasing_by
 have := List.sizeOf_lt_of_mem hk
 simp
 omega
theorem scExpr_ok (w : World) (F : Nat → Prop) (sb i : Nat) (d : SchD) (x : SfdD) (e : ExprD) (h : ScAt w F sb d) (hx : d.l[i]? = some x) (h24 : d.l.length ≤ 1000) (he : x.formula = some e) (hok : okE e) : Calls Tryz.prog 254 #[ptrV sb, .int .i64 (i : Int), .int .i64 0] w fun y w' => ∃ cs, y = .returned (.tuple #[.agg cs.toArray, .bool true]) ∧ ExprAt w' (fun b => w.heap.size ≤ b) e cs ∧ Keeps [] w w' := by
 obtain ⟨g, off, c, ov, bm, cs, h1, h2, h3, hsz, h4⟩ := h.field hx
 have hi := (List.getElem?_eq_some_iff.1 hx).1
 obtain ⟨v0, v1, v2, v3, hex, c5, c6, c7, c8⟩ := h3.expr he
 have ht := h3.tail
 rw [he] at ht
 have d17 : w.cell? ⟨g, off + i * 21 + 17, none⟩ = some (.bool true) := h4 17 _ ht
 have d5 : w.cell? ⟨g, off + i * 21 + 5, none⟩ = some v0 := h4 5 _ c5
 have d6 : w.cell? ⟨g, off + i * 21 + 5 + 1, none⟩ = some v1 := h4 6 _ c6
 have d7 : w.cell? ⟨g, off + i * 21 + 5 + 2, none⟩ = some v2 := h4 7 _ c7
 have d8 : w.cell? ⟨g, off + i * 21 + 5 + 3, none⟩ = some v3 := h4 8 _ c8
 obtain ⟨n, hn⟩ : ∃ n, d.l.length = n := ⟨_, rfl⟩
 rw [hn] at h1 h2 hi h24
 have x0 : w.cell? ⟨sb, 0, none⟩ = some (.slice (some ⟨g, off, none⟩) n c) := cell_of_block h1 0
 have i0 : (0 : Int) ≤ (i : Int) := Int.natCast_nonneg _
 have i1 : (i : Int) < (n : Int) := by omega
 have i2 : ¬ (i : Int) < 0 := by omega
 have i3 : ¬ (n : Int) ≤ (i : Int) := by omega
 have KA : Keeps [] w (w.alloc (.cells #[.int .i64 0, .int .i64 0, .string ⟨#[]⟩, .slice none 0 0] 76)) := by exact Keeps.K
 have HB : Hid ((w.alloc (.cells #[.int .i64 0, .int .i64 0, .string ⟨#[]⟩, .slice none 0 0] 76)).heap[w.heap.size]? = some (.cells #[.int .i64 0, .int .i64 0, .string ⟨#[]⟩, .slice none 0 0] 76 (0, 0))) := heap_alloc_new w _
 have x0 := KA.cellSome x0 (by simp)
 have d17 := KA.cellSome d17 (by simp)
 have d5 := KA.cellSome d5 (by simp)
 have d6 := KA.cellSome d6 (by simp)
 have d7 := KA.cellSome d7 (by simp)
 have d8 := KA.cellSome d8 (by simp)
 have HC := hid (paOwn_ok e [v0, v1, v2, v3] _ _ (ExprAt.keep KA (fun _ _ => by simp) hex) hok)
 have K := hid KA
 clear KA h h1 h3 h4 hx hsz hex c5 c6 c7 c8 ht hn he hok
 unfold ptrV
 go_enter Tryz.func254, Tryz.ntmps254
 go_wp2_with fail
 refine HC.out.mono ?_
 rintro _ w2 ⟨cs2, rfl, hx2, hk2⟩
 obtain ⟨o, nn, s, ks⟩ := e
 obtain ⟨a9, c9, rfl, _⟩ := ExprAt.parts hx2
 have hb2 := (hk2.block w.heap.size (by simp) (by simp)).trans HB.out
 have HB2 := hid hb2
 have HX2 := hid hx2
 have K2 := hid hk2
 obtain ⟨_, x0, x1, x2, x3, f0, f1, f2, f3⟩ := zexpr hb2
 clear hb2 hx2 hk2
 go_wp2_with fail
 have h4 := set4 HB2.out (.int .i64 o) (.int .i64 nn) (.string s) (.slice a9 ks.length c9)
 have kS := sets4_keeps w2 w.heap.size (.int .i64 o) (.int .i64 nn) (.string s) (.slice a9 ks.length c9)
 refine bodyPost_ret (results_cell_tmp rfl _ _ w.heap.size 76 _ (0, 0) _ _ rfl rfl h4 Tryz.underlying76 rfl (by kernel_rfl)) rfl ?_
 have hz := K.out.size
 refine ⟨[.int .i64 o, .int .i64 nn, .string s, .slice a9 ks.length c9], rfl, ExprAt.mono (fun b _ hb => Nat.le_trans hz hb) (ExprAt.keep kS (fun b hb hm => by simp at hm; simp at hb; omega) HX2.out), (K.out.trans K2.out (fun _ _ h => h)).trans kS (fun b hb hm => by simp at hm; omega)⟩
theorem scFormula_ok (w : World) (F : Nat → Prop) (sb i : Nat) (d : SchD) (x : SfdD) (e : ExprD) (h : ScAt w F sb d) (hx : d.l[i]? = some x) (h24 : d.l.length ≤ 1000) (he : x.formula = some e) (hok : okE e) : Calls Tryz.prog 220 #[ptrV sb, .int .i64 (i : Int)] w fun y w' => ∃ cs, y = .returned (.tuple #[.agg cs.toArray, .bool true]) ∧ ExprAt w' (fun b => w.heap.size ≤ b) e cs ∧ Keeps [] w w' := by
 have KA : Keeps [] w (w.alloc (.cells #[.int .i64 0, .int .i64 0, .string ⟨#[]⟩, .slice none 0 0] 76)) := by exact Keeps.K
 have HB : Hid ((w.alloc (.cells #[.int .i64 0, .int .i64 0, .string ⟨#[]⟩, .slice none 0 0] 76)).heap[w.heap.size]? = some (.cells #[.int .i64 0, .int .i64 0, .string ⟨#[]⟩, .slice none 0 0] 76 (0, 0))) := heap_alloc_new w _
 have HC := hid (scExpr_ok _ F sb i d x e (h.k KA) hx h24 he hok)
 have K := hid KA
 clear KA h hx h24 he hok
 unfold ptrV at HC ⊢
 go_enter Tryz.func220, Tryz.ntmps220
 go_wp2_with fail
 refine HC.out.mono ?_
 rintro _ w2 ⟨cs2, rfl, hx2, hk2⟩
 obtain ⟨o, nn, s, ks⟩ := e
 obtain ⟨a9, c9, rfl, _⟩ := ExprAt.parts hx2
 have hb2 := (hk2.block w.heap.size (by simp) (by simp)).trans HB.out
 have HB2 := hid hb2
 have HX2 := hid hx2
 have K2 := hid hk2
 obtain ⟨_, x0, x1, x2, x3, f0, f1, f2, f3⟩ := zexpr hb2
 clear hb2 hx2 hk2
 go_wp2_with fail
 have h4 := set4 HB2.out (.int .i64 o) (.int .i64 nn) (.string s) (.slice a9 ks.length c9)
 have kS := sets4_keeps w2 w.heap.size (.int .i64 o) (.int .i64 nn) (.string s) (.slice a9 ks.length c9)
 refine bodyPost_ret (results_cell_tmp rfl _ _ w.heap.size 76 _ (0, 0) _ _ rfl rfl h4 Tryz.underlying76 rfl (by kernel_rfl)) rfl ?_
 have hz := K.out.size
 refine ⟨[.int .i64 o, .int .i64 nn, .string s, .slice a9 ks.length c9], rfl, ExprAt.mono (fun b _ hb => Nat.le_trans hz hb) (ExprAt.keep kS (fun b hb hm => by simp at hm; simp at hb; omega) HX2.out), (K.out.trans K2.out (fun _ _ h => h)).trans kS (fun b hb hm => by simp at hm; omega)⟩
theorem scNames_ok (w : World) (F : Nat → Prop) (sb : Nat) (d : SchD) (h : ScAt w F sb d) (h24 : d.l.length ≤ 1000) : Calls Tryz.prog 222 #[ptrV sb] w fun y w' => ∃ a c, y = .returned (.slice a d.l.length c) ∧ w'.ownsRow w.heap.size 9 1 (.slice a d.l.length c) d.l.length (d.l.map fun x => .string (str x.f.name)) ∧ Keeps [] w w' := by
 have HSC := hid h
 obtain ⟨lv, ov, bm, h1, h2, h3, h4, h5, h6, h7⟩ := h
 obtain ⟨la, lc, rfl⟩ := h4.form
 obtain ⟨n, hn⟩ : ∃ n, d.l.length = n := ⟨_, rfl⟩
 have HN := hid hn
 rw [hn] at h1 h24 ⊢
 have x0 : w.cell? ⟨sb, 0, none⟩ = some (.slice la n lc) := cell_of_block h1 0
 have HB := hid h1
 clear h1 h4 h5 h6 h7 hn
 unfold ptrV
 go_enter Tryz.func222, Tryz.ntmps222
 go_wp2_with fail
 go_loopw [3, 11] (fun lv iv wr => ∃ (j : Nat) (av : Option Addr) (cv : Nat), lv = .slice av j cv ∧ iv = .int .i64 (j : Int) ∧ j ≤ n ∧ Hid (wr.ownsRow w.heap.size 9 1 (.slice av j cv) j ((d.l.take j).map fun x => .string (str x.f.name)) ∧ Keeps [] w wr)) (fun _ iv _ => n - (intOf iv).toNat)
 case atStart => exact ⟨0, none, 0, rfl, rfl, Nat.zero_le _, World.ownsRow_nil _ _ _ _, by exact Keeps.K⟩
 case round =>
  obtain ⟨j, av, cv, rfl, rfl, hj, hW⟩ := hrel
  have HW := hid hW.out
  clear hW
  have j0 : (0 : Int) ≤ (j : Int) := Int.natCast_nonneg _
  by_cases hlt : j < n
  ·have i1 : (j : Int) < (n : Int) := by omega
   obtain ⟨x, hx⟩ : ∃ x, d.l[j]? = some x := ⟨_, List.getElem?_eq_getElem (by rw [HN.out]; exact hlt)⟩
   obtain ⟨g, off, c, ov2, bm2, cs, h1, h2, h3, hsz, h4⟩ := (HSC.out.k HW.out.2).field hx
   have he := h1.symm.trans ((HW.out.2.block sb (Array.getElem?_eq_some_iff.1 HB.out).1 (by simp)).trans HB.out)
   rw [HN.out] at he
   simp only [Option.some.injEq, Obj.cells.injEq, Array.mk.injEq, List.cons.injEq, Value.slice.injEq] at he
   obtain ⟨rfl, _⟩ := he.1.1.1
   have hl21 := h3.head.2.2.2.2.2
   have hone : cs.toArray.all (·.oneCell') = true := all_oneCell_toArray (sfL.one (cs := cs) (a := x) h3)
   have hinf : (Tryz.prog.info? 80).map (·.size) = some cs.length := by rw [hl21]; kernel_rfl
   have hrange : wr.rangeAt g (off + j * 21) cs := fun m v hv => h4 m v hv
   have hcell : (wr.alloc (.cells cs.toArray 80)).cell? ⟨wr.heap.size, 0, none⟩ = some (.string (str x.f.name)) := by
    rw [cell_of_row _ _ 0 _ _ (0, 0) (heap_alloc_new wr _)]
    simpa using h3.head.1
   have HT : Hid (((d.l.take (j + 1)).map fun x => Value.string (str x.f.name)) = ((d.l.take j).map fun x => Value.string (str x.f.name)) ++ [.string (str x.f.name)]) := by show _ = _; rw [List.take_add_one, hx]; simp
   have HLT := hid hlt
   have HR := hid hrange
   have HI := hid (And.intro hl21 (And.intro hone hinf))
   have KA : Hid (Keeps [] wr ((wr.alloc (.cells cs.toArray 80)).alloc (.cells #[.string (str x.f.name)] 9))) := by show Keeps _ _ _; exact Keeps.K
   have HRW : Hid (((wr.alloc (.cells cs.toArray 80)).alloc (.cells #[.string (str x.f.name)] 9)).heap[wr.heap.size + 1]? = some (.cells #[.string (str x.f.name)] 9 (0, 0))) := new2K wr _ _
   clear h1 h2 h3 h4 hsz he hx hl21 hlt hone hinf hrange
   go_wp2_with (first | (show wpList _ _ _ (⟨some 14, _, _, _, _, _⟩ :: _) _ _; go_must (refine wpList_load_mid (by rfl) 80 _ (by rfl) g (off + j * 21) (by rfl) cs _ HR.out Tryz.underlying80 rfl HI.out.2.2 ?_)) | (show wpList _ _ _ (⟨none, .store _ _ _, _, _, _, _⟩ :: _) _ _; go_must (refine wpList_store_new (by rfl) 80 _ _ (by rfl) wr _ cs.toArray (by rfl) (by rfl) (by rw [HI.out.2.2]; simp) (by simp [HI.out.1]) HI.out.2.1 ?_)) | (at_builtin; go_must (refine wpList_appG _ (by rfl) _ _ 69 9 _ 1 16 Tryz.infoStr rfl (by decide) (by rfl) Tryz.underlying69 w.heap.size (.slice av j cv) (by rfl) j _ (ownsRow_keeps HW.out.1 KA.out (fun _ _ h => by cases h)) _ (by rfl) [.string (str x.f.name)] (Reads.ofBlock (n := 1) HRW.out rfl (by decide)) (fun u hu => by simp at hu; rw [hu]; rfl) (by omega) (by decide) (Nat.le_trans HW.out.2.size KA.out.size) ?_; intro a9 c9 w4 ho4 hk4 hb4)))
   have hlt := HLT.out
   exact ⟨⟨j + 1, a9, c9, rfl, rfl, by omega, by rw [HT.out]; exact ho4.out, (HW.out.2.trans KA.out (fun _ _ h => h)).trans hk4.out (fun b hb hm => by have := (ownB_ge HW.out.1 b hm).1; omega)⟩, by simp [intOf]; omega⟩
  ·obtain rfl : j = n := by omega
   go_wp2_with fail
   go_ret
   have h := HW.out.1
   rw [← HN.out, List.take_length] at h
   rw [HN.out] at h
   exact ⟨av, cv, rfl, h, HW.out.2⟩
end Go.Proofs.YtgjiahilbmeaeaaGreatDoor